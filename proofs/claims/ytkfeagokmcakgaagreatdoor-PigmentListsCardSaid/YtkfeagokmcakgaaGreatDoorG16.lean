/- pigment.Arrange (fn 54). -/
import Derived.Sort.OwnSortedInts
import Derived.Lib.OwnBridge
import Derived.Deep.QuietTactic
import Derived.BigQuiet
import Derived.Test.YtkfeagokmcakgaaGreatDoorG06
import Derived.Test.YtkfeagokmcakgaaGreatDoorG08
import Derived.Test.YtkfeagokmcakgaaGreatDoorG13
import Derived.Test.YtkfeagokmcakgaaGreatDoorG15

set_option linter.unusedVariables false
set_option linter.unusedSimpArgs false

namespace Go.Proofs.YtkfeagokmcakgaaGreatDoor
open Go.RowKit
attribute [local go_sem] Oper.semAt_some

theorem leaves_mark {F : Fence} {n : Nat} {P : Program} {fn : Func} {R : Ending → World → Prop} {a : Act} {w : World} {D : Nat} {v : Value} (hD : w.heap[D]? = some (.deferred (some []))) (hd : a.defers = [{ target := .collected D, args := #[] }])
    (hr : (results fn a.tmps).run P (w.putObj D (.deferred none)) = .ok v (w.putObj D (.deferred none))) (hR : R (.returned v) (w.putObj D (.deferred none))) : bodyPostM F n P fn R .ret a w := by
  show LeavesInM F n P fn a.tmps R a.defers .returning w
  rw [hd]
  refine ⟨by simp, .inl ⟨_, _, rfl, run_takeDeferred hD, ?_⟩⟩
  exact ⟨v, hr, hR⟩
theorem Bk.putObj {w : World} {g t D : Nat} {cs : Array Value} (h : Bk w g t cs) (hne : g ≠ D) (o : Obj) : Bk (w.putObj D o) g t cs := (World.putObj_heap_other hne).trans h
theorem below_putObj {a w : World} {D : Nat} (h : Below a.heap.size a w) (hD : a.heap.size ≤ D) (o : Obj) : Below a.heap.size a (w.putObj D o) := h.grown (grownBy_putObj' w D o) h.size (fun k e => by cases e; exact hD)
theorem wp_calm {P : Program} {c : Code} {K : Act → World → Prop} {Q : Exit → Act → World → Prop} {a : Act} {w : World} (h : c.wp P (Exit.then K fun _ _ _ => False) a w) : c.wp P (Exit.then K Q) a w :=
  wp_mono h (fun e a w hq => by cases e <;> first | exact hq | exact hq.elim)

theorem lies_putObj {w : World} {l : Nat} {o : Obj} {A : Option Addr} {cs : List Value} (h : Lies w w.heap.size A cs) (ho : w.heap[l]? = some o) (hc : o.isCells = false) (o' : Obj) : Lies (w.putObj l o') (w.putObj l o').heap.size A cs := fun hn => by
  obtain ⟨ad, e, hb, h1⟩ := h hn
  refine ⟨ad, e, by simpa using hb, fun j u hu => ?_⟩
  have h2 := h1 j u hu
  refine Eq.trans (World.cell?_of_block ?_) h2
  refine World.putObj_heap_other ?_
  intro e2
  unfold World.cell? at h2
  rw [e2, ho] at h2
  cases o <;> first | (simp at h2; done) | cases hc
theorem callsIn_round {n l : Nat} {P : Program} {f : FuncId} {args : Array Value} {w : World} {R : Ending → World → Prop} (h : Calls P f args w R) : CallsIn (Fence.wide.inRound l) n P f args w R := (callsIn_wide (n := n)).2 h
theorem keeps_below {B : Nat} {W W' : World} (h : Below W.heap.size W W') : KeepsFrom B W W' := ⟨h.size, fun k _ _ h1 _ => (h.block k (Array.getElem?_eq_some_iff.1 h1).1).trans h1⟩
/-- what Arrange returns -/
def arr (d : List Rul) (cols : List ByteArray) : List ByteArray × Bool × Int := if stE cols = 0 then (match ordsF (barM d cols) cols.length cols.length [] with
  | none => ([], false, 0)
  | some L => (L.map (colAt cols), true, 0)) else ([], false, stE cols)
def ArrE (d : List Rul) (cols : List ByteArray) (w : World) (e : Ending) (w' : World) : Prop := ∃ A c, e = .returned (.tuple #[.slice A (arr d cols).1.length c, .bool (arr d cols).2.1, .int .i64 (arr d cols).2.2]) ∧ Lies w' w'.heap.size A (strsC (arr d cols).1) ∧ ((arr d cols).1.length ≤ c ∧ c ≤ maxLen) ∧ Below w.heap.size w w'
theorem arr_bad {d : List Rul} {cols : List ByteArray} {w w' : World} {b : Bool} {k : Int} (h : arr d cols = ([], b, k)) (hb : Below w.heap.size w w') : ArrE d cols w (.returned (.tuple #[.slice none 0 0, .bool b, .int .i64 k])) w' := by
  refine ⟨none, 0, ?_, ?_, ?_, hb⟩
  · rw [h]; rfl
  · rw [h]; intro hn; exact absurd rfl hn
  · rw [h]; exact ⟨Nat.le_refl _, Nat.zero_le _⟩
set_option maxHeartbeats 2000000 in
set_option maxRecDepth 100000 in
theorem arrange_any (l : List Rul) (A : Option Addr) (c : Nat) (known : Int) (cols : List ByteArray) (Ac : Option Addr) (cc : Nat) (w : World) (hl : Lies w w.heap.size A (rulesC l)) (hok : RulOK l) (hm : l.length ≤ 1000) (hlc : Lies w w.heap.size Ac (strsC cols)) (hcs : ∀ s ∈ cols, s.size ≤ 100) (hcm : cols.length ≤ 1000) (hcc : cols.length ≤ cc ∧ cc ≤ maxLen) :
    Calls Tryz.prog 54 #[.agg #[.slice A l.length c], .int .i64 known, .slice Ac cols.length cc] w (ArrE (cntL l known) cols w) := by
  have HST : Hid (∀ W, Below w.heap.size w W → Calls Tryz.prog 100 #[.agg #[.slice A l.length c], .int .i64 known, .slice Ac cols.length cc] W (StE (cntL l known) cols Ac cc W)) := fun W hb => stacked_any l A c known cols Ac cc W ((hl.below hb (Nat.le_refl _)).more hb.size) hok hm ((hlc.below hb (Nat.le_refl _)).more hb.size) hcs hcm hcc
  have HLC := Lib.hid hlc
  clear hl hok hlc hcs
  generalize cntL l known = d at *
  have HX1 : Hid (Bk ((((w.alloc (.cells #[.slice A l.length c] 25)).alloc (.cells #[.slice none 0 0] 34)).alloc (.cells #[.bool false] 4)).alloc (.cells #[.int .i64 0] 26)) (w.heap.size + 1) 34 #[.slice none 0 0]) := Lib.hid (by have h := ((Bk.new (w.alloc (.cells #[.slice A l.length c] 25)) 34 #[.slice none 0 0]).alloc (.cells #[.bool false] 4)).alloc (.cells #[.int .i64 0] 26); simpa using h)
  have HX2 : Hid (Bk ((((w.alloc (.cells #[.slice A l.length c] 25)).alloc (.cells #[.slice none 0 0] 34)).alloc (.cells #[.bool false] 4)).alloc (.cells #[.int .i64 0] 26)) (w.heap.size + 1 + 1) 4 #[.bool false]) := Lib.hid (by have h := (Bk.new ((w.alloc (.cells #[.slice A l.length c] 25)).alloc (.cells #[.slice none 0 0] 34)) 4 #[.bool false]).alloc (.cells #[.int .i64 0] 26); simpa using h)
  have HX3 : Hid (Bk ((((w.alloc (.cells #[.slice A l.length c] 25)).alloc (.cells #[.slice none 0 0] 34)).alloc (.cells #[.bool false] 4)).alloc (.cells #[.int .i64 0] 26)) (w.heap.size + 1 + 1 + 1) 26 #[.int .i64 0]) := Lib.hid (by have h := Bk.new (((w.alloc (.cells #[.slice A l.length c] 25)).alloc (.cells #[.slice none 0 0] 34)).alloc (.cells #[.bool false] 4)) 26 #[.int .i64 0]; simpa using h)
  have HXS : Hid (((((w.alloc (.cells #[.slice A l.length c] 25)).alloc (.cells #[.slice none 0 0] 34)).alloc (.cells #[.bool false] 4)).alloc (.cells #[.int .i64 0] 26)).heap.size = w.heap.size + 4) := by show ((((w.alloc (.cells #[.slice A l.length c] 25)).alloc (.cells #[.slice none 0 0] 34)).alloc (.cells #[.bool false] 4)).alloc (.cells #[.int .i64 0] 26)).heap.size = _; simp
  have HXB : Hid (Below w.heap.size w ((((w.alloc (.cells #[.slice A l.length c] 25)).alloc (.cells #[.slice none 0 0] 34)).alloc (.cells #[.bool false] 4)).alloc (.cells #[.int .i64 0] 26))) := ((((Below.refl _ _).alloc (Nat.le_refl _) _).alloc (by simp) _).alloc (by simp; omega) _).alloc (by simp; omega) _
  have HSX := Lib.hid (HST.out ((((w.alloc (.cells #[.slice A l.length c] 25)).alloc (.cells #[.slice none 0 0] 34)).alloc (.cells #[.bool false] 4)).alloc (.cells #[.int .i64 0] 26)) HXB.out)
  clear HST
  by_cases h0 : stE cols = 0
  · have H0 := Lib.hid h0
    have h8 : cols.length ≤ 8 := by
      unfold stE at h0
      by_cases h : 8 < cols.length
      · rw [if_pos h] at h0; omega
      · omega
    clear h0
    refine (callsIn_wide (n := 3)).1 ?_
    refine callsIn_of_wp_marks Tryz.func54 rfl trivial ?_ rfl
    simp only [Tryz.ntmps54, List.size_toArray, List.length_cons, List.length_nil, Nat.reduceAdd, Nat.reduceSub, Array.replicate_succ, Array.replicate_zero, List.push_toArray, List.append_toArray, List.nil_append, List.cons_append]
    refine wpIn_wide.2 ?_
    go_wp2_with fail
    refine HSX.out.mono ?_
    rintro e w1 ⟨⟨h, _⟩ | ⟨_, bs, rfl, hstk⟩, hb1⟩
    · exact absurd H0.out h
    have k1 := HX1.out.below hb1 HX1.out.lt
    have k2 := HX2.out.below hb1 HX2.out.lt
    have k3 := HX3.out.below hb1 HX3.out.lt
    have hB1 : Below w.heap.size w w1 := HXB.out.trans (hb1.mono HXB.out.size)
    have hz1 : w.heap.size + 4 ≤ w1.heap.size := by have := hb1.size; have := HXS.out; omega
    have HK1 := Lib.hid k1
    have HK2 := Lib.hid k2
    have HK3 := Lib.hid k3
    have HB1 := Lib.hid hB1
    have HSTK := Lib.hid hstk
    clear k1 k2 k3 hb1 hB1 hstk HX1 HX2 HX3 HXB HXS HSX
    have hmf : ∀ (fn : Fn) (first cap : Array Value) (w : World), (Instr.makeFunc fn first cap).run Tryz.prog w = .ok (.func fn first cap) w := fun _ _ _ _ => rfl
    dsimp only
    go_wp2_with fail
    have hbs := cell_lt HSTK.out.col
    have hbs2 : bs < w1.heap.size := hbs
    have J1 := Lib.hid (HK1.out.alloc (.cells #[.pointer (some ⟨bs, 0, none⟩)] 123))
    have J2 := Lib.hid (HK2.out.alloc (.cells #[.pointer (some ⟨bs, 0, none⟩)] 123))
    have J3 := Lib.hid (HK3.out.alloc (.cells #[.pointer (some ⟨bs, 0, none⟩)] 123))
    have J9 : Hid (Bk (w1.alloc (.cells #[.pointer (some ⟨bs, 0, none⟩)] 123)) w1.heap.size 123 #[.pointer (some ⟨bs, 0, none⟩)]) := Bk.new _ _ _
    have JS := Lib.hid (HSTK.out.below ((Below.refl w1.heap.size w1).alloc (Nat.le_refl _) (.cells #[.pointer (some ⟨bs, 0, none⟩)] 123)) hbs2)
    have JB : Hid (Below w.heap.size w (w1.alloc (.cells #[.pointer (some ⟨bs, 0, none⟩)] 123))) := HB1.out.alloc HB1.out.size _
    have hz0 : (w1.alloc (.cells #[.pointer (some ⟨bs, 0, none⟩)] 123)).heap.size = w1.heap.size + 1 := by simp
    have JL := Lib.hid ((HLC.out.below JB.out (Nat.le_refl _)).more JB.out.size)
    clear HK1 HK2 HK3 HSTK HB1 hmf hbs
    generalize w1.alloc (.cells #[.pointer (some ⟨bs, 0, none⟩)] 123) = W0 at *
    refine (wpIn_wide (n := 3)).1 ?_
    refine rangeFunc_once (n := 3) rfl (by omega) (gf := 101) (fa := #[.pointer (some ⟨bs, 0, none⟩)]) (lb := #[]) rfl trivial (enters_of Tryz.func101 (by kernel_rfl) rfl) (encs := fun x : El => #[x.v]) (w0 := W0) (orders_seq 2 (c := cc) (A := Ac) (bar := barM d cols) W0 h8 JS.out) (Below.refl _ _) (fun _ => rfl)
      (fun W => Below W0.heap.size W0 W) (fun x W => Below w.heap.size w W ∧ (∃ A2 c2, Bk W (w.heap.size + 1) 34 #[.slice A2 (x.L.map (colAt cols)).length c2] ∧ Lies W W.heap.size A2 (strsC (x.L.map (colAt cols))) ∧ ((x.L.map (colAt cols)).length ≤ c2 ∧ c2 ≤ maxLen)) ∧ Bk W (w.heap.size + 1 + 1) 4 #[.bool true] ∧ Bk W (w.heap.size + 1 + 1 + 1) 26 #[.int .i64 0]) ?own ?ownx ?pre (Below.refl _ _)
      (fun x => { tmps := #[.agg #[.slice A l.length c], .int .i64 known, .slice Ac cols.length cc, .pointer (some ⟨w.heap.size, 0, none⟩), undef, undef, .pointer (some ⟨w.heap.size + 1, 0, none⟩), .pointer (some ⟨w.heap.size + 1 + 1, 0, none⟩), .pointer (some ⟨w.heap.size + 1 + 1 + 1, 0, none⟩), .pointer (some ⟨w1.heap.size, 0, none⟩), .int .i64 0, x.v, .tuple #[.pointer (some ⟨bs, 0, none⟩), .int .i64 0], .agg #[.slice A l.length c], .int .i64 known, .slice Ac cols.length cc, .tuple #[.pointer (some ⟨bs, 0, none⟩), .int .i64 0], .pointer (some ⟨bs, 0, none⟩), .int .i64 0, .int .i64 0, .bool false, undef, .pointer (some ⟨bs, 0, none⟩), .func (.func 101) #[.pointer (some ⟨bs, 0, none⟩)] #[], x.v, undef, undef, undef], defers := [] }) ?assign ?body ?done ?stop
    case own => exact fun W W' row h hg hr => h.grown hg h.size hr
    case ownx =>
      rintro x W l' o o' ⟨h1, ⟨A2, c2, h2, h3, h4⟩, h5, h6⟩ hl' ho hc
      exact ⟨below_putObj h1 (by omega) _, ⟨A2, c2, h2.putObj (by omega) _, lies_putObj h3 ho hc _, h4⟩, h5.putObj (by omega) _, h6.putObj (by omega) _⟩
    case pre =>
      rintro x W l' o o' ⟨h1, h2⟩ ho hc
      exact ⟨lies_putObj h1 ho hc _, h2⟩
    case assign =>
      intro lb x W K hK
      gi_wp2
      exact hK
    case body =>
      rintro lb x W hI ⟨hat, hxn, hxl⟩
      have hzi := hI.size
      have HNM := Lib.hid (colNamed_any (bs := bs) (c := cc) (A := Ac) (cols := cols) x.L x.A x.c W (JS.out.below hI (by have := JS.out.col; exact cell_lt this)).col ((JL.out.below hI (Nat.le_refl _)).more hzi) hat hxn (by omega) hcm)
      have j1 := J1.out.below hI J1.out.lt
      have j2 := J2.out.below hI J2.out.lt
      have j3 := J3.out.below hI J3.out.lt
      have j9 := J9.out.below hI J9.out.lt
      have y9 := j9.cell 0 rfl
      have HL1 := Lib.hid j1
      have HL2 := Lib.hid j2
      have HL3 := Lib.hid j3
      have HBW : Hid (Below w.heap.size w W) := JB.out.trans (hI.mono JB.out.size)
      clear j1 j2 j3 j9 hat hxn hxl
      unfold El.v
      gi_wp2
      refine ⟨trivial, ?_⟩
      refine CallsIn.mono (callsIn_round HNM.out) ?_
      rintro e w5 ⟨A5, c5, rfl, hl5, hc5, hb5, hg5⟩
      have m1 := HL1.out.below hb5 HL1.out.lt
      have m2 := HL2.out.below hb5 HL2.out.lt
      have m3 := HL3.out.below hb5 HL3.out.lt
      have d1 : w5.cell? ⟨w.heap.size + 1, 0, none⟩ = some (.slice none 0 0) := m1.cell 0 rfl
      have e1 := m1.fro 0
      have d2 : w5.cell? ⟨w.heap.size + 1 + 1, 0, none⟩ = some (.bool false) := m2.cell 0 rfl
      have e2 := m2.fro 0
      have d3 : w5.cell? ⟨w.heap.size + 1 + 1 + 1, 0, none⟩ = some (.int .i64 0) := m3.cell 0 rfl
      have e3 := m3.fro 0
      have HM1 := Lib.hid m1
      have HM2 := Lib.hid m2
      have HM3 := Lib.hid m3
      have HB5 := Lib.hid hb5
      have HL5 := Lib.hid hl5
      clear m1 m2 m3 hb5 hl5
      have hz5 := HB5.out.size
      have hA5 : ∀ j, j < W.heap.size → ∀ ad, A5 = some ad → ad.block ≠ j := fun j hj ad e h => by have := hg5 ad e; omega
      have q1 : Bk (((w5.setCell ⟨w.heap.size + 1, 0, none⟩ (.slice A5 (x.L.map (colAt cols)).length c5)).setCell ⟨w.heap.size + 1 + 1, 0, none⟩ (.bool true)).setCell ⟨w.heap.size + 1 + 1 + 1, 0, none⟩ (.int .i64 0)) (w.heap.size + 1) 34 #[.slice A5 (x.L.map (colAt cols)).length c5] := (((HM1.out.set 0 (.slice A5 (x.L.map (colAt cols)).length c5)).far (p := ⟨w.heap.size + 1 + 1, 0, none⟩) (by dsimp only; omega) (.bool true)).far (p := ⟨w.heap.size + 1 + 1 + 1, 0, none⟩) (by dsimp only; omega) (.int .i64 0))
      have q2 : Bk (((w5.setCell ⟨w.heap.size + 1, 0, none⟩ (.slice A5 (x.L.map (colAt cols)).length c5)).setCell ⟨w.heap.size + 1 + 1, 0, none⟩ (.bool true)).setCell ⟨w.heap.size + 1 + 1 + 1, 0, none⟩ (.int .i64 0)) (w.heap.size + 1 + 1) 4 #[.bool true] := (((HM2.out.far (p := ⟨w.heap.size + 1, 0, none⟩) (by dsimp only; omega) (.slice A5 (x.L.map (colAt cols)).length c5)).set 0 (.bool true)).far (p := ⟨w.heap.size + 1 + 1 + 1, 0, none⟩) (by dsimp only; omega) (.int .i64 0))
      have q3 : Bk (((w5.setCell ⟨w.heap.size + 1, 0, none⟩ (.slice A5 (x.L.map (colAt cols)).length c5)).setCell ⟨w.heap.size + 1 + 1, 0, none⟩ (.bool true)).setCell ⟨w.heap.size + 1 + 1 + 1, 0, none⟩ (.int .i64 0)) (w.heap.size + 1 + 1 + 1) 26 #[.int .i64 0] := (((HM3.out.far (p := ⟨w.heap.size + 1, 0, none⟩) (by dsimp only; omega) (.slice A5 (x.L.map (colAt cols)).length c5)).far (p := ⟨w.heap.size + 1 + 1, 0, none⟩) (by dsimp only; omega) (.bool true)).set 0 (.int .i64 0))
      have hL3 := set_lies (v := .int .i64 0) (set_lies (v := .bool true) (set_lies (v := .slice A5 (x.L.map (colAt cols)).length c5) HL5.out (hA5 (w.heap.size + 1) (by omega))) (hA5 (w.heap.size + 1 + 1) (by omega))) (hA5 (w.heap.size + 1 + 1 + 1) (by omega))
      have hBF : Below w.heap.size w (((w5.setCell ⟨w.heap.size + 1, 0, none⟩ (.slice A5 (x.L.map (colAt cols)).length c5)).setCell ⟨w.heap.size + 1 + 1, 0, none⟩ (.bool true)).setCell ⟨w.heap.size + 1 + 1 + 1, 0, none⟩ (.int .i64 0)) := (((HBW.out.trans (HB5.out.mono HBW.out.size)).setCell (p := ⟨w.heap.size + 1, 0, none⟩) (by dsimp only; omega) _).setCell (p := ⟨w.heap.size + 1 + 1, 0, none⟩) (by dsimp only; omega) _).setCell (p := ⟨w.heap.size + 1 + 1 + 1, 0, none⟩) (by dsimp only; omega) _
      have hKF : KeepsFrom W0.heap.size W (((w5.setCell ⟨w.heap.size + 1, 0, none⟩ (.slice A5 (x.L.map (colAt cols)).length c5)).setCell ⟨w.heap.size + 1 + 1, 0, none⟩ (.bool true)).setCell ⟨w.heap.size + 1 + 1 + 1, 0, none⟩ (.int .i64 0)) := ((keeps_below HB5.out).trans (((KeepsOthers.setCell _ _ _).trans ((KeepsOthers.setCell _ _ _).trans (KeepsOthers.setCell _ _ _))).from _))
      have HFIN := Lib.hid (And.intro hKF (And.intro hBF (And.intro (show ∃ A2 c2, Bk (((w5.setCell ⟨w.heap.size + 1, 0, none⟩ (.slice A5 (x.L.map (colAt cols)).length c5)).setCell ⟨w.heap.size + 1 + 1, 0, none⟩ (.bool true)).setCell ⟨w.heap.size + 1 + 1 + 1, 0, none⟩ (.int .i64 0)) (w.heap.size + 1) 34 #[.slice A2 (x.L.map (colAt cols)).length c2] ∧ Lies (((w5.setCell ⟨w.heap.size + 1, 0, none⟩ (.slice A5 (x.L.map (colAt cols)).length c5)).setCell ⟨w.heap.size + 1 + 1, 0, none⟩ (.bool true)).setCell ⟨w.heap.size + 1 + 1 + 1, 0, none⟩ (.int .i64 0)) (((w5.setCell ⟨w.heap.size + 1, 0, none⟩ (.slice A5 (x.L.map (colAt cols)).length c5)).setCell ⟨w.heap.size + 1 + 1, 0, none⟩ (.bool true)).setCell ⟨w.heap.size + 1 + 1 + 1, 0, none⟩ (.int .i64 0)).heap.size A2 (strsC (x.L.map (colAt cols))) ∧ ((x.L.map (colAt cols)).length ≤ c2 ∧ c2 ≤ maxLen) from ⟨A5, c5, q1, hL3, hc5⟩) (And.intro q2 q3))))
      clear q1 q2 q3 hL3 hBF hKF hA5 hg5 hc5
      gi_wp2
      have h9 := HFIN.out
      simpa [hz0] using h9
    case done =>
      intro D W hwD hS hI hK
      have hzi := hI.size
      have j1 := J1.out.below hI J1.out.lt
      have j2 := J2.out.below hI J2.out.lt
      have j3 := J3.out.below hI J3.out.lt
      have d1 : W.cell? ⟨w.heap.size + 1, 0, none⟩ = some (.slice none 0 0) := j1.cell 0 rfl
      have e1 := j1.fro 0
      have d2 : W.cell? ⟨w.heap.size + 1 + 1, 0, none⟩ = some (.bool false) := j2.cell 0 rfl
      have e2 := j2.fro 0
      have d3 : W.cell? ⟨w.heap.size + 1 + 1 + 1, 0, none⟩ = some (.int .i64 0) := j3.cell 0 rfl
      have e3 := j3.fro 0
      have q1 := Lib.hid (show Bk ((((W.setCell ⟨w.heap.size + 1, 0, none⟩ (.slice none 0 0)).setCell ⟨w.heap.size + 1 + 1, 0, none⟩ (.bool false)).setCell ⟨w.heap.size + 1 + 1 + 1, 0, none⟩ (.int .i64 0)).putObj D (.deferred none)) (w.heap.size + 1) 34 #[.slice none 0 0] from ((((j1.set 0 (.slice none 0 0)).far (p := ⟨w.heap.size + 1 + 1, 0, none⟩) (by dsimp only; omega) (.bool false)).far (p := ⟨w.heap.size + 1 + 1 + 1, 0, none⟩) (by dsimp only; omega) (.int .i64 0)).putObj (D := D) (by omega) (.deferred none)))
      have q2 := Lib.hid (show Bk ((((W.setCell ⟨w.heap.size + 1, 0, none⟩ (.slice none 0 0)).setCell ⟨w.heap.size + 1 + 1, 0, none⟩ (.bool false)).setCell ⟨w.heap.size + 1 + 1 + 1, 0, none⟩ (.int .i64 0)).putObj D (.deferred none)) (w.heap.size + 1 + 1) 4 #[.bool false] from ((((j2.far (p := ⟨w.heap.size + 1, 0, none⟩) (by dsimp only; omega) (.slice none 0 0)).set 0 (.bool false)).far (p := ⟨w.heap.size + 1 + 1 + 1, 0, none⟩) (by dsimp only; omega) (.int .i64 0)).putObj (D := D) (by omega) (.deferred none)))
      have q3 := Lib.hid (show Bk ((((W.setCell ⟨w.heap.size + 1, 0, none⟩ (.slice none 0 0)).setCell ⟨w.heap.size + 1 + 1, 0, none⟩ (.bool false)).setCell ⟨w.heap.size + 1 + 1 + 1, 0, none⟩ (.int .i64 0)).putObj D (.deferred none)) (w.heap.size + 1 + 1 + 1) 26 #[.int .i64 0] from ((((j3.far (p := ⟨w.heap.size + 1, 0, none⟩) (by dsimp only; omega) (.slice none 0 0)).far (p := ⟨w.heap.size + 1 + 1, 0, none⟩) (by dsimp only; omega) (.bool false)).set 0 (.int .i64 0)).putObj (D := D) (by omega) (.deferred none)))
      have HBF := Lib.hid (below_putObj ((((JB.out.trans (hI.mono JB.out.size)).setCell (p := ⟨w.heap.size + 1, 0, none⟩) (by dsimp only; omega) (.slice none 0 0)).setCell (p := ⟨w.heap.size + 1 + 1, 0, none⟩) (by dsimp only; omega) (.bool false)).setCell (p := ⟨w.heap.size + 1 + 1 + 1, 0, none⟩) (by dsimp only; omega) (.int .i64 0)) (D := D) (by omega) (.deferred none))
      have HD : Hid ((((W.setCell ⟨w.heap.size + 1, 0, none⟩ (.slice none 0 0)).setCell ⟨w.heap.size + 1 + 1, 0, none⟩ (.bool false)).setCell ⟨w.heap.size + 1 + 1 + 1, 0, none⟩ (.int .i64 0)).heap[D]? = some (.deferred (some []))) := (Below.heap_setCell _ _ _ _ (by dsimp only; omega)).trans ((Below.heap_setCell _ _ _ _ (by dsimp only; omega)).trans ((Below.heap_setCell _ _ _ _ (by dsimp only; omega)).trans hK))
      have HAA : Hid (arr d cols = ([], false, 0)) := by show _ = _; unfold arr; rw [if_pos H0.out, hS]
      clear j1 j2 j3 hI hK hS
      go_wp2_with fail
      refine leaves_mark (v := .tuple #[.slice none 0 0, .bool false, .int .i64 0]) (D := D) HD.out rfl ?_ ?_
      · have x1 := q1.out.cell 0 rfl
        have x2 := q2.out.cell 0 rfl
        have x3 := q3.out.cell 0 rfl
        generalize World.putObj _ D (.deferred none) = w9 at *
        simp [results, Tryz.results54, go_sem, x1, x2, x3]
      · exact arr_bad HAA.out HBF.out
    case stop =>
      rintro D x W hwD hS ⟨hB, ⟨A2, c2, h1, h2, h3⟩, h4, h5⟩ hK
      gi_wp2
      have g1 := h1.putObj (D := D) (by omega) (.deferred none)
      have g2 := h4.putObj (D := D) (by omega) (.deferred none)
      have g3 := h5.putObj (D := D) (by omega) (.deferred none)
      have gb := below_putObj hB (D := D) (by omega) (.deferred none)
      have gl := lies_putObj h2 hK rfl (.deferred none)
      refine leaves_mark (v := .tuple #[.slice A2 (x.L.map (colAt cols)).length c2, .bool true, .int .i64 0]) (D := D) hK rfl ?_ ?_
      · have x1 := g1.cell 0 rfl
        have x2 := g2.cell 0 rfl
        have x3 := g3.cell 0 rfl
        generalize World.putObj _ D (.deferred none) = w9 at *
        simp [results, Tryz.results54, go_sem, x1, x2, x3]
      · have ha : arr d cols = (x.L.map (colAt cols), true, 0) := by unfold arr; rw [if_pos H0.out, hS]
        exact ⟨A2, c2, by rw [ha], by rw [ha]; exact gl, by rw [ha]; exact h3, gb⟩
  · have HA : Hid (arr d cols = ([], false, stE cols)) := by show _ = _; unfold arr; rw [if_neg h0]
    have H0 := Lib.hid h0
    have hR' : (stE cols == 0) = false := by simpa using h0
    have hR2 : (stE cols != 0) = true := by rw [bne, hR']; rfl
    clear h0
    go_enter Tryz.func54, Tryz.ntmps54
    go_wp2_with fail
    refine HSX.out.mono ?_
    rintro e w1 ⟨⟨_, rfl⟩ | ⟨h, _⟩, hb1⟩
    · have k1 := HX1.out.below hb1 HX1.out.lt
      have k2 := HX2.out.below hb1 HX2.out.lt
      have k3 := HX3.out.below hb1 HX3.out.lt
      have hB1 : Below w.heap.size w w1 := HXB.out.trans (hb1.mono HXB.out.size)
      have HK1 := Lib.hid k1
      have HK2 := Lib.hid k2
      have HK3 := Lib.hid k3
      have HB1 := Lib.hid hB1
      have hz1 : w.heap.size + 4 ≤ w1.heap.size := by have := hb1.size; have := HXS.out; omega
      have c1 : (w1.alloc (.cells #[.pointer none] 123)).cell? ⟨w.heap.size + 1, 0, none⟩ = some (.slice none 0 0) := (k1.alloc _).cell 0 rfl
      have f1 : (w1.alloc (.cells #[.pointer none] 123)).frozen? ⟨w.heap.size + 1, 0, none⟩ = false := (k1.alloc _).fro 0
      have c2 : (w1.alloc (.cells #[.pointer none] 123)).cell? ⟨w.heap.size + 1 + 1, 0, none⟩ = some (.bool false) := (k2.alloc _).cell 0 rfl
      have f2 : (w1.alloc (.cells #[.pointer none] 123)).frozen? ⟨w.heap.size + 1 + 1, 0, none⟩ = false := (k2.alloc _).fro 0
      have c3 : (w1.alloc (.cells #[.pointer none] 123)).cell? ⟨w.heap.size + 1 + 1 + 1, 0, none⟩ = some (.int .i64 0) := (k3.alloc _).cell 0 rfl
      have f3 : (w1.alloc (.cells #[.pointer none] 123)).frozen? ⟨w.heap.size + 1 + 1 + 1, 0, none⟩ = false := (k3.alloc _).fro 0
      clear k1 k2 k3 hb1 hB1 HX1 HX2 HX3 HXB HXS HSX
      dsimp only
      go_wp2_with fail
      have q1 : Bk ((((w1.alloc (.cells #[.pointer none] 123)).setCell ⟨w.heap.size + 1, 0, none⟩ (.slice none 0 0)).setCell ⟨w.heap.size + 1 + 1, 0, none⟩ (.bool false)).setCell ⟨w.heap.size + 1 + 1 + 1, 0, none⟩ (.int .i64 (stE cols))) (w.heap.size + 1) 34 #[.slice none 0 0] := ((((HK1.out.alloc (.cells #[.pointer none] 123)).set 0 (.slice none 0 0)).far (p := ⟨w.heap.size + 1 + 1, 0, none⟩) (by dsimp only; omega) (.bool false)).far (p := ⟨w.heap.size + 1 + 1 + 1, 0, none⟩) (by dsimp only; omega) (.int .i64 (stE cols)))
      have q2 : Bk ((((w1.alloc (.cells #[.pointer none] 123)).setCell ⟨w.heap.size + 1, 0, none⟩ (.slice none 0 0)).setCell ⟨w.heap.size + 1 + 1, 0, none⟩ (.bool false)).setCell ⟨w.heap.size + 1 + 1 + 1, 0, none⟩ (.int .i64 (stE cols))) (w.heap.size + 1 + 1) 4 #[.bool false] := ((((HK2.out.alloc (.cells #[.pointer none] 123)).far (p := ⟨w.heap.size + 1, 0, none⟩) (by dsimp only; omega) (.slice none 0 0)).set 0 (.bool false)).far (p := ⟨w.heap.size + 1 + 1 + 1, 0, none⟩) (by dsimp only; omega) (.int .i64 (stE cols)))
      have q3 : Bk ((((w1.alloc (.cells #[.pointer none] 123)).setCell ⟨w.heap.size + 1, 0, none⟩ (.slice none 0 0)).setCell ⟨w.heap.size + 1 + 1, 0, none⟩ (.bool false)).setCell ⟨w.heap.size + 1 + 1 + 1, 0, none⟩ (.int .i64 (stE cols))) (w.heap.size + 1 + 1 + 1) 26 #[.int .i64 (stE cols)] := ((((HK3.out.alloc (.cells #[.pointer none] 123)).far (p := ⟨w.heap.size + 1, 0, none⟩) (by dsimp only; omega) (.slice none 0 0)).far (p := ⟨w.heap.size + 1 + 1, 0, none⟩) (by dsimp only; omega) (.bool false)).set 0 (.int .i64 (stE cols)))
      have HBF : Hid (Below w.heap.size w ((((w1.alloc (.cells #[.pointer none] 123)).setCell ⟨w.heap.size + 1, 0, none⟩ (.slice none 0 0)).setCell ⟨w.heap.size + 1 + 1, 0, none⟩ (.bool false)).setCell ⟨w.heap.size + 1 + 1 + 1, 0, none⟩ (.int .i64 (stE cols)))) := (((HB1.out.alloc HB1.out.size _).setCell (p := ⟨w.heap.size + 1, 0, none⟩) (by dsimp only; omega) _).setCell (p := ⟨w.heap.size + 1 + 1, 0, none⟩) (by dsimp only; omega) _).setCell (p := ⟨w.heap.size + 1 + 1 + 1, 0, none⟩) (by dsimp only; omega) _
      clear c1 c2 c3 f1 f2 f3
      generalize ((((w1.alloc (.cells #[.pointer none] 123)).setCell ⟨w.heap.size + 1, 0, none⟩ (.slice none 0 0)).setCell ⟨w.heap.size + 1 + 1, 0, none⟩ (.bool false)).setCell ⟨w.heap.size + 1 + 1 + 1, 0, none⟩ (.int .i64 (stE cols))) = WF at *
      have x1 := q1.cell 0 rfl
      have x2 := q2.cell 0 rfl
      have x3 := q3.cell 0 rfl
      refine bodyPost_ret (v := .tuple #[.slice none 0 0, .bool false, .int .i64 (stE cols)]) (by simp [results, Tryz.results54, go_sem, x1, x2, x3]) rfl ?_
      exact arr_bad HA.out HBF.out
    · exact absurd h H0.out
end Go.Proofs.YtkfeagokmcakgaaGreatDoor

namespace Go.Proofs.YtkfeagokmcakgaaGreatDoor
open Go.RowKit

theorem below_grown {w w' : World} {base : Nat} {row : Option Nat} (h : w.grownBy w' row) (hr : ∀ g, row = some g → base ≤ g) (hb : base ≤ w.heap.size) : Below base w w' := Below.grown (Below.refl _ _) h hb hr
theorem sortI_own {w : World} {base n c : Nat} {A : Option Addr} {L : List Int} (h : w.ownsRow base 3 1 (.slice A n c) n (ints L)) (hn : n = L.length) (hm : n ≤ 100000) (hb : base ≤ w.heap.size) :
    Calls Tryz.prog 94 #[.slice A n c] w fun e w' => e = .returned (.tuple #[]) ∧ w'.ownsRow base 3 1 (.slice A n c) n (ints (L.mergeSort fun x y => decide (x ≤ y))) ∧ Below base w w' := by
  subst hn
  rcases h.2 with ⟨h1, h2⟩ | ⟨g, cap, cur, h1, hbg, hg, h2, h3, h4, h5⟩
  · have hL : L = [] := List.eq_nil_of_length_eq_zero h2
    subst hL
    refine (Tryz.slices_Sort_int_none A c w).mono ?_
    rintro e w' ⟨rfl, rfl⟩
    exact ⟨rfl, by simpa using h, Below.refl _ _⟩
  · cases h1
    have hH : Go.Sort.Holds (Value.int .i64) w g 0 L.toArray := holds_of_blockI hg (by rw [Nat.mul_one] at h5; exact h5)
    refine (Tryz.slices_Sort_int g 0 c L w hH (Array.getElem?_eq_some_iff.1 hg).1 (by omega)).mono ?_
    rintro e w' ⟨rfl, m, os, rfl⟩
    refine ⟨rfl, ownsRow_sortedI (by simp) hbg hg h2 h3 h4, below_grown (grownBy_sortedI _) (fun k e => by cases e; exact hbg) hb⟩
theorem compI_own {w : World} {base n c : Nat} {A : Option Addr} {L : List Int} (h : w.ownsRow base 3 1 (.slice A n c) n (ints L)) (hn : n = L.length) (hm : n ≤ 100000) (hb : base ≤ w.heap.size) (hcl : (Lib.compact L).length ≤ L.length) :
    Calls Tryz.prog 95 #[.slice A n c] w fun e w' => e = .returned (.slice A (Lib.compact L).length c) ∧ w'.ownsRow base 3 1 (.slice A (Lib.compact L).length c) (Lib.compact L).length (ints (Lib.compact L)) ∧ Below base w w' := by
  subst hn
  rcases h.2 with ⟨h1, h2⟩ | ⟨g, cap, cur, h1, hbg, hg, h2, h3, h4, h5⟩
  · have hL : L = [] := List.eq_nil_of_length_eq_zero h2
    subst hL
    have hc : (Lib.compact ([] : List Int)) = [] := List.eq_nil_of_length_eq_zero (Nat.le_zero.1 hcl)
    rw [hc]
    refine (Tryz.slices_Compact_int_empty A c w).mono ?_
    rintro e w' ⟨rfl, rfl⟩
    exact ⟨rfl, h, Below.refl _ _⟩
  · cases h1
    have hH : Go.Sort.Holds (Value.int .i64) w g 0 L.toArray := holds_of_blockI hg (by rw [Nat.mul_one] at h5; exact h5)
    refine (Tryz.slices_Compact_int g 0 c L w hH (by omega) h2).mono ?_
    rintro e w' ⟨rfl, q, rfl⟩
    refine ⟨rfl, ?_, Lib.below_putRow (Below.refl _ _) hbg⟩
    have := Lib.ownsRow_putRow (enc := Value.int .i64) (q := q) (k := (Lib.compact L).length) h (ys := Lib.compact L ++ List.replicate (L.length - (Lib.compact L).length) 0) (by simp; omega) hcl
    rw [List.take_left] at this
    exact this
theorem compactUpTo_len (d : Array Int) : ∀ m, (Lib.compactUpTo d m).length ≤ m
  | 0 => by simp [Lib.compactUpTo]
  | m + 1 => by
    rw [Lib.compactUpTo_succ, List.length_append]
    have := compactUpTo_len d m
    split <;> simp <;> omega
theorem compact_len (L : List Int) : (Lib.compact L).length ≤ L.length := compactUpTo_len _ _
/-- the ids that decide a state -/
def whyL (l : List Rul) (x : ByteArray) : List Int := Lib.compact (((abtL l x).map Rul.id).mergeSort fun a b => decide (a ≤ b))
def IsE (L : List Int) (w : World) (e : Ending) (w' : World) : Prop := ∃ A c, e = .returned (.slice A L.length c) ∧ Lies w' w'.heap.size A (ints L) ∧ (L.length ≤ c ∧ c ≤ maxLen) ∧ Below w.heap.size w w'
set_option maxRecDepth 100000 in
set_option maxHeartbeats 2500000 in
theorem why_any (l : List Rul) (A : Option Addr) (c : Nat) (known : Int) (x : ByteArray) (w : World) (hl : Lies w w.heap.size A (rulesC l)) (hok : RulOK l) (hm : l.length ≤ 1000) (hxs : x.size ≤ 100) :
    Calls Tryz.prog 44 #[.agg #[.slice A l.length c], .int .i64 known, .string x] w (IsE (whyL (cntL l known) x) w) := by
  have HC : Hid (∀ W, Below w.heap.size w W → Calls Tryz.prog 38 #[.agg #[.slice A l.length c], .int .i64 known] W (SlE (cntL l known) W)) := fun W hb => counting_any l A c known W ((hl.below hb (Nat.le_refl _)).more hb.size) hok hm
  have HA := Lib.hid (fun A' c' W hL => about_any (cntL l known) A' c' x W hL (hok.sub (cnt_sub l known)) (Nat.le_trans (cnt_len l known) hm) hxs)
  have HWH : Hid (whyL (cntL l known) x = Lib.compact (((abtL (cntL l known) x).map Rul.id).mergeSort fun a b => decide (a ≤ b))) := rfl
  have hml : (abtL (cntL l known) x).length ≤ 1000 := Nat.le_trans (abt_len _ _) (Nat.le_trans (cnt_len l known) hm)
  have hb1 : Below w.heap.size w (w.alloc (.cells #[.slice A l.length c] 25)) := (by repeat (first | with_reducible exact Below.refl _ _ | with_reducible assumption | with_reducible refine Below.drew ?_ | with_reducible refine below_drewN ?_ _ | (with_reducible refine Below.alloc ?_ ?_ _; rotate_left; (try simp) <;> omega) | (with_reducible refine Below.setCell ?_ ?_ _; rotate_left; (try simp) <;> omega)))
  have HB1 := Lib.hid hb1
  generalize whyL (cntL l known) x = WL at *
  generalize abtL (cntL l known) x = m at *
  clear hl hok hb1
  go_enter Tryz.func44, Tryz.ntmps44
  go_wp2_with (first | (go_at_call 38; refine (HC.out _ HB1.out).mono ?_; rintro e w1 ⟨A1, c1, rfl, hl1, _, hb1⟩) | (go_at_call 93; refine (HA.out _ _ _ hl1).mono ?_; rintro e w2 ⟨A2, c2, rfl, hl2, _, hb2⟩))
  have HBW : Hid (∀ W, Below w2.heap.size w2 W → Below w.heap.size w W) := fun W hb => by
    have h1 : Below w.heap.size w w1 := HB1.out.trans (hb1.mono (by simp))
    exact (h1.trans (hb2.mono h1.size)).trans (hb.mono (Nat.le_trans h1.size hb2.size))
  have HL := Lib.hid hl2
  have HEN : Hid ((m.map Rul.id).take m.length = m.map Rul.id) := by show _ = _; rw [List.take_of_length_le (by simp)]
  clear hl1 hl2 hb1 hb2 HC HA
  go_loopw [7, 16] (fun v y wr => ∃ (k : Nat) (A' : Option Addr) (c' : Nat), k ≤ m.length ∧ v = .slice A' k c' ∧ y = .int .i64 k ∧ wr.ownsRow w2.heap.size 3 1 (.slice A' k c') k (ints ((m.map Rul.id).take k)) ∧ Below w2.heap.size w2 wr) (fun _ y _ => m.length - (intOf y).toNat)
  case atStart => exact ⟨0, none, 0, by omega, rfl, rfl, by simpa [ints] using World.ownsRow_nil _ _ _ _, Below.refl _ _⟩
  case round =>
    obtain ⟨k, A', c', hk, rfl, rfl, ho, hbw⟩ := hrel
    have hbs := hbw.size
    by_cases hlt : k < m.length
    · obtain ⟨ad, rfl, hadb, c0, c1, c2, c3, c4, c5⟩ := rule_at ((HL.out.below hbw (Nat.le_refl _)).more hbs) hlt
      have HSN : Hid (ints ((m.map Rul.id).take k) ++ [.int .i64 m[k].id] = ints ((m.map Rul.id).take (k + 1))) := by
        show _ = _
        rw [← List.take_append_getElem (l := m.map Rul.id) (by simpa using hlt), ints_snoc]; simp
      generalize m[k] = r at *
      obtain ⟨id, kn, kd, rx, ry, of⟩ := r
      dsimp only at *
      go_wp2_with (at_builtin; refine wpList_append1 rfl (.tmp 20) (.tmp 23) 42 rfl w2.heap.size 3 (.int .i64 0) 1 8 Tryz.underlying42 info3 rfl (by decide) _ k (ints ((m.map Rul.id).take k)) rfl ((ho.alloc _).alloc _) (wr.heap.size + 1) #[.int .i64 id] 3 rfl ?c0 rfl ?c1 ?c2 (by decide) ?c3 w2.heap.size w2 ?c4 (Nat.le_refl _) ?_)
      case c0 => simpa using Bk.new (wr.alloc (.cells #[.int .i64 id, .int .i64 kn, .int .u8 kd, .string rx, .string ry, .int .i64 of] 50)) 3 #[.int .i64 id]
      case c1 => rfl
      case c2 => omega
      case c3 => first | omega | (simp; omega)
      case c4 => exact (hbw.alloc hbs _).alloc (by first | omega | (simp; omega)) _
      intro v' w4 ho4 hb4 _
      replace ho4 : w4.ownsRow w2.heap.size 3 1 v' (k + 1) (ints ((m.map Rul.id).take (k + 1))) := by rw [← HSN.out]; exact ho4
      obtain ⟨A4, c4, rfl, _, _⟩ := ownsSlice ho4
      clear ho
      go_wp2
      go_roundw
      case rel => exact ⟨k + 1, A4, c4, by omega, rfl, by go_num, ho4, hb4⟩
      case measure => simp [intOf]; omega
    · obtain rfl : k = m.length := by omega
      rw [HEN.out] at ho
      have HS := Lib.hid (sortI_own ho (by simp) (by omega) hbs)
      clear HL
      go_wp2_with (first | (go_at_call 94; refine HS.out.mono ?_; rintro e w5 ⟨rfl, ho5, hb5⟩; have HCC := Lib.hid (compI_own ho5 (by simp) (by omega) (Nat.le_trans hbs hb5.size) (compact_len _))) | (go_at_call 95; refine HCC.out.mono ?_; rintro e w6 ⟨rfl, ho6, hb6⟩))
      rw [← HWH.out] at ho6 ⊢
      have HLI := Lib.hid (ownsRow_lies ho6)
      have hcap := ownsSlice ho6
      have HBE := Lib.hid (HBW.out _ ((hbw.trans hb5).trans hb6))
      clear ho ho5 ho6 HS HCC
      go_ret
      obtain ⟨A7, c7, e7, h1, h2⟩ := hcap
      cases e7
      exact ⟨_, _, rfl, HLI.out, ⟨h1, h2⟩, HBE.out⟩
end Go.Proofs.YtkfeagokmcakgaaGreatDoor

namespace Go.Proofs.YtkfeagokmcakgaaGreatDoor
open Go.RowKit

def cr1 : Rul := ⟨1, 0, 5, ⟨#[111, 99, 104, 114, 101]⟩, ⟨#[101, 97, 114, 116, 104]⟩, 0⟩
def cl1 : ByteArray := ⟨#[49, 32, 48, 32, 103, 114, 111, 117, 112, 32, 111, 99, 104, 114, 101, 32, 101, 97, 114, 116, 104]⟩
def cr2 : Rul := ⟨2, 0, 1, ⟨#[101, 97, 114, 116, 104]⟩, ⟨#[]⟩, 0⟩
def cl2 : ByteArray := ⟨#[50, 32, 48, 32, 102, 97, 115, 116, 32, 101, 97, 114, 116, 104]⟩
def cr3 : Rul := ⟨3, 0, 2, ⟨#[97, 122, 117, 114, 105, 116, 101]⟩, ⟨#[]⟩, 0⟩
def cl3 : ByteArray := ⟨#[51, 32, 48, 32, 100, 114, 121, 32, 97, 122, 117, 114, 105, 116, 101]⟩
def cr4 : Rul := ⟨4, 5, 4, ⟨#[97, 122, 117, 114, 105, 116, 101]⟩, ⟨#[101, 97, 114, 116, 104]⟩, 0⟩
def cl4 : ByteArray := ⟨#[52, 32, 53, 32, 111, 118, 101, 114, 32, 97, 122, 117, 114, 105, 116, 101, 32, 101, 97, 114, 116, 104]⟩
def cr5 : Rul := ⟨5, 9, 2, ⟨#[111, 99, 104, 114, 101]⟩, ⟨#[]⟩, 0⟩
def cl5 : ByteArray := ⟨#[53, 32, 57, 32, 100, 114, 121, 32, 111, 99, 104, 114, 101]⟩
def cr6 : Rul := ⟨6, 20, 6, ⟨#[]⟩, ⟨#[]⟩, 5⟩
def cl6 : ByteArray := ⟨#[54, 32, 50, 48, 32, 118, 111, 105, 100, 32, 53]⟩
def cr7 : Rul := ⟨7, 20, 3, ⟨#[118, 101, 114, 100, 105, 103, 114, 105, 115]⟩, ⟨#[119, 104, 105, 116, 101]⟩, 0⟩
def cl7 : ByteArray := ⟨#[55, 32, 50, 48, 32, 98, 101, 115, 105, 100, 101, 32, 118, 101, 114, 100, 105, 103, 114, 105, 115, 32, 119, 104, 105, 116, 101]⟩
def cbook : List Rul := [cr1, cr2, cr3, cr4, cr5, cr6, cr7]
def csrc : ByteArray := ⟨#[49, 32, 48, 32, 103, 114, 111, 117, 112, 32, 111, 99, 104, 114, 101, 32, 101, 97, 114, 116, 104, 10, 50, 32, 48, 32, 102, 97, 115, 116, 32, 101, 97, 114, 116, 104, 10, 51, 32, 48, 32, 100, 114, 121, 32, 97, 122, 117, 114, 105, 116, 101, 10, 52, 32, 53, 32, 111, 118, 101, 114, 32, 97, 122, 117, 114, 105, 116, 101, 32, 101, 97, 114, 116, 104, 10, 53, 32, 57, 32, 100, 114, 121, 32, 111, 99, 104, 114, 101, 10, 54, 32, 50, 48, 32, 118, 111, 105, 100, 32, 53, 10, 55, 32, 50, 48, 32, 98, 101, 115, 105, 100, 101, 32, 118, 101, 114, 100, 105, 103, 114, 105, 115, 32, 119, 104, 105, 116, 101, 10]⟩
instance decRul : DecidableEq Rul := fun a b => decidable_of_iff (a.id = b.id ∧ a.known = b.known ∧ a.kind = b.kind ∧ a.x = b.x ∧ a.y = b.y ∧ a.of = b.of) ⟨fun h => Rul.ext' h.1 h.2.1 h.2.2.1 h.2.2.2.1 h.2.2.2.2.1 h.2.2.2.2.2, fun h => by subst h; exact ⟨rfl, rfl, rfl, rfl, rfl, rfl⟩⟩
def och : ByteArray := ⟨#[111, 99, 104, 114, 101]⟩
def azu : ByteArray := ⟨#[97, 122, 117, 114, 105, 116, 101]⟩
def ear : ByteArray := ⟨#[101, 97, 114, 116, 104]⟩
theorem c_cnt0 : cntL cbook 0 = [cr1, cr2, cr3] := by decide +kernel
theorem c_parse : prsR csrc = (0, 0, cbook) := by decide +kernel
theorem c_print : prnB cbook = csrc := by decide +kernel
theorem c_st0 : stt (cntL cbook 0) och = 1 := by decide +kernel
theorem c_st9 : stt (cntL cbook 9) och = 3 := by decide +kernel
theorem c_st20 : stt (cntL cbook 20) och = 1 := by decide +kernel
theorem c_sta : stt (cntL cbook 0) azu = 2 := by decide +kernel
theorem c_over : barL (cntL cbook 5) 4 azu och false = (false, 4) := by decide +kernel
theorem c_ske : skE (cntL cbook 0) [och, azu] = 0 := by decide +kernel
theorem c_sk1 : skF (cntL cbook 0) [och, azu] 1 = [och] := by decide +kernel
theorem c_sk2 : skF (cntL cbook 0) [och, azu] 2 = [azu] := by decide +kernel
theorem c_arr : arr (cntL cbook 5) [och, azu] = ([azu, och], true, 0) := by decide +kernel
theorem c_abt : (abtL (cntL cbook 9) och).map Rul.id = [2, 5] := by decide +kernel
theorem c_why : whyL (cntL cbook 9) och = [2, 5] := by
  unfold whyL
  rw [c_abt, List.mergeSort_of_pairwise (by simp)]
  decide +kernel
def c_g (s : ByteArray) : Option Int := if s = ear then some 0 else if s = och then some 1 else none
theorem c_dist : IsDist (cntL cbook 0) ear c_g := by
  rw [c_cnt0]
  refine fix_dist ⟨by decide +kernel, fun s n h => ?_⟩ ?_
  · unfold c_g at h
    split at h
    · rename_i e; cases h; subst e; exact ⟨0, rfl, .zero _⟩
    · split at h
      · rename_i e; cases h; subst e
        exact ⟨1, rfl, .succ (b := ear) ⟨cr1, by simp, by decide +kernel, rfl, rfl⟩ (.zero _)⟩
      · cases h
  · intro r hr h5 n hn
    simp at hr
    rcases hr with rfl | rfl | rfl
    · refine ⟨1, by decide +kernel, ?_⟩
      have : c_g cr1.y = some 0 := by decide +kernel
      rw [this] at hn; cases hn; decide
    · exact absurd h5 (by decide +kernel)
    · exact absurd h5 (by decide +kernel)
theorem c_chain {g : ByteArray → Option Int} (h : IsDist (cntL cbook 0) ear g) : g och = some 1 ∧ chn (cntL cbook 0) g 1 och = [1] := by
  rw [h.unique c_dist]
  exact ⟨by decide +kernel, by decide +kernel⟩
end Go.Proofs.YtkfeagokmcakgaaGreatDoor

namespace Go.Proofs.YtkfeagokmcakgaaGreatDoor
open Go.RowKit

theorem int_at {w : World} {B : Nat} {A : Option Addr} {l : List Int} (h : Lies w B A (ints l)) {k : Nat} (hk : k < l.length) : ∃ ad, A = some ad ∧ ad.block < B ∧ w.cell? (ad.add k) = some (.int .i64 l[k]) := by
  obtain ⟨ad, u, h1, h2, h3, h4⟩ := h.at_ (k := k) (by simpa [ints] using hk)
  obtain rfl : u = .int .i64 l[k] := by simp [ints, List.getElem?_eq_getElem hk] at h3; exact h3.symm
  exact ⟨ad, h1, h2, h4⟩
def sameB (l m : List Int) : Bool := decide (l = m)
theorem sameB_ne {l m : List Int} (h : l.length ≠ m.length) : sameB l m = false := by
  unfold sameB; rw [decide_eq_false_iff_not]; intro e; exact h (by rw [e])
theorem sameB_at {l m : List Int} {k : Nat} (hk : k < l.length) (hm : k < m.length) (h : l[k] ≠ m[k]) : sameB l m = false := by
  unfold sameB; rw [decide_eq_false_iff_not]; intro e; subst e; exact h rfl
theorem sameB_yes {l m : List Int} (hn : l.length = m.length) (h : ∀ k (h1 : k < l.length) (h2 : k < m.length), l[k] = m[k]) : sameB l m = true := by
  unfold sameB; rw [decide_eq_true_eq]; exact List.ext_getElem hn h

set_option maxHeartbeats 400000 in
theorem sameInts_any (l m : List Int) (A B : Option Addr) (c d : Nat) (w : World) (hl : Lies w w.heap.size A (ints l)) (hm : Lies w w.heap.size B (ints m)) (h1 : l.length ≤ 1000000) (h2 : m.length ≤ 1000000) :
    Calls Tryz.prog 33 #[.slice A l.length c, .slice B m.length d] w (ShEnd (sameB l m) w) := by
  by_cases hn : l.length = m.length
  · have HN := Lib.hid hn
    have HE := Lib.hid (fun k (h1 : k < l.length) (h2 : k < m.length) (h : l[k] ≠ m[k]) => show Hid (sameB l m = false) from sameB_at h1 h2 h)
    have HY := Lib.hid (fun (h : ∀ k (h1 : k < l.length) (h2 : k < m.length), l[k] = m[k]) => show Hid (sameB l m = true) from sameB_yes hn h)
    rw [← hn]
    clear hn
    go_enter Tryz.func33, Tryz.ntmps33
    go_wp2
    go_loopw [5] (fun y wr => ∃ k : Nat, k ≤ l.length ∧ y = .int .i64 k ∧ Hid (∀ j, j < k → ∀ (h1 : j < l.length) (h2 : j < m.length), l[j] = m[j]) ∧ Below w.heap.size w wr) (fun y _ => l.length - (intOf y).toNat)
    case atStart => exact ⟨0, by omega, rfl, fun j hj => absurd hj (by omega), Below.refl _ _⟩
    case round =>
      obtain ⟨k, hk, rfl, hg, hbw⟩ := hrel
      by_cases hlt : k < l.length
      · have hlt2 : k < m.length := by have := HN.out; omega
        obtain ⟨a1, rfl, _, c0⟩ := int_at (hl.below hbw (Nat.le_refl _)) hlt
        obtain ⟨a2, rfl, _, c1⟩ := int_at (hm.below hbw (Nat.le_refl _)) hlt2
        have H0 := Lib.hid (HE.out k hlt hlt2)
        have HG := Lib.hid (fun (h : l[k] = m[k]) => show Hid (∀ j, j < k + 1 → ∀ (h1 : j < l.length) (h2 : j < m.length), l[j] = m[j]) from fun j hj h1 h2 => by
          by_cases e : j = k
          · subst e; exact h
          · exact hg.out j (by omega) h1 h2)
        clear hl hm hg
        generalize l[k] = x at *
        generalize m[k] = y at *
        have hkm : (k : Int) < (m.length : Int) := by omega
        have hkl : (k : Int) < (l.length : Int) := by omega
        have hk0 : 0 ≤ (k : Int) := by omega
        by_cases hxy : x = y
        · have H := HG.out hxy
          have hx1 : (x != y) = false := by simp [hxy]
          clear hxy
          go_wp2
          go_quiet (fail)
          go_wp2
          go_roundw
          case rel => exact ⟨k + 1, by omega, by go_num, H, by exact (by repeat (first | with_reducible exact Below.refl _ _ | with_reducible assumption | with_reducible refine Below.drew ?_ | with_reducible refine below_drewN ?_ _ | (with_reducible refine Below.alloc ?_ ?_ _; rotate_left; (try simp) <;> omega) | (with_reducible refine Below.setCell ?_ ?_ _; rotate_left; (try simp) <;> omega)))⟩
          case measure => simp [intOf]; omega
        · have H := H0.out hxy
          have hx1 : (x != y) = true := by simp [hxy]
          clear hxy
          go_wp2
          go_quiet (fail)
          go_wp2
          go_ret
          exact sh_ret H.out.symm (by exact (by repeat (first | with_reducible exact Below.refl _ _ | with_reducible assumption | with_reducible refine Below.drew ?_ | with_reducible refine below_drewN ?_ _ | (with_reducible refine Below.alloc ?_ ?_ _; rotate_left; (try simp) <;> omega) | (with_reducible refine Below.setCell ?_ ?_ _; rotate_left; (try simp) <;> omega))))
      · have H := HY.out (fun j h1 h2 => hg.out j (by omega) h1 h2)
        obtain rfl : k = l.length := by omega
        clear hg hl hm
        go_wp2
        go_ret
        exact sh_ret H.out.symm (by exact (by repeat (first | with_reducible exact Below.refl _ _ | with_reducible assumption | with_reducible refine Below.drew ?_ | with_reducible refine below_drewN ?_ _ | (with_reducible refine Below.alloc ?_ ?_ _; rotate_left; (try simp) <;> omega) | (with_reducible refine Below.setCell ?_ ?_ _; rotate_left; (try simp) <;> omega))))
  · have H := Lib.hid (sameB_ne hn)
    have hx : ((l.length : Int) != (m.length : Int)) = true := by rw [bne_iff_ne]; omega
    have hx2 : (l.length != m.length) = true := by rw [bne_iff_ne]; exact hn
    clear hn
    go_enter Tryz.func33, Tryz.ntmps33
    go_wp2
    go_ret
    exact sh_ret H.out.symm (by exact (by repeat (first | with_reducible exact Below.refl _ _ | with_reducible assumption | with_reducible refine Below.drew ?_ | with_reducible refine below_drewN ?_ _ | (with_reducible refine Below.alloc ?_ ?_ _; rotate_left; (try simp) <;> omega) | (with_reducible refine Below.setCell ?_ ?_ _; rotate_left; (try simp) <;> omega))))
def sameS (l m : List ByteArray) : Bool := decide (l = m)
theorem sameS_ne {l m : List ByteArray} (h : l.length ≠ m.length) : sameS l m = false := by
  unfold sameS; rw [decide_eq_false_iff_not]; intro e; exact h (by rw [e])
theorem sameS_at {l m : List ByteArray} {k : Nat} (hk : k < l.length) (hm : k < m.length) (h : l[k] ≠ m[k]) : sameS l m = false := by
  unfold sameS; rw [decide_eq_false_iff_not]; intro e; subst e; exact h rfl
theorem sameS_yes {l m : List ByteArray} (hn : l.length = m.length) (h : ∀ k (h1 : k < l.length) (h2 : k < m.length), l[k] = m[k]) : sameS l m = true := by
  unfold sameS; rw [decide_eq_true_eq]; exact List.ext_getElem hn h

set_option maxHeartbeats 400000 in
theorem sameStrs_any (l m : List ByteArray) (A B : Option Addr) (c d : Nat) (w : World) (hl : Lies w w.heap.size A (strsC l)) (hm : Lies w w.heap.size B (strsC m)) (h1 : l.length ≤ 1000000) (h2 : m.length ≤ 1000000) :
    Calls Tryz.prog 40 #[.slice A l.length c, .slice B m.length d] w (ShEnd (sameS l m) w) := by
  by_cases hn : l.length = m.length
  · have HN := Lib.hid hn
    have HE := Lib.hid (fun k (h1 : k < l.length) (h2 : k < m.length) (h : l[k] ≠ m[k]) => show Hid (sameS l m = false) from sameS_at h1 h2 h)
    have HY := Lib.hid (fun (h : ∀ k (h1 : k < l.length) (h2 : k < m.length), l[k] = m[k]) => show Hid (sameS l m = true) from sameS_yes hn h)
    rw [← hn]
    clear hn
    go_enter Tryz.func40, Tryz.ntmps40
    go_wp2
    go_loopw [5] (fun y wr => ∃ k : Nat, k ≤ l.length ∧ y = .int .i64 k ∧ Hid (∀ j, j < k → ∀ (h1 : j < l.length) (h2 : j < m.length), l[j] = m[j]) ∧ Below w.heap.size w wr) (fun y _ => l.length - (intOf y).toNat)
    case atStart => exact ⟨0, by omega, rfl, fun j hj => absurd hj (by omega), Below.refl _ _⟩
    case round =>
      obtain ⟨k, hk, rfl, hg, hbw⟩ := hrel
      by_cases hlt : k < l.length
      · have hlt2 : k < m.length := by have := HN.out; omega
        obtain ⟨a1, rfl, _, c0⟩ := str_at (hl.below hbw (Nat.le_refl _)) hlt
        obtain ⟨a2, rfl, _, c1⟩ := str_at (hm.below hbw (Nat.le_refl _)) hlt2
        have H0 := Lib.hid (HE.out k hlt hlt2)
        have HG := Lib.hid (fun (h : l[k] = m[k]) => show Hid (∀ j, j < k + 1 → ∀ (h1 : j < l.length) (h2 : j < m.length), l[j] = m[j]) from fun j hj h1 h2 => by
          by_cases e : j = k
          · subst e; exact h
          · exact hg.out j (by omega) h1 h2)
        clear hl hm hg
        generalize l[k] = x at *
        generalize m[k] = y at *
        have hkm : (k : Int) < (m.length : Int) := by omega
        have hkl : (k : Int) < (l.length : Int) := by omega
        have hk0 : 0 ≤ (k : Int) := by omega
        by_cases hxy : x = y
        · have H := HG.out hxy
          have hx1 : (x.toList == y.toList) = true := by rw [str_eq]; exact decide_eq_true hxy
          clear hxy
          go_wp2
          go_quiet (fail)
          go_wp2
          go_roundw
          case rel => exact ⟨k + 1, by omega, by go_num, H, by exact (by repeat (first | with_reducible exact Below.refl _ _ | with_reducible assumption | with_reducible refine Below.drew ?_ | with_reducible refine below_drewN ?_ _ | (with_reducible refine Below.alloc ?_ ?_ _; rotate_left; (try simp) <;> omega) | (with_reducible refine Below.setCell ?_ ?_ _; rotate_left; (try simp) <;> omega)))⟩
          case measure => simp [intOf]; omega
        · have H := H0.out hxy
          have hx1 : (x.toList == y.toList) = false := by rw [str_eq]; exact decide_eq_false hxy
          clear hxy
          go_wp2
          go_quiet (fail)
          go_wp2
          go_ret
          exact sh_ret H.out.symm (by exact (by repeat (first | with_reducible exact Below.refl _ _ | with_reducible assumption | with_reducible refine Below.drew ?_ | with_reducible refine below_drewN ?_ _ | (with_reducible refine Below.alloc ?_ ?_ _; rotate_left; (try simp) <;> omega) | (with_reducible refine Below.setCell ?_ ?_ _; rotate_left; (try simp) <;> omega))))
      · have H := HY.out (fun j h1 h2 => hg.out j (by omega) h1 h2)
        obtain rfl : k = l.length := by omega
        clear hg hl hm
        go_wp2
        go_ret
        exact sh_ret H.out.symm (by exact (by repeat (first | with_reducible exact Below.refl _ _ | with_reducible assumption | with_reducible refine Below.drew ?_ | with_reducible refine below_drewN ?_ _ | (with_reducible refine Below.alloc ?_ ?_ _; rotate_left; (try simp) <;> omega) | (with_reducible refine Below.setCell ?_ ?_ _; rotate_left; (try simp) <;> omega))))
  · have H := Lib.hid (sameS_ne hn)
    have hx : ((l.length : Int) != (m.length : Int)) = true := by rw [bne_iff_ne]; omega
    have hx2 : (l.length != m.length) = true := by rw [bne_iff_ne]; exact hn
    clear hn
    go_enter Tryz.func40, Tryz.ntmps40
    go_wp2
    go_ret
    exact sh_ret H.out.symm (by exact (by repeat (first | with_reducible exact Below.refl _ _ | with_reducible assumption | with_reducible refine Below.drew ?_ | with_reducible refine below_drewN ?_ _ | (with_reducible refine Below.alloc ?_ ?_ _; rotate_left; (try simp) <;> omega) | (with_reducible refine Below.setCell ?_ ?_ _; rotate_left; (try simp) <;> omega))))
end Go.Proofs.YtkfeagokmcakgaaGreatDoor

namespace Go.Proofs.YtkfeagokmcakgaaGreatDoor
open Go.RowKit

theorem c_ok : RulOK cbook := by unfold RulOK; decide +kernel
/-- the book lies in memory -/
structure CB (A : Option Addr) (c : Nat) (w : World) : Prop where
  lies : Lies w w.heap.size A (rulesC cbook)
  cap : 7 ≤ c ∧ c ≤ maxLen
  glob : Glob w
theorem CB.step {A : Option Addr} {c : Nat} {w w' : World} (h : CB A c w) (hb : Below w.heap.size w w') : CB A c w' := ⟨(h.lies.below hb (Nat.le_refl _)).more hb.size, h.cap, h.glob.step hb⟩
theorem parse_c (w : World) (hg : Glob w) : Calls Tryz.prog 18 #[.string csrc] w (fun e w' => ∃ A c, e = .returned (.tuple #[.agg #[.slice A 7 c], .agg #[.int .i64 0, .int .i64 0, .int .i64 0]]) ∧ CB A c w' ∧ Below w.heap.size w w') := by
  refine (parse_any csrc w hg (.inl (by decide +kernel)) (by decide +kernel)).mono ?_
  rintro e w' ⟨k, at_, l, A, c, hR, rfl, hl, hc, _, hb⟩
  rw [c_parse] at hR
  cases hR
  exact ⟨A, c, rfl, ⟨hl, hc, hg.step hb⟩, hb⟩
section
variable {A : Option Addr} {c : Nat} {w : World}
theorem print_c (h : CB A c w) : Calls Tryz.prog 21 #[.agg #[.slice A 7 c]] w (ValEnd (.string csrc) w) := by
  have h1 := print_any cbook A c w h.lies h.glob c_ok (by decide) h.cap.1 h.cap.2
  rwa [c_print] at h1
theorem state_c (h : CB A c w) {k n : Int} {x : ByteArray} (hx : x.size ≤ 100) (hs : (stt (cntL cbook k) x : Int) = n) : Calls Tryz.prog 25 #[.agg #[.slice A 7 c], .int .i64 k, .string x] w (fun e w' => e = .returned (.int .u8 n) ∧ Below w.heap.size w w') := by
  have h1 := State_any cbook A c k x w h.lies c_ok (by decide) hx
  rw [← hs]
  exact h1
theorem over_c (h : CB A c w) : Calls Tryz.prog 31 #[.agg #[.slice A 7 c], .int .i64 5, .string azu, .string och] w (fun e w' => e = .returned (.tuple #[.bool false, .int .i64 4]) ∧ Below w.heap.size w w') := by
  have h1 := mayOver_any cbook A c 5 azu och w h.lies c_ok (by decide) (by decide +kernel) (by decide +kernel)
  unfold BarE at h1
  rwa [c_over] at h1
theorem chain_c (h : CB A c w) : Calls Tryz.prog 27 #[.agg #[.slice A 7 c], .int .i64 0, .string och, .string ear] w (fun e w' => ∃ A2 c2, e = .returned (.tuple #[.slice A2 1 c2, .bool true]) ∧ Lies w' w'.heap.size A2 (ints [1]) ∧ Below w.heap.size w w') := by
  refine (chain_any cbook A c 0 och ear w h.lies c_ok (by decide) (by decide +kernel) (by decide +kernel)).mono ?_
  rintro e w' ⟨g, hd, hb, hm⟩
  obtain ⟨h1, h2⟩ := c_chain hd
  rw [h1] at hm
  obtain ⟨A2, c2, rfl, hl⟩ := hm
  rw [show (1 : Int).toNat = 1 from rfl, h2] at hl ⊢
  exact ⟨A2, c2, rfl, hl, hb⟩
theorem why_c (h : CB A c w) : Calls Tryz.prog 44 #[.agg #[.slice A 7 c], .int .i64 9, .string och] w (fun e w' => ∃ A2 c2, e = .returned (.slice A2 2 c2) ∧ Lies w' w'.heap.size A2 (ints [2, 5]) ∧ Below w.heap.size w w') := by
  refine (why_any cbook A c 9 och w h.lies c_ok (by decide) (by decide +kernel)).mono ?_
  rintro e w' ⟨A2, c2, rfl, hl, _, hb⟩
  rw [c_why] at hl ⊢
  exact ⟨A2, c2, rfl, hl, hb⟩
theorem strokes_c (h : CB A c w) (g : Nat) (hk : Bk w g 9 #[.string och, .string azu]) : Calls Tryz.prog 24 #[.agg #[.slice A 7 c], .int .i64 0, .slice (some ⟨g, 0, none⟩) 2 2] w (fun e w' => ∃ A1 c1 A2 c2, e = .returned (.tuple #[.slice A1 1 c1, .slice A2 1 c2, .int .i64 0]) ∧ Lies w' w'.heap.size A1 (strsC [och]) ∧ Lies w' w'.heap.size A2 (strsC [azu]) ∧ Below w.heap.size w w') := by
  refine (strokes_any cbook A c 0 [och, azu] (some ⟨g, 0, none⟩) 2 w h.lies c_ok (by decide) (hk.lies hk.lt) (by decide +kernel) (by decide) (by decide)).mono ?_
  rintro e w' ⟨A1, c1, A2, c2, rfl, h1, h2, hb⟩
  rw [c_sk1, c_ske, c_sk2] at *
  exact ⟨A1, c1, A2, c2, rfl, h1, h2, hb⟩
theorem arrange_c (h : CB A c w) (g : Nat) (hk : Bk w g 9 #[.string och, .string azu]) : Calls Tryz.prog 54 #[.agg #[.slice A 7 c], .int .i64 5, .slice (some ⟨g, 0, none⟩) 2 2] w (fun e w' => ∃ A1 c1, e = .returned (.tuple #[.slice A1 2 c1, .bool true, .int .i64 0]) ∧ Lies w' w'.heap.size A1 (strsC [azu, och]) ∧ Below w.heap.size w w') := by
  refine (arrange_any cbook A c 5 [och, azu] (some ⟨g, 0, none⟩) 2 w h.lies c_ok (by decide) (hk.lies hk.lt) (by decide +kernel) (by decide) (by decide)).mono ?_
  rintro e w' ⟨A1, c1, rfl, h1, _, hb⟩
  rw [c_arr] at *
  exact ⟨A1, c1, rfl, h1, hb⟩
end
end Go.Proofs.YtkfeagokmcakgaaGreatDoor
