/- PigmentMixes: for every input the law returns true and changes no argument. No condition. -/
import Derived.IntWalk
import Derived.Deep.RegionHeld
import Derived.Deep.MidRow
import Derived.Test.YtkjceegmmhnajaaG05
import Derived.Test.YtkjceegmmhnajaaG06

set_option linter.unusedVariables false
set_option linter.unusedSimpArgs false

namespace Go.Proofs.Ytkjceegmmhnajaa
open Go.ChangeShapes Go.WideShapes Go.ChangeAt Go.RowKit Go.Deep

theorem Try.own : ownKnob Try.prog.godebug = none := by kernel_rfl
theorem Try.laidOut : laidOutB Try.prog = true := by kernel_rfl

section
variable {H : Type} {enc : TypeId × Value → H} {P : Program}
theorem post_of_below {f : Func} {s : ChangeSpec} {apart fresh handsOn again : Bool} {W W' : World} {args : Array Value} {v : Value} {ds gs : List (DataW H)} {before pa pv : List MemPlace}
    (hW : DataW.Whole enc P f.params.toList s.vars apart W args.toList ds gs before)
    (hres : ∀ (b : Nat) (sp : Nat → Bool) (hd : Bool), DataW.TrodAll enc P W' b sp hd f.resultTypes.toList (v.resultList f.resultTypes.size) (s.fn H (ds ++ gs)).results [])
    (hargs : ∀ sp : Nat → Bool, (∀ p ∈ before, sp p.block = true) → DataW.TrodAll enc P W' 0 sp true f.params.toList args.toList (s.fn H (ds ++ gs)).args pa)
    (hvars : ∀ sp : Nat → Bool, (∀ p ∈ before, sp p.block = true) → DataW.TrodVars enc P W' sp s.vars (s.fn H (ds ++ gs)).vars pv)
    (hps : before = pa ++ pv) (hb : Below W.heap.size W W')
    (hok : ∀ (j : Nat) (t : TypeId) (r : Value), f.resultTypes[j]? = some t → (v.resultList f.resultTypes.size)[j]? = some r → Value.okWide P W' .any 0 t r) :
    s.post enc P f apart fresh handsOn again W args v W' := by
  have hlt : ∀ p ∈ before, p.block < W.heap.size := fun p hp => hW.lt p hp
  have hold : ∀ p ∈ before, (fun b => decide (b < W.heap.size)) p.block = true := fun p hp => by simpa using hlt p hp
  refine ⟨ds, gs, before, [], pa, pv, hW, hres _ _ _, hargs _ hold, hvars _ hold, World.keptBut_mono (fun p hp => ⟨hp, ?_⟩) (hb.frame (· ∈ before)), fun _ => ?_⟩
  · rw [hps, List.mem_append] at hp
    exact Or.inr hp
  · obtain ⟨_, _, _, _, _, hz, hn⟩ := hW
    refine ⟨hok, _, _, ([] ++ pa) ++ pv, ⟨[] ++ pa, pv, trodAll_append (hargs _ (fun _ _ => rfl)) (hres _ _ _), hvars _ (fun _ _ => rfl), rfl, ?_, ?_⟩, ?_⟩
    · intro b off hp
      have hin : MemPlace.cell b off ∈ before := by rw [hps]; simpa using hp
      rw [hb.frozen (hlt _ hin)]
      exact hz b off hin
    · intro ha
      have := hn ha
      rw [hps] at this
      simpa using this
    · intro p hp _
      rw [hps]
      simpa using hp
end

end Go.Proofs.Ytkjceegmmhnajaa

namespace Go.Proofs.Ytkjceegmmhnajaa
open Go.ChangeShapes Go.WideShapes Go.ChangeAt Go.RowKit Go.Deep

section
variable {H : Type} {enc : TypeId × Value → H} {W : World} {sp : Nat → Bool} {hd : Bool}
set_option maxRecDepth 100000 in
theorem open_want {v : Value} {r : Reach} {b0 : Nat} {d : DataW H} {p : List MemPlace} (hv : Value.okWide Try.prog W r b0 37 v) (h : DataW.Trod enc Try.prog W 0 sp hd 37 v d p) :
    ∃ x y z : Int, v = .agg #[.int .i64 x, .int .i64 y, .int .i64 z] := by
  simp only [Value.okWide, Try.underlying37] at hv
  obtain ⟨cs, rfl, hsz, _⟩ := hv
  rw [cells37] at hsz
  obtain ⟨fuel, hf⟩ := h
  obtain ⟨cl⟩ := cs
  match cl, hsz with
  | [c0, c1, c2], _ =>
    simp only [Value.cells] at hf
    obtain ⟨z0, z1, z2, m, _, g0, g1, g2⟩ := trod_array3 Try.underlying37 cellsI3 hf
    obtain ⟨a, ha, _⟩ := DataW.trod_int Try.underlying3 g0
    obtain ⟨b, hb, _⟩ := DataW.trod_int Try.underlying3 g1
    obtain ⟨c, hc, _⟩ := DataW.trod_int Try.underlying3 g2
    cases ha; cases hb; cases hc
    exact ⟨a, b, c, rfl⟩

end
end Go.Proofs.Ytkjceegmmhnajaa

namespace Go.Proofs.Ytkjceegmmhnajaa
open Go.RowKit

structure Du where
  n0 : Int
  n1 : Int
  n2 : Int
  n3 : Int
  den : Int
abbrev Du.arr (d : Du) : Array Value := #[.int .i64 d.n0, .int .i64 d.n1, .int .i64 d.n2, .int .i64 d.n3, .int .i64 d.den]
abbrev Du.agg (d : Du) : Value := .agg d.arr
def atD (d : Du) (a b c : Int) : Int := d.n0 + (d.n1 * a + d.n2 * b + d.n3 * c)
def shIn (a b c : Int) : Prop := (0 ≤ a ∧ a ≤ 1000) ∧ (0 ≤ b ∧ b ≤ 1000) ∧ 0 ≤ c ∧ c ≤ 1000
def over (d : Du) (t : Tn) : Bool := decide (d.den * t.price < atD d t.a t.b t.c)
/-! the shade of a recipe is a wanted one -/
/-! the reference's test -/
theorem shIn_of {x y z : Int} (h : shadeB x y z = true) : shIn x y z := by
  unfold shadeB inShade at h
  simp only [Bool.and_eq_true, decide_eq_true_iff] at h
  exact ⟨h.1.1, h.1.2, h.2⟩
end Go.Proofs.Ytkjceegmmhnajaa

namespace Go.Proofs.Ytkjceegmmhnajaa
open Go.RowKit

structure Pl where
  n1 : Int
  n2 : Int
  n3 : Int
  c : Int
abbrev Pl.arr (p : Pl) : Array Value := #[.int .i64 p.n1, .int .i64 p.n2, .int .i64 p.n3, .int .i64 p.c]
abbrev Pl.agg (p : Pl) : Value := .agg p.arr
def onP (p : Pl) (a b c : Int) : Int := p.n1 * a + p.n2 * b + p.n3 * c
def norP (n : Int) : Prop := -1000000000000 ≤ n ∧ n ≤ 1000000000000
def okPl (p : Pl) : Prop := norP p.n1 ∧ norP p.n2 ∧ norP p.n3 ∧ -10000000000000000 ≤ p.c ∧ p.c ≤ 10000000000000000
theorem nor_mul {n a : Int} (h : norP n) (k : 0 ≤ a ∧ a ≤ 1000) : bigP (n * a) := by
  have h1 : ab 1000000000000 n := ⟨by have := h.1; omega, by have := h.2; omega⟩
  have h2 : ab 1000 a := ⟨by omega, by omega⟩
  exact ab_big (ab_mul h1 h2) (by omega)
theorem onP_any {p : Pl} {a b c : Int} (h : okPl p) (k : shIn a b c) (w : World) : Calls Try.prog 46 #[.agg #[.int .i64 p.n1, .int .i64 p.n2, .int .i64 p.n3], .agg #[.int .i64 a, .int .i64 b, .int .i64 c]] w (IntEnd (onP p a b c) w) :=
  times_any p.n1 p.n2 p.n3 a b c w (nor_mul h.1 k.1) (nor_mul h.2.1 k.2.1) (nor_mul h.2.2.1 k.2.2)
theorem ronP_any {p : Pl} {a b c : Int} (h : okPl p) (k : shIn a b c) (w : World) : Calls Try.prog 50 #[.agg #[.int .i64 p.n1, .int .i64 p.n2, .int .i64 p.n3], .agg #[.int .i64 a, .int .i64 b, .int .i64 c]] w (IntEnd (onP p a b c) w) :=
  dot_any p.n1 p.n2 p.n3 a b c w (nor_mul h.1 k.1) (nor_mul h.2.1 k.2.1) (nor_mul h.2.2.1 k.2.2)
def beyP (p : Pl) (t : Tn) : Bool := decide (p.c < onP p t.a t.b t.c)

set_option maxHeartbeats 1000000 in
theorem bey1_any (t : Tn) (p : Pl) (g h : Nat) (w : World) (hg : Bk w g 84 #[.int .i64 p.n1, .int .i64 p.n2, .int .i64 p.n3]) (hh : Bk w h 51 p.arr) (ho : okPl p) (ht : shIn t.a t.b t.c) :
    Calls Try.prog 48 #[t.agg, .pointer (some ⟨g, 0, none⟩), .pointer (some ⟨h, 0, none⟩)] w (ShEnd (beyP p t) w) := by
  have HA := Lib.hid (fun W => onP_any (a := t.a) (b := t.b) (c := t.c) ho ht W)
  have HO : Hid (beyP p t = decide (p.c < onP p t.a t.b t.c)) := rfl
  generalize onP p t.a t.b t.c = v at *
  obtain ⟨n1, n2, n3, pc⟩ := p
  obtain ⟨nm, a, b, c, pr⟩ := t
  dsimp only at *
  have l0 := hg.lt
  have c0 := hg.cell 0 rfl
  have c1 := hg.cell 1 rfl
  have c2 := hg.cell 2 rfl
  have l1 := hh.lt
  have c3 := hh.cell 3 rfl
  generalize beyP ⟨n1, n2, n3, pc⟩ ⟨nm, a, b, c, pr⟩ = r at *
  have HK : Hid (∀ W, Below (w.heap.size + 1) (w.alloc (.cells #[.string nm, .int .i64 a, .int .i64 b, .int .i64 c, .int .i64 pr] 39)) W → W.cell? ⟨g, 0, none⟩ = some (.int .i64 n1) ∧ W.cell? ⟨g, 1, none⟩ = some (.int .i64 n2) ∧ W.cell? ⟨g, 2, none⟩ = some (.int .i64 n3) ∧ W.cell? ⟨h, 3, none⟩ = some (.int .i64 pc) ∧ W.cell? ⟨w.heap.size, 1, none⟩ = some (.int .i64 a) ∧ W.cell? ⟨w.heap.size, 2, none⟩ = some (.int .i64 b) ∧ W.cell? ⟨w.heap.size, 3, none⟩ = some (.int .i64 c)) := fun W hW => by
    have k0 := (hg.alloc (.cells #[.string nm, .int .i64 a, .int .i64 b, .int .i64 c, .int .i64 pr] 39)).below hW (by omega)
    have k2 := (hh.alloc (.cells #[.string nm, .int .i64 a, .int .i64 b, .int .i64 c, .int .i64 pr] 39)).below hW (by omega)
    have k1 := (Bk.new w 39 #[.string nm, .int .i64 a, .int .i64 b, .int .i64 c, .int .i64 pr]).below hW (by omega)
    exact ⟨k0.cell 0 rfl, k0.cell 1 rfl, k0.cell 2 rfl, k2.cell 3 rfl, k1.cell 1 rfl, k1.cell 2 rfl, k1.cell 3 rfl⟩
  clear hg hh ho ht
  go_enter Try.func48, Try.ntmps48
  go_wp2
  go_region_held3 (fun w' => w'.cell? ⟨g, 0, none⟩ = some (.int .i64 n1) ∧ w'.cell? ⟨g, 1, none⟩ = some (.int .i64 n2) ∧ w'.cell? ⟨g, 2, none⟩ = some (.int .i64 n3) ∧ w'.cell? ⟨h, 3, none⟩ = some (.int .i64 pc) ∧ w'.cell? ⟨w.heap.size, 1, none⟩ = some (.int .i64 a) ∧ w'.cell? ⟨w.heap.size, 2, none⟩ = some (.int .i64 b) ∧ w'.cell? ⟨w.heap.size, 3, none⟩ = some (.int .i64 c))
    (first | go_keep | (refine ⟨?_, ?_, ?_, ?_, ?_, ?_, ?_⟩ <;> first | assumption | go_keep))
    (first | (go_at_call 46; refine (HA.out _).mono ?_; rintro e w1 ⟨rfl, hb⟩; obtain ⟨q0, q1, q2, q3, q4, q5, q6⟩ := HK.out w1 (Below.trans (by repeat (first | with_reducible exact Below.refl _ _ | with_reducible assumption | with_reducible refine Below.drew ?_ | with_reducible refine below_drewN ?_ _ | (with_reducible refine Below.alloc ?_ ?_ _; rotate_left; (try simp) <;> omega) | (with_reducible refine Below.setCell ?_ ?_ _; rotate_left; (try simp) <;> omega))) (hb.mono (by first | omega | (simp; omega) | simp)))))
  all_goals
    go_wp2
    go_ret
    exact sh_ret (by rw [HO.out]) (Below.trans (by repeat (first | with_reducible exact Below.refl _ _ | with_reducible assumption | with_reducible refine Below.drew ?_ | with_reducible refine below_drewN ?_ _ | (with_reducible refine Below.alloc ?_ ?_ _; rotate_left; (try simp) <;> omega) | (with_reducible refine Below.setCell ?_ ?_ _; rotate_left; (try simp) <;> omega))) (hb.mono (by first | omega | (simp; omega) | simp)))

set_option maxHeartbeats 400000 in
theorem idxT48 (p : Tn → Bool) (l : List Tn) (A : Option Addr) (c : Nat) (w : World) (g h : Nat) (hl : Lies w w.heap.size A (tintsC l)) (hm : l.length ≤ 1000)
    (hp : Hid (∀ t ∈ l, ∀ W : World, Below w.heap.size w W → Calls Try.prog 48 (#[t.agg] ++ #[.pointer (some ⟨g, 0, none⟩), .pointer (some ⟨h, 0, none⟩)]) W (ShEnd (p t) W))) :
    Calls Try.prog 79 #[.slice A l.length c, .func (.func 48) #[] #[.pointer (some ⟨g, 0, none⟩), .pointer (some ⟨h, 0, none⟩)]] w fun e w' => e = .returned (.int .i64 (idxL p l)) ∧ Below w.heap.size w w' := by
  go_enter Try.func79, Try.ntmps79
  go_wp2
  go_loopw [8] (fun y wr => ∃ k : Nat, k ≤ l.length ∧ y = .int .i64 k ∧ Hid (∀ j (hj : j < k) (h' : j < l.length), p l[j] = false) ∧ Below w.heap.size w wr) (fun y _ => l.length - (intOf y).toNat)
  case atStart => exact ⟨0, by omega, rfl, fun j hj => absurd hj (by omega), Below.refl _ _⟩
  case round =>
    obtain ⟨k, hk, rfl, hg, hbw⟩ := hrel
    have hbs := hbw.size
    by_cases hlt : k < l.length
    · obtain ⟨ad, rfl, _, c0, c1, c2, c3, c4⟩ := tint_at (hl.below hbw (Nat.le_refl _)) hlt
      have HC := Lib.hid (hp.out l[k] (List.getElem_mem hlt))
      clear hl
      by_cases h0 : p l[k] = true
      · have H : Hid (idxL p l = (k : Int)) := by
          have := idxL_drop p l k hk hg.out (.inr ⟨hlt, h0⟩)
          rw [if_pos hlt] at this; exact this
        have H0 := Lib.hid h0; clear h0
        go_wp2_with (go_at_call 48; refine (HC.out _ (by exact (by repeat (first | with_reducible exact Below.refl _ _ | with_reducible assumption | with_reducible refine Below.drew ?_ | with_reducible refine below_drewN ?_ _ | (with_reducible refine Below.alloc ?_ ?_ _; rotate_left; (try simp) <;> omega) | (with_reducible refine Below.setCell ?_ ?_ _; rotate_left; (try simp) <;> omega))))).mono ?_; rintro e w1 ⟨rfl, hb⟩; rw [H0.out])
        go_ret
        exact ⟨ret_int H.out.symm, hbw.trans (hb.mono (by omega))⟩
      · have h0' : p l[k] = false := by simpa using h0
        have H : Hid (∀ j (hj : j < k + 1) (h' : j < l.length), p l[j] = false) := fun j hj h' => by
          by_cases e : j = k
          · subst e; exact h0'
          · exact hg.out j (by omega) h'
        have H0 := Lib.hid h0'; clear h0 h0'
        go_wp2_with (go_at_call 48; refine (HC.out _ (by exact (by repeat (first | with_reducible exact Below.refl _ _ | with_reducible assumption | with_reducible refine Below.drew ?_ | with_reducible refine below_drewN ?_ _ | (with_reducible refine Below.alloc ?_ ?_ _; rotate_left; (try simp) <;> omega) | (with_reducible refine Below.setCell ?_ ?_ _; rotate_left; (try simp) <;> omega))))).mono ?_; rintro e w1 ⟨rfl, hb⟩; rw [H0.out])
        go_roundw
        case rel => exact ⟨k + 1, by omega, by go_num, H, hbw.trans (hb.mono (by omega))⟩
        case measure => simp [intOf]; omega
    · obtain rfl : k = l.length := by omega
      have H : Hid (idxL p l = -1) := by
        have := idxL_drop p l _ hk hg.out (.inl rfl)
        rw [if_neg (by omega)] at this; exact this
      go_wp2
      go_ret
      exact ⟨ret_int H.out.symm, hbw⟩
set_option maxHeartbeats 400000 in
theorem anyT48 (p : Tn → Bool) (l : List Tn) (A : Option Addr) (c : Nat) (w : World) (g h : Nat) (hl : Lies w w.heap.size A (tintsC l)) (hm : l.length ≤ 1000)
    (hp : Hid (∀ t ∈ l, ∀ W : World, Below w.heap.size w W → Calls Try.prog 48 (#[t.agg] ++ #[.pointer (some ⟨g, 0, none⟩), .pointer (some ⟨h, 0, none⟩)]) W (ShEnd (p t) W))) :
    Calls Try.prog 47 #[.slice A l.length c, .func (.func 48) #[] #[.pointer (some ⟨g, 0, none⟩), .pointer (some ⟨h, 0, none⟩)]] w (ShEnd (l.any p) w) := by
  have HE := Lib.hid (idxL_dec p l)
  go_enter Try.func47, Try.ntmps47
  go_wp2_with (go_at_call 79; refine (idxT48 p l _ _ _ g h  hl hm hp).mono ?_; rintro e w1 ⟨rfl, hb⟩)
  go_ret
  exact sh_ret HE.out hb


/-- what CheckPlane answers -/
def norB (n : Int) : Bool := decide (-1000000000000 ≤ n) && decide (n ≤ 1000000000000)
def asideB (c : Int) : Bool := decide (-10000000000000000 ≤ c) && decide (c ≤ 10000000000000000)
theorem norB_iff {n : Int} : norB n = true ↔ norP n := by unfold norB norP; rw [Bool.and_eq_true, decide_eq_true_iff, decide_eq_true_iff]
theorem asideB_iff {n : Int} : asideB n = true ↔ -10000000000000000 ≤ n ∧ n ≤ 10000000000000000 := by unfold asideB; rw [Bool.and_eq_true, decide_eq_true_iff, decide_eq_true_iff]
def planeB (p : Pl) : Bool := asideB p.c && (norB p.n1 && (norB p.n2 && norB p.n3))
theorem planeB_ok {p : Pl} (h : planeB p = true) : okPl p := by
  unfold planeB at h
  simp only [Bool.and_eq_true, norB_iff, asideB_iff] at h
  exact ⟨h.2.1, h.2.2.1, h.2.2.2, h.1.1, h.1.2⟩
def cpB (l : List Tn) (x y z : Int) (p : Pl) : Bool := decide (chkW l x y z = 0) && (planeB p && (decide (p.c < onP p x y z) && !(l.any (beyP p))))

/-- the two boxes of the arguments -/
def B2 (w : World) (b : Nat) (x y z : Int) (p : Pl) : Prop := Bk w b 37 #[.int .i64 x, .int .i64 y, .int .i64 z] ∧ Bk w (b + 1) 51 p.arr
section
variable {w w' : World} {b : Nat} {x y z : Int} {p : Pl}
theorem B2.new (w : World) : B2 ((w.alloc (.cells #[.int .i64 x, .int .i64 y, .int .i64 z] 37)).alloc (.cells p.arr 51)) w.heap.size x y z p := by
  have h2 := Bk.new (w.alloc (.cells #[.int .i64 x, .int .i64 y, .int .i64 z] 37)) 51 p.arr
  rw [World.size_alloc] at h2
  exact ⟨(Bk.new w 37 _).alloc _, h2⟩
theorem B2.lt (h : B2 w b x y z p) : b + 1 < w.heap.size := h.2.lt
theorem B2.below {B : Nat} (h : B2 w b x y z p) (hb : Below B w w') (hB : b + 1 < B) : B2 w' b x y z p := ⟨h.1.below hb (by omega), h.2.below hb hB⟩
theorem B2.alloc (h : B2 w b x y z p) (o : Obj) : B2 (w.alloc o) b x y z p := ⟨h.1.alloc o, h.2.alloc o⟩
theorem B2.facts (h : B2 w b x y z p) : (b < w.heap.size ∧ b + 1 < w.heap.size) ∧ (w.cell? ⟨b, 0, none⟩ = some (.int .i64 x) ∧ w.cell? ⟨b, 1, none⟩ = some (.int .i64 y) ∧ w.cell? ⟨b, 2, none⟩ = some (.int .i64 z)) ∧
    w.cell? ⟨b + 1, 0, none⟩ = some (.int .i64 p.n1) ∧ w.cell? ⟨b + 1, 1, none⟩ = some (.int .i64 p.n2) ∧ w.cell? ⟨b + 1, 2, none⟩ = some (.int .i64 p.n3) ∧ w.cell? ⟨b + 1, 3, none⟩ = some (.int .i64 p.c) := by
  have := h.lt
  exact ⟨⟨by omega, by omega⟩, ⟨h.1.cell 0 rfl, h.1.cell 1 rfl, h.1.cell 2 rfl⟩, h.2.cell 0 rfl, h.2.cell 1 rfl, h.2.cell 2 rfl, h.2.cell 3 rfl⟩
end
end Go.Proofs.Ytkjceegmmhnajaa

namespace Go.Proofs.Ytkjceegmmhnajaa

section
variable {P : Program} {ops : Array Oper} {Q : Exit → Act → World → Prop} {S : World → Prop} {fuel : Nat} {listed : Array Bool} {a : Act} {w : World}
theorem held_skip (i : Nat) (d : Option Tmp) (hd : (ops[i]?).map (fun o => o.dst) = some d) (hs : Region.noSelect ops = true) (hf : Region.free .any ops listed i = true) (hr : (Region.ready .any ops listed).contains i = true)
    (hw : (ops[i]?).map (fun o => Region.wanted o (yielded ops a.tmps)) = some false) (hQ : ∀ c a w, Q (.panic c) (a.put d undef) w → Q (.panic c) a w) (hS : S w)
    (h : wpAnyH P .any ops Q S fuel (listed.setIfInBounds i true) (a.put d undef) w) : wpAnyH P .any ops Q S (fuel + 1) listed a w := by
  obtain ⟨o, ho⟩ : ∃ o, ops[i]? = some o := by
    cases hx : ops[i]? with
    | none => rw [hx] at hd; cases hd
    | some o => exact ⟨o, rfl⟩
  rw [ho] at hd hw
  obtain rfl : o.dst = d := Option.some.inj hd
  exact wpAnyH_take ho hs hf hr hQ (.inr ⟨Option.some.inj hw, rfl⟩) hS h
theorem held_take (i : Nat) (d : Option Tmp) (v : Value) (hd : (ops[i]?).map (fun o => o.dst) = some d) (hs : Region.noSelect ops = true) (hf : Region.free .any ops listed i = true) (hr : (Region.ready .any ops listed).contains i = true)
    (hw : (ops[i]?).map (fun o => Region.wanted o (yielded ops a.tmps)) = some true) (hQ : ∀ c a w, Q (.panic c) (a.put d v) w → Q (.panic c) a w) (hS : S w)
    (hy : ∀ w, S w → (ops[i]?).map (fun o => (execOp a.eval o).run P w) = some (.ok (.value v) w))
    (h : wpAnyH P .any ops Q S fuel (listed.setIfInBounds i true) (a.put d v) w) : wpAnyH P .any ops Q S (fuel + 1) listed a w := by
  obtain ⟨o, ho⟩ : ∃ o, ops[i]? = some o := by
    cases hx : ops[i]? with
    | none => rw [hx] at hd; cases hd
    | some o => exact ⟨o, rfl⟩
  rw [ho] at hd hw hy
  obtain rfl : o.dst = d := Option.some.inj hd
  exact wpAnyH_take ho hs hf hr hQ (.inl ⟨Option.some.inj hw, fun w hSw => Option.some.inj (hy w hSw)⟩) hS h
/-- the call is the only one that may come up -/
theorem held_call (i : Nat) (d : Option Tmp) (f : FuncId) (args : Array Value) {R : Ending → World → Prop} (hd : (ops[i]?).map (fun o => o.dst) = some d) (hr : Region.ready .any ops listed = [i])
    (hw : (ops[i]?).map (fun o => Region.wanted o (yielded ops a.tmps)) = some true) (he : (ops[i]?).map (fun o => (execOp a.eval o).run P w) = some (.ok (.enter f args) w))
    (hc : Calls P f args w R) (h : ∀ e w', R e w' → ∃ v, e = .returned v ∧ S w' ∧ (S w' → wpAnyH P .any ops Q S fuel (listed.setIfInBounds i true) (a.put d v) w')) : wpAnyH P .any ops Q S (fuel + 1) listed a w := by
  obtain ⟨o, ho⟩ : ∃ o, ops[i]? = some o := by
    cases hx : ops[i]? with
    | none => rw [hx] at hd; cases hd
    | some o => exact ⟨o, rfl⟩
  rw [ho] at hd hw he
  obtain rfl : o.dst = d := Option.some.inj hd
  refine wpAnyH_all hr (by simp) fun j hj => ?_
  obtain rfl : j = i := by simpa using hj
  unfold wpOp
  rw [ho]
  dsimp only
  rw [if_pos (Option.some.inj hw)]
  refine .inl ?_
  unfold Oper.wp
  have he' := Option.some.inj he
  dsimp only at he'
  rw [he']
  refine hc.mono fun e w' hR => ?_
  obtain ⟨v, rfl, hS, hk⟩ := h e w' hR
  exact ⟨hS, hk hS⟩
end
end Go.Proofs.Ytkjceegmmhnajaa

namespace Go.Proofs.Ytkjceegmmhnajaa
open Go.RowKit

theorem size3' (h : 3 < Try.prog.types.size) : (Try.prog.types[3]'h).size = 1 := by kernel_rfl
theorem idx37_0 (a b c : Int) (w : World) : (Instr.index 37 (.agg #[.int .i64 a, .int .i64 b, .int .i64 c]) (.int .i64 0)).run Try.prog w = .ok (.int .i64 a) w := by
  simp [Instr.index, go_sem, Try.underlying37, size3']
theorem idx37_1 (a b c : Int) (w : World) : (Instr.index 37 (.agg #[.int .i64 a, .int .i64 b, .int .i64 c]) (.int .i64 1)).run Try.prog w = .ok (.int .i64 b) w := by
  simp [Instr.index, go_sem, Try.underlying37, size3']
theorem idx37_2 (a b c : Int) (w : World) : (Instr.index 37 (.agg #[.int .i64 a, .int .i64 b, .int .i64 c]) (.int .i64 2)).run Try.prog w = .ok (.int .i64 c) w := by
  simp [Instr.index, go_sem, Try.underlying37, size3']

set_option maxRecDepth 100000 in
set_option maxHeartbeats 4000000 in
theorem checkPlane_any (l : List Tn) (p : Pl) (x y z : Int) (At : Option Addr) (ct : Nat) (w : World) (hlt : Lies w w.heap.size At (tintsC l)) (hm2 : l.length ≤ 1000) (hs : ∀ t ∈ l, t.name.size ≤ 100) :
    Calls Try.prog 19 #[.slice At l.length ct, .agg #[.int .i64 x, .int .i64 y, .int .i64 z], p.agg] w (ShEnd (cpB l x y z p) w) := by
  have HW := Lib.hid (fun W (hb : Below w.heap.size w W) => checkWant_any l At ct x y z W ((hlt.below hb (Nat.le_refl _)).more hb.size) hm2 hs)
  have HC : Hid (cpB l x y z p = (decide (chkW l x y z = 0) && (planeB p && (decide (p.c < onP p x y z) && !(l.any (beyP p)))))) := rfl
  obtain ⟨⟨n1, n2, n3, pc⟩, hp⟩ : ∃ p', p' = p := ⟨p, rfl⟩
  subst hp
  by_cases h0 : chkW l x y z = 0
  · have hoff : ∀ t ∈ l, offTint t = false := by
      unfold chkW at h0
      split at h0
      · rename_i hc; exact (chkT_ok hc).2.2.1
      · rename_i hc; exact absurd h0 hc
    have hsh : shadeB x y z = true := by
      unfold chkW at h0
      split at h0
      · split at h0
        · assumption
        · cases h0
      · rename_i hc; exact absurd h0 hc
    have H0 := Lib.hid h0
    by_cases h3 : asideB pc = true
    · have H3 : Hid ((decide (-10000000000000000 ≤ pc) && decide (pc ≤ 10000000000000000)) = true) := h3
      have HC2 : Hid (cpB l x y z ⟨n1, n2, n3, pc⟩ = ((norB n1 && (norB n2 && norB n3)) && (decide (pc < onP ⟨n1, n2, n3, pc⟩ x y z) && !(l.any (beyP ⟨n1, n2, n3, pc⟩))))) := by
        show _ = _
        rw [HC.out, h0]; unfold planeB; dsimp only; rw [h3]; rfl
      obtain ⟨N, hN⟩ : ∃ N : Nat → Int, N 0 = n1 ∧ N 1 = n2 ∧ N 2 = n3 := ⟨fun k => if k = 0 then n1 else if k = 1 then n2 else n3, rfl, rfl, rfl⟩
      have HNN := Lib.hid hN; clear hN
      have HOn := Lib.hid (fun (ho : okPl ⟨n1, n2, n3, pc⟩) W => onP_any (a := x) (b := y) (c := z) ho (shIn_of hsh) W)
      have HAn := Lib.hid (fun (ho : okPl ⟨n1, n2, n3, pc⟩) W g h (hb : Below w.heap.size w W) (hg : Bk W g 84 #[.int .i64 n1, .int .i64 n2, .int .i64 n3]) (hh : Bk W h 51 #[.int .i64 n1, .int .i64 n2, .int .i64 n3, .int .i64 pc]) => anyT48 (beyP ⟨n1, n2, n3, pc⟩) l At ct W g h ((hlt.below hb (Nat.le_refl _)).more hb.size) hm2 (show Hid _ from fun t hmem W' hb' => by
        obtain ⟨_, ha, hb2, hc, _⟩ := offTint_no (hoff t hmem)
        exact bey1_any t ⟨n1, n2, n3, pc⟩ g h W' (hg.below hb' hg.lt) (hh.below hb' hh.lt) ho ⟨ha, hb2, hc⟩))
      have HB3 := Lib.hid h3
      clear h0 h3 hoff hsh hlt hs HC
      generalize onP ⟨n1, n2, n3, pc⟩ x y z = v at *
      go_enter Try.func19, Try.ntmps19
      rw [H0.out] at HW
      go_wp2_with (first | (go_at_call 36; refine (HW.out _ (by repeat (first | with_reducible exact Below.refl _ _ | with_reducible assumption | with_reducible refine Below.drew ?_ | with_reducible refine below_drewN ?_ _ | (with_reducible refine Below.alloc ?_ ?_ _; rotate_left; (try simp) <;> omega) | (with_reducible refine Below.setCell ?_ ?_ _; rotate_left; (try simp) <;> omega)))).mono ?_; rintro e w1 ⟨rfl, hb1⟩; have X1 := (B2.new (x := x) (y := y) (z := z) (p := ⟨n1, n2, n3, pc⟩) w).below hb1 (by simp); obtain ⟨⟨g0, g1⟩, ⟨x0, x1, x2⟩, y0, y1, y2, y3⟩ := X1.facts; have hB1 : Below w.heap.size w w1 := (Below.trans (by repeat (first | with_reducible exact Below.refl _ _ | with_reducible assumption | with_reducible refine Below.drew ?_ | with_reducible refine below_drewN ?_ _ | (with_reducible refine Below.alloc ?_ ?_ _; rotate_left; (try simp) <;> omega) | (with_reducible refine Below.setCell ?_ ?_ _; rotate_left; (try simp) <;> omega))) (hb1.mono (by first | omega | (simp; omega) | simp)))) | (go_at_call 45; refine (among_is _ _ _ true _ H3.out).mono ?_; rintro e w2 ⟨rfl, rfl⟩))
      go_loopw [22] (fun s wr => ∃ k : Nat, k ≤ 3 ∧ s = .int .i64 k ∧ Hid (∀ j, j < k → norB (N j) = true) ∧ Below w.heap.size w wr ∧ B2 wr w.heap.size x y z ⟨n1, n2, n3, pc⟩) (fun s _ => 3 - (intOf s).toNat)
      case atStart => exact ⟨0, by omega, rfl, fun j hj => absurd hj (by omega), (by repeat (first | with_reducible exact Below.refl _ _ | with_reducible assumption | with_reducible refine Below.drew ?_ | with_reducible refine below_drewN ?_ _ | (with_reducible refine Below.alloc ?_ ?_ _; rotate_left; (try simp) <;> omega) | (with_reducible refine Below.setCell ?_ ?_ _; rotate_left; (try simp) <;> omega))), X1⟩
      case round =>
        clear X1 hb1 hB1 g0 g1 x0 x1 x2 y0 y1 y2 y3
        obtain ⟨k, hk, rfl, hg, hbw, hX⟩ := hrel
        by_cases hk3 : k < 3
        · match k, hk3 with
          | 0, _ =>
            by_cases hn : norB n1 = true
            · have HN : Hid ((decide (-1000000000000 ≤ n1) && decide (n1 ≤ 1000000000000)) = true) := hn
              have H : Hid (∀ j, j < 0 + 1 → norB (N j) = true) := fun j hj => by
                by_cases e : j = 0
                · subst e; rw [HNN.out.1]; exact hn
                · exact hg.out j (by omega)
              clear hn hg
              go_wp2
              rw [idx37_0]
              go_wp2_with (go_at_call 45; refine (among_is _ _ _ true _ HN.out).mono ?_; rintro e w4 ⟨rfl, rfl⟩)
              go_roundw
              case rel => exact ⟨0 + 1, by omega, by go_num, H, (by repeat (first | with_reducible exact Below.refl _ _ | with_reducible assumption | with_reducible refine Below.drew ?_ | with_reducible refine below_drewN ?_ _ | (with_reducible refine Below.alloc ?_ ?_ _; rotate_left; (try simp) <;> omega) | (with_reducible refine Below.setCell ?_ ?_ _; rotate_left; (try simp) <;> omega))), hX⟩
              case measure => simp [intOf]
            · have hn' : norB n1 = false := by simpa using hn
              have HN : Hid ((decide (-1000000000000 ≤ n1) && decide (n1 ≤ 1000000000000)) = false) := hn'
              have E : Hid (cpB l x y z ⟨n1, n2, n3, pc⟩ = false) := by show _ = _; rw [HC2.out]; rw [hn']; simp
              clear hn hn' hg
              go_wp2
              rw [idx37_0]
              go_wp2_with (go_at_call 45; refine (among_is _ _ _ false _ HN.out).mono ?_; rintro e w4 ⟨rfl, rfl⟩)
              go_ret
              exact sh_ret E.out.symm (by repeat (first | with_reducible exact Below.refl _ _ | with_reducible assumption | with_reducible refine Below.drew ?_ | with_reducible refine below_drewN ?_ _ | (with_reducible refine Below.alloc ?_ ?_ _; rotate_left; (try simp) <;> omega) | (with_reducible refine Below.setCell ?_ ?_ _; rotate_left; (try simp) <;> omega)))
          | 1, _ =>
            by_cases hn : norB n2 = true
            · have HN : Hid ((decide (-1000000000000 ≤ n2) && decide (n2 ≤ 1000000000000)) = true) := hn
              have H : Hid (∀ j, j < 1 + 1 → norB (N j) = true) := fun j hj => by
                by_cases e : j = 1
                · subst e; rw [HNN.out.2.1]; exact hn
                · exact hg.out j (by omega)
              clear hn hg
              go_wp2
              rw [idx37_1]
              go_wp2_with (go_at_call 45; refine (among_is _ _ _ true _ HN.out).mono ?_; rintro e w4 ⟨rfl, rfl⟩)
              go_roundw
              case rel => exact ⟨1 + 1, by omega, by go_num, H, (by repeat (first | with_reducible exact Below.refl _ _ | with_reducible assumption | with_reducible refine Below.drew ?_ | with_reducible refine below_drewN ?_ _ | (with_reducible refine Below.alloc ?_ ?_ _; rotate_left; (try simp) <;> omega) | (with_reducible refine Below.setCell ?_ ?_ _; rotate_left; (try simp) <;> omega))), hX⟩
              case measure => simp [intOf]
            · have hn' : norB n2 = false := by simpa using hn
              have HN : Hid ((decide (-1000000000000 ≤ n2) && decide (n2 ≤ 1000000000000)) = false) := hn'
              have E : Hid (cpB l x y z ⟨n1, n2, n3, pc⟩ = false) := by show _ = _; rw [HC2.out]; rw [hn']; simp
              clear hn hn' hg
              go_wp2
              rw [idx37_1]
              go_wp2_with (go_at_call 45; refine (among_is _ _ _ false _ HN.out).mono ?_; rintro e w4 ⟨rfl, rfl⟩)
              go_ret
              exact sh_ret E.out.symm (by repeat (first | with_reducible exact Below.refl _ _ | with_reducible assumption | with_reducible refine Below.drew ?_ | with_reducible refine below_drewN ?_ _ | (with_reducible refine Below.alloc ?_ ?_ _; rotate_left; (try simp) <;> omega) | (with_reducible refine Below.setCell ?_ ?_ _; rotate_left; (try simp) <;> omega)))
          | 2, _ =>
            by_cases hn : norB n3 = true
            · have HN : Hid ((decide (-1000000000000 ≤ n3) && decide (n3 ≤ 1000000000000)) = true) := hn
              have H : Hid (∀ j, j < 2 + 1 → norB (N j) = true) := fun j hj => by
                by_cases e : j = 2
                · subst e; rw [HNN.out.2.2]; exact hn
                · exact hg.out j (by omega)
              clear hn hg
              go_wp2
              rw [idx37_2]
              go_wp2_with (go_at_call 45; refine (among_is _ _ _ true _ HN.out).mono ?_; rintro e w4 ⟨rfl, rfl⟩)
              go_roundw
              case rel => exact ⟨2 + 1, by omega, by go_num, H, (by repeat (first | with_reducible exact Below.refl _ _ | with_reducible assumption | with_reducible refine Below.drew ?_ | with_reducible refine below_drewN ?_ _ | (with_reducible refine Below.alloc ?_ ?_ _; rotate_left; (try simp) <;> omega) | (with_reducible refine Below.setCell ?_ ?_ _; rotate_left; (try simp) <;> omega))), hX⟩
              case measure => simp [intOf]
            · have hn' : norB n3 = false := by simpa using hn
              have HN : Hid ((decide (-1000000000000 ≤ n3) && decide (n3 ≤ 1000000000000)) = false) := hn'
              have E : Hid (cpB l x y z ⟨n1, n2, n3, pc⟩ = false) := by show _ = _; rw [HC2.out]; rw [hn']; simp
              clear hn hn' hg
              go_wp2
              rw [idx37_2]
              go_wp2_with (go_at_call 45; refine (among_is _ _ _ false _ HN.out).mono ?_; rintro e w4 ⟨rfl, rfl⟩)
              go_ret
              exact sh_ret E.out.symm (by repeat (first | with_reducible exact Below.refl _ _ | with_reducible assumption | with_reducible refine Below.drew ?_ | with_reducible refine below_drewN ?_ _ | (with_reducible refine Below.alloc ?_ ?_ _; rotate_left; (try simp) <;> omega) | (with_reducible refine Below.setCell ?_ ?_ _; rotate_left; (try simp) <;> omega)))
        · obtain rfl : k = 3 := by omega
          have hnn := HNN.out
          have hpl : planeB ⟨n1, n2, n3, pc⟩ = true := by
            unfold planeB
            dsimp only
            rw [HB3.out, ← hnn.1, ← hnn.2.1, ← hnn.2.2, hg.out 0 (by omega), hg.out 1 (by omega), hg.out 2 (by omega)]; rfl
          have HOn' := Lib.hid (HOn.out (planeB_ok hpl))
          have HAn' := Lib.hid (HAn.out (planeB_ok hpl))
          have HC3 : Hid (cpB l x y z ⟨n1, n2, n3, pc⟩ = (decide (pc < v) && !(l.any (beyP ⟨n1, n2, n3, pc⟩)))) := by
            show _ = _
            rw [HC2.out, ← hnn.1, ← hnn.2.1, ← hnn.2.2, hg.out 0 (by omega), hg.out 1 (by omega), hg.out 2 (by omega)]; rfl
          clear hnn hpl hg HNN HOn HAn HC2 HB3
          obtain ⟨⟨g0, g1⟩, ⟨x0, x1, x2⟩, y0, y1, y2, y3⟩ := hX.facts
          go_wp2
          have hV := Bk.new wr 84 #[.int .i64 n1, .int .i64 n2, .int .i64 n3]
          have hXa := hX.alloc (.cells #[.int .i64 n1, .int .i64 n2, .int .i64 n3] 84)
          have hBa : Below w.heap.size w (wr.alloc (.cells #[.int .i64 n1, .int .i64 n2, .int .i64 n3] 84)) := hbw.alloc hbw.size _
          obtain ⟨wa, hwa⟩ : ∃ wa, wa = wr.alloc (.cells #[.int .i64 n1, .int .i64 n2, .int .i64 n3] 84) := ⟨_, rfl⟩
          rw [← hwa] at hV hXa hBa ⊢
          clear hwa g0 g1 x0 x1 x2 y0 y1 y2 y3 hX
          obtain ⟨⟨g0, g1⟩, ⟨x0, x1, x2⟩, y0, y1, y2, y3⟩ := hXa.facts
          have lv := hV.lt
          have m0 := hV.cell 0 rfl
          have m1 := hV.cell 1 rfl
          have m2 := hV.cell 2 rfl
          have HK : Hid (∀ w', Below wa.heap.size wa w' → (w'.cell? ⟨w.heap.size, 0, none⟩ = some (.int .i64 x) ∧ w'.cell? ⟨w.heap.size, 1, none⟩ = some (.int .i64 y) ∧ w'.cell? ⟨w.heap.size, 2, none⟩ = some (.int .i64 z)) ∧ w'.cell? ⟨w.heap.size + 1, 3, none⟩ = some (.int .i64 pc) ∧ (w'.cell? ⟨wr.heap.size, 0, none⟩ = some (.int .i64 n1) ∧ w'.cell? ⟨wr.heap.size, 1, none⟩ = some (.int .i64 n2) ∧ w'.cell? ⟨wr.heap.size, 2, none⟩ = some (.int .i64 n3))) := fun W hW =>
            ⟨⟨(hW.cell g0).trans x0, (hW.cell g0).trans x1, (hW.cell g0).trans x2⟩, (hW.cell g1).trans y3, ⟨(hW.cell lv).trans m0, (hW.cell lv).trans m1, (hW.cell lv).trans m2⟩⟩
          by_cases hlt : pc < v
          · have HCt : Hid (cpB l x y z ⟨n1, n2, n3, pc⟩ = !(l.any (beyP ⟨n1, n2, n3, pc⟩))) := by show _ = _; rw [HC3.out, decide_eq_true hlt]; rfl
            clear HC3
            refine wp_region_held_drew (S := fun w' => (w'.cell? ⟨w.heap.size, 0, none⟩ = some (.int .i64 x) ∧ w'.cell? ⟨w.heap.size, 1, none⟩ = some (.int .i64 y) ∧ w'.cell? ⟨w.heap.size, 2, none⟩ = some (.int .i64 z)) ∧ w'.cell? ⟨w.heap.size + 1, 3, none⟩ = some (.int .i64 pc) ∧ (w'.cell? ⟨wr.heap.size, 0, none⟩ = some (.int .i64 n1) ∧ w'.cell? ⟨wr.heap.size, 1, none⟩ = some (.int .i64 n2) ∧ w'.cell? ⟨wr.heap.size, 2, none⟩ = some (.int .i64 n3))) (by kernel_rfl) ?_ (fun hHeld => ?_)
            · exact ⟨⟨x0, x1, x2⟩, y3, ⟨m0, m1, m2⟩⟩
            (refine held_take 0 (some 31) ?_ rfl (by kernel_rfl) (by kernel_rfl) (by kernel_rfl) (by rfl) (fun _ _ _ h => h) (by assumption) (fun w hSw => ?_) ?_; rotate_left; ((try dsimp only at hSw); simp only [List.getElem?_toArray, List.getElem?_cons_zero, List.getElem?_cons_succ, Option.map_some]; refine congrArg some ?_; go_simp; (try with_reducible rfl)); (try simp only [Act.put, List.setIfInBounds_toArray, List.set_cons_zero, List.set_cons_succ]))
            (refine held_take 1 (some 32) ?_ rfl (by kernel_rfl) (by kernel_rfl) (by kernel_rfl) (by rfl) (fun _ _ _ h => h) (by assumption) (fun w hSw => ?_) ?_; rotate_left; ((try dsimp only at hSw); simp only [List.getElem?_toArray, List.getElem?_cons_zero, List.getElem?_cons_succ, Option.map_some]; refine congrArg some ?_; go_simp; (try with_reducible rfl)); (try simp only [Act.put, List.setIfInBounds_toArray, List.set_cons_zero, List.set_cons_succ]))
            (refine held_take 3 (some 34) ?_ rfl (by kernel_rfl) (by kernel_rfl) (by kernel_rfl) (by rfl) (fun _ _ _ h => h) (by assumption) (fun w hSw => ?_) ?_; rotate_left; ((try dsimp only at hSw); simp only [List.getElem?_toArray, List.getElem?_cons_zero, List.getElem?_cons_succ, Option.map_some]; refine congrArg some ?_; go_simp; (try with_reducible rfl)); (try simp only [Act.put, List.setIfInBounds_toArray, List.set_cons_zero, List.set_cons_succ]))
            (refine held_take 4 (some 35) ?_ rfl (by kernel_rfl) (by kernel_rfl) (by kernel_rfl) (by rfl) (fun _ _ _ h => h) (by assumption) (fun w hSw => ?_) ?_; rotate_left; ((try dsimp only at hSw); simp only [List.getElem?_toArray, List.getElem?_cons_zero, List.getElem?_cons_succ, Option.map_some]; refine congrArg some ?_; go_simp; (try with_reducible rfl)); (try simp only [Act.put, List.setIfInBounds_toArray, List.set_cons_zero, List.set_cons_succ]))
            refine held_call 2 (some 33) 46 _ rfl (by kernel_rfl) (by rfl) ?_ (HOn'.out _) ?_
            · simp only [List.getElem?_toArray, List.getElem?_cons_zero, List.getElem?_cons_succ, Option.map_some]
              refine congrArg some ?_
              go_simp
            rintro e w5 ⟨rfl, hb5⟩
            have hR5 : Below wa.heap.size wa w5 := (Below.drew (Below.refl _ _)).trans hb5
            refine ⟨_, rfl, HK.out w5 hR5, fun hHeld => ?_⟩
            (try simp only [Act.put, List.setIfInBounds_toArray, List.set_cons_zero, List.set_cons_succ])
            (refine held_take 5 (some 36) ?_ rfl (by kernel_rfl) (by kernel_rfl) (by kernel_rfl) (by rfl) (fun _ _ _ h => h) (by assumption) (fun w hSw => ?_) ?_; rotate_left; ((try dsimp only at hSw); simp only [List.getElem?_toArray, List.getElem?_cons_zero, List.getElem?_cons_succ, Option.map_some]; refine congrArg some ?_; go_simp; (try with_reducible rfl)); (try simp only [Act.put, List.setIfInBounds_toArray, List.set_cons_zero, List.set_cons_succ]))
            (refine held_take 6 (some 37) ?_ rfl (by kernel_rfl) (by kernel_rfl) (by kernel_rfl) (by rfl) (fun _ _ _ h => h) (by assumption) (fun w hSw => ?_) ?_; rotate_left; ((try dsimp only at hSw); simp only [List.getElem?_toArray, List.getElem?_cons_zero, List.getElem?_cons_succ, Option.map_some]; refine congrArg some ?_; go_simp; (try with_reducible rfl)); (try simp only [Act.put, List.setIfInBounds_toArray, List.set_cons_zero, List.set_cons_succ]))
            (refine held_take 7 (some 38) ?_ rfl (by kernel_rfl) (by kernel_rfl) (by kernel_rfl) (by rfl) (fun _ _ _ h => h) (by assumption) (fun w hSw => ?_) ?_; rotate_left; ((try dsimp only at hSw); simp only [List.getElem?_toArray, List.getElem?_cons_zero, List.getElem?_cons_succ, Option.map_some]; refine congrArg some ?_; go_simp; (try with_reducible rfl)); (try simp only [Act.put, List.setIfInBounds_toArray, List.set_cons_zero, List.set_cons_succ]))
            (refine held_take 8 (some 39) ?_ rfl (by kernel_rfl) (by kernel_rfl) (by kernel_rfl) (by rfl) (fun _ _ _ h => h) (by assumption) (fun w hSw => ?_) ?_; rotate_left; ((try dsimp only at hSw); simp only [List.getElem?_toArray, List.getElem?_cons_zero, List.getElem?_cons_succ, Option.map_some]; refine congrArg some ?_; go_simp; (try with_reducible rfl)); (try simp only [Act.put, List.setIfInBounds_toArray, List.set_cons_zero, List.set_cons_succ]))
            refine held_call 9 (some 40) 47 _ rfl (by kernel_rfl) (by simp [Region.wanted, yielded, hlt]) ?_ (HAn'.out _ wr.heap.size (w.heap.size + 1) (hBa.trans (hR5.mono hBa.size)) (hV.below hR5 lv) (hXa.2.below hR5 g1)) ?_
            · simp only [List.getElem?_toArray, List.getElem?_cons_zero, List.getElem?_cons_succ, Option.map_some]
              refine congrArg some ?_
              go_simp
            rintro e w6 ⟨rfl, hb6⟩
            have hR6 : Below wa.heap.size wa w6 := hR5.trans (hb6.mono hR5.size)
            have hB6 : Below w.heap.size w w6 := hBa.trans (hR6.mono hBa.size)
            refine ⟨_, rfl, HK.out w6 hR6, fun hHeld => ?_⟩
            (try simp only [Act.put, List.setIfInBounds_toArray, List.set_cons_zero, List.set_cons_succ])
            (refine held_take 10 (some 41) ?_ rfl (by kernel_rfl) (by kernel_rfl) (by kernel_rfl) (by rfl) (fun _ _ _ h => h) (by assumption) (fun w hSw => ?_) ?_; rotate_left; ((try dsimp only at hSw); simp only [List.getElem?_toArray, List.getElem?_cons_zero, List.getElem?_cons_succ, Option.map_some]; refine congrArg some ?_; go_simp; (try with_reducible rfl)); (try simp only [Act.put, List.setIfInBounds_toArray, List.set_cons_zero, List.set_cons_succ]))
            (refine held_take 11 (some 42) ?_ rfl (by kernel_rfl) (by kernel_rfl) (by kernel_rfl) (by rfl) (fun _ _ _ h => h) (by assumption) (fun w hSw => ?_) ?_; rotate_left; ((try dsimp only at hSw); simp only [List.getElem?_toArray, List.getElem?_cons_zero, List.getElem?_cons_succ, Option.map_some]; refine congrArg some ?_; go_simp; (try with_reducible rfl)); (try simp only [Act.put, List.setIfInBounds_toArray, List.set_cons_zero, List.set_cons_succ]))
            (refine held_take 12 (some 6) ?_ rfl (by kernel_rfl) (by kernel_rfl) (by kernel_rfl) (by rfl) (fun _ _ _ h => h) (by assumption) (fun w hSw => ?_) ?_; rotate_left; ((try dsimp only at hSw); simp only [List.getElem?_toArray, List.getElem?_cons_zero, List.getElem?_cons_succ, Option.map_some]; refine congrArg some ?_; go_simp; (try with_reducible rfl)); (try simp only [Act.put, List.setIfInBounds_toArray, List.set_cons_zero, List.set_cons_succ]))
            refine wpAnyH_done (by kernel_rfl) ?_ _
            go_wp2
            go_ret
            exact sh_ret HCt.out.symm (by repeat (first | with_reducible exact Below.refl _ _ | with_reducible assumption | with_reducible refine Below.drew ?_ | with_reducible refine below_drewN ?_ _ | (with_reducible refine Below.alloc ?_ ?_ _; rotate_left; (try simp) <;> omega) | (with_reducible refine Below.setCell ?_ ?_ _; rotate_left; (try simp) <;> omega)))
          · have HCf : Hid (cpB l x y z ⟨n1, n2, n3, pc⟩ = false) := by show _ = _; rw [HC3.out, decide_eq_false hlt]; rfl
            clear HC3
            refine wp_region_held_drew (S := fun w' => (w'.cell? ⟨w.heap.size, 0, none⟩ = some (.int .i64 x) ∧ w'.cell? ⟨w.heap.size, 1, none⟩ = some (.int .i64 y) ∧ w'.cell? ⟨w.heap.size, 2, none⟩ = some (.int .i64 z)) ∧ w'.cell? ⟨w.heap.size + 1, 3, none⟩ = some (.int .i64 pc) ∧ (w'.cell? ⟨wr.heap.size, 0, none⟩ = some (.int .i64 n1) ∧ w'.cell? ⟨wr.heap.size, 1, none⟩ = some (.int .i64 n2) ∧ w'.cell? ⟨wr.heap.size, 2, none⟩ = some (.int .i64 n3))) (by kernel_rfl) ?_ (fun hHeld => ?_)
            · exact ⟨⟨x0, x1, x2⟩, y3, ⟨m0, m1, m2⟩⟩
            (refine held_take 0 (some 31) ?_ rfl (by kernel_rfl) (by kernel_rfl) (by kernel_rfl) (by rfl) (fun _ _ _ h => h) (by assumption) (fun w hSw => ?_) ?_; rotate_left; ((try dsimp only at hSw); simp only [List.getElem?_toArray, List.getElem?_cons_zero, List.getElem?_cons_succ, Option.map_some]; refine congrArg some ?_; go_simp; (try with_reducible rfl)); (try simp only [Act.put, List.setIfInBounds_toArray, List.set_cons_zero, List.set_cons_succ]))
            (refine held_take 1 (some 32) ?_ rfl (by kernel_rfl) (by kernel_rfl) (by kernel_rfl) (by rfl) (fun _ _ _ h => h) (by assumption) (fun w hSw => ?_) ?_; rotate_left; ((try dsimp only at hSw); simp only [List.getElem?_toArray, List.getElem?_cons_zero, List.getElem?_cons_succ, Option.map_some]; refine congrArg some ?_; go_simp; (try with_reducible rfl)); (try simp only [Act.put, List.setIfInBounds_toArray, List.set_cons_zero, List.set_cons_succ]))
            (refine held_take 3 (some 34) ?_ rfl (by kernel_rfl) (by kernel_rfl) (by kernel_rfl) (by rfl) (fun _ _ _ h => h) (by assumption) (fun w hSw => ?_) ?_; rotate_left; ((try dsimp only at hSw); simp only [List.getElem?_toArray, List.getElem?_cons_zero, List.getElem?_cons_succ, Option.map_some]; refine congrArg some ?_; go_simp; (try with_reducible rfl)); (try simp only [Act.put, List.setIfInBounds_toArray, List.set_cons_zero, List.set_cons_succ]))
            (refine held_take 4 (some 35) ?_ rfl (by kernel_rfl) (by kernel_rfl) (by kernel_rfl) (by rfl) (fun _ _ _ h => h) (by assumption) (fun w hSw => ?_) ?_; rotate_left; ((try dsimp only at hSw); simp only [List.getElem?_toArray, List.getElem?_cons_zero, List.getElem?_cons_succ, Option.map_some]; refine congrArg some ?_; go_simp; (try with_reducible rfl)); (try simp only [Act.put, List.setIfInBounds_toArray, List.set_cons_zero, List.set_cons_succ]))
            refine held_call 2 (some 33) 46 _ rfl (by kernel_rfl) (by rfl) ?_ (HOn'.out _) ?_
            · simp only [List.getElem?_toArray, List.getElem?_cons_zero, List.getElem?_cons_succ, Option.map_some]
              refine congrArg some ?_
              go_simp
            rintro e w5 ⟨rfl, hb5⟩
            have hR5 : Below wa.heap.size wa w5 := (Below.drew (Below.refl _ _)).trans hb5
            refine ⟨_, rfl, HK.out w5 hR5, fun hHeld => ?_⟩
            (try simp only [Act.put, List.setIfInBounds_toArray, List.set_cons_zero, List.set_cons_succ])
            (refine held_take 5 (some 36) ?_ rfl (by kernel_rfl) (by kernel_rfl) (by kernel_rfl) (by rfl) (fun _ _ _ h => h) (by assumption) (fun w hSw => ?_) ?_; rotate_left; ((try dsimp only at hSw); simp only [List.getElem?_toArray, List.getElem?_cons_zero, List.getElem?_cons_succ, Option.map_some]; refine congrArg some ?_; go_simp; (try with_reducible rfl)); (try simp only [Act.put, List.setIfInBounds_toArray, List.set_cons_zero, List.set_cons_succ]))
            (refine held_take 6 (some 37) ?_ rfl (by kernel_rfl) (by kernel_rfl) (by kernel_rfl) (by rfl) (fun _ _ _ h => h) (by assumption) (fun w hSw => ?_) ?_; rotate_left; ((try dsimp only at hSw); simp only [List.getElem?_toArray, List.getElem?_cons_zero, List.getElem?_cons_succ, Option.map_some]; refine congrArg some ?_; go_simp; (try with_reducible rfl)); (try simp only [Act.put, List.setIfInBounds_toArray, List.set_cons_zero, List.set_cons_succ]))
            (refine held_skip 7 (some 38) rfl (by kernel_rfl) (by kernel_rfl) (by kernel_rfl) (by rfl) (fun _ _ _ h => h) (by assumption) ?_; (try simp only [Act.put, List.setIfInBounds_toArray, List.set_cons_zero, List.set_cons_succ]))
            (refine held_skip 8 (some 39) rfl (by kernel_rfl) (by kernel_rfl) (by kernel_rfl) (by rfl) (fun _ _ _ h => h) (by assumption) ?_; (try simp only [Act.put, List.setIfInBounds_toArray, List.set_cons_zero, List.set_cons_succ]))
            (refine held_skip 9 (some 40) rfl (by kernel_rfl) (by kernel_rfl) (by kernel_rfl) (by rfl) (fun _ _ _ h => h) (by assumption) ?_; (try simp only [Act.put, List.setIfInBounds_toArray, List.set_cons_zero, List.set_cons_succ]))
            (refine held_skip 10 (some 41) rfl (by kernel_rfl) (by kernel_rfl) (by kernel_rfl) (by rfl) (fun _ _ _ h => h) (by assumption) ?_; (try simp only [Act.put, List.setIfInBounds_toArray, List.set_cons_zero, List.set_cons_succ]))
            (refine held_take 11 (some 42) ?_ rfl (by kernel_rfl) (by kernel_rfl) (by kernel_rfl) (by rfl) (fun _ _ _ h => h) (by assumption) (fun w hSw => ?_) ?_; rotate_left; ((try dsimp only at hSw); simp only [List.getElem?_toArray, List.getElem?_cons_zero, List.getElem?_cons_succ, Option.map_some]; refine congrArg some ?_; go_simp; (try with_reducible rfl)); (try simp only [Act.put, List.setIfInBounds_toArray, List.set_cons_zero, List.set_cons_succ]))
            (refine held_take 12 (some 6) ?_ rfl (by kernel_rfl) (by kernel_rfl) (by kernel_rfl) (by rfl) (fun _ _ _ h => h) (by assumption) (fun w hSw => ?_) ?_; rotate_left; ((try dsimp only at hSw); simp only [List.getElem?_toArray, List.getElem?_cons_zero, List.getElem?_cons_succ, Option.map_some]; refine congrArg some ?_; go_simp; (try with_reducible rfl)); (try simp only [Act.put, List.setIfInBounds_toArray, List.set_cons_zero, List.set_cons_succ]))
            refine wpAnyH_done (by kernel_rfl) ?_ _
            have hB5 : Below w.heap.size w w5 := hBa.trans (hR5.mono hBa.size)
            go_wp2
            go_ret
            exact sh_ret HCf.out.symm (by repeat (first | with_reducible exact Below.refl _ _ | with_reducible assumption | with_reducible refine Below.drew ?_ | with_reducible refine below_drewN ?_ _ | (with_reducible refine Below.alloc ?_ ?_ _; rotate_left; (try simp) <;> omega) | (with_reducible refine Below.setCell ?_ ?_ _; rotate_left; (try simp) <;> omega)))
    · have h3' : asideB pc = false := by simpa using h3
      have H3 : Hid ((decide (-10000000000000000 ≤ pc) && decide (pc ≤ 10000000000000000)) = false) := h3'
      have E : Hid (cpB l x y z ⟨n1, n2, n3, pc⟩ = false) := by show _ = _; rw [HC.out]; unfold planeB; dsimp only; rw [h3']; simp
      rw [h0] at HW
      clear h0 h3 h3' hoff hsh hlt hs HC
      go_enter Try.func19, Try.ntmps19
      go_wp2_with (first | (go_at_call 36; refine (HW.out _ (by repeat (first | with_reducible exact Below.refl _ _ | with_reducible assumption | with_reducible refine Below.drew ?_ | with_reducible refine below_drewN ?_ _ | (with_reducible refine Below.alloc ?_ ?_ _; rotate_left; (try simp) <;> omega) | (with_reducible refine Below.setCell ?_ ?_ _; rotate_left; (try simp) <;> omega)))).mono ?_; rintro e w1 ⟨rfl, hb1⟩; have X1 := (B2.new (x := x) (y := y) (z := z) (p := ⟨n1, n2, n3, pc⟩) w).below hb1 (by simp); obtain ⟨⟨g0, g1⟩, ⟨x0, x1, x2⟩, y0, y1, y2, y3⟩ := X1.facts; have hB1 : Below w.heap.size w w1 := (Below.trans (by repeat (first | with_reducible exact Below.refl _ _ | with_reducible assumption | with_reducible refine Below.drew ?_ | with_reducible refine below_drewN ?_ _ | (with_reducible refine Below.alloc ?_ ?_ _; rotate_left; (try simp) <;> omega) | (with_reducible refine Below.setCell ?_ ?_ _; rotate_left; (try simp) <;> omega))) (hb1.mono (by first | omega | (simp; omega) | simp)))) | (go_at_call 45; refine (among_is _ _ _ false _ H3.out).mono ?_; rintro e w2 ⟨rfl, rfl⟩))
      go_ret
      exact sh_ret E.out.symm (by repeat (first | with_reducible exact Below.refl _ _ | with_reducible assumption | with_reducible refine Below.drew ?_ | with_reducible refine below_drewN ?_ _ | (with_reducible refine Below.alloc ?_ ?_ _; rotate_left; (try simp) <;> omega) | (with_reducible refine Below.setCell ?_ ?_ _; rotate_left; (try simp) <;> omega)))
  · have E : Hid (cpB l x y z ⟨n1, n2, n3, pc⟩ = false) := by show _ = _; rw [HC.out, decide_eq_false h0]; rfl
    generalize chkW l x y z = q at *
    have hq1 : (q != 0) = true := by rw [bne_iff_ne]; exact h0
    clear h0 hlt hs HC
    go_enter Try.func19, Try.ntmps19
    go_wp2_with (go_at_call 36; refine (HW.out _ (by repeat (first | with_reducible exact Below.refl _ _ | with_reducible assumption | with_reducible refine Below.drew ?_ | with_reducible refine below_drewN ?_ _ | (with_reducible refine Below.alloc ?_ ?_ _; rotate_left; (try simp) <;> omega) | (with_reducible refine Below.setCell ?_ ?_ _; rotate_left; (try simp) <;> omega)))).mono ?_; rintro e w1 ⟨rfl, hb1⟩)
    go_ret
    exact sh_ret E.out.symm (Below.trans (by repeat (first | with_reducible exact Below.refl _ _ | with_reducible assumption | with_reducible refine Below.drew ?_ | with_reducible refine below_drewN ?_ _ | (with_reducible refine Below.alloc ?_ ?_ _; rotate_left; (try simp) <;> omega) | (with_reducible refine Below.setCell ?_ ?_ _; rotate_left; (try simp) <;> omega))) (hb1.mono (by first | omega | (simp; omega) | simp)))
end Go.Proofs.Ytkjceegmmhnajaa
