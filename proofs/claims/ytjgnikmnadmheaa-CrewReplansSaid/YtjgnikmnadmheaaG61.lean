/- crew.suits, for right yards and tasks. Printed by wip/gen_s9.py. -/
import Derived.RangeFuncNested
import Derived.RangeFuncBound
import Derived.RangeFuncCalls
import Derived.RangeFuncLeaves
import Derived.OwnWalkIn
import Derived.TacticsInMore
import Derived.LoopNIn
import Derived.LoopIn
import Derived.Outline
import Derived.Test.YtjgnikmnadmheaaG02
import Derived.Test.YtjgnikmnadmheaaG07

namespace Go.Proofs.Ytjgnikmnadmheaa
open Go.RowKit

set_option maxRecDepth 100000 in
set_option maxHeartbeats 1000000 in
theorem suits_any (C : Array Value) (Y : Yd) (l : List Tk) (A : Option Addr) (c : Nat) (i : Nat) (d : Int) (w : World) (hY : YardAt w w.heap.size C Y) (hv : Valid Y) (hT : TasksAt w w.heap.size A l) (hl : l.length ≤ 1000) (hi : i < l.length) :
    Calls Try.prog 97 #[.agg C, .slice A l.length c, .int .i64 i, .int .i64 d] w (ShEnd (suitB Y l[i] i d) w) := by
  have hi0 : (0 : Int) ≤ (i : Int) := by omega
  have hi1 : (i : Int) < (l.length : Int) := by omega
  obtain ⟨ad, hA, hadb, c0, c1, c2, c3⟩ := task_at hT.at_ hi
  subst hA
  have hadb' : (ad.add (i * 4)).block < w.heap.size := by rw [add_block]; exact hadb
  have HYA := Lib.hid (fun W (hb : Below w.heap.size w W) => (hY.below hb (Nat.le_refl _)).more hb.size)
  have HV := Lib.hid hv
  have HN := Lib.hid (fun k (hk : k < 4) (h : condN Y l[i] i d k = false) => show Hid (suitB Y l[i] i d = false) from suitB_no hk h)
  have HS := Lib.hid (fun (h : ∀ k, k < 4 → condN Y l[i] i d k = true) => show Hid (suitB Y l[i] i d = true) from suitB_yes h)
  clear hY hv hT
  generalize hq : suitB Y l[i] i d = q at *
  have HQ := Lib.hid hq; clear hq
  generalize l[i] = t at *
  obtain ⟨wk, nd, aA, ac, af, cA, cc, co⟩ := t
  try dsimp only at *
  have hb3 : Below w.heap.size w (((w.alloc (.cells C 29)).alloc (.cells #[.int .i64 i] 3)).alloc (.cells #[.int .i64 d] 3)) := by exact (by repeat (first | with_reducible exact Below.refl _ _ | with_reducible assumption | with_reducible refine Below.drew ?_ | with_reducible refine below_drewN ?_ _ | (with_reducible refine Below.alloc ?_ ?_ _; rotate_left; (try simp) <;> omega) | (with_reducible refine Below.setCell ?_ ?_ _; rotate_left; (try simp) <;> omega)))
  have y0 := (hb3.cell (p := ad.add (i * 4)) hadb').trans c0
  have y1 := (hb3.cell (p := ⟨(ad.add (i * 4)).block, (ad.add (i * 4)).off + 1, none⟩) hadb').trans c1
  have y2 := (hb3.cell (p := ⟨(ad.add (i * 4)).block, (ad.add (i * 4)).off + 2, none⟩) hadb').trans c2
  have y3 := (hb3.cell (p := ⟨(ad.add (i * 4)).block, (ad.add (i * 4)).off + 3, none⟩) hadb').trans c3
  clear c0 c1 c2 c3 hb3
  go_enter Try.func97, Try.ntmps97
  go_upto_region 4 with fail
  have k0 : Bk (((((w.alloc (.cells C 29)).alloc (.cells #[.int .i64 i] 3)).alloc (.cells #[.int .i64 d] 3)).alloc (.cells #[.int .i64 wk, .int .i64 nd, .slice aA af.length ac, .slice cA co.length cc] 48)).alloc (.cells #[fnOfK w.heap.size 0, fnOfK w.heap.size 1, fnOfK w.heap.size 2, fnOfK w.heap.size 3] 32)) w.heap.size 29 C := ((((Bk.new _ _ _).alloc _).alloc _).alloc _).alloc _
  have k1 : Bk (((((w.alloc (.cells C 29)).alloc (.cells #[.int .i64 i] 3)).alloc (.cells #[.int .i64 d] 3)).alloc (.cells #[.int .i64 wk, .int .i64 nd, .slice aA af.length ac, .slice cA co.length cc] 48)).alloc (.cells #[fnOfK w.heap.size 0, fnOfK w.heap.size 1, fnOfK w.heap.size 2, fnOfK w.heap.size 3] 32)) (w.heap.size + 1) 3 #[.int .i64 i] := (((by simpa using Bk.new (w.alloc (.cells C 29)) 3 #[.int .i64 i] : Bk ((w.alloc (.cells C 29)).alloc (.cells #[.int .i64 i] 3)) (w.heap.size + 1) 3 #[.int .i64 i]).alloc _).alloc _).alloc _
  have k2 : Bk (((((w.alloc (.cells C 29)).alloc (.cells #[.int .i64 i] 3)).alloc (.cells #[.int .i64 d] 3)).alloc (.cells #[.int .i64 wk, .int .i64 nd, .slice aA af.length ac, .slice cA co.length cc] 48)).alloc (.cells #[fnOfK w.heap.size 0, fnOfK w.heap.size 1, fnOfK w.heap.size 2, fnOfK w.heap.size 3] 32)) (w.heap.size + 1 + 1) 3 #[.int .i64 d] := ((by simpa using Bk.new ((w.alloc (.cells C 29)).alloc (.cells #[.int .i64 i] 3)) 3 #[.int .i64 d] : Bk (((w.alloc (.cells C 29)).alloc (.cells #[.int .i64 i] 3)).alloc (.cells #[.int .i64 d] 3)) (w.heap.size + 1 + 1) 3 #[.int .i64 d]).alloc _).alloc _
  have k3 : Bk (((((w.alloc (.cells C 29)).alloc (.cells #[.int .i64 i] 3)).alloc (.cells #[.int .i64 d] 3)).alloc (.cells #[.int .i64 wk, .int .i64 nd, .slice aA af.length ac, .slice cA co.length cc] 48)).alloc (.cells #[fnOfK w.heap.size 0, fnOfK w.heap.size 1, fnOfK w.heap.size 2, fnOfK w.heap.size 3] 32)) (w.heap.size + 1 + 1 + 1) 48 #[.int .i64 wk, .int .i64 nd, .slice aA af.length ac, .slice cA co.length cc] := (by simpa using Bk.new (((w.alloc (.cells C 29)).alloc (.cells #[.int .i64 i] 3)).alloc (.cells #[.int .i64 d] 3)) 48 #[.int .i64 wk, .int .i64 nd, .slice aA af.length ac, .slice cA co.length cc] : Bk ((((w.alloc (.cells C 29)).alloc (.cells #[.int .i64 i] 3)).alloc (.cells #[.int .i64 d] 3)).alloc (.cells #[.int .i64 wk, .int .i64 nd, .slice aA af.length ac, .slice cA co.length cc] 48)) (w.heap.size + 1 + 1 + 1) 48 #[.int .i64 wk, .int .i64 nd, .slice aA af.length ac, .slice cA co.length cc]).alloc _
  have k4 : Bk (((((w.alloc (.cells C 29)).alloc (.cells #[.int .i64 i] 3)).alloc (.cells #[.int .i64 d] 3)).alloc (.cells #[.int .i64 wk, .int .i64 nd, .slice aA af.length ac, .slice cA co.length cc] 48)).alloc (.cells #[fnOfK w.heap.size 0, fnOfK w.heap.size 1, fnOfK w.heap.size 2, fnOfK w.heap.size 3] 32)) (w.heap.size + 1 + 1 + 1 + 1) 32 #[fnOfK w.heap.size 0, fnOfK w.heap.size 1, fnOfK w.heap.size 2, fnOfK w.heap.size 3] := by simpa using Bk.new ((((w.alloc (.cells C 29)).alloc (.cells #[.int .i64 i] 3)).alloc (.cells #[.int .i64 d] 3)).alloc (.cells #[.int .i64 wk, .int .i64 nd, .slice aA af.length ac, .slice cA co.length cc] 48)) 32 #[fnOfK w.heap.size 0, fnOfK w.heap.size 1, fnOfK w.heap.size 2, fnOfK w.heap.size 3]
  have hbs : Below w.heap.size w (((((w.alloc (.cells C 29)).alloc (.cells #[.int .i64 i] 3)).alloc (.cells #[.int .i64 d] 3)).alloc (.cells #[.int .i64 wk, .int .i64 nd, .slice aA af.length ac, .slice cA co.length cc] 48)).alloc (.cells #[fnOfK w.heap.size 0, fnOfK w.heap.size 1, fnOfK w.heap.size 2, fnOfK w.heap.size 3] 32)) := by exact (by repeat (first | with_reducible exact Below.refl _ _ | with_reducible assumption | with_reducible refine Below.drew ?_ | with_reducible refine below_drewN ?_ _ | (with_reducible refine Below.alloc ?_ ?_ _; rotate_left; (try simp) <;> omega) | (with_reducible refine Below.setCell ?_ ?_ _; rotate_left; (try simp) <;> omega)))
  go_loopw [24] (fun y wr => ∃ k : Nat, k ≤ 4 ∧ y = .int .i64 k ∧ Hid (∀ j, j < k → condN Y ⟨wk, nd, aA, ac, af, cA, cc, co⟩ i d j = true) ∧ Below w.heap.size w wr ∧ (Bk wr w.heap.size 29 C ∧ Bk wr (w.heap.size + 1) 3 #[.int .i64 i] ∧ Bk wr (w.heap.size + 1 + 1) 3 #[.int .i64 d] ∧ Bk wr (w.heap.size + 1 + 1 + 1) 48 #[.int .i64 wk, .int .i64 nd, .slice aA af.length ac, .slice cA co.length cc] ∧ Bk wr (w.heap.size + 1 + 1 + 1 + 1) 32 #[fnOfK w.heap.size 0, fnOfK w.heap.size 1, fnOfK w.heap.size 2, fnOfK w.heap.size 3])) (fun y _ => 4 - (intOf y).toNat)
  case atStart => exact ⟨0, by omega, rfl, fun j hj => absurd hj (by omega), hbs, k0, k1, k2, k3, k4⟩
  case round =>
  clear k0 k1 k2 k3 k4 hbs y0 y1 y2 y3
  obtain ⟨k, hk, rfl, hg, hbw, b0, b1, b2, b3, b4⟩ := hrel
  have hz := hbw.size
  have hl4 := b4.lt
  have HC1 := Lib.hid (cond1_any C Y d w.heap.size (w.heap.size + 1 + 1) wr (HYA.out wr hbw) HV.out b0 (b2.cell 0 rfl))
  have HC2 := Lib.hid (cond2_any C Y d wk w.heap.size (w.heap.size + 1 + 1) (w.heap.size + 1 + 1 + 1) wr (HYA.out wr hbw) HV.out b0 (b2.cell 0 rfl) (b3.cell 0 rfl))
  have HC3 := Lib.hid (cond3_any C Y d i w.heap.size (w.heap.size + 1 + 1) (w.heap.size + 1) wr (by omega) (HYA.out wr hbw) HV.out b0 (b2.cell 0 rfl) (b1.cell 0 rfl))
  have HC4 := Lib.hid (cond4_any C Y d nd w.heap.size (w.heap.size + 1 + 1) (w.heap.size + 1 + 1 + 1) wr (HYA.out wr hbw) HV.out b0 (b2.cell 0 rfl) (b3.cell 1 rfl))
  have hcases : k = 0 ∨ k = 1 ∨ k = 2 ∨ k = 3 ∨ k = 4 := by omega
  have HG : Hid (condN Y ⟨wk, nd, aA, ac, af, cA, cc, co⟩ i d k = true → Hid (∀ j, j < k + 1 → condN Y ⟨wk, nd, aA, ac, af, cA, cc, co⟩ i d j = true)) := fun h j hj => by
    by_cases e : j = k
    · subst e; exact h
    · exact hg.out j (by omega)
  have HNk : Hid (k < 4 → condN Y ⟨wk, nd, aA, ac, af, cA, cc, co⟩ i d k = false → Hid (q = false)) := fun hk h => HN.out k hk h
  have HS4 : Hid (k = 4 → Hid (q = true)) := fun e => HS.out (fun j hj => hg.out j (by omega))
  clear hg HN HS hk
  rcases hcases with rfl | rfl | rfl | rfl | rfl
  · have x0 := b4.cell 0 rfl
    unfold fnOfK at x0
    have HGk := HG.out
    have HNk' := HNk.out (by omega)
    have HCk := HC1
    clear HC1 HC2 HC3 HC4 HG HNk HS4
    cases hc : (openB Y d) with
    | false =>
      have H := HNk' hc
      rw [hc] at HCk
      have HX := Lib.hid hc; clear hc HGk HNk'
      go_wp2_with (go_at_call 124; refine HCk.out.mono ?_; rintro e w1 ⟨rfl, hb⟩; have hB1 : Below w.heap.size w w1 := hbw.trans (hb.mono hz))
      go_ret
      exact sh_ret H.out.symm hB1
    | true =>
      have H := HGk hc
      rw [hc] at HCk
      have HX := Lib.hid hc; clear hc HGk HNk'
      go_wp2_with (go_at_call 124; refine HCk.out.mono ?_; rintro e w1 ⟨rfl, hb⟩; have hB1 : Below w.heap.size w w1 := hbw.trans (hb.mono hz))
      go_roundw
      case rel => exact ⟨1, by omega, by first | rfl | go_num, H, hB1, b0.below hb b0.lt, b1.below hb b1.lt, b2.below hb b2.lt, b3.below hb b3.lt, b4.below hb b4.lt⟩
      case measure => simp [intOf]
  · have x1 := b4.cell 1 rfl
    unfold fnOfK at x1
    have HGk := HG.out
    have HNk' := HNk.out (by omega)
    have HCk := HC2
    clear HC1 HC2 HC3 HC4 HG HNk HS4
    cases hc : (decide (wk ≤ minOf Y d)) with
    | false =>
      have H := HNk' hc
      rw [hc] at HCk
      have HX := Lib.hid hc; clear hc HGk HNk'
      go_wp2_with (go_at_call 125; refine HCk.out.mono ?_; rintro e w1 ⟨rfl, hb⟩; have hB1 : Below w.heap.size w w1 := hbw.trans (hb.mono hz))
      go_ret
      exact sh_ret H.out.symm hB1
    | true =>
      have H := HGk hc
      rw [hc] at HCk
      have HX := Lib.hid hc; clear hc HGk HNk'
      go_wp2_with (go_at_call 125; refine HCk.out.mono ?_; rintro e w1 ⟨rfl, hb⟩; have hB1 : Below w.heap.size w w1 := hbw.trans (hb.mono hz))
      go_roundw
      case rel => exact ⟨2, by omega, by first | rfl | go_num, H, hB1, b0.below hb b0.lt, b1.below hb b1.lt, b2.below hb b2.lt, b3.below hb b3.lt, b4.below hb b4.lt⟩
      case measure => simp [intOf]
  · have x2 := b4.cell 2 rfl
    unfold fnOfK at x2
    have HGk := HG.out
    have HNk' := HNk.out (by omega)
    have HCk := HC3
    clear HC1 HC2 HC3 HC4 HG HNk HS4
    cases hc : (decide ((i : Int) + 1 ≤ batOf Y.pi d)) with
    | false =>
      have H := HNk' hc
      rw [hc] at HCk
      have HX := Lib.hid hc; clear hc HGk HNk'
      go_wp2_with (go_at_call 126; refine HCk.out.mono ?_; rintro e w1 ⟨rfl, hb⟩; have hB1 : Below w.heap.size w w1 := hbw.trans (hb.mono hz))
      go_ret
      exact sh_ret H.out.symm hB1
    | true =>
      have H := HGk hc
      rw [hc] at HCk
      have HX := Lib.hid hc; clear hc HGk HNk'
      go_wp2_with (go_at_call 126; refine HCk.out.mono ?_; rintro e w1 ⟨rfl, hb⟩; have hB1 : Below w.heap.size w w1 := hbw.trans (hb.mono hz))
      go_roundw
      case rel => exact ⟨3, by omega, by first | rfl | go_num, H, hB1, b0.below hb b0.lt, b1.below hb b1.lt, b2.below hb b2.lt, b3.below hb b3.lt, b4.below hb b4.lt⟩
      case measure => simp [intOf]
  · have x3 := b4.cell 3 rfl
    unfold fnOfK at x3
    have HGk := HG.out
    have HNk' := HNk.out (by omega)
    have HCk := HC4
    clear HC1 HC2 HC3 HC4 HG HNk HS4
    cases hc : (decide (0 < (skL Y.ma d nd).length)) with
    | false =>
      have H := HNk' hc
      rw [hc] at HCk
      have HX := Lib.hid hc; clear hc HGk HNk'
      go_wp2_with (go_at_call 127; refine HCk.out.mono ?_; rintro e w1 ⟨rfl, hb⟩; have hB1 : Below w.heap.size w w1 := hbw.trans (hb.mono hz))
      go_ret
      exact sh_ret H.out.symm hB1
    | true =>
      have H := HGk hc
      rw [hc] at HCk
      have HX := Lib.hid hc; clear hc HGk HNk'
      go_wp2_with (go_at_call 127; refine HCk.out.mono ?_; rintro e w1 ⟨rfl, hb⟩; have hB1 : Below w.heap.size w w1 := hbw.trans (hb.mono hz))
      go_roundw
      case rel => exact ⟨4, by omega, by first | rfl | go_num, H, hB1, b0.below hb b0.lt, b1.below hb b1.lt, b2.below hb b2.lt, b3.below hb b3.lt, b4.below hb b4.lt⟩
      case measure => simp [intOf]
  · have H := HS4.out rfl
    clear HC1 HC2 HC3 HC4 HG HNk HS4
    go_wp2
    go_ret
    exact sh_ret H.out.symm hbw
end Go.Proofs.Ytjgnikmnadmheaa

namespace Go.Proofs.Ytjgnikmnadmheaa
open Go.RowKit
attribute [local go_sem] Oper.semAt_some

theorem wpListIn_load_guard {P : Program} {n : Nat} {ops : Array Oper} {rest : List Oper} {op : Oper} {a : Act} {w : World} {Q : Exit → Act → World → Prop} (hgd : Region.wanted op (yielded ops a.tmps) = true) (ty : TypeId) (x : Operand) (ho : op.op = .load ty x)
    (b o : Nat) (hx : a.eval x = .pointer (some ⟨b, o, none⟩)) (cs : List Value) (d : TypeDesc) (hc : w.rangeAt b o cs)
    (hu : P.underlying ty = some d) (hd : d.isRow = true) (hi : (P.info? ty).map (·.size) = some cs.length)
    (h : wpListIn Fence.wide n P ops Q rest (a.put op.dst (.agg cs.toArray)) w) : wpListIn Fence.wide n P ops Q (op :: rest) a w := by
  unfold wpListIn
  rw [if_pos hgd]
  refine ⟨fun _ _ => trivial, ?_⟩
  show op.uponIn _ _ _ _ _ _ ((Oper.semAt none a.eval op).run P w)
  rw [Oper.semAt_none]
  unfold execOp
  simp only [ho, hx, Instr.loadAt, Instr.sureAddr, Sem.run_bind, Sem.run_pure, Result.andThen_ok, run_loadVar_mid w b o ty cs d hc hu hd hi]
  exact h

/-- the days from d0 on, below d, that suit a task -/
def suitK (Y : Yd) (t : Tk) (i : Nat) (d0 : Int) (k : Nat) : List Int := ((List.range k).map (fun j : Nat => d0 + (j : Int))).filter (suitB Y t i)
theorem suitK_yes {Y : Yd} {t : Tk} {i : Nat} {d0 : Int} {k : Nat} (h : suitB Y t i (d0 + k) = true) : suitK Y t i d0 (k + 1) = suitK Y t i d0 k ++ [d0 + (k : Int)] := by
  unfold suitK; rw [List.range_succ, List.map_append, List.filter_append]; simp [h]
theorem suitK_no {Y : Yd} {t : Tk} {i : Nat} {d0 : Int} {k : Nat} (h : suitB Y t i (d0 + k) = false) : suitK Y t i d0 (k + 1) = suitK Y t i d0 k := by
  unfold suitK; rw [List.range_succ, List.map_append, List.filter_append]; simp [h]
theorem suitK_len (Y : Yd) (t : Tk) (i : Nat) (d0 : Int) (k : Nat) : (suitK Y t i d0 k).length ≤ k := by
  unfold suitK
  exact Nat.le_trans (List.length_filter_le _ _) (by simp)
theorem suitK_pre (Y : Yd) (t : Tk) (i : Nat) (d0 : Int) (k m : Nat) (h : k ≤ m) : suitK Y t i d0 k <+: suitK Y t i d0 m := by
  obtain ⟨j, rfl⟩ : ∃ j, m = k + j := ⟨m - k, by omega⟩
  unfold suitK
  rw [List.range_add, List.map_append, List.filter_append]
  exact ⟨_, rfl⟩

/-- what the iterator needs of the world: yard and tasks lie below B -/
structure SuitW (B : Nat) (C : Array Value) (Y : Yd) (l : List Tk) (A : Option Addr) (c i b1 b2 b3 b4 b5 : Nat) (d0 d1 : Int) (W : World) : Prop where
  from_ : W.cell? ⟨b1, 0, none⟩ = some (.int .i64 d0)
  until_ : W.cell? ⟨b2, 0, none⟩ = some (.int .i64 d1)
  yard : Bk W b3 29 C
  tasks : W.cell? ⟨b4, 0, none⟩ = some (.slice A l.length c)
  task : W.cell? ⟨b5, 0, none⟩ = some (.int .i64 i)
  yat : YardAt W B C Y
  tat : TasksAt W B A l
  hB : B ≤ W.heap.size
/-- what is cells lies as it lay, but for what is one's own -/
structure KpC (own : Nat → Prop) (W W' : World) : Prop where
  size : W.heap.size ≤ W'.heap.size
  keep : ∀ g o, W.heap[g]? = some o → o.isCells = true → ¬ own g → W'.heap[g]? = some o
section
variable {own : Nat → Prop} {W W' W'' : World}
theorem KpC.trans (h : KpC own W W') (k : KpC own W' W'') : KpC own W W'' := ⟨Nat.le_trans h.size k.size, fun g o h1 h2 h3 => k.keep g o (h.keep g o h1 h2 h3) h2 h3⟩
theorem KpC.putObj {l : Nat} {o : Obj} (o' : Obj) (h : W.heap[l]? = some o) (ho : o.isCells = false) : KpC own W (W.putObj l o') :=
  ⟨by simp, fun g x h1 h2 _ => by
    have hne : g ≠ l := fun e => by subst e; rw [h] at h1; cases h1; rw [ho] at h2; cases h2
    rw [World.putObj_heap_other hne]; exact h1⟩
theorem KpC.cell (h : KpC own W W') {p : Addr} {v : Value} (hc : W.cell? p = some v) (hp : ¬ own p.block) : W'.cell? p = some v := by
  obtain ⟨o, ho, hcl⟩ := cells_of_cell hc
  have := h.keep _ _ ho hcl hp
  unfold World.cell? at hc ⊢
  rw [this]; rw [ho] at hc; exact hc
theorem KpC.lies (h : KpC own W W') {B : Nat} {A : Option Addr} {cs : List Value} (hl : Lies W B A cs) (ho : ∀ g, g < B → ¬ own g) : Lies W' B A cs := fun hne => by
  obtain ⟨ad, e, hb, hc⟩ := hl hne
  exact ⟨ad, e, hb, fun j u hu => h.cell (hc j u hu) (by rw [add_block]; exact ho _ hb)⟩
theorem KpC.yard (h : KpC own W W') {B : Nat} {C : Array Value} {Y : Yd} (hY : YardAt W B C Y) (ho : ∀ g, g < B → ¬ own g) : YardAt W' B C Y :=
  ⟨hY.size, hY.se, by obtain ⟨A, c, h1, h2⟩ := hY.cl; exact ⟨A, c, h1, h.lies h2 ho⟩, by obtain ⟨A, c, h1, h2⟩ := hY.pi; exact ⟨A, c, h1, h.lies h2 ho⟩, by obtain ⟨A, c, h1, h2⟩ := hY.ma; exact ⟨A, c, h1, h.lies h2 ho⟩, hY.dry⟩
theorem KpC.tasks (h : KpC own W W') {B : Nat} {A : Option Addr} {l : List Tk} (hT : TasksAt W B A l) (ho : ∀ g, g < B → ¬ own g) : TasksAt W' B A l :=
  ⟨h.lies hT.at_ ho, fun t ht => h.lies (hT.af t ht) ho, fun t ht => h.lies (hT.co t ht) ho⟩
theorem KpC.bk (h : KpC own W W') {g t : Nat} {C : Array Value} (hk : Bk W g t C) (ho : ¬ own g) : Bk W' g t C := h.keep g _ hk rfl ho
variable {B : Nat} {C : Array Value} {Y : Yd} {l : List Tk} {A : Option Addr} {c i b1 b2 b3 b4 b5 : Nat} {d0 d1 : Int}
theorem SuitW.kp (hs : SuitW B C Y l A c i b1 b2 b3 b4 b5 d0 d1 W) (h : KpC own W W') (ho : ∀ g, g < B → ¬ own g) (h1 : ¬ own b1) (h2 : ¬ own b2) (h3 : ¬ own b3) (h4 : ¬ own b4) (h5 : ¬ own b5) : SuitW B C Y l A c i b1 b2 b3 b4 b5 d0 d1 W' :=
  ⟨h.cell hs.from_ h1, h.cell hs.until_ h2, h.bk hs.yard h3, h.cell hs.tasks h4, h.cell hs.task h5, h.yard hs.yat ho, h.tasks hs.tat ho, Nat.le_trans hs.hB h.size⟩
theorem SuitW.below (hs : SuitW B C Y l A c i b1 b2 b3 b4 b5 d0 d1 W) (h : Below W.heap.size W W') : SuitW B C Y l A c i b1 b2 b3 b4 b5 d0 d1 W' :=
  ⟨(h.cell (block_lt_of_cell hs.from_)).trans hs.from_, (h.cell (block_lt_of_cell hs.until_)).trans hs.until_, hs.yard.below h hs.yard.lt, (h.cell (block_lt_of_cell hs.tasks)).trans hs.tasks, (h.cell (block_lt_of_cell hs.task)).trans hs.task,
    hs.yat.below h hs.hB, hs.tat.below h hs.hB, Nat.le_trans hs.hB h.size⟩
end

theorem grown_below {W W' : World} (h : Below W.heap.size W W') : W.grownBy W' none :=
  ⟨h.os, h.tape, h.output, h.size, fun k hk _ => h.block k hk⟩

set_option maxRecDepth 100000 in
set_option maxHeartbeats 1000000 in
theorem suited1_iter (m : Nat) (B : Nat) (C : Array Value) (Y : Yd) (l : List Tk) (A : Option Addr) (c i b1 b2 b3 b4 b5 : Nat) (d0 d1 : Int) (hv : Valid Y) (hl : l.length ≤ 1000) (hi : i < l.length) (h0 : -1000000 ≤ d0) (h1 : d0 ≤ 1000000 ∧ d1 ≤ 1000000)
    (G : World → Prop) (Kp : World → World → Prop) (hG1 : ∀ W W', G W → Below W.heap.size W W' → G W') (hG2 : ∀ W W', G W → Kp W W' → G W') (hGr : ∀ W, G W → SuitW B C Y l A c i b1 b2 b3 b4 b5 d0 d1 W)
    (lb : Nat) (J Jx : List Int → World → Prop) (W : World) (hW : G W) (hJ : AbidesFrom W.heap.size J)
    (hY : ∀ pre x W1, J pre W1 → pre.length < (d1 - d0).toNat → YieldAt Fence.wide (m - 1) Try.prog lb #[.int .i64 x] W1 fun e W' => (e = .returned (.bool true) ∧ J (pre ++ [x]) W' ∧ Kp W1 W') ∨ (e = .returned (.bool false) ∧ Jx (pre ++ [x]) W'))
    (hJ0 : J [] W) :
    CallsIn Fence.wide m Try.prog 122 #[.func (.yield lb) #[] #[], .pointer (some ⟨b1, 0, none⟩), .pointer (some ⟨b2, 0, none⟩), .pointer (some ⟨b3, 0, none⟩), .pointer (some ⟨b4, 0, none⟩), .pointer (some ⟨b5, 0, none⟩)] W
      fun e W' => (∃ v, e = .returned v) ∧ ((∃ xs, xs = suitK Y l[i] i d0 (d1 - d0).toNat ∧ J xs W') ∨ (∃ pre, pre <+: suitK Y l[i] i d0 (d1 - d0).toNat ∧ Jx pre W')) := by
  refine callsIn_wide.2 ?_
  have HG1 := Lib.hid hG1; have HG2 := Lib.hid hG2; have HGR := Lib.hid hGr; have HJ := Lib.hid hJ; have HY := Lib.hid hY
  have HSU := Lib.hid (fun W (h : G W) (d : Int) => suits_any C Y l A c i d W ((hGr W h).yat.more (hGr W h).hB) hv ((hGr W h).tat.more (hGr W h).hB) hl hi)
  have f0 := (hGr W hW).from_
  have HJ0 := Lib.hid hJ0
  clear hG1 hG2 hGr hJ hY hJ0 hv
  generalize l[i] = t at *
  have HK := Lib.hid (fun k => suitK_len Y t i d0 k)
  go_enter Try.func122, Try.ntmps122
  go_wp2
  go_loopw [7] (fun y wr => ∃ k : Nat, (d0 + (k : Int) ≤ d1 ∨ k = 0) ∧ y = .int .i64 (d0 + (k : Int)) ∧ G wr ∧ J (suitK Y t i d0 k) wr) (fun y _ => (d1 - intOf y).toNat)
  case atStart => exact ⟨0, .inr rfl, by simp, hW, HJ0.out⟩
  case round =>
    clear f0 hW HJ0
    obtain ⟨k, hk, rfl, hg, hj⟩ := hrel
    have hS := HGR.out wr hg
    have u1 := hS.until_
    have t1 := hS.tasks
    have i1 := hS.task
    have HR := Lib.hid hS.yard.range
    have HC := Lib.hid hS.yat.len
    clear hS
    by_cases hlt : d0 + (k : Int) < d1
    · go_upto_region 3 with fail
      refine (wpIn_wide (n := m)).1 ?_
      gi_wp2_with (first | (refine wpListIn_load_guard (P := Try.prog) (by rfl) 29 (.tmp 3) rfl b3 0 rfl C.toList _ HR.out Try.underlying29 rfl (by rw [HC.out]; exact info29) ?_))
      refine ⟨trivial, fun h => (by cases h), ?_⟩
      cases hq : suitB Y t i (d0 + (k : Int)) with
      | true =>
        have HE := Lib.hid (suitK_yes hq)
        have HP := Lib.hid (suitK_pre Y t i d0 (k + 1) (d1 - d0).toNat (by omega))
        have hs := HSU.out wr hg (d0 + (k : Int))
        rw [hq] at hs
        clear hq
        refine CallsIn.mono (callsIn_wide.2 hs) ?_
        rintro e w5 ⟨rfl, hb⟩
        have hg5 := HG1.out _ _ hg hb
        have hj5 := HJ.out _ _ _ none hj ((grown_below hb)) (fun r e => by cases e)
        have hz5 := hb.size
        have hln := HK.out k
        obtain ⟨fn, tmps, assign, body, hy, hR⟩ := HY.out _ (d0 + (k : Int)) w5 hj5 (by omega)
        have HRR := Lib.hid hR
        clear hR hs hb hj hg u1 t1 i1
        gi_wp2
        refine ⟨fun h => (by cases h), HRR.out.mono ?_⟩
        rintro e w6 (⟨rfl, hj6, hk6⟩ | ⟨rfl, hx6⟩)
        · have hg6 := HG2.out _ _ hg5 hk6
          rw [← HE.out] at hj6
          clear hk6 hg5 hj5 hy hln
          gi_wp2
          go_wp2
          go_roundw
          case rel => exact ⟨k + 1, .inl (by omega), by go_num, hg6, hj6⟩
          case measure => simp [intOf]; omega
        · rw [← HE.out] at hx6
          gi_wp2
          go_wp2
          refine bodyPost_ret (results_none rfl _ _ _) rfl ?_
          exact ⟨⟨_, rfl⟩, .inr ⟨_, HP.out, hx6⟩⟩
      | false =>
        have HE := Lib.hid (suitK_no hq)
        have hs := HSU.out wr hg (d0 + (k : Int))
        rw [hq] at hs
        clear hq
        refine CallsIn.mono (callsIn_wide.2 hs) ?_
        rintro e w5 ⟨rfl, hb⟩
        have hg5 := HG1.out _ _ hg hb
        have hj5 := HJ.out _ _ _ none hj ((grown_below hb)) (fun r e => by cases e)
        have hz5 := hb.size
        clear hs hb hj hg u1 t1 i1
        gi_wp2
        refine ⟨fun _ h => (by cases h), ?_⟩
        gi_wp2
        go_wp2
        go_roundw
        case rel => exact ⟨k + 1, .inl (by omega), by go_num, hg5, by rw [HE.out]; exact hj5⟩
        case measure => simp [intOf]; omega
    · have hd : ¬ d0 + (k : Int) < d1 := hlt
      have hE : Hid (suitK Y t i d0 (d1 - d0).toNat = suitK Y t i d0 k) := by
        show _ = _
        congr 1; omega
      go_wp2
      go_end0
      exact ⟨⟨_, rfl⟩, .inl (by rw [hE.out]; exact hj)⟩
end Go.Proofs.Ytjgnikmnadmheaa

namespace Go.Proofs.Ytjgnikmnadmheaa
open Go.RowKit
attribute [local go_sem] Oper.semAt_some

def suitFn (b : Nat) : Value := .func (.func 122) #[] #[.pointer (some ⟨b + 3, 0, none⟩), .pointer (some ⟨b + 4, 0, none⟩), .pointer (some ⟨b, 0, none⟩), .pointer (some ⟨b + 1, 0, none⟩), .pointer (some ⟨b + 2, 0, none⟩)]
def SuitEnd (C : Array Value) (Y : Yd) (l : List Tk) (A : Option Addr) (c i : Nat) (d0 d1 : Int) (w : World) (e : Ending) (w' : World) : Prop :=
  e = .returned (suitFn w.heap.size) ∧ SuitW w.heap.size C Y l A c i (w.heap.size + 3) (w.heap.size + 4) w.heap.size (w.heap.size + 1) (w.heap.size + 2) d0 d1 w' ∧ Below w.heap.size w w' ∧ w'.heap.size = w.heap.size + 5

set_option maxRecDepth 100000 in
set_option maxHeartbeats 400000 in
theorem suited_any (C : Array Value) (Y : Yd) (l : List Tk) (A : Option Addr) (c i : Nat) (d0 d1 : Int) (w : World) (hY : YardAt w w.heap.size C Y) (hT : TasksAt w w.heap.size A l) :
    Calls Try.prog 92 #[.agg C, .slice A l.length c, .int .i64 i, .int .i64 d0, .int .i64 d1] w (SuitEnd C Y l A c i d0 d1 w) := by
  have k0 : Bk (((((w.alloc (.cells C 29)).alloc (.cells #[.slice A l.length c] 30)).alloc (.cells #[.int .i64 i] 3)).alloc (.cells #[.int .i64 d0] 3)).alloc (.cells #[.int .i64 d1] 3)) w.heap.size 29 C := ((((Bk.new _ _ _).alloc _).alloc _).alloc _).alloc _
  have k1 : Bk (((((w.alloc (.cells C 29)).alloc (.cells #[.slice A l.length c] 30)).alloc (.cells #[.int .i64 i] 3)).alloc (.cells #[.int .i64 d0] 3)).alloc (.cells #[.int .i64 d1] 3)) (w.heap.size + 1) 30 #[.slice A l.length c] := (((by simpa using Bk.new (w.alloc (.cells C 29)) 30 #[.slice A l.length c] : Bk ((w.alloc (.cells C 29)).alloc (.cells #[.slice A l.length c] 30)) (w.heap.size + 1) 30 #[.slice A l.length c]).alloc _).alloc _).alloc _
  have k2 : Bk (((((w.alloc (.cells C 29)).alloc (.cells #[.slice A l.length c] 30)).alloc (.cells #[.int .i64 i] 3)).alloc (.cells #[.int .i64 d0] 3)).alloc (.cells #[.int .i64 d1] 3)) (w.heap.size + 2) 3 #[.int .i64 i] := ((by simpa using Bk.new ((w.alloc (.cells C 29)).alloc (.cells #[.slice A l.length c] 30)) 3 #[.int .i64 i] : Bk (((w.alloc (.cells C 29)).alloc (.cells #[.slice A l.length c] 30)).alloc (.cells #[.int .i64 i] 3)) (w.heap.size + 2) 3 #[.int .i64 i]).alloc _).alloc _
  have k3 : Bk (((((w.alloc (.cells C 29)).alloc (.cells #[.slice A l.length c] 30)).alloc (.cells #[.int .i64 i] 3)).alloc (.cells #[.int .i64 d0] 3)).alloc (.cells #[.int .i64 d1] 3)) (w.heap.size + 3) 3 #[.int .i64 d0] := (by simpa using Bk.new (((w.alloc (.cells C 29)).alloc (.cells #[.slice A l.length c] 30)).alloc (.cells #[.int .i64 i] 3)) 3 #[.int .i64 d0] : Bk ((((w.alloc (.cells C 29)).alloc (.cells #[.slice A l.length c] 30)).alloc (.cells #[.int .i64 i] 3)).alloc (.cells #[.int .i64 d0] 3)) (w.heap.size + 3) 3 #[.int .i64 d0]).alloc _
  have k4 : Bk (((((w.alloc (.cells C 29)).alloc (.cells #[.slice A l.length c] 30)).alloc (.cells #[.int .i64 i] 3)).alloc (.cells #[.int .i64 d0] 3)).alloc (.cells #[.int .i64 d1] 3)) (w.heap.size + 4) 3 #[.int .i64 d1] := by simpa using Bk.new ((((w.alloc (.cells C 29)).alloc (.cells #[.slice A l.length c] 30)).alloc (.cells #[.int .i64 i] 3)).alloc (.cells #[.int .i64 d0] 3)) 3 #[.int .i64 d1]
  have hb : Below w.heap.size w (((((w.alloc (.cells C 29)).alloc (.cells #[.slice A l.length c] 30)).alloc (.cells #[.int .i64 i] 3)).alloc (.cells #[.int .i64 d0] 3)).alloc (.cells #[.int .i64 d1] 3)) := by exact (by repeat (first | with_reducible exact Below.refl _ _ | with_reducible assumption | with_reducible refine Below.drew ?_ | with_reducible refine below_drewN ?_ _ | (with_reducible refine Below.alloc ?_ ?_ _; rotate_left; (try simp) <;> omega) | (with_reducible refine Below.setCell ?_ ?_ _; rotate_left; (try simp) <;> omega)))
  have HE : Hid (SuitEnd C Y l A c i d0 d1 w (.returned (suitFn w.heap.size)) (((((w.alloc (.cells C 29)).alloc (.cells #[.slice A l.length c] 30)).alloc (.cells #[.int .i64 i] 3)).alloc (.cells #[.int .i64 d0] 3)).alloc (.cells #[.int .i64 d1] 3))) :=
    ⟨rfl, ⟨k3.cell 0 rfl, k4.cell 0 rfl, k0, k1.cell 0 rfl, k2.cell 0 rfl, hY.below hb (Nat.le_refl _), hT.below hb (Nat.le_refl _), hb.size⟩, hb, by simp⟩
  clear k0 k1 k2 k3 k4 hb hY hT
  go_enter Try.func92, Try.ntmps92
  go_wp2
  go_ret
  exact HE.out

/-- a job: a yard, tasks, a first day -/
structure JobAt (w : World) (B bj : Nat) (C : Array Value) (Y : Yd) (l : List Tk) (A : Option Addr) (c : Nat) (f : Int) : Prop where
  blk : Bk w bj 107 (C ++ #[.slice A l.length c, .int .i64 f])
  yat : YardAt w B C Y
  tat : TasksAt w B A l
  lt : bj < B
section
variable {w w' : World} {B B' bj : Nat} {C : Array Value} {Y : Yd} {l : List Tk} {A : Option Addr} {c : Nat} {f : Int}
theorem JobAt.below (h : JobAt w B bj C Y l A c f) (hb : Below B' w w') (hB : B ≤ B') : JobAt w' B bj C Y l A c f := ⟨h.blk.below hb (by have := h.lt; omega), h.yat.below hb hB, h.tat.below hb hB, h.lt⟩
theorem JobAt.more (h : JobAt w B bj C Y l A c f) (hB : B ≤ B') : JobAt w B' bj C Y l A c f := ⟨h.blk, h.yat.more hB, h.tat.more hB, by have := h.lt; omega⟩
theorem JobAt.yard (h : JobAt w B bj C Y l A c f) : w.rangeAt bj 0 C.toList := fun j v hj => by
  rw [Nat.zero_add]
  have hj' : C[j]? = some v := by simpa using hj
  exact h.blk.cell j (by rw [Array.getElem?_append_left (Array.getElem?_eq_some_iff.1 hj').1]; exact hj')
theorem JobAt.tasks (h : JobAt w B bj C Y l A c f) : w.cell? ⟨bj, 28, none⟩ = some (.slice A l.length c) := h.blk.cell 28 (by have := h.yat.size; rw [Array.getElem?_append_right (by omega)]; simp [this])
theorem JobAt.from_ (h : JobAt w B bj C Y l A c f) : w.cell? ⟨bj, 29, none⟩ = some (.int .i64 f) := h.blk.cell 29 (by have := h.yat.size; rw [Array.getElem?_append_right (by omega)]; simp [this])
end

set_option maxHeartbeats 400000 in
theorem until_any (bj : Nat) (f : Int) (w : World) (h : w.cell? ⟨bj, 29, none⟩ = some (.int .i64 f)) (h0 : 0 ≤ f ∧ f ≤ 1000000) : Calls Try.prog 95 #[.pointer (some ⟨bj, 0, none⟩)] w fun e w' => e = .returned (.int .i64 (f + 400)) ∧ w = w' := by
  obtain ⟨h1, h2⟩ := h0
  go_enter Try.func95, Try.ntmps95
  go_wp2
  go_ret
  exact ⟨rfl, rfl⟩

/-- the first one -/
def firstL (l : List Int) : Int := match l with
  | [] => 0
  | x :: _ => x
def someL (l : List Int) : Bool := match l with
  | [] => false
  | _ :: _ => true
def FirstEnd (L : List Int) (w : World) (e : Ending) (w' : World) : Prop := e = .returned (.tuple #[.int .i64 (firstL L), .bool (someL L)]) ∧ Below w.heap.size w w'
end Go.Proofs.Ytjgnikmnadmheaa

namespace Go.Proofs.Ytjgnikmnadmheaa
open Go.RowKit
attribute [local go_sem] Oper.semAt_some

theorem none_own (W W' : World) (h : KpC (fun _ => False) W W') (B : Nat) (C : Array Value) (Y : Yd) (l : List Tk) (A : Option Addr) (c i b1 b2 b3 b4 b5 : Nat) (d0 d1 : Int) (hs : SuitW B C Y l A c i b1 b2 b3 b4 b5 d0 d1 W) : SuitW B C Y l A c i b1 b2 b3 b4 b5 d0 d1 W' :=
  hs.kp h (fun _ _ h => h) id id id id id
/-- the rounds' own block for deferred calls is taken up -/
theorem leaves_mark {F : Fence} {n : Nat} {P : Program} {fn : Func} {R : Ending → World → Prop} {a : Act} {w : World} {D : Nat} {v : Value} (hD : w.heap[D]? = some (.deferred (some []))) (hd : a.defers = [{ target := .collected D, args := #[] }])
    (hr : (results fn a.tmps).run P (w.putObj D (.deferred none)) = .ok v (w.putObj D (.deferred none))) (hR : R (.returned v) (w.putObj D (.deferred none))) : bodyPostM F n P fn R .ret a w := by
  show LeavesInM F n P fn a.tmps R a.defers .returning w
  rw [hd]
  refine ⟨by simp, .inl ⟨_, _, rfl, run_takeDeferred hD, ?_⟩⟩
  exact ⟨v, hr, hR⟩
theorem Bk.putObj {w : World} {g t D : Nat} {cs : Array Value} (h : Bk w g t cs) (hne : g ≠ D) (o : Obj) : Bk (w.putObj D o) g t cs := (World.putObj_heap_other hne).trans h
theorem below_putObj {a w : World} {D : Nat} (h : Below a.heap.size a w) (hD : a.heap.size ≤ D) (o : Obj) : Below a.heap.size a (w.putObj D o) := h.grown (grownBy_putObj' w D o) h.size (fun k e => by cases e; exact hD)
/-- a piece that does not panic -/
theorem wp_calm {P : Program} {c : Code} {K : Act → World → Prop} {Q : Exit → Act → World → Prop} {a : Act} {w : World} (h : c.wp P (Exit.then K fun _ _ _ => False) a w) : c.wp P (Exit.then K Q) a w :=
  wp_mono h (fun e a w hq => by cases e <;> first | exact hq | exact hq.elim)

set_option maxRecDepth 100000 in
set_option maxHeartbeats 1000000 in
theorem first_any (bj : Nat) (C : Array Value) (Y : Yd) (l : List Tk) (A : Option Addr) (c i : Nat) (f d : Int) (w : World) (hj : JobAt w w.heap.size bj C Y l A c f) (hv : Valid Y) (hl : l.length ≤ 1000) (hi : i < l.length) (hf : 0 ≤ f ∧ f ≤ 100000) (hd : 0 ≤ d ∧ d ≤ 1000000) :
    Calls Try.prog 117 #[.pointer (some ⟨bj, 0, none⟩), .int .i64 i, .int .i64 d] w (FirstEnd (suitK Y l[i] i d (f + 400 - d).toNat) w) := by
  have hlj := hj.lt
  have HJ := Lib.hid (fun W (hb : Below w.heap.size w W) => (hj.below hb (Nat.le_refl _)))
  have HSU := Lib.hid (fun W (hb : Below w.heap.size w W) => suited_any C Y l A c i d (f + 400) W ((hj.yat.below hb (Nat.le_refl _)).more hb.size) ((hj.tat.below hb (Nat.le_refl _)).more hb.size))
  have HV := Lib.hid hv
  have h28 : C.toList.length = 28 := by rw [Array.length_toList]; exact hj.yat.size
  have hi29 : (Try.prog.info? 29).map (·.size) = some C.toList.length := by rw [h28]; exact info29
  obtain ⟨hf0, hf1⟩ := hf
  obtain ⟨hd0, hd1⟩ := hd
  have HU := Lib.hid (fun W (h : W.cell? ⟨bj, 29, none⟩ = some (.int .i64 f)) => until_any bj f W h ⟨hf0, by omega⟩)
  clear hj hv h28
  refine (callsIn_wide (n := 3)).1 ?_
  refine callsIn_of_wp_marks Try.func117 rfl trivial ?_ rfl
  simp only [Try.ntmps117, List.size_toArray, List.length_cons, List.length_nil, Nat.reduceAdd, Nat.reduceSub, Array.replicate_succ, Array.replicate_zero, List.push_toArray, List.append_toArray, List.nil_append, List.cons_append]
  refine wpIn_wide.2 ?_
  go_wp2
  have hb2 : Below w.heap.size w ((w.alloc (.cells #[.int .i64 0] 3)).alloc (.cells #[.bool false] 4)) := by exact (by repeat (first | with_reducible exact Below.refl _ _ | with_reducible assumption | with_reducible refine Below.drew ?_ | with_reducible refine below_drewN ?_ _ | (with_reducible refine Below.alloc ?_ ?_ _; rotate_left; (try simp) <;> omega) | (with_reducible refine Below.setCell ?_ ?_ _; rotate_left; (try simp) <;> omega)))
  have hj2 := HJ.out _ hb2
  have k6 : Bk ((w.alloc (.cells #[.int .i64 0] 3)).alloc (.cells #[.bool false] 4)) w.heap.size 3 #[.int .i64 0] := (Bk.new _ _ _).alloc _
  have k7 : Bk ((w.alloc (.cells #[.int .i64 0] 3)).alloc (.cells #[.bool false] 4)) (w.heap.size + 1) 4 #[.bool false] := by simpa using Bk.new (w.alloc (.cells #[.int .i64 0] 3)) 4 #[.bool false]
  have hz2 : ((w.alloc (.cells #[.int .i64 0] 3)).alloc (.cells #[.bool false] 4)).heap.size = w.heap.size + 2 := by simp
  generalize (w.alloc (.cells #[.int .i64 0] 3)).alloc (.cells #[.bool false] 4) = w2 at *
  have c28 := hj2.tasks
  have c29 := hj2.from_
  have cr := hj2.yard
  have hu29 := Try.underlying29
  refine wp_calm ?_
  refine wp_region_held_drew (S := (fun w' => w'.rangeAt bj 0 C.toList ∧ w'.cell? ⟨bj, 28, none⟩ = some (.slice A l.length c) ∧ w'.cell? ⟨bj, 29, none⟩ = some (.int .i64 f))) (by kernel_rfl) ?_ (fun hHeld => ?_)
  · (refine ⟨?_, ?_, ?_⟩ <;> first | assumption | go_keep)
  refine tk 0 9 ?_
  refine tk 1 10 ?_
  refine tk 2 11 ?_
  (refine held_row 3 (some 12) 29 (.tmp 11) (bj) 0 C.toList _ rfl rfl (by kernel_rfl) (by kernel_rfl) (by kernel_rfl) (by rfl) rfl (fun _ _ _ h => h) (by assumption) (fun _ hS => hS.1) Try.underlying29 rfl (by assumption) ?_; (try simp only [Act.put, List.setIfInBounds_toArray, List.set_cons_zero, List.set_cons_succ]))
  refine tk 4 13 ?_
  refine tk 5 14 ?_
  refine tk 6 15 ?_
  refine tk 7 16 ?_
  refine tk 8 17 ?_
  refine tk 9 18 ?_
  refine tk 10 19 ?_
  (refine held_call 11 (some 20) 95 _ rfl (by kernel_rfl) (by rfl) ?_ (HU.out _ (by assumption)) ?_; rotate_left; rotate_left; (simp only [List.getElem?_toArray, List.getElem?_cons_zero, List.getElem?_cons_succ, Option.map_some]; refine congrArg some ?_; go_simp))
  rintro e w5 ⟨rfl, rfl⟩
  refine ⟨_, rfl, ⟨by assumption, by assumption, by assumption⟩, fun hHeld => ?_⟩
  (try simp only [Act.put, List.setIfInBounds_toArray, List.set_cons_zero, List.set_cons_succ])
  (refine held_call 12 (some 21) 92 _ rfl (by kernel_rfl) (by rfl) ?_ (HSU.out _ (by exact (by repeat (first | with_reducible exact Below.refl _ _ | with_reducible assumption | with_reducible refine Below.drew ?_ | with_reducible refine below_drewN ?_ _ | (with_reducible refine Below.alloc ?_ ?_ _; rotate_left; (try simp) <;> omega) | (with_reducible refine Below.setCell ?_ ?_ _; rotate_left; (try simp) <;> omega))))) ?_; rotate_left; rotate_left; (simp only [List.getElem?_toArray, List.getElem?_cons_zero, List.getElem?_cons_succ, Option.map_some]; refine congrArg some ?_; go_simp))
  rintro e w6 ⟨rfl, hs6, hb6, hz6⟩
  have hB6 : Below w.heap.size w w6 := Below.trans (by exact (by repeat (first | with_reducible exact Below.refl _ _ | with_reducible assumption | with_reducible refine Below.drew ?_ | with_reducible refine below_drewN ?_ _ | (with_reducible refine Below.alloc ?_ ?_ _; rotate_left; (try simp) <;> omega) | (with_reducible refine Below.setCell ?_ ?_ _; rotate_left; (try simp) <;> omega)))) (hb6.mono (by first | omega | (simp; omega)))
  have hj6 := HJ.out _ hB6
  have q6 : Bk w6 w.heap.size 3 #[.int .i64 0] := Bk.below (by exact (by repeat (first | with_reducible assumption | with_reducible exact Bk.new _ _ _ | with_reducible refine Bk.drew ?_ | with_reducible refine Bk.drewN ?_ _ | with_reducible refine Bk.alloc ?_ _ | (with_reducible refine Bk.far ?_ ?_ _; rotate_left; (try simp) <;> omega)))) hb6 (by first | omega | (simp; omega))
  have q7 : Bk w6 (w.heap.size + 1) 4 #[.bool false] := Bk.below (by exact (by repeat (first | with_reducible assumption | with_reducible exact Bk.new _ _ _ | with_reducible refine Bk.drew ?_ | with_reducible refine Bk.drewN ?_ _ | with_reducible refine Bk.alloc ?_ _ | (with_reducible refine Bk.far ?_ ?_ _; rotate_left; (try simp) <;> omega)))) hb6 (by first | omega | (simp; omega))
  refine ⟨_, rfl, ⟨hj6.yard, hj6.tasks, hj6.from_⟩, fun hHeld => ?_⟩
  (try simp only [Act.put, List.setIfInBounds_toArray, List.set_cons_zero, List.set_cons_succ])
  refine wpAnyH_done (by kernel_rfl) ?_ _
  clear hHeld hj6 hj2 hb2 k6 k7 c28 c29 cr hb6
  go_wp2
  have hn2 : w2.drew.heap.size = w.heap.size + 2 := hz2
  rw [hn2] at hs6 hz6 ⊢
  have HL : Hid (SuitW (w.heap.size + 2) C Y l A c i (w.heap.size + 2 + 3) (w.heap.size + 2 + 4) (w.heap.size + 2) (w.heap.size + 2 + 1) (w.heap.size + 2 + 2) d (f + 400) w6) := hs6
  clear hs6 hn2 hz2
  generalize hL : suitK Y l[i] i d (f + 400 - d).toNat = L at *
  have HLL := Lib.hid hL; clear hL
  refine (wpIn_wide (n := 3)).1 ?_
  refine wpIn_rangeFunc_ownF (n := 3) rfl (by omega) (gf := 122) (lb := #[.pointer (some ⟨w.heap.size + 2 + 3, 0, none⟩), .pointer (some ⟨w.heap.size + 2 + 4, 0, none⟩), .pointer (some ⟨w.heap.size + 2, 0, none⟩), .pointer (some ⟨w.heap.size + 2 + 1, 0, none⟩), .pointer (some ⟨w.heap.size + 2 + 2, 0, none⟩)]) rfl trivial (enters_of Try.func122 (by kernel_rfl) rfl)
    (encs := fun x : Int => #[.int .i64 x]) (Kp := KpC fun _ => False) (S := fun xs => xs = L) (Sp := fun pre => pre <+: L) (N := (f + 400 - d).toNat) (w0 := w6) ?seq (fun h k => h.trans k) (fun W l o o' _ h1 h2 _ => KpC.putObj o' h1 h2) (Below.refl _ _) (fun _ => rfl)
    (fun pre W => pre = [] ∧ (Below w.heap.size w W ∧ (Bk W w.heap.size 3 #[.int .i64 0] ∧ Bk W (w.heap.size + 1) 4 #[.bool false])))
    (fun c pre W => c = .ret ∧ ∃ x, pre = [x] ∧ (Below w.heap.size w W ∧ (Bk W w.heap.size 3 #[.int .i64 x] ∧ Bk W (w.heap.size + 1) 4 #[.bool true]))) ?own ?ownx ⟨rfl, hB6, q6, q7⟩
    (fun x => { tmps := #[.pointer (some ⟨bj, 0, none⟩), .int .i64 i, .int .i64 d, undef, undef, undef, .pointer (some ⟨w.heap.size, 0, none⟩), .pointer (some ⟨w.heap.size + 1, 0, none⟩), .int .i64 x, .pointer (some ⟨bj, 0, none⟩), .pointer (some ⟨bj, 0, none⟩), .pointer (some ⟨bj, 0, none⟩), .agg C.toList.toArray, .pointer (some ⟨bj, 0, none⟩), .pointer (some ⟨bj, 0, none⟩), .pointer (some ⟨bj, 28, none⟩), .slice A l.length c, .int .i64 i, .int .i64 d, .pointer (some ⟨bj, 0, none⟩), .int .i64 (f + 400), suitFn (w.heap.size + 2), .int .i64 x, undef], defers := [] }) ?assign ?body ?done ?stop
  case seq =>
    intro lb J Jx W hW hJ _ hY h0
    have := suited1_iter 2 (w.heap.size + 2) C Y l A c i (w.heap.size + 2 + 3) (w.heap.size + 2 + 4) (w.heap.size + 2) (w.heap.size + 2 + 1) (w.heap.size + 2 + 2) d (f + 400) HV.out hl hi (by omega) ⟨hd1, by omega⟩
      (SuitW (w.heap.size + 2) C Y l A c i (w.heap.size + 2 + 3) (w.heap.size + 2 + 4) (w.heap.size + 2) (w.heap.size + 2 + 1) (w.heap.size + 2 + 2) d (f + 400)) (KpC fun _ => False) (fun W W' h hb => h.below hb) (fun W W' h hk => none_own W W' hk _ _ _ _ _ _ _ _ _ _ _ _ _ _ h) (fun _ h => h) lb J Jx W (HL.out.below hW) hJ hY h0
    rw [HLL.out] at this
    exact this
  case own =>
    rintro pre W W' row ⟨h1, h2, h3, h4⟩ hg hr
    exact ⟨h1, h2.grown hg h2.size (fun k e => by have := (hr k e).1; omega), h3.grown hg (fun e => by have := (hr _ e.symm).1; omega), h4.grown hg (fun e => by have := (hr _ e.symm).1; omega)⟩
  case ownx =>
    rintro cc pre W W' row ⟨h0, x, h1, h2, h3, h4⟩ hg hr
    exact ⟨h0, x, h1, h2.grown hg h2.size (fun k e => by have := (hr k e).1; omega), h3.grown hg (fun e => by have := (hr _ e.symm).1; omega), h4.grown hg (fun e => by have := (hr _ e.symm).1; omega)⟩
  case assign =>
    intro lb x W K hK
    gi_wp2
    exact hK
  case body =>
    rintro lb pre x W ⟨rfl, h2, h3, h4⟩ _
    have y1 := h3.cell 0 rfl
    have y2 := h4.cell 0 rfl
    have z1 := h3.fro 0
    have z2 := h4.fro 0
    gi_wp2
    exact ⟨(KeepsOthers.setCell _ _ _).trans (KeepsOthers.setCell _ _ _), rfl, x, rfl, (h2.setCell (Nat.le_refl _) _).setCell (by simp) _, (h3.set 0 _).far (by simp) _, (h4.far (by simp) _).set 0 _⟩
  case done =>
    rintro D xs W hwD rfl ⟨h1, h2, h3, h4⟩ hK
    have y1 := h3.cell 0 rfl
    have y2 := h4.cell 0 rfl
    have z1 := h3.fro 0
    have z2 := h4.fro 0
    go_wp2
    have g3 := (((h3.set 0 (.int .i64 0)).far (p := ⟨w.heap.size + 1, 0, none⟩) (by simp) (.bool false))).putObj (D := D) (by omega) (.deferred none)
    have g4 := (((h4.far (p := ⟨w.heap.size, 0, none⟩) (by simp) (.int .i64 0)).set 0 (.bool false))).putObj (D := D) (by omega) (.deferred none)
    have gb := below_putObj ((h2.setCell (p := ⟨w.heap.size, 0, none⟩) (Nat.le_refl _) (.int .i64 0)).setCell (p := ⟨w.heap.size + 1, 0, none⟩) (by simp) (.bool false)) (D := D) (by omega) (.deferred none)
    refine leaves_mark (v := .tuple #[.int .i64 0, .bool false]) (D := D) ?_ rfl ?_ ?_
    · exact (Below.heap_setCell _ _ _ _ (by show D ≠ w.heap.size + 1; omega)).trans ((Below.heap_setCell _ _ _ _ (by show D ≠ w.heap.size; omega)).trans hK)
    · have x3 := g3.cell 0 rfl
      have x4 := g4.cell 0 rfl
      generalize World.putObj _ D (.deferred none) = w9 at *
      simp [results, Try.results117, go_sem, x3, x4]
    · subst h1
      exact ⟨by rw [HLL.out]; rfl, gb⟩
  case stop =>
    rintro D cc pre W hwD hp ⟨rfl, x, rfl, h2, h3, h4⟩ hK
    gi_wp2
    have g3 := h3.putObj (D := D) (by omega) (.deferred none)
    have g4 := h4.putObj (D := D) (by omega) (.deferred none)
    have gb := below_putObj h2 (D := D) (by omega) (.deferred none)
    refine leaves_mark (v := .tuple #[.int .i64 x, .bool true]) (D := D) hK rfl ?_ ?_
    · have x3 := g3.cell 0 rfl
      have x4 := g4.cell 0 rfl
      generalize World.putObj _ D (.deferred none) = w9 at *
      simp [results, Try.results117, go_sem, x3, x4]
    · obtain ⟨r, rfl⟩ := hp
      exact ⟨by rw [HLL.out]; rfl, gb⟩
end Go.Proofs.Ytjgnikmnadmheaa

namespace Go.Proofs.Ytjgnikmnadmheaa
open Go.RowKit

/-- tasks that CheckTasks lets through -/
structure ValidT (l : List Tk) : Prop where
  n : l.length ≤ 12
  work : ∀ i (hi : i < l.length), 1 ≤ l[i].work ∧ l[i].work ≤ 10000
  need : ∀ i (hi : i < l.length), 1 ≤ l[i].need ∧ l[i].need ≤ 9
  af : ∀ i (hi : i < l.length), ∀ k ∈ l[i].af, 0 ≤ k ∧ k < (i : Int)
  ris : ∀ i (hi : i < l.length), risingB l[i].af = true
theorem validT_of {l : List Tk} (h : chkL l = 0) : ValidT l := by
  unfold chkL at h
  by_cases h1 : 12 < l.length ∨ l.any manyC = true
  · rw [if_pos h1] at h; cases h
  rw [if_neg h1] at h
  by_cases h2 : (List.range l.length).any (badAt l) = true
  · rw [if_pos h2] at h; cases h
  have hb : ∀ i (hi : i < l.length), badT i l[i] = false := fun i hi => by
    rw [← badAt_eq l i hi]
    rw [Bool.not_eq_true, List.any_eq_false] at h2
    have := h2 i (by simpa using hi)
    simpa using this
  have hb2 : ∀ i (hi : i < l.length), (inB l[i].work 1 10000 = true ∧ inB l[i].need 1 9 = true) ∧ risingB l[i].af = true ∧ ∀ k ∈ l[i].af, outOf i k = false := fun i hi => by
    have := hb i hi
    unfold badT at this
    simp only [Bool.or_eq_false_iff, Bool.not_eq_false', List.any_eq_false] at this
    obtain ⟨⟨⟨⟨a, b⟩, c⟩, d⟩, _⟩ := this
    exact ⟨⟨a, b⟩, c, fun k hk => by have := d k hk; simpa using this⟩
  refine ⟨by omega, fun i hi => inB_iff.1 (hb2 i hi).1.1, fun i hi => inB_iff.1 (hb2 i hi).1.2, fun i hi k hk => ?_, fun i hi => (hb2 i hi).2.1⟩
  have := (hb2 i hi).2.2 k hk
  unfold outOf at this
  simp only [Bool.not_eq_false'] at this
  have := inB_iff.1 this
  omega
/-- the least day of a task behind days, k of its earlier tasks being looked at -/
def lowB (f : Int) (days : List Int) : Int := if days.length = 0 then f else max f (days.getD (days.length - 1) 0 + 1)
def lowK (dry f : Int) (af days : List Int) (k : Nat) : Int := ((af.take k).map fun j => days.getD j.toNat 0 + dry + 1).foldl max (lowB f days)
def lowS (dry f : Int) (af days : List Int) : Int := lowK dry f af days af.length
theorem lowK_zero (dry f : Int) (af days : List Int) : lowK dry f af days 0 = lowB f days := by unfold lowK; rfl
theorem lowK_succ {dry f : Int} {af days : List Int} {k : Nat} (hk : k < af.length) : lowK dry f af days (k + 1) = max (lowK dry f af days k) (days.getD af[k].toNat 0 + dry + 1) := by
  unfold lowK
  rw [List.take_succ_eq_append_getElem hk, List.map_append, List.foldl_append]; rfl
theorem lowB_bd {f : Int} {days : List Int} (hf : 0 ≤ f ∧ f ≤ 100000) (hd : ∀ x ∈ days, -1000 ≤ x ∧ x ≤ 200000) : f ≤ lowB f days ∧ lowB f days ≤ 200001 := by
  unfold lowB
  split
  · omega
  · rename_i h
    have : days.getD (days.length - 1) 0 ∈ days := by
      rw [List.getD_eq_getElem?_getD, List.getElem?_eq_getElem (by omega)]; exact List.getElem_mem _
    have := hd _ this
    omega
theorem getD_bd {days : List Int} (hd : ∀ x ∈ days, -1000 ≤ x ∧ x ≤ 200000) (j : Nat) : -1000 ≤ days.getD j 0 ∧ days.getD j 0 ≤ 200000 := by
  by_cases h : j < days.length
  · exact hd _ (by rw [List.getD_eq_getElem?_getD, List.getElem?_eq_getElem h]; exact List.getElem_mem h)
  · rw [List.getD_eq_getElem?_getD, List.getElem?_eq_none (by omega)]; simp
theorem lowK_bd {dry f : Int} {af days : List Int} (hf : 0 ≤ f ∧ f ≤ 100000) (hdr : 0 ≤ dry ∧ dry ≤ 30) (hd : ∀ x ∈ days, -1000 ≤ x ∧ x ≤ 200000) : ∀ k, k ≤ af.length → f ≤ lowK dry f af days k ∧ lowK dry f af days k ≤ 200031
  | 0, _ => by rw [lowK_zero]; have := lowB_bd hf hd; omega
  | k + 1, hk => by
    have hk' : k < af.length := by omega
    rw [lowK_succ hk']
    have h1 := lowK_bd (af := af) hf hdr hd k (by omega)
    have h2 := getD_bd hd (af[k]'hk').toNat
    omega

set_option maxRecDepth 100000 in
set_option maxHeartbeats 1000000 in
theorem lower_any (bj : Nat) (C : Array Value) (Y : Yd) (l : List Tk) (A : Option Addr) (c : Nat) (f : Int) (days : List Int) (D : Option Addr) (cd : Nat) (w : World) (hj : JobAt w w.heap.size bj C Y l A c f) (hv : Valid Y) (ht : ValidT l) (hm : tame l) (hf : 0 ≤ f ∧ f ≤ 100000)
    (hD : Lies w w.heap.size D (ints days)) (hn : days.length < l.length) (hd : ∀ x ∈ days, -1000 ≤ x ∧ x ≤ 200000) :
    Calls Try.prog 96 #[.pointer (some ⟨bj, 0, none⟩), .slice D days.length cd] w (IntEnd (lowS Y.dry f l[days.length].af days) w) := by
  have hlj := hj.lt
  have HJ := Lib.hid (fun W (hb : Below w.heap.size w W) => (hj.below hb (Nat.le_refl _)))
  have HDD := Lib.hid (fun W (hb : Below w.heap.size w W) => (hD.below hb (Nat.le_refl _)))
  have hdry := hv.dry
  have hl12 := ht.n
  have HAF := Lib.hid (ht.af days.length hn)
  have HAN := Lib.hid ((hm.2 l[days.length] (List.getElem_mem hn)).1)
  have HTA := Lib.hid (fun W (hb : Below w.heap.size w W) => (hj.tat.below hb (Nat.le_refl _)).af l[days.length] (List.getElem_mem hn))
  obtain ⟨at_, rfl, hatb, _, _, c2, _⟩ := task_at hj.tat.at_ hn
  have HC2 : Hid (∀ W : World, Below w.heap.size w W → W.cell? ⟨(at_.add (days.length * 4)).block, (at_.add (days.length * 4)).off + 2, none⟩ = some (.slice l[days.length].aA l[days.length].af.length l[days.length].ac)) := fun W hb => (hb.cell (by rw [add_block]; exact hatb)).trans c2
  have HBD := Lib.hid (fun (k : Nat) (hk : k ≤ l[days.length].af.length) => lowK_bd (af := l[days.length].af) hf hdry hd k hk)
  have HBB := Lib.hid (lowB_bd hf hd)
  have HG := Lib.hid (getD_bd hd)
  have HLB0 : Hid (days.length = 0 → lowB f days = f) := fun h => by unfold lowB; rw [if_pos h]
  have HLB1 : Hid (∀ h : 0 < days.length, lowB f days = max f (days[days.length - 1]'(by omega) + 1)) := fun h => by
    unfold lowB; rw [if_neg (by omega), List.getD_eq_getElem?_getD, List.getElem?_eq_getElem (by omega)]; rfl
  have HXB : Hid (∀ j (h : j < days.length), -1000 ≤ days[j] ∧ days[j] ≤ 200000) := fun j h => hd _ (List.getElem_mem h)
  have HS : Hid (lowS Y.dry f l[days.length].af days = lowK Y.dry f l[days.length].af days l[days.length].af.length) := rfl
  have HZ := Lib.hid (lowK_zero Y.dry f l[days.length].af days)
  have HK := Lib.hid (fun (k : Nat) (hk : k < l[days.length].af.length) => lowK_succ (dry := Y.dry) (f := f) (days := days) hk)
  have hY27 := hj.yat.dry
  have HY : Hid (∀ W : World, Below w.heap.size w W → W.cell? ⟨bj, 27, none⟩ = some (.int .i64 Y.dry)) := fun W hb => (hj.below hb (Nat.le_refl _)).blk.cell 27 (by rw [Array.getElem?_append_left (by have := hj.yat.size; omega)]; exact hY27)
  have c28 := hj.tasks
  have c29 := hj.from_
  have c2' := HC2.out w (Below.refl _ _)
  clear hj hD ht hm hv c2 hd hY27
  generalize lowS Y.dry f l[days.length].af days = R at *
  generalize lowK Y.dry f l[days.length].af days = LK at *
  generalize lowB f days = LB at *
  generalize Y.dry = dry at *
  have hnI : (days.length : Int) < (l.length : Int) := by omega
  have hn0 : 0 ≤ (days.length : Int) := by omega
  generalize l[days.length] = t at *
  obtain ⟨wk, nd, aA, ac, af, cA, cc, co⟩ := t
  dsimp only at *
  have han := HAN.out
  go_enter Try.func96, Try.ntmps96
  go_upto_if 16 with fail
  go_cut [6] (fun s6 wx => ∃ v : Int, s6 = .int .i64 v ∧ Hid (v = LK 0) ∧ (0 ≤ v ∧ v ≤ 200001) ∧ wx = w)
  case first =>
    have hBB := HBB.out
    by_cases h0 : days.length = 0
    · have HV : Hid (f = LK 0) := by
        show _ = _
        rw [HZ.out, HLB0.out h0]
      have h1 : ¬ 0 < days.length := by omega
      have H0 := Lib.hid h0; clear h0
      go_wp2
      go_meet
      exact ⟨f, rfl, HV, by omega, rfl⟩
    · have h1 : 0 < days.length := by omega
      obtain ⟨ad, rfl, hadb, c0⟩ := int_at (HDD.out w (Below.refl _ _)) (k := days.length - 1) (by omega)
      have HV : Hid (max f (days[days.length - 1]'(by omega) + 1) = LK 0) := by
        show _ = _
        rw [HZ.out, HLB1.out h1]
      have hxb := HXB.out (days.length - 1) (by omega)
      generalize days[days.length - 1]'(by omega) = x at *
      have hkm : ((days.length : Int) - 1).toNat = days.length - 1 := by omega
      have hkp : 0 ≤ (days.length : Int) - 1 := by omega
      have hkq : (days.length : Int) - 1 < (days.length : Int) := by omega
      obtain ⟨hx1, hx2⟩ := hxb
      clear h0
      go_wp2
      go_meet
      exact ⟨max f (x + 1), by first | rfl | (simp; done), HV, by omega, rfl⟩
  case rest =>
  obtain ⟨v, rfl, HV, ⟨hv0, hv1⟩, rfl⟩ := hcut
  go_wp2
  go_loopw [6, 34] (fun s y wr => ∃ (k : Nat) (v : Int), k ≤ af.length ∧ y = .int .i64 k ∧ s = .int .i64 v ∧ Hid (v = LK k) ∧ Below wc.heap.size wc wr) (fun _ y _ => af.length - (intOf y).toNat)
  case atStart => exact ⟨0, v, by omega, rfl, rfl, HV, Below.refl _ _⟩
  case round =>
  clear hv0 hv1 HV HZ HBB
  obtain ⟨k, v, hk, rfl, rfl, HV, hbw⟩ := hrel
  have hbs := hbw.size
  have hbd := HBD.out k hk
  rw [← HV.out] at hbd
  by_cases hlt : k < af.length
  · obtain ⟨a1, rfl, ha1, d0⟩ := int_at (HTA.out wr hbw) hlt
    have haf := HAF.out af[k] (List.getElem_mem hlt)
    have HX := Lib.hid (HK.out k hlt)
    have hgb := HG.out af[k].toNat
    have hjn : af[k].toNat < days.length := by omega
    obtain ⟨a2, rfl, ha2, e0⟩ := int_at (HDD.out wr hbw) hjn
    have HE : Hid (days.getD af[k].toNat 0 = days[af[k].toNat]) := by show _ = _; rw [List.getD_eq_getElem?_getD, List.getElem?_eq_getElem hjn]; rfl
    rw [HE.out] at hgb HX
    have y27 := HY.out wr hbw
    generalize days[af[k].toNat] = x at *
    have hxn : (af[k].toNat : Int) = af[k] := by omega
    obtain ⟨j, hj⟩ : ∃ j : Nat, af[k] = (j : Int) := ⟨af[k].toNat, by omega⟩
    have hj2 : af[k].toNat = j := by omega
    rw [hj] at d0
    rw [hj2] at e0 hjn
    have HJ1 := Lib.hid hj
    clear hj hj2 hxn HE haf
    have hjI : (j : Int) < (days.length : Int) := by omega
    have hkI : (k : Int) < (af.length : Int) := by omega
    have hk0 : 0 ≤ (k : Int) := by omega
    have hj0 : 0 ≤ (j : Int) := by omega
    obtain ⟨hg1, hg2⟩ := hgb
    obtain ⟨hdr1, hdr2⟩ := hdry
    obtain ⟨hb1, hb2⟩ := hbd
    have W1 : Hid (IntKind.i64.wrap (x + dry) = x + dry) := IntWalk.i64_in _ (by omega)
    have W2 : Hid (IntKind.i64.wrap (x + dry + 1) = x + dry + 1) := IntWalk.i64_in _ (by omega)
    go_upto_region 8 with fail
    refine wp_region_held_drew (S := (fun w' => w'.cell? (a2.add j) = some (.int .i64 x) ∧ w'.cell? ⟨bj, 27, none⟩ = some (.int .i64 dry))) (by kernel_rfl) ?_ (fun hHeld => ?_)
    · (refine ⟨?_, ?_⟩ <;> first | assumption | go_keep)
    refine tk 0 38 ?_
    refine tk 1 39 ?_
    refine tk 2 40 ?_
    refine tk 3 41 ?_
    refine tk 4 42 ?_
    refine tk 5 43 ?_
    refine tk 6 44 ?_
    refine tk 7 45 ?_
    refine tk 8 46 ?_
    refine tk 9 47 ?_
    refine tk 10 48 ?_
    refine tk 11 49 ?_
    refine tk 12 50 ?_
    refine tk 13 6 ?_
    refine wpAnyH_done (by kernel_rfl) ?_ _
    rw [W1.out, W2.out]
    have HVN : Hid (max v (x + dry + 1) = LK (k + 1)) := by show _ = _; rw [HX.out, HV.out]
    clear W1 W2
    go_wp2
    go_roundw
    case rel => exact ⟨k + 1, max v (x + dry + 1), by omega, by go_num, rfl, HVN, by exact (by repeat (first | with_reducible exact Below.refl _ _ | with_reducible assumption | with_reducible refine Below.drew ?_ | with_reducible refine below_drewN ?_ _ | (with_reducible refine Below.alloc ?_ ?_ _; rotate_left; (try simp) <;> omega) | (with_reducible refine Below.setCell ?_ ?_ _; rotate_left; (try simp) <;> omega)))⟩
    case measure => simp [intOf]; omega
  · obtain rfl : k = af.length := by omega
    clear hlt
    go_wp2
    go_ret
    exact int_end (by rw [HV.out, HS.out]) hbw
end Go.Proofs.Ytjgnikmnadmheaa
