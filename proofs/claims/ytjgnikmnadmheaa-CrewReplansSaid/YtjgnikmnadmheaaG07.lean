/- giornataref07.CheckTasks, for all tasks. -/
import Derived.Deep.RegionHeld3
import Derived.Deep.DrawnRows
import Derived.Test.YtjgnikmnadmheaaG02
import Derived.Test.YtjgnikmnadmheaaG06

namespace Go.Proofs.Ytjgnikmnadmheaa
open Go.RowKit

/-- what the reference asks of an earlier task, number j of the list -/
def afB (i : Nat) (l : List Int) (j : Nat) : Bool := decide (l.getD j 0 < 0) || decide ((i : Int) ≤ l.getD j 0) || (decide (0 < j) && decide (l.getD j 0 ≤ l.getD (j - 1) 0))
theorem afB_any (i : Nat) (l : List Int) : (List.range l.length).any (afB i l) = (!risingB l || l.any (outOf i)) := by
  rw [Bool.eq_iff_iff, List.any_eq_true, Bool.or_eq_true, Bool.not_eq_true', List.any_eq_true]
  constructor
  · rintro ⟨j, hj, h⟩
    have hj' : j < l.length := by simpa using hj
    unfold afB at h
    rw [List.getD_eq_getElem?_getD, List.getElem?_eq_getElem hj'] at h
    simp only [Bool.or_eq_true, Bool.and_eq_true, decide_eq_true_eq, Option.getD_some] at h
    rcases h with (h | h) | ⟨h1, h2⟩
    · refine .inr ⟨l[j], List.getElem_mem hj', ?_⟩
      unfold outOf inB; simp; omega
    · refine .inr ⟨l[j], List.getElem_mem hj', ?_⟩
      unfold outOf inB; simp; omega
    · refine .inl ?_
      rw [← Bool.not_eq_true]
      intro hr
      have := (risingB_iff l).1 hr (j - 1) (by omega)
      rw [List.getD_eq_getElem?_getD, List.getElem?_eq_getElem (show j - 1 < l.length by omega)] at h2
      have e : l[j - 1 + 1]'(by omega) = l[j] := by congr 1; omega
      rw [e] at this
      simp at h2
      omega
  · rintro (h | ⟨x, hx, h⟩)
    · have hn : ¬ ∀ k (h : k + 1 < l.length), l[k]'(by omega) < l[k + 1] := fun hh => by rw [(risingB_iff l).2 hh] at h; cases h
      obtain ⟨k, hk, hlt⟩ : ∃ (k : Nat) (h : k + 1 < l.length), ¬ (l[k]'(by omega) < l[k + 1]) := Classical.byContradiction fun hno => hn fun k hk => Classical.byContradiction fun h2 => hno ⟨k, hk, h2⟩
      refine ⟨k + 1, by simpa using hk, ?_⟩
      unfold afB
      simp only [List.getD_eq_getElem?_getD, List.getElem?_eq_getElem hk, List.getElem?_eq_getElem (show k + 1 - 1 < l.length by omega), Option.getD_some, Bool.or_eq_true, Bool.and_eq_true, decide_eq_true_eq]
      refine .inr ⟨by omega, ?_⟩
      have e : l[k + 1 - 1]'(by omega) = l[k]'(by omega) := by congr 1
      rw [e]; omega
    · obtain ⟨j, hj, rfl⟩ := List.getElem_of_mem hx
      refine ⟨j, by simpa using hj, ?_⟩
      unfold outOf inB at h
      unfold afB
      simp only [List.getD_eq_getElem?_getD, List.getElem?_eq_getElem hj, Option.getD_some, Bool.or_eq_true, Bool.and_eq_true, decide_eq_true_eq]
      simp at h
      refine .inl ?_
      rcases h with h | h
      · exact .inl h
      · exact .inr (by omega)
theorem any_yes {p : Nat → Bool} {n j : Nat} (hj : j < n) (h : p j = true) : (List.range n).any p = true := List.any_eq_true.2 ⟨j, by simpa using hj, h⟩
theorem any_no {p : Nat → Bool} {n : Nat} (h : ∀ j, j < n → p j = false) : (List.range n).any p = false := by
  rw [List.any_eq_false]
  intro j hj
  rw [h j (by simpa using hj)]; exact Bool.false_ne_true
theorem anyl_no {α : Type} {p : α → Bool} {l : List α} (h : ∀ j (h' : j < l.length), p l[j] = false) : l.any p = false := by
  rw [List.any_eq_false]
  intro x hx
  obtain ⟨j, hj, rfl⟩ := List.getElem_of_mem hx
  rw [h j hj]; exact Bool.false_ne_true
theorem anyl_yes {α : Type} {p : α → Bool} {l : List α} {j : Nat} (hj : j < l.length) (h : p l[j] = true) : l.any p = true := List.any_eq_true.2 ⟨_, List.getElem_mem hj, h⟩

set_option maxRecDepth 100000 in
set_option maxHeartbeats 1000000 in
theorem rCheckTasks_any (l : List Tk) (A : Option Addr) (c : Nat) (w : World) (hT : TasksAt w w.heap.size A l) (ht : tame l) :
    Calls Try.prog 19 #[.slice A l.length c] w (IntEnd (chkL l) w) := by
  have HC : Hid (chkL l = if 12 < l.length ∨ l.any manyC = true then 2 else if (List.range l.length).any (badAt l) = true then 1 else 0) := rfl
  have hm := ht.1
  by_cases h1 : 12 < l.length
  · have H : Hid (chkL l = 2) := by show _ = _; rw [HC.out, if_pos (.inl h1)]
    clear HC hT ht
    go_enter Try.func19, Try.ntmps19
    go_wp2
    go_ret
    exact int_end H.out.symm (by repeat (first | with_reducible exact Below.refl _ _ | with_reducible assumption | with_reducible refine Below.drew ?_ | with_reducible refine below_drewN ?_ _ | (with_reducible refine Below.alloc ?_ ?_ _; rotate_left; (try simp) <;> omega) | (with_reducible refine Below.setCell ?_ ?_ _; rotate_left; (try simp) <;> omega)))
  have HY2 := Lib.hid (fun i (hi : i < l.length) (h : manyC l[i] = true) => show Hid (chkL l = 2) from HC.out.trans (if_pos (.inr (anyl_yes hi h))))
  have HN2 := Lib.hid (fun (h : ∀ i (hi : i < l.length), manyC l[i] = false) => show Hid (chkL l = if (List.range l.length).any (badAt l) = true then 1 else 0) from HC.out.trans (if_neg (by rw [anyl_no h]; simp; omega)))
  have HTA := Lib.hid (fun W (hb : Below w.heap.size w W) => (hT.below hb (Nat.le_refl _)).more hb.size)
  have HTM := Lib.hid ht.2
  clear HC hT ht
  go_enter Try.func19, Try.ntmps19
  go_wp2
  go_loopw [3] (fun y wr => ∃ k : Nat, k ≤ l.length ∧ y = .int .i64 k ∧ Hid (∀ j (hj : j < k) (h' : j < l.length), manyC l[j] = false) ∧ Below w.heap.size w wr) (fun y _ => l.length - (intOf y).toNat)
  case atStart => exact ⟨0, by omega, rfl, fun j hj => absurd hj (by omega), Below.refl _ _⟩
  case round =>
  obtain ⟨k, hk, rfl, hg, hbw⟩ := hrel
  have hbs := hbw.size
  by_cases hlt : k < l.length
  · obtain ⟨ad, hA, hadb, c0, c1, c2, c3⟩ := task_at (HTA.out wr hbw).at_ hlt
    subst hA
    have HYk := Lib.hid (HY2.out k hlt)
    have hsz := (HTM.out _ (List.getElem_mem hlt)).2.1
    have HG := Lib.hid (fun (h : manyC l[k] = false) => show Hid (∀ j (hj : j < k + 1) (h' : j < l.length), manyC l[j] = false) from fun j hj h' => by
      by_cases e : j = k
      · subst e; exact h
      · exact hg.out j (by omega) h')
    have HX : Hid (manyC l[k] = decide ((40 : Int) < l[k].co.length)) := rfl
    clear hg
    by_cases h4 : (40 : Int) < l[k].co.length
    · have H := HYk.out (by rw [HX.out]; exact decide_eq_true h4)
      go_wp2
      go_ret
      exact int_end H.out.symm hbw
    · have H := HG.out (by rw [HX.out]; exact decide_eq_false h4)
      go_wp2
      go_roundw
      case rel => exact ⟨k + 1, by omega, by go_num, H, hbw⟩
      case measure => simp [intOf]; omega
  have HC' := HN2.out (fun i hi => hg.out i (by omega) hi)
  have HY := Lib.hid (fun i (hi : i < l.length) (h : badT i l[i] = true) => show Hid (chkL l = 1) from HC'.out.trans (if_pos (bad_yes hi h)))
  have HN := Lib.hid (fun (h : ∀ i (hi : i < l.length), badT i l[i] = false) => show Hid (chkL l = 0) from HC'.out.trans (if_neg (by rw [bad_no h]; exact Bool.false_ne_true)))
  obtain rfl : k = l.length := by omega
  clear hg HC' HN2 HY2 hlt hk
  go_wp2
  go_loopw [4] (fun y wr => ∃ k : Nat, k ≤ l.length ∧ y = .int .i64 k ∧ Hid (∀ j (hj : j < k) (h' : j < l.length), badT j l[j] = false) ∧ Below w.heap.size w wr) (fun y _ => l.length - (intOf y).toNat)
  case atStart => exact ⟨0, by omega, rfl, fun j hj => absurd hj (by omega), hbw⟩
  case round =>
  clear hbw hbs
  obtain ⟨k, hk, rfl, hg, hbw⟩ := hrel
  have hbs := hbw.size
  by_cases hlt : k < l.length
  · obtain ⟨ad, hA, hadb, c0, c1, c2, c3⟩ := task_at (HTA.out wr hbw).at_ hlt
    subst hA
    have HAF := Lib.hid (fun W (hb : Below w.heap.size w W) => (HTA.out W hb).af _ (List.getElem_mem hlt))
    have HCO := Lib.hid (fun W (hb : Below w.heap.size w W) => (HTA.out W hb).co _ (List.getElem_mem hlt))
    have hz1 := (HTM.out _ (List.getElem_mem hlt)).1
    have hz2 := (HTM.out _ (List.getElem_mem hlt)).2.1
    have HZ3 := Lib.hid (HTM.out _ (List.getElem_mem hlt)).2.2
    have HYk := Lib.hid (HY.out k hlt)
    have HG := Lib.hid (fun (h : badT k l[k] = false) => show Hid (∀ j (hj : j < k + 1) (h' : j < l.length), badT j l[j] = false) from fun j hj h' => by
      by_cases e : j = k
      · subst e; exact h
      · exact hg.out j (by omega) h')
    clear hg
    have HX : Hid (badT k l[k] = (!inB l[k].work 1 10000 || !inB l[k].need 1 9 || ((List.range l[k].af.length).any (afB k l[k].af)) || l[k].co.any longS)) := by
      show _ = _
      rw [afB_any]; unfold badT
      cases inB l[k].work 1 10000 <;> cases inB l[k].need 1 9 <;> cases risingB l[k].af <;> rfl
    generalize hq : badT k l[k] = q at *
    have HQ := Lib.hid hq; clear hq
    generalize l[k] = t at *
    obtain ⟨wk, nd, aA, ac, af, cA, cc, co⟩ := t
    try dsimp only at *
    cases h1 : inB wk 1 10000 with
    | false =>
      have H := HYk.out (by rw [HX.out, h1]; rfl)
      have H1 := Lib.hid h1; clear h1
      go_wp2_with (go_at_call 69; refine (within_any _ _ _ _).mono ?_; rintro e w' ⟨rfl, rfl⟩; rw [H1.out])
      go_ret
      exact int_end H.out.symm (by repeat (first | with_reducible exact Below.refl _ _ | with_reducible assumption | with_reducible refine Below.drew ?_ | with_reducible refine below_drewN ?_ _ | (with_reducible refine Below.alloc ?_ ?_ _; rotate_left; (try simp) <;> omega) | (with_reducible refine Below.setCell ?_ ?_ _; rotate_left; (try simp) <;> omega)))
    | true =>
    have H1 := Lib.hid h1
    cases h2 : inB nd 1 9 with
    | false =>
      have H := HYk.out (by rw [HX.out, h1, h2]; rfl)
      have H2 := Lib.hid h2; clear h2 h1
      go_wp2_with (go_at_call 69; refine (within_any _ _ _ _).mono ?_; rintro e w' ⟨rfl, rfl⟩; first | rw [H1.out] | rw [H2.out])
      go_ret
      exact int_end H.out.symm (by repeat (first | with_reducible exact Below.refl _ _ | with_reducible assumption | with_reducible refine Below.drew ?_ | with_reducible refine below_drewN ?_ _ | (with_reducible refine Below.alloc ?_ ?_ _; rotate_left; (try simp) <;> omega) | (with_reducible refine Below.setCell ?_ ?_ _; rotate_left; (try simp) <;> omega)))
    | true =>
    have H2 := Lib.hid h2
    have HX' : Hid (q = ((List.range af.length).any (afB k af) || co.any longS)) := by show _ = _; rw [HX.out, h1, h2]; rfl
    clear HX h1 h2
    have hkt0 : Bk (wr.alloc (.cells #[.int .i64 wk, .int .i64 nd, .slice aA af.length ac, .slice cA co.length cc] 48)) wr.heap.size 48 #[.int .i64 wk, .int .i64 nd, .slice aA af.length ac, .slice cA co.length cc] := Bk.new _ _ _
    have HKT := Lib.hid hkt0; clear hkt0
    go_wp2_with (go_at_call 69; refine (within_any _ _ _ _).mono ?_; rintro e w' ⟨rfl, rfl⟩; first | rw [H1.out] | rw [H2.out])
    have hbt : w.heap.size ≤ wr.heap.size := hbs
    generalize htb : wr.heap.size = tb at *
    go_loopw [6] (fun y wx => ∃ j : Nat, j ≤ af.length ∧ y = .int .i64 j ∧ Hid (∀ i, i < j → afB k af i = false) ∧ Below w.heap.size w wx ∧ Bk wx tb 48 #[.int .i64 wk, .int .i64 nd, .slice aA af.length ac, .slice cA co.length cc]) (fun y _ => af.length - (intOf y).toNat)
    case atStart => exact ⟨0, by omega, rfl, fun i hi => absurd hi (by omega), by exact (by repeat (first | with_reducible exact Below.refl _ _ | with_reducible assumption | with_reducible refine Below.drew ?_ | with_reducible refine below_drewN ?_ _ | (with_reducible refine Below.alloc ?_ ?_ _; rotate_left; (try simp) <;> omega) | (with_reducible refine Below.setCell ?_ ?_ _; rotate_left; (try simp) <;> omega))), HKT.out⟩
    case round =>
    obtain ⟨j, hj, rfl, hg, hbx, hbk⟩ := hrel
    have hxs := hbx.size
    have hlk := hbk.lt
    have x2 := hbk.cell 2 rfl
    clear c0 c1 c2 c3
    by_cases hjt : j < af.length
    · obtain ⟨ad2, hA2, had2, d0, d1⟩ := int_at2 (HAF.out _ hbx) (k := j - 1) (j := j) (by omega) hjt
      subst hA2
      have hji : (j : Int) < (af.length : Int) := by omega
      have g0 : af.getD (j - 1) 0 = af[j - 1]'(by omega) := by rw [List.getD_eq_getElem?_getD, List.getElem?_eq_getElem (by omega)]; rfl
      have g1 : af.getD j 0 = af[j] := by rw [List.getD_eq_getElem?_getD, List.getElem?_eq_getElem hjt]; rfl
      have HT : Hid (afB k af j = (decide (af[j] < 0) || decide ((k : Int) ≤ af[j]) || (decide (0 < j) && decide (af[j] ≤ af[j - 1]'(by omega))))) := by show afB k af j = _; unfold afB; rw [g0, g1]
      have HYj : Hid (afB k af j = true → Hid (chkL l = 1)) := fun h => HYk.out (by rw [HX'.out, any_yes hjt h]; rfl)
      have HGj : Hid (afB k af j = false → Hid (∀ i, i < j + 1 → afB k af i = false)) := fun h i hi => by
        by_cases e : i = j
        · subst e; exact h
        · exact hg.out i (by omega)
      clear g0 g1 hg
      generalize af[j] = z at *
      generalize af[j - 1]'_ = y at *
      by_cases e1 : z < 0
      · have H := HYj.out (by rw [HT.out, decide_eq_true e1]; rfl)
        have e1' : decide (z < 0) = true := decide_eq_true e1
        clear HT HYj HGj
        go_wp2
        go_quiet (fail)
        go_wp2
        go_ret
        exact int_end H.out.symm (by repeat (first | with_reducible exact Below.refl _ _ | with_reducible assumption | with_reducible refine Below.drew ?_ | with_reducible refine below_drewN ?_ _ | (with_reducible refine Below.alloc ?_ ?_ _; rotate_left; (try simp) <;> omega) | (with_reducible refine Below.setCell ?_ ?_ _; rotate_left; (try simp) <;> omega)))
      have e1' : decide (z < 0) = false := decide_eq_false e1
      have e1'' : 0 ≤ z := by omega
      by_cases e2 : (k : Int) ≤ z
      · have H := HYj.out (by rw [HT.out, decide_eq_true e2]; simp)
        have e2' : decide ((k : Int) ≤ z) = true := decide_eq_true e2
        clear HT HYj HGj e1
        go_wp2
        go_quiet (fail)
        go_wp2
        go_ret
        exact int_end H.out.symm (by repeat (first | with_reducible exact Below.refl _ _ | with_reducible assumption | with_reducible refine Below.drew ?_ | with_reducible refine below_drewN ?_ _ | (with_reducible refine Below.alloc ?_ ?_ _; rotate_left; (try simp) <;> omega) | (with_reducible refine Below.setCell ?_ ?_ _; rotate_left; (try simp) <;> omega)))
      have e2' : decide ((k : Int) ≤ z) = false := decide_eq_false e2
      by_cases e3 : j = 0
      · have H := HGj.out (by rw [HT.out, e1', e2', decide_eq_false (show ¬ 0 < j by omega)]; rfl)
        have e3' : decide ((0 : Int) < (j : Int)) = false := decide_eq_false (by omega)
        have e3n : decide (0 < j) = false := decide_eq_false (by omega)
        have E3 := Lib.hid e3
        clear HT HYj HGj e1 e3
        go_wp2
        go_quiet (fail)
        go_wp2
        go_roundw
        case rel => (first | exact ⟨j + 1, by omega, by go_num, H, by exact (by repeat (first | with_reducible exact Below.refl _ _ | with_reducible assumption | with_reducible refine Below.drew ?_ | with_reducible refine below_drewN ?_ _ | (with_reducible refine Below.alloc ?_ ?_ _; rotate_left; (try simp) <;> omega) | (with_reducible refine Below.setCell ?_ ?_ _; rotate_left; (try simp) <;> omega))), by exact (by repeat (first | with_reducible assumption | with_reducible exact Bk.new _ _ _ | with_reducible refine Bk.drew ?_ | with_reducible refine Bk.drewN ?_ _ | with_reducible refine Bk.alloc ?_ _ | (with_reducible refine Bk.far ?_ ?_ _; rotate_left; (try simp) <;> omega)))⟩ | ((repeat apply Exists.intro); exact ⟨⟨j + 1, by omega, by go_num, H, by exact (by repeat (first | with_reducible exact Below.refl _ _ | with_reducible assumption | with_reducible refine Below.drew ?_ | with_reducible refine below_drewN ?_ _ | (with_reducible refine Below.alloc ?_ ?_ _; rotate_left; (try simp) <;> omega) | (with_reducible refine Below.setCell ?_ ?_ _; rotate_left; (try simp) <;> omega))), by exact (by repeat (first | with_reducible assumption | with_reducible exact Bk.new _ _ _ | with_reducible refine Bk.drew ?_ | with_reducible refine Bk.drewN ?_ _ | with_reducible refine Bk.alloc ?_ _ | (with_reducible refine Bk.far ?_ ?_ _; rotate_left; (try simp) <;> omega)))⟩, rfl⟩))
        case measure => simp [intOf]; omega
      have e3' : decide ((0 : Int) < (j : Int)) = true := decide_eq_true (by omega)
      have e3n : decide (0 < j) = true := decide_eq_true (by omega)
      have e3'' : (0 : Int) < (j : Int) := by omega
      have hkm : ((j : Int) - 1).toNat = j - 1 := by omega
      have hkp : 0 ≤ (j : Int) - 1 := by omega
      have hkq : (j : Int) - 1 < (af.length : Int) := by omega
      by_cases e4 : z ≤ y
      · have H := HYj.out (by rw [HT.out, e1', e2', decide_eq_true e4, decide_eq_true (show 0 < j by omega)]; rfl)
        have e4' : decide (z ≤ y) = true := decide_eq_true e4
        clear HT HYj HGj e1
        go_wp2
        go_quiet (fail)
        go_wp2
        go_ret
        exact int_end H.out.symm (by repeat (first | with_reducible exact Below.refl _ _ | with_reducible assumption | with_reducible refine Below.drew ?_ | with_reducible refine below_drewN ?_ _ | (with_reducible refine Below.alloc ?_ ?_ _; rotate_left; (try simp) <;> omega) | (with_reducible refine Below.setCell ?_ ?_ _; rotate_left; (try simp) <;> omega)))
      · have H := HGj.out (by rw [HT.out, e1', e2', decide_eq_false e4]; simp)
        have e4' : decide (z ≤ y) = false := decide_eq_false e4
        clear HT HYj HGj e1
        go_wp2
        go_quiet (fail)
        go_wp2
        go_roundw
        case rel => (first | exact ⟨j + 1, by omega, by go_num, H, by exact (by repeat (first | with_reducible exact Below.refl _ _ | with_reducible assumption | with_reducible refine Below.drew ?_ | with_reducible refine below_drewN ?_ _ | (with_reducible refine Below.alloc ?_ ?_ _; rotate_left; (try simp) <;> omega) | (with_reducible refine Below.setCell ?_ ?_ _; rotate_left; (try simp) <;> omega))), by exact (by repeat (first | with_reducible assumption | with_reducible exact Bk.new _ _ _ | with_reducible refine Bk.drew ?_ | with_reducible refine Bk.drewN ?_ _ | with_reducible refine Bk.alloc ?_ _ | (with_reducible refine Bk.far ?_ ?_ _; rotate_left; (try simp) <;> omega)))⟩ | ((repeat apply Exists.intro); exact ⟨⟨j + 1, by omega, by go_num, H, by exact (by repeat (first | with_reducible exact Below.refl _ _ | with_reducible assumption | with_reducible refine Below.drew ?_ | with_reducible refine below_drewN ?_ _ | (with_reducible refine Below.alloc ?_ ?_ _; rotate_left; (try simp) <;> omega) | (with_reducible refine Below.setCell ?_ ?_ _; rotate_left; (try simp) <;> omega))), by exact (by repeat (first | with_reducible assumption | with_reducible exact Bk.new _ _ _ | with_reducible refine Bk.drew ?_ | with_reducible refine Bk.drewN ?_ _ | with_reducible refine Bk.alloc ?_ _ | (with_reducible refine Bk.far ?_ ?_ _; rotate_left; (try simp) <;> omega)))⟩, rfl⟩))
        case measure => simp [intOf]; omega
    obtain rfl : j = af.length := by omega
    have HX2 : Hid (q = co.any longS) := by show _ = _; rw [HX'.out, any_no hg.out]; rfl
    clear hg HX' hj hjt
    go_wp2
    have x9 := hbk.cell 3 rfl
    go_loopw [7] (fun y wx => ∃ j : Nat, j ≤ co.length ∧ y = .int .i64 j ∧ Hid (∀ i (h : i < co.length), i < j → longS co[i] = false) ∧ Below w.heap.size w wx ∧ Bk wx tb 48 #[.int .i64 wk, .int .i64 nd, .slice aA af.length ac, .slice cA co.length cc]) (fun y _ => co.length - (intOf y).toNat)
    case atStart => exact ⟨0, by omega, rfl, fun i _ hi => absurd hi (by omega), hbx, hbk⟩
    case round =>
    clear hbx hbk x2 x9 hxs hlk
    obtain ⟨j, hj, rfl, hg, hbx, hbk⟩ := hrel
    have hxs := hbx.size
    have hlk := hbk.lt
    have x3 := hbk.cell 3 rfl
    by_cases hjt : j < co.length
    · obtain ⟨ad2, hA2, had2, d0⟩ := str_at (HCO.out _ hbx) hjt
      subst hA2
      have hss := HZ3.out _ (List.getElem_mem hjt)
      have HT : Hid (longS co[j] = decide ((24 : Int) < co[j].size)) := rfl
      have HYj : Hid (longS co[j] = true → Hid (chkL l = 1)) := fun h => HYk.out (by rw [HX2.out]; exact anyl_yes hjt h)
      have HGj : Hid (longS co[j] = false → Hid (∀ i (h : i < co.length), i < j + 1 → longS co[i] = false)) := fun h i h' hi => by
        by_cases e : i = j
        · subst e; exact h
        · exact hg.out i h' (by omega)
      clear hg
      by_cases e1 : (24 : Int) < co[j].size
      · have H := HYj.out (by rw [HT.out]; exact decide_eq_true e1)
        clear HT HYj HGj
        go_wp2
        go_ret
        exact int_end H.out.symm (by repeat (first | with_reducible exact Below.refl _ _ | with_reducible assumption | with_reducible refine Below.drew ?_ | with_reducible refine below_drewN ?_ _ | (with_reducible refine Below.alloc ?_ ?_ _; rotate_left; (try simp) <;> omega) | (with_reducible refine Below.setCell ?_ ?_ _; rotate_left; (try simp) <;> omega)))
      · have H := HGj.out (by rw [HT.out]; exact decide_eq_false e1)
        clear HT HYj HGj
        go_wp2
        go_roundw
        case rel => (first | exact ⟨j + 1, by omega, by go_num, H, by exact (by repeat (first | with_reducible exact Below.refl _ _ | with_reducible assumption | with_reducible refine Below.drew ?_ | with_reducible refine below_drewN ?_ _ | (with_reducible refine Below.alloc ?_ ?_ _; rotate_left; (try simp) <;> omega) | (with_reducible refine Below.setCell ?_ ?_ _; rotate_left; (try simp) <;> omega))), by exact (by repeat (first | with_reducible assumption | with_reducible exact Bk.new _ _ _ | with_reducible refine Bk.drew ?_ | with_reducible refine Bk.drewN ?_ _ | with_reducible refine Bk.alloc ?_ _ | (with_reducible refine Bk.far ?_ ?_ _; rotate_left; (try simp) <;> omega)))⟩ | ((repeat apply Exists.intro); exact ⟨⟨j + 1, by omega, by go_num, H, by exact (by repeat (first | with_reducible exact Below.refl _ _ | with_reducible assumption | with_reducible refine Below.drew ?_ | with_reducible refine below_drewN ?_ _ | (with_reducible refine Below.alloc ?_ ?_ _; rotate_left; (try simp) <;> omega) | (with_reducible refine Below.setCell ?_ ?_ _; rotate_left; (try simp) <;> omega))), by exact (by repeat (first | with_reducible assumption | with_reducible exact Bk.new _ _ _ | with_reducible refine Bk.drew ?_ | with_reducible refine Bk.drewN ?_ _ | with_reducible refine Bk.alloc ?_ _ | (with_reducible refine Bk.far ?_ ?_ _; rotate_left; (try simp) <;> omega)))⟩, rfl⟩))
        case measure => simp [intOf]; omega
    obtain rfl : j = co.length := by omega
    have H := HG.out (by rw [HX2.out]; exact anyl_no fun i hi => hg.out i hi hi)
    clear hg
    go_wp2
    go_roundw
    case rel => (first | exact ⟨k + 1, by omega, by go_num, H, hbx⟩ | ((repeat apply Exists.intro); exact ⟨⟨k + 1, by omega, by go_num, H, hbx⟩, rfl⟩))
    case measure => simp [intOf]; omega
  · obtain rfl : k = l.length := by omega
    have H := HN.out (fun i hi => hg.out i hi hi)
    clear hg
    go_wp2
    go_ret
    exact int_end H.out.symm hbw
end Go.Proofs.Ytjgnikmnadmheaa

namespace Go.Proofs.Ytjgnikmnadmheaa
open Go.RowKit

theorem own_ne {w : World} {base g : Nat} {e : TypeId} {size n : Nat} {v : Value} {xs : List Value} (ho : w.ownsRow base e size v n xs) (h : g < base) : some g ≠ v.ownBlock := by
  rcases ho.2 with ⟨rfl, _⟩ | ⟨g', _, _, rfl, hge, _⟩
  · simp [Value.ownBlock]
  · simp [Value.ownBlock]; omega
/-- the error of a yard and tasks -/
def comE (Y : Yd) (l : List Tk) : Int := if okY Y = true then chkL l else chkY Y
set_option maxRecDepth 100000 in
set_option maxHeartbeats 1000000 in
theorem rSkilled_any (C : Array Value) (Y : Yd) (d need : Int) (w : World) (hY : YardAt w w.heap.size C Y) (hs : Small Y) : Calls Try.prog 50 #[.agg C, .int .i64 d, .int .i64 need] w (IntsEnd (skO Y d need) w) := by
  have HCK := Lib.hid (fun W (hb : Below w.heap.size w W) => rCheckYard_any C Y W ((hY.below hb (Nat.le_refl _)).more hb.size) hs.cl hs.pi hs.ma hs.nm)
  have HLOAD := load_any hY
  have HC28 := Lib.hid hY.len
  have HE : Hid (skO Y d need = if okY Y = true then skL Y.ma d need else []) := rfl
  have HN := Lib.hid (chk_of Y)
  have hm := hs.ma
  obtain ⟨A3, k3, e3, L3⟩ := hY.ma
  obtain ⟨i0, hi0, hz0, hz1, hz2⟩ := info_parts info3
  have I3 := Lib.hid (And.intro hi0 (And.intro hz0 (And.intro hz1 hz2))); clear hi0 hz0 hz1 hz2
  clear hY hs
  generalize chkY Y = n at *
  generalize skO Y d need = r at *
  obtain ⟨g1, g2⟩ := HN.out
  cases h : okY Y with
  | false =>
    have hn : (n != 0) = true := g2.trans (by rw [h]; rfl)
    have HR : Hid (r = []) := by show _ = _; rw [HE.out, h]; rfl
    clear HE h g1 g2
    go_enter Try.func50, Try.ntmps50
    go_wp2_with (first | (refine wpList_load_guard (P := Try.prog) (by rfl) 29 (.tmp 3) rfl w.heap.size 0 rfl C.toList _ (HLOAD.out _ _ (by exact (by repeat (first | with_reducible assumption | with_reducible exact Bk.new _ _ _ | with_reducible refine Bk.drew ?_ | with_reducible refine Bk.drewN ?_ _ | with_reducible refine Bk.alloc ?_ _ | (with_reducible refine Bk.far ?_ ?_ _; rotate_left; (try simp) <;> omega))))) Try.underlying29 rfl (by rw [HC28.out]; exact info29) ?_) | (go_at_call 17; refine (HCK.out _ (by exact (by repeat (first | with_reducible exact Below.refl _ _ | with_reducible assumption | with_reducible refine Below.drew ?_ | with_reducible refine below_drewN ?_ _ | (with_reducible refine Below.alloc ?_ ?_ _; rotate_left; (try simp) <;> omega) | (with_reducible refine Below.setCell ?_ ?_ _; rotate_left; (try simp) <;> omega))))).mono ?_; rintro e w1 ⟨rfl, hb1⟩; have hB1 : Below w.heap.size w w1 := Below.trans (by exact (by repeat (first | with_reducible exact Below.refl _ _ | with_reducible assumption | with_reducible refine Below.drew ?_ | with_reducible refine below_drewN ?_ _ | (with_reducible refine Below.alloc ?_ ?_ _; rotate_left; (try simp) <;> omega) | (with_reducible refine Below.setCell ?_ ?_ _; rotate_left; (try simp) <;> omega)))) (hb1.mono (by first | omega | (simp; omega) | simp)); have hK1 : Bk w1 w.heap.size 29 C := Bk.below (by exact (by repeat (first | with_reducible assumption | with_reducible exact Bk.new _ _ _ | with_reducible refine Bk.drew ?_ | with_reducible refine Bk.drewN ?_ _ | with_reducible refine Bk.alloc ?_ _ | (with_reducible refine Bk.far ?_ ?_ _; rotate_left; (try simp) <;> omega)))) hb1 (by first | omega | (simp; omega) | simp); have hz1 := hb1.size; (try simp at hz1); clear hb1))
    go_ret
    exact ⟨_, rfl, by rw [HR.out]; exact World.ownsRow_nil _ _ _ _, hB1⟩
  | true =>
    have hn : (n != 0) = false := g2.trans (by rw [h]; rfl)
    have HR : Hid (r = skL Y.ma d need) := by show _ = _; rw [HE.out, h]; rfl
    clear HE h g1 g2
    go_enter Try.func50, Try.ntmps50
    go_upto_region 5 with (first | (refine wpList_load_guard (P := Try.prog) (by rfl) 29 (.tmp 3) rfl w.heap.size 0 rfl C.toList _ (HLOAD.out _ _ (by exact (by repeat (first | with_reducible assumption | with_reducible exact Bk.new _ _ _ | with_reducible refine Bk.drew ?_ | with_reducible refine Bk.drewN ?_ _ | with_reducible refine Bk.alloc ?_ _ | (with_reducible refine Bk.far ?_ ?_ _; rotate_left; (try simp) <;> omega))))) Try.underlying29 rfl (by rw [HC28.out]; exact info29) ?_) | (go_at_call 17; refine (HCK.out _ (by exact (by repeat (first | with_reducible exact Below.refl _ _ | with_reducible assumption | with_reducible refine Below.drew ?_ | with_reducible refine below_drewN ?_ _ | (with_reducible refine Below.alloc ?_ ?_ _; rotate_left; (try simp) <;> omega) | (with_reducible refine Below.setCell ?_ ?_ _; rotate_left; (try simp) <;> omega))))).mono ?_; rintro e w1 ⟨rfl, hb1⟩; have hB1 : Below w.heap.size w w1 := Below.trans (by exact (by repeat (first | with_reducible exact Below.refl _ _ | with_reducible assumption | with_reducible refine Below.drew ?_ | with_reducible refine below_drewN ?_ _ | (with_reducible refine Below.alloc ?_ ?_ _; rotate_left; (try simp) <;> omega) | (with_reducible refine Below.setCell ?_ ?_ _; rotate_left; (try simp) <;> omega)))) (hb1.mono (by first | omega | (simp; omega) | simp)); have hK1 : Bk w1 w.heap.size 29 C := Bk.below (by exact (by repeat (first | with_reducible assumption | with_reducible exact Bk.new _ _ _ | with_reducible refine Bk.drew ?_ | with_reducible refine Bk.drewN ?_ _ | with_reducible refine Bk.alloc ?_ _ | (with_reducible refine Bk.far ?_ ?_ _; rotate_left; (try simp) <;> omega)))) hb1 (by first | omega | (simp; omega) | simp); have hz1 := hb1.size; (try simp at hz1); clear hb1))
    go_loopw [7, 8] (fun v y wr => ∃ k : Nat, k ≤ Y.ma.length ∧ y = .int .i64 k ∧ wr.ownsRow (w.heap.size + 1) 3 1 v (skK Y.ma d need k).length (ints (skK Y.ma d need k)) ∧ Below w.heap.size w wr ∧ Bk wr w.heap.size 29 C) (fun _ y _ => Y.ma.length - (intOf y).toNat)
    case atStart => exact ⟨0, by omega, rfl, World.ownsRow_nil _ _ _ _, hB1, hK1⟩
    case round =>
    clear hB1 hK1 hz1
    obtain ⟨k, hk, rfl, hown, hbw, hbk⟩ := hrel
    have hbs := hbw.size
    have hbl := hbk.lt
    have x3 := hbk.cell 26 e3
    by_cases hlt : k < Y.ma.length
    · obtain ⟨ad, hA, hadb, c0, c1, c2, c3⟩ := mas_at (L3.below hbw (Nat.le_refl _)) hlt
      subst hA
      have HY := Lib.hid (fun (h : skB Y.ma[k] d need = true) => skK_yes hlt h)
      have HN := Lib.hid (fun (h : skB Y.ma[k] d need = false) => skK_no hlt h)
      have HAB := Lib.hid (fun W => able_any Y.ma[k] d need W)
      have hln := skK_len Y.ma d need k
      generalize skB Y.ma[k] d need = q at *
      generalize skK Y.ma d need k = S at *
      generalize Y.ma[k] = m at *
      obtain ⟨nm, f, u, kk⟩ := m
      dsimp only at *
      cases q with
      | true =>
        have HE := Lib.hid (HY.out rfl)
        clear HY HN
        go_upto_region 8 with (go_at_call 100; refine (HAB.out _).mono ?_; rintro e w2 ⟨rfl, hb2⟩; have hB2 : Below w.heap.size w w2 := Below.trans (by exact (by repeat (first | with_reducible exact Below.refl _ _ | with_reducible assumption | with_reducible refine Below.drew ?_ | with_reducible refine below_drewN ?_ _ | (with_reducible refine Below.alloc ?_ ?_ _; rotate_left; (try simp) <;> omega) | (with_reducible refine Below.setCell ?_ ?_ _; rotate_left; (try simp) <;> omega)))) (hb2.mono (by first | omega | simp; omega)); have hK2 : Bk w2 w.heap.size 29 C := Bk.below (by exact (by repeat (first | with_reducible assumption | with_reducible exact Bk.new _ _ _ | with_reducible refine Bk.drew ?_ | with_reducible refine Bk.drewN ?_ _ | with_reducible refine Bk.alloc ?_ _ | (with_reducible refine Bk.far ?_ ?_ _; rotate_left; (try simp) <;> omega)))) hb2 (by first | omega | simp; omega); have hown1 := ownsRow_below hown hb2 (Nat.le_refl _); have hz2 := hb2.size; clear hb2)
        go_wp2_with (at_builtin; refine wpList_append_own _ rfl (.tmp 27) (.tmp 29) 25 rfl (w.heap.size + 1) 3 i0 (.int .i64 0) 1 8 Try.underlying25 I3.out.1 I3.out.2.1 I3.out.2.2.1 I3.out.2.2.2 rfl (by decide) _ S.length (ints S) rfl (hown1.alloc _) ⟨w2.heap.size, 0, none⟩ 1 1 [.int .i64 k] rfl rfl ?c1 ?c2 ?c3 ?c4 ?c5 ?_)
        case c1 => simpa using cell_one_new w2 (.int .i64 k) 3
        case c2 => intro u hu; simp at hu; subst hu; rfl
        case c3 => unfold maxLen; omega
        case c4 => omega
        case c5 => simp; omega
        intro v' w1 hown' hgrow _
        rw [ints_snoc, ← HE.out] at hown'
        have hlen : Hid (S.length + 1 = (skK Y.ma d need (k + 1)).length) := by show _ = _; rw [HE.out]; simp
        rw [hlen.out] at hown'
        have hb1 : Below w.heap.size w w1 := below_own (by exact (by repeat (first | with_reducible exact Below.refl _ _ | with_reducible assumption | with_reducible refine Below.drew ?_ | with_reducible refine below_drewN ?_ _ | (with_reducible refine Below.alloc ?_ ?_ _; rotate_left; (try simp) <;> omega) | (with_reducible refine Below.setCell ?_ ?_ _; rotate_left; (try simp) <;> omega)))) (hown1.alloc _) hgrow (Nat.le_succ _) (by simp; omega)
        have hk1 : Bk w1 w.heap.size 29 C := (hK2.alloc _).grown hgrow (own_ne hown1 (Nat.lt_succ_self _))
        clear hgrow hown hown1
        go_wp2
        go_roundw
        case rel => exact ⟨k + 1, by omega, by go_num, hown', hb1, hk1⟩
        case measure => simp [intOf]; omega
      | false =>
        have HE := Lib.hid (HN.out rfl)
        clear HY HN
        go_wp2_with (go_at_call 100; refine (HAB.out _).mono ?_; rintro e w2 ⟨rfl, hb2⟩; have hB2 : Below w.heap.size w w2 := Below.trans (by exact (by repeat (first | with_reducible exact Below.refl _ _ | with_reducible assumption | with_reducible refine Below.drew ?_ | with_reducible refine below_drewN ?_ _ | (with_reducible refine Below.alloc ?_ ?_ _; rotate_left; (try simp) <;> omega) | (with_reducible refine Below.setCell ?_ ?_ _; rotate_left; (try simp) <;> omega)))) (hb2.mono (by first | omega | simp; omega)); have hK2 : Bk w2 w.heap.size 29 C := Bk.below (by exact (by repeat (first | with_reducible assumption | with_reducible exact Bk.new _ _ _ | with_reducible refine Bk.drew ?_ | with_reducible refine Bk.drewN ?_ _ | with_reducible refine Bk.alloc ?_ _ | (with_reducible refine Bk.far ?_ ?_ _; rotate_left; (try simp) <;> omega)))) hb2 (by first | omega | simp; omega); have hown1 := ownsRow_below hown hb2 (Nat.le_refl _); have hz2 := hb2.size; clear hb2)
        go_roundw
        case rel => exact ⟨k + 1, by omega, by go_num, by rw [HE.out]; exact hown1, hB2, hK2⟩
        case measure => simp [intOf]; omega
    · obtain rfl : k = Y.ma.length := by omega
      clear hlt hk
      go_wp2
      go_ret
      exact ⟨_, rfl, by rw [HR.out]; exact ownsRow_base hown (Nat.le_succ _), hbw⟩

set_option maxHeartbeats 400000 in
theorem common_any (C : Array Value) (Y : Yd) (l : List Tk) (Al : Option Addr) (cl : Nat) (w : World) (hY : YardAt w w.heap.size C Y) (hs : Small Y) (hT : TasksAt w w.heap.size Al l) (ht : tame l) : Calls Try.prog 85 #[.agg C, .slice Al l.length cl] w (IntEnd (comE Y l) w) := by
  have HCK := Lib.hid (fun W (hb : Below w.heap.size w W) => checkYard_any C Y W ((hY.below hb (Nat.le_refl _)).more hb.size) hs.cl hs.pi hs.ma hs.nm)
  have HLOAD := load_any hY
  have HC28 := Lib.hid hY.len
  have HCT := Lib.hid (fun W (hb : Below w.heap.size w W) => checkTasks_any l Al cl W ((hT.below hb (Nat.le_refl _)).more hb.size) ht)
  have HE : Hid (comE Y l = if okY Y = true then chkL l else chkY Y) := rfl
  have HN := Lib.hid (chk_of Y)
  clear hY hs hT ht
  generalize chkY Y = n at *
  generalize chkL l = m at *
  generalize comE Y l = r at *
  obtain ⟨g1, g2⟩ := HN.out
  cases h : okY Y with
  | false =>
    have hn : (n != 0) = true := g2.trans (by rw [h]; rfl)
    have HR : Hid (r = n) := by show _ = _; rw [HE.out, h]; rfl
    clear HE h g1 g2
    go_enter Try.func85, Try.ntmps85
    go_wp2_with (first | (refine wpList_load_guard (P := Try.prog) (by rfl) 29 (.tmp 2) rfl w.heap.size 0 rfl C.toList _ (HLOAD.out _ _ (by exact (by repeat (first | with_reducible assumption | with_reducible exact Bk.new _ _ _ | with_reducible refine Bk.drew ?_ | with_reducible refine Bk.drewN ?_ _ | with_reducible refine Bk.alloc ?_ _ | (with_reducible refine Bk.far ?_ ?_ _; rotate_left; (try simp) <;> omega))))) Try.underlying29 rfl (by rw [HC28.out]; exact info29) ?_) | (go_at_call 16; refine (HCK.out _ (by exact (by repeat (first | with_reducible exact Below.refl _ _ | with_reducible assumption | with_reducible refine Below.drew ?_ | with_reducible refine below_drewN ?_ _ | (with_reducible refine Below.alloc ?_ ?_ _; rotate_left; (try simp) <;> omega) | (with_reducible refine Below.setCell ?_ ?_ _; rotate_left; (try simp) <;> omega))))).mono ?_; rintro e w1 ⟨rfl, hb1⟩; have hB1 : Below w.heap.size w w1 := Below.trans (by exact (by repeat (first | with_reducible exact Below.refl _ _ | with_reducible assumption | with_reducible refine Below.drew ?_ | with_reducible refine below_drewN ?_ _ | (with_reducible refine Below.alloc ?_ ?_ _; rotate_left; (try simp) <;> omega) | (with_reducible refine Below.setCell ?_ ?_ _; rotate_left; (try simp) <;> omega)))) (hb1.mono (by first | omega | (simp; omega) | simp)); clear hb1))
    go_ret
    exact int_end HR.out.symm hB1
  | true =>
    have hn : (n != 0) = false := g2.trans (by rw [h]; rfl)
    have HR : Hid (r = m) := by show _ = _; rw [HE.out, h]; rfl
    clear HE h g1 g2
    go_enter Try.func85, Try.ntmps85
    go_wp2_with (first | (refine wpList_load_guard (P := Try.prog) (by rfl) 29 (.tmp 2) rfl w.heap.size 0 rfl C.toList _ (HLOAD.out _ _ (by exact (by repeat (first | with_reducible assumption | with_reducible exact Bk.new _ _ _ | with_reducible refine Bk.drew ?_ | with_reducible refine Bk.drewN ?_ _ | with_reducible refine Bk.alloc ?_ _ | (with_reducible refine Bk.far ?_ ?_ _; rotate_left; (try simp) <;> omega))))) Try.underlying29 rfl (by rw [HC28.out]; exact info29) ?_) | (go_at_call 16; refine (HCK.out _ (by exact (by repeat (first | with_reducible exact Below.refl _ _ | with_reducible assumption | with_reducible refine Below.drew ?_ | with_reducible refine below_drewN ?_ _ | (with_reducible refine Below.alloc ?_ ?_ _; rotate_left; (try simp) <;> omega) | (with_reducible refine Below.setCell ?_ ?_ _; rotate_left; (try simp) <;> omega))))).mono ?_; rintro e w1 ⟨rfl, hb1⟩; have hB1 : Below w.heap.size w w1 := Below.trans (by exact (by repeat (first | with_reducible exact Below.refl _ _ | with_reducible assumption | with_reducible refine Below.drew ?_ | with_reducible refine below_drewN ?_ _ | (with_reducible refine Below.alloc ?_ ?_ _; rotate_left; (try simp) <;> omega) | (with_reducible refine Below.setCell ?_ ?_ _; rotate_left; (try simp) <;> omega)))) (hb1.mono (by first | omega | (simp; omega) | simp)); clear hb1) | (go_at_call 18; refine (HCT.out _ hB1).mono ?_; rintro e w2 ⟨rfl, hb2⟩; have hB2 : Below w.heap.size w w2 := Below.trans hB1 (hb2.mono hB1.size)))
    go_ret
    exact int_end HR.out.symm hB2

set_option maxHeartbeats 400000 in
theorem rcommon_any (C : Array Value) (Y : Yd) (l : List Tk) (Al : Option Addr) (cl : Nat) (w : World) (hY : YardAt w w.heap.size C Y) (hs : Small Y) (hT : TasksAt w w.heap.size Al l) (ht : tame l) : Calls Try.prog 89 #[.agg C, .slice Al l.length cl] w (IntEnd (comE Y l) w) := by
  have HCK := Lib.hid (fun W (hb : Below w.heap.size w W) => rCheckYard_any C Y W ((hY.below hb (Nat.le_refl _)).more hb.size) hs.cl hs.pi hs.ma hs.nm)
  have HLOAD := load_any hY
  have HC28 := Lib.hid hY.len
  have HCT := Lib.hid (fun W (hb : Below w.heap.size w W) => rCheckTasks_any l Al cl W ((hT.below hb (Nat.le_refl _)).more hb.size) ht)
  have HE : Hid (comE Y l = if okY Y = true then chkL l else chkY Y) := rfl
  have HN := Lib.hid (chk_of Y)
  clear hY hs hT ht
  generalize chkY Y = n at *
  generalize chkL l = m at *
  generalize comE Y l = r at *
  obtain ⟨g1, g2⟩ := HN.out
  cases h : okY Y with
  | false =>
    have hn : (n == 0) = false := g1.trans h
    have HR : Hid (r = n) := by show _ = _; rw [HE.out, h]; rfl
    clear HE h g1 g2
    go_enter Try.func89, Try.ntmps89
    go_wp2_with (first | (refine wpList_load_guard (P := Try.prog) (by rfl) 29 (.tmp 2) rfl w.heap.size 0 rfl C.toList _ (HLOAD.out _ _ (by exact (by repeat (first | with_reducible assumption | with_reducible exact Bk.new _ _ _ | with_reducible refine Bk.drew ?_ | with_reducible refine Bk.drewN ?_ _ | with_reducible refine Bk.alloc ?_ _ | (with_reducible refine Bk.far ?_ ?_ _; rotate_left; (try simp) <;> omega))))) Try.underlying29 rfl (by rw [HC28.out]; exact info29) ?_) | (go_at_call 17; refine (HCK.out _ (by exact (by repeat (first | with_reducible exact Below.refl _ _ | with_reducible assumption | with_reducible refine Below.drew ?_ | with_reducible refine below_drewN ?_ _ | (with_reducible refine Below.alloc ?_ ?_ _; rotate_left; (try simp) <;> omega) | (with_reducible refine Below.setCell ?_ ?_ _; rotate_left; (try simp) <;> omega))))).mono ?_; rintro e w1 ⟨rfl, hb1⟩; have hB1 : Below w.heap.size w w1 := Below.trans (by exact (by repeat (first | with_reducible exact Below.refl _ _ | with_reducible assumption | with_reducible refine Below.drew ?_ | with_reducible refine below_drewN ?_ _ | (with_reducible refine Below.alloc ?_ ?_ _; rotate_left; (try simp) <;> omega) | (with_reducible refine Below.setCell ?_ ?_ _; rotate_left; (try simp) <;> omega)))) (hb1.mono (by first | omega | (simp; omega) | simp)); clear hb1))
    go_ret
    exact int_end HR.out.symm hB1
  | true =>
    have hn : (n == 0) = true := g1.trans h
    have HR : Hid (r = m) := by show _ = _; rw [HE.out, h]; rfl
    clear HE h g1 g2
    go_enter Try.func89, Try.ntmps89
    go_wp2_with (first | (refine wpList_load_guard (P := Try.prog) (by rfl) 29 (.tmp 2) rfl w.heap.size 0 rfl C.toList _ (HLOAD.out _ _ (by exact (by repeat (first | with_reducible assumption | with_reducible exact Bk.new _ _ _ | with_reducible refine Bk.drew ?_ | with_reducible refine Bk.drewN ?_ _ | with_reducible refine Bk.alloc ?_ _ | (with_reducible refine Bk.far ?_ ?_ _; rotate_left; (try simp) <;> omega))))) Try.underlying29 rfl (by rw [HC28.out]; exact info29) ?_) | (go_at_call 17; refine (HCK.out _ (by exact (by repeat (first | with_reducible exact Below.refl _ _ | with_reducible assumption | with_reducible refine Below.drew ?_ | with_reducible refine below_drewN ?_ _ | (with_reducible refine Below.alloc ?_ ?_ _; rotate_left; (try simp) <;> omega) | (with_reducible refine Below.setCell ?_ ?_ _; rotate_left; (try simp) <;> omega))))).mono ?_; rintro e w1 ⟨rfl, hb1⟩; have hB1 : Below w.heap.size w w1 := Below.trans (by exact (by repeat (first | with_reducible exact Below.refl _ _ | with_reducible assumption | with_reducible refine Below.drew ?_ | with_reducible refine below_drewN ?_ _ | (with_reducible refine Below.alloc ?_ ?_ _; rotate_left; (try simp) <;> omega) | (with_reducible refine Below.setCell ?_ ?_ _; rotate_left; (try simp) <;> omega)))) (hb1.mono (by first | omega | (simp; omega) | simp)); clear hb1) | (go_at_call 19; refine (HCT.out _ hB1).mono ?_; rintro e w2 ⟨rfl, hb2⟩; have hB2 : Below w.heap.size w w2 := Below.trans hB1 (hb2.mono hB1.size)))
    go_ret
    exact int_end HR.out.symm hB2

end Go.Proofs.Ytjgnikmnadmheaa

namespace Go.Proofs.Ytjgnikmnadmheaa
open Go.RowKit
attribute [local go_sem ↓] Go.wp_at_zero Go.wp_at_succ

theorem ownsSlice {w : World} {b : Nat} {e : TypeId} {size n : Nat} {v : Value} {xs : List Value} (h : w.ownsRow b e size v n xs) : ∃ A c, v = .slice A n c ∧ n ≤ c ∧ c ≤ maxLen := by
  rcases h.2 with ⟨rfl, rfl⟩ | ⟨g, cap, cur, rfl, _, _, h1, h2, _⟩
  · exact ⟨none, 0, rfl, Nat.le_refl _, Nat.zero_le _⟩
  · exact ⟨_, _, rfl, h1, h2⟩
set_option maxHeartbeats 400000 in
theorem cond1_any (C : Array Value) (Y : Yd) (d : Int) (b0 b2 : Nat) (w : World) (hY : YardAt w w.heap.size C Y) (hv : Valid Y) (hK : Bk w b0 29 C) (hd : w.cell? ⟨b2, 0, none⟩ = some (.int .i64 d)) :
    Calls Try.prog 124 #[.pointer (some ⟨b0, 0, none⟩), .pointer (some ⟨b2, 0, none⟩)] w (ShEnd (openB Y d) w) := by
  have HO := Lib.hid (open_any C Y d w hY hv)
  have HC28 := Lib.hid hY.len
  have HR := Lib.hid hK.range
  clear hY hv hK
  go_enter Try.func124, Try.ntmps124
  go_wp2_with (first | (refine wpList_load_guard (P := Try.prog) (by rfl) 29 (.tmp 0) rfl b0 0 rfl C.toList _ HR.out Try.underlying29 rfl (by rw [HC28.out]; exact info29) ?_) | (go_at_call 106; refine HO.out.mono ?_; rintro e w1 ⟨rfl, hb⟩))
  go_ret
  exact ⟨rfl, hb⟩

set_option maxRecDepth 100000 in
set_option maxHeartbeats 1000000 in
theorem cond2_any (C : Array Value) (Y : Yd) (d x : Int) (b0 b2 b3 : Nat) (w : World) (hY : YardAt w w.heap.size C Y) (hv : Valid Y) (hK : Bk w b0 29 C) (hd : w.cell? ⟨b2, 0, none⟩ = some (.int .i64 d)) (hx : w.cell? ⟨b3, 0, none⟩ = some (.int .i64 x)) :
    Calls Try.prog 125 #[.pointer (some ⟨b0, 0, none⟩), .pointer (some ⟨b2, 0, none⟩), .pointer (some ⟨b3, 0, none⟩)] w (ShEnd (decide (x ≤ minOf Y d)) w) := by
  have HO := Lib.hid (fun W (hb : Below w.heap.size w W) => minutes_any C Y d W ((hY.below hb (Nat.le_refl _)).more hb.size) hv)
  have h28 := hY.len
  have hi : (Try.prog.info? 29).map (·.size) = some C.toList.length := by rw [h28]; exact info29
  have hu := Try.underlying29
  have l2 := block_lt_of_cell hd
  have l3 := block_lt_of_cell hx
  have l0 := hK.lt
  have HR := hK.range
  dsimp only at l2 l3
  clear hY hv
  generalize minOf Y d = m at *
  go_enter Try.func125, Try.ntmps125
  go_wp2
  refine wp_region_held_drew (S := (fun w' => w'.rangeAt b0 0 C.toList ∧ w'.cell? ⟨b2, 0, none⟩ = some (.int .i64 d) ∧ w'.cell? ⟨b3, 0, none⟩ = some (.int .i64 x))) (by kernel_rfl) ?_ (fun hHeld => ?_)
  · (refine ⟨?_, ?_, ?_⟩ <;> first | assumption | go_keep)
  (refine held_row 0 (some 4) 29 (.tmp 0) (b0) 0 C.toList _ rfl rfl (by kernel_rfl) (by kernel_rfl) (by kernel_rfl) (by rfl) rfl (fun _ _ _ h => h) (by assumption) (fun _ hS => hS.1) Try.underlying29 rfl (by assumption) ?_; (try simp only [Act.put, List.setIfInBounds_toArray, List.set_cons_zero, List.set_cons_succ]))
  refine tk 1 5 ?_
  refine tk 3 7 ?_
  refine tk 4 8 ?_
  (refine held_call 2 (some 6) 107 _ rfl (by kernel_rfl) (by rfl) ?_ (HO.out _ (by exact (by repeat (first | with_reducible exact Below.refl _ _ | with_reducible assumption | with_reducible refine Below.drew ?_ | with_reducible refine below_drewN ?_ _ | (with_reducible refine Below.alloc ?_ ?_ _; rotate_left; (try simp) <;> omega) | (with_reducible refine Below.setCell ?_ ?_ _; rotate_left; (try simp) <;> omega))))) ?_; rotate_left; rotate_left; (simp only [List.getElem?_toArray, List.getElem?_cons_zero, List.getElem?_cons_succ, Option.map_some]; refine congrArg some ?_; go_simp))
  rintro e w5 ⟨rfl, hb5'⟩
  have hb5 : Below w.heap.size w w5 := Below.trans (by exact (by repeat (first | with_reducible exact Below.refl _ _ | with_reducible assumption | with_reducible refine Below.drew ?_ | with_reducible refine below_drewN ?_ _ | (with_reducible refine Below.alloc ?_ ?_ _; rotate_left; (try simp) <;> omega) | (with_reducible refine Below.setCell ?_ ?_ _; rotate_left; (try simp) <;> omega)))) (hb5'.mono (by first | omega | simp))
  refine ⟨_, rfl, ⟨hK.below hb5 l0 |>.range, (hb5.cell (p := ⟨b2, 0, none⟩) l2).trans hd, (hb5.cell (p := ⟨b3, 0, none⟩) l3).trans hx⟩, fun hHeld => ?_⟩
  (try simp only [Act.put, List.setIfInBounds_toArray, List.set_cons_zero, List.set_cons_succ])
  refine tk 5 9 ?_
  refine tk 6 3 ?_
  refine wpAnyH_done (by kernel_rfl) ?_ _
  go_wp2
  go_ret
  exact ⟨rfl, hb5⟩

set_option maxRecDepth 100000 in
set_option maxHeartbeats 1000000 in
theorem cond3_any (C : Array Value) (Y : Yd) (d : Int) (k : Nat) (b0 b2 b3 : Nat) (w : World) (hk : k ≤ 1000) (hY : YardAt w w.heap.size C Y) (hv : Valid Y) (hK : Bk w b0 29 C) (hd : w.cell? ⟨b2, 0, none⟩ = some (.int .i64 d)) (hx : w.cell? ⟨b3, 0, none⟩ = some (.int .i64 k)) :
    Calls Try.prog 126 #[.pointer (some ⟨b0, 0, none⟩), .pointer (some ⟨b2, 0, none⟩), .pointer (some ⟨b3, 0, none⟩)] w (ShEnd (decide ((k : Int) + 1 ≤ batOf Y.pi d)) w) := by
  have HO := Lib.hid (fun W (hb : Below w.heap.size w W) => batches_any C Y d W ((hY.below hb (Nat.le_refl _)).more hb.size) hv)
  have h28 := hY.len
  have hi : (Try.prog.info? 29).map (·.size) = some C.toList.length := by rw [h28]; exact info29
  have l2 := block_lt_of_cell hd
  have l3 := block_lt_of_cell hx
  have l0 := hK.lt
  have HR := hK.range
  dsimp only at l2 l3
  clear hY hv
  generalize batOf Y.pi d = m at *
  have WW : Hid (IntKind.i64.wrap ((k : Int) + 1) = (k : Int) + 1) := IntWalk.i64_in _ (by omega)
  go_enter Try.func126, Try.ntmps126
  go_wp2
  refine wp_region_held_drew (S := (fun w' => w'.rangeAt b0 0 C.toList ∧ w'.cell? ⟨b2, 0, none⟩ = some (.int .i64 d) ∧ w'.cell? ⟨b3, 0, none⟩ = some (.int .i64 k))) (by kernel_rfl) ?_ (fun hHeld => ?_)
  · (refine ⟨?_, ?_, ?_⟩ <;> first | assumption | go_keep)
  (refine held_row 0 (some 4) 29 (.tmp 0) (b0) 0 C.toList _ rfl rfl (by kernel_rfl) (by kernel_rfl) (by kernel_rfl) (by rfl) rfl (fun _ _ _ h => h) (by assumption) (fun _ hS => hS.1) Try.underlying29 rfl (by assumption) ?_; (try simp only [Act.put, List.setIfInBounds_toArray, List.set_cons_zero, List.set_cons_succ]))
  refine tk 1 5 ?_
  refine tk 3 7 ?_
  refine tk 4 8 ?_
  (refine held_call 2 (some 6) 108 _ rfl (by kernel_rfl) (by rfl) ?_ (HO.out _ (by exact (by repeat (first | with_reducible exact Below.refl _ _ | with_reducible assumption | with_reducible refine Below.drew ?_ | with_reducible refine below_drewN ?_ _ | (with_reducible refine Below.alloc ?_ ?_ _; rotate_left; (try simp) <;> omega) | (with_reducible refine Below.setCell ?_ ?_ _; rotate_left; (try simp) <;> omega))))) ?_; rotate_left; rotate_left; (simp only [List.getElem?_toArray, List.getElem?_cons_zero, List.getElem?_cons_succ, Option.map_some]; refine congrArg some ?_; go_simp))
  rintro e w5 ⟨rfl, hb5'⟩
  have hb5 : Below w.heap.size w w5 := Below.trans (by exact (by repeat (first | with_reducible exact Below.refl _ _ | with_reducible assumption | with_reducible refine Below.drew ?_ | with_reducible refine below_drewN ?_ _ | (with_reducible refine Below.alloc ?_ ?_ _; rotate_left; (try simp) <;> omega) | (with_reducible refine Below.setCell ?_ ?_ _; rotate_left; (try simp) <;> omega)))) (hb5'.mono (by first | omega | simp))
  refine ⟨_, rfl, ⟨hK.below hb5 l0 |>.range, (hb5.cell (p := ⟨b2, 0, none⟩) l2).trans hd, (hb5.cell (p := ⟨b3, 0, none⟩) l3).trans hx⟩, fun hHeld => ?_⟩
  (try simp only [Act.put, List.setIfInBounds_toArray, List.set_cons_zero, List.set_cons_succ])
  refine tk 5 9 ?_
  refine tk 6 3 ?_
  refine wpAnyH_done (by kernel_rfl) ?_ _
  go_wp2
  go_ret
  exact ⟨congrArg (fun z : Int => Ending.returned (.bool (decide (z ≤ m)))) WW.out, hb5⟩

set_option maxRecDepth 100000 in
set_option maxHeartbeats 1000000 in
theorem cond4_any (C : Array Value) (Y : Yd) (d x : Int) (b0 b2 b3 : Nat) (w : World) (hY : YardAt w w.heap.size C Y) (hv : Valid Y) (hK : Bk w b0 29 C) (hd : w.cell? ⟨b2, 0, none⟩ = some (.int .i64 d)) (hx : w.cell? ⟨b3, 1, none⟩ = some (.int .i64 x)) :
    Calls Try.prog 127 #[.pointer (some ⟨b0, 0, none⟩), .pointer (some ⟨b2, 0, none⟩), .pointer (some ⟨b3, 0, none⟩)] w (ShEnd (decide (0 < (skL Y.ma d x).length)) w) := by
  have HO := Lib.hid (skilled_any C Y d x w hY hv)
  have HC28 := Lib.hid hY.len
  have HR := Lib.hid hK.range
  clear hY hv hK
  generalize skL Y.ma d x = L at *
  go_enter Try.func127, Try.ntmps127
  go_wp2_with (first | (refine wpList_load_guard (P := Try.prog) (by rfl) 29 (.tmp 0) rfl b0 0 rfl C.toList _ HR.out Try.underlying29 rfl (by rw [HC28.out]; exact info29) ?_) | (go_at_call 98; refine HO.out.mono ?_; rintro e w1 ⟨v, rfl, ho, hb⟩; obtain ⟨A1, c1, rfl, _, _⟩ := ownsSlice ho))
  go_ret
  exact ⟨by simp, hb⟩

/-- the conditions of suits, in the program's order -/
def suitB (Y : Yd) (t : Tk) (i : Nat) (d : Int) : Bool := openB Y d && (decide (t.work ≤ minOf Y d) && (decide ((i : Int) + 1 ≤ batOf Y.pi d) && decide (0 < (skL Y.ma d t.need).length)))
def condN (Y : Yd) (t : Tk) (i : Nat) (d : Int) (k : Nat) : Bool := match k with
  | 0 => openB Y d
  | 1 => decide (t.work ≤ minOf Y d)
  | 2 => decide ((i : Int) + 1 ≤ batOf Y.pi d)
  | _ => decide (0 < (skL Y.ma d t.need).length)
theorem suitB_no {Y : Yd} {t : Tk} {i : Nat} {d : Int} {k : Nat} (hk : k < 4) (h : condN Y t i d k = false) : suitB Y t i d = false := by
  unfold suitB
  match k, hk, h with
  | 0, _, h => rw [show openB Y d = false from h]; rfl
  | 1, _, h => rw [show decide (t.work ≤ minOf Y d) = false from h]; simp
  | 2, _, h => rw [show decide ((i : Int) + 1 ≤ batOf Y.pi d) = false from h]; simp
  | 3, _, h => rw [show decide (0 < (skL Y.ma d t.need).length) = false from h]; simp
theorem suitB_yes {Y : Yd} {t : Tk} {i : Nat} {d : Int} (h : ∀ k, k < 4 → condN Y t i d k = true) : suitB Y t i d = true := by
  unfold suitB
  have h0 : openB Y d = true := h 0 (by omega)
  have h1 : decide (t.work ≤ minOf Y d) = true := h 1 (by omega)
  have h2 : decide ((i : Int) + 1 ≤ batOf Y.pi d) = true := h 2 (by omega)
  have h3 : decide (0 < (skL Y.ma d t.need).length) = true := h 3 (by omega)
  rw [h0, h1, h2, h3]; rfl
def fnOfK (b : Nat) (k : Nat) : Value := match k with
  | 0 => .func (.func 124) #[] #[.pointer (some ⟨b, 0, none⟩), .pointer (some ⟨b + 2, 0, none⟩)]
  | 1 => .func (.func 125) #[] #[.pointer (some ⟨b, 0, none⟩), .pointer (some ⟨b + 2, 0, none⟩), .pointer (some ⟨b + 3, 0, none⟩)]
  | 2 => .func (.func 126) #[] #[.pointer (some ⟨b, 0, none⟩), .pointer (some ⟨b + 2, 0, none⟩), .pointer (some ⟨b + 1, 0, none⟩)]
  | _ => .func (.func 127) #[] #[.pointer (some ⟨b, 0, none⟩), .pointer (some ⟨b + 2, 0, none⟩), .pointer (some ⟨b + 3, 0, none⟩)]

end Go.Proofs.Ytjgnikmnadmheaa
