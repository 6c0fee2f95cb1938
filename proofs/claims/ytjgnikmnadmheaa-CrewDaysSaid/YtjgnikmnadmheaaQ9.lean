/- giornataref07.CheckTasks, for all tasks. -/
import Derived.Test.YtjgnikmnadmheaaQ8
namespace Go.Proofs.Ytjgnikmnadmheaa
open Go.RowKit

/-- what the reference asks of an earlier task, number j of the list -/
def afB (i : Nat) (l : List Int) (j : Nat) : Bool := decide (l.getD j 0 < 0) || decide ((i : Int) ≤ l.getD j 0) || (decide (0 < j) && decide (l.getD j 0 ≤ l.getD (j - 1) 0))
theorem afB_any (i : Nat) (l : List Int) : (List.range l.length).any (afB i l) = (!risingB l || l.any (outOf i)) := by
  rw [Bool.eq_iff_iff, List.any_eq_true, Bool.or_eq_true, Bool.not_eq_true', List.any_eq_true]
  constructor
  · rintro ⟨j, hj, h⟩
    have hj' : j < l.length := by simpa using hj
    unfold afB at h
    rw [List.getD_eq_getElem?_getD, List.getElem?_eq_getElem hj'] at h
    simp only [Bool.or_eq_true, Bool.and_eq_true, decide_eq_true_eq, Option.getD_some] at h
    rcases h with (h | h) | ⟨h1, h2⟩
    · refine .inr ⟨l[j], List.getElem_mem hj', ?_⟩
      unfold outOf inB; simp; omega
    · refine .inr ⟨l[j], List.getElem_mem hj', ?_⟩
      unfold outOf inB; simp; omega
    · refine .inl ?_
      rw [← Bool.not_eq_true]
      intro hr
      have := (risingB_iff l).1 hr (j - 1) (by omega)
      rw [List.getD_eq_getElem?_getD, List.getElem?_eq_getElem (show j - 1 < l.length by omega)] at h2
      have e : l[j - 1 + 1]'(by omega) = l[j] := by congr 1; omega
      rw [e] at this
      simp at h2
      omega
  · rintro (h | ⟨x, hx, h⟩)
    · have hn : ¬ ∀ k (h : k + 1 < l.length), l[k]'(by omega) < l[k + 1] := fun hh => by rw [(risingB_iff l).2 hh] at h; cases h
      obtain ⟨k, hk, hlt⟩ : ∃ (k : Nat) (h : k + 1 < l.length), ¬ (l[k]'(by omega) < l[k + 1]) := Classical.byContradiction fun hno => hn fun k hk => Classical.byContradiction fun h2 => hno ⟨k, hk, h2⟩
      refine ⟨k + 1, by simpa using hk, ?_⟩
      unfold afB
      simp only [List.getD_eq_getElem?_getD, List.getElem?_eq_getElem hk, List.getElem?_eq_getElem (show k + 1 - 1 < l.length by omega), Option.getD_some, Bool.or_eq_true, Bool.and_eq_true, decide_eq_true_eq]
      refine .inr ⟨by omega, ?_⟩
      have e : l[k + 1 - 1]'(by omega) = l[k]'(by omega) := by congr 1
      rw [e]; omega
    · obtain ⟨j, hj, rfl⟩ := List.getElem_of_mem hx
      refine ⟨j, by simpa using hj, ?_⟩
      unfold outOf inB at h
      unfold afB
      simp only [List.getD_eq_getElem?_getD, List.getElem?_eq_getElem hj, Option.getD_some, Bool.or_eq_true, Bool.and_eq_true, decide_eq_true_eq]
      simp at h
      refine .inl ?_
      rcases h with h | h
      · exact .inl h
      · exact .inr (by omega)
theorem any_yes {p : Nat → Bool} {n j : Nat} (hj : j < n) (h : p j = true) : (List.range n).any p = true := List.any_eq_true.2 ⟨j, by simpa using hj, h⟩
theorem any_no {p : Nat → Bool} {n : Nat} (h : ∀ j, j < n → p j = false) : (List.range n).any p = false := by
  rw [List.any_eq_false]
  intro j hj
  rw [h j (by simpa using hj)]; exact Bool.false_ne_true
theorem anyl_no {α : Type} {p : α → Bool} {l : List α} (h : ∀ j (h' : j < l.length), p l[j] = false) : l.any p = false := by
  rw [List.any_eq_false]
  intro x hx
  obtain ⟨j, hj, rfl⟩ := List.getElem_of_mem hx
  rw [h j hj]; exact Bool.false_ne_true
theorem anyl_yes {α : Type} {p : α → Bool} {l : List α} {j : Nat} (hj : j < l.length) (h : p l[j] = true) : l.any p = true := List.any_eq_true.2 ⟨_, List.getElem_mem hj, h⟩

set_option maxRecDepth 100000 in
set_option maxHeartbeats 1000000 in
theorem rCheckTasks_any (l : List Tk) (A : Option Addr) (c : Nat) (w : World) (hT : TasksAt w w.heap.size A l) (ht : tame l) :
    Calls Try.prog 19 #[.slice A l.length c] w (IntEnd (chkL l) w) := by
  have HC : Hid (chkL l = if 12 < l.length ∨ l.any manyC = true then 2 else if (List.range l.length).any (badAt l) = true then 1 else 0) := rfl
  have hm := ht.1
  by_cases h1 : 12 < l.length
  · have H : Hid (chkL l = 2) := by show _ = _; rw [HC.out, if_pos (.inl h1)]
    clear HC hT ht
    go_enter Try.func19, Try.ntmps19
    go_wp2
    go_ret
    exact int_end H.out.symm (by repeat (first | with_reducible exact Below.refl _ _ | with_reducible assumption | with_reducible refine Below.drew ?_ | with_reducible refine below_drewN ?_ _ | (with_reducible refine Below.alloc ?_ ?_ _; rotate_left; (try simp) <;> omega) | (with_reducible refine Below.setCell ?_ ?_ _; rotate_left; (try simp) <;> omega)))
  have HY2 := Lib.hid (fun i (hi : i < l.length) (h : manyC l[i] = true) => show Hid (chkL l = 2) from HC.out.trans (if_pos (.inr (anyl_yes hi h))))
  have HN2 := Lib.hid (fun (h : ∀ i (hi : i < l.length), manyC l[i] = false) => show Hid (chkL l = if (List.range l.length).any (badAt l) = true then 1 else 0) from HC.out.trans (if_neg (by rw [anyl_no h]; simp; omega)))
  have HTA := Lib.hid (fun W (hb : Below w.heap.size w W) => (hT.below hb (Nat.le_refl _)).more hb.size)
  have HTM := Lib.hid ht.2
  clear HC hT ht
  go_enter Try.func19, Try.ntmps19
  go_wp2
  go_loopw [3] (fun y wr => ∃ k : Nat, k ≤ l.length ∧ y = .int .i64 k ∧ Hid (∀ j (hj : j < k) (h' : j < l.length), manyC l[j] = false) ∧ Below w.heap.size w wr) (fun y _ => l.length - (intOf y).toNat)
  case atStart => exact ⟨0, by omega, rfl, fun j hj => absurd hj (by omega), Below.refl _ _⟩
  case round =>
  obtain ⟨k, hk, rfl, hg, hbw⟩ := hrel
  have hbs := hbw.size
  by_cases hlt : k < l.length
  · obtain ⟨ad, hA, hadb, c0, c1, c2, c3⟩ := task_at (HTA.out wr hbw).at_ hlt
    subst hA
    have HYk := Lib.hid (HY2.out k hlt)
    have hsz := (HTM.out _ (List.getElem_mem hlt)).2.1
    have HG := Lib.hid (fun (h : manyC l[k] = false) => show Hid (∀ j (hj : j < k + 1) (h' : j < l.length), manyC l[j] = false) from fun j hj h' => by
      by_cases e : j = k
      · subst e; exact h
      · exact hg.out j (by omega) h')
    have HX : Hid (manyC l[k] = decide ((40 : Int) < l[k].co.length)) := rfl
    clear hg
    by_cases h4 : (40 : Int) < l[k].co.length
    · have H := HYk.out (by rw [HX.out]; exact decide_eq_true h4)
      go_wp2
      go_ret
      exact int_end H.out.symm hbw
    · have H := HG.out (by rw [HX.out]; exact decide_eq_false h4)
      go_wp2
      go_roundw
      case rel => exact ⟨k + 1, by omega, by go_num, H, hbw⟩
      case measure => simp [intOf]; omega
  have HC' := HN2.out (fun i hi => hg.out i (by omega) hi)
  have HY := Lib.hid (fun i (hi : i < l.length) (h : badT i l[i] = true) => show Hid (chkL l = 1) from HC'.out.trans (if_pos (bad_yes hi h)))
  have HN := Lib.hid (fun (h : ∀ i (hi : i < l.length), badT i l[i] = false) => show Hid (chkL l = 0) from HC'.out.trans (if_neg (by rw [bad_no h]; exact Bool.false_ne_true)))
  obtain rfl : k = l.length := by omega
  clear hg HC' HN2 HY2 hlt hk
  go_wp2
  go_loopw [4] (fun y wr => ∃ k : Nat, k ≤ l.length ∧ y = .int .i64 k ∧ Hid (∀ j (hj : j < k) (h' : j < l.length), badT j l[j] = false) ∧ Below w.heap.size w wr) (fun y _ => l.length - (intOf y).toNat)
  case atStart => exact ⟨0, by omega, rfl, fun j hj => absurd hj (by omega), hbw⟩
  case round =>
  clear hbw hbs
  obtain ⟨k, hk, rfl, hg, hbw⟩ := hrel
  have hbs := hbw.size
  by_cases hlt : k < l.length
  · obtain ⟨ad, hA, hadb, c0, c1, c2, c3⟩ := task_at (HTA.out wr hbw).at_ hlt
    subst hA
    have HAF := Lib.hid (fun W (hb : Below w.heap.size w W) => (HTA.out W hb).af _ (List.getElem_mem hlt))
    have HCO := Lib.hid (fun W (hb : Below w.heap.size w W) => (HTA.out W hb).co _ (List.getElem_mem hlt))
    have hz1 := (HTM.out _ (List.getElem_mem hlt)).1
    have hz2 := (HTM.out _ (List.getElem_mem hlt)).2.1
    have HZ3 := Lib.hid (HTM.out _ (List.getElem_mem hlt)).2.2
    have HYk := Lib.hid (HY.out k hlt)
    have HG := Lib.hid (fun (h : badT k l[k] = false) => show Hid (∀ j (hj : j < k + 1) (h' : j < l.length), badT j l[j] = false) from fun j hj h' => by
      by_cases e : j = k
      · subst e; exact h
      · exact hg.out j (by omega) h')
    clear hg
    have HX : Hid (badT k l[k] = (!inB l[k].work 1 10000 || !inB l[k].need 1 9 || ((List.range l[k].af.length).any (afB k l[k].af)) || l[k].co.any longS)) := by
      show _ = _
      rw [afB_any]; unfold badT
      cases inB l[k].work 1 10000 <;> cases inB l[k].need 1 9 <;> cases risingB l[k].af <;> rfl
    generalize hq : badT k l[k] = q at *
    have HQ := Lib.hid hq; clear hq
    generalize l[k] = t at *
    obtain ⟨wk, nd, aA, ac, af, cA, cc, co⟩ := t
    try dsimp only at *
    cases h1 : inB wk 1 10000 with
    | false =>
      have H := HYk.out (by rw [HX.out, h1]; rfl)
      have H1 := Lib.hid h1; clear h1
      go_wp2_with (go_at_call 69; refine (within_any _ _ _ _).mono ?_; rintro e w' ⟨rfl, rfl⟩; rw [H1.out])
      go_ret
      exact int_end H.out.symm (by repeat (first | with_reducible exact Below.refl _ _ | with_reducible assumption | with_reducible refine Below.drew ?_ | with_reducible refine below_drewN ?_ _ | (with_reducible refine Below.alloc ?_ ?_ _; rotate_left; (try simp) <;> omega) | (with_reducible refine Below.setCell ?_ ?_ _; rotate_left; (try simp) <;> omega)))
    | true =>
    have H1 := Lib.hid h1
    cases h2 : inB nd 1 9 with
    | false =>
      have H := HYk.out (by rw [HX.out, h1, h2]; rfl)
      have H2 := Lib.hid h2; clear h2 h1
      go_wp2_with (go_at_call 69; refine (within_any _ _ _ _).mono ?_; rintro e w' ⟨rfl, rfl⟩; first | rw [H1.out] | rw [H2.out])
      go_ret
      exact int_end H.out.symm (by repeat (first | with_reducible exact Below.refl _ _ | with_reducible assumption | with_reducible refine Below.drew ?_ | with_reducible refine below_drewN ?_ _ | (with_reducible refine Below.alloc ?_ ?_ _; rotate_left; (try simp) <;> omega) | (with_reducible refine Below.setCell ?_ ?_ _; rotate_left; (try simp) <;> omega)))
    | true =>
    have H2 := Lib.hid h2
    have HX' : Hid (q = ((List.range af.length).any (afB k af) || co.any longS)) := by show _ = _; rw [HX.out, h1, h2]; rfl
    clear HX h1 h2
    have hkt0 : Bk (wr.alloc (.cells #[.int .i64 wk, .int .i64 nd, .slice aA af.length ac, .slice cA co.length cc] 48)) wr.heap.size 48 #[.int .i64 wk, .int .i64 nd, .slice aA af.length ac, .slice cA co.length cc] := Bk.new _ _ _
    have HKT := Lib.hid hkt0; clear hkt0
    go_wp2_with (go_at_call 69; refine (within_any _ _ _ _).mono ?_; rintro e w' ⟨rfl, rfl⟩; first | rw [H1.out] | rw [H2.out])
    have hbt : w.heap.size ≤ wr.heap.size := hbs
    generalize htb : wr.heap.size = tb at *
    go_loopw [6] (fun y wx => ∃ j : Nat, j ≤ af.length ∧ y = .int .i64 j ∧ Hid (∀ i, i < j → afB k af i = false) ∧ Below w.heap.size w wx ∧ Bk wx tb 48 #[.int .i64 wk, .int .i64 nd, .slice aA af.length ac, .slice cA co.length cc]) (fun y _ => af.length - (intOf y).toNat)
    case atStart => exact ⟨0, by omega, rfl, fun i hi => absurd hi (by omega), by exact (by repeat (first | with_reducible exact Below.refl _ _ | with_reducible assumption | with_reducible refine Below.drew ?_ | with_reducible refine below_drewN ?_ _ | (with_reducible refine Below.alloc ?_ ?_ _; rotate_left; (try simp) <;> omega) | (with_reducible refine Below.setCell ?_ ?_ _; rotate_left; (try simp) <;> omega))), HKT.out⟩
    case round =>
    obtain ⟨j, hj, rfl, hg, hbx, hbk⟩ := hrel
    have hxs := hbx.size
    have hlk := hbk.lt
    have x2 := hbk.cell 2 rfl
    clear c0 c1 c2 c3
    by_cases hjt : j < af.length
    · obtain ⟨ad2, hA2, had2, d0, d1⟩ := int_at2 (HAF.out _ hbx) (k := j - 1) (j := j) (by omega) hjt
      subst hA2
      have hji : (j : Int) < (af.length : Int) := by omega
      have g0 : af.getD (j - 1) 0 = af[j - 1]'(by omega) := by rw [List.getD_eq_getElem?_getD, List.getElem?_eq_getElem (by omega)]; rfl
      have g1 : af.getD j 0 = af[j] := by rw [List.getD_eq_getElem?_getD, List.getElem?_eq_getElem hjt]; rfl
      have HT : Hid (afB k af j = (decide (af[j] < 0) || decide ((k : Int) ≤ af[j]) || (decide (0 < j) && decide (af[j] ≤ af[j - 1]'(by omega))))) := by show afB k af j = _; unfold afB; rw [g0, g1]
      have HYj : Hid (afB k af j = true → Hid (chkL l = 1)) := fun h => HYk.out (by rw [HX'.out, any_yes hjt h]; rfl)
      have HGj : Hid (afB k af j = false → Hid (∀ i, i < j + 1 → afB k af i = false)) := fun h i hi => by
        by_cases e : i = j
        · subst e; exact h
        · exact hg.out i (by omega)
      clear g0 g1 hg
      generalize af[j] = z at *
      generalize af[j - 1]'_ = y at *
      by_cases e1 : z < 0
      · have H := HYj.out (by rw [HT.out, decide_eq_true e1]; rfl)
        have e1' : decide (z < 0) = true := decide_eq_true e1
        clear HT HYj HGj
        go_wp2
        go_quiet (fail)
        go_wp2
        go_ret
        exact int_end H.out.symm (by repeat (first | with_reducible exact Below.refl _ _ | with_reducible assumption | with_reducible refine Below.drew ?_ | with_reducible refine below_drewN ?_ _ | (with_reducible refine Below.alloc ?_ ?_ _; rotate_left; (try simp) <;> omega) | (with_reducible refine Below.setCell ?_ ?_ _; rotate_left; (try simp) <;> omega)))
      have e1' : decide (z < 0) = false := decide_eq_false e1
      have e1'' : 0 ≤ z := by omega
      by_cases e2 : (k : Int) ≤ z
      · have H := HYj.out (by rw [HT.out, decide_eq_true e2]; simp)
        have e2' : decide ((k : Int) ≤ z) = true := decide_eq_true e2
        clear HT HYj HGj e1
        go_wp2
        go_quiet (fail)
        go_wp2
        go_ret
        exact int_end H.out.symm (by repeat (first | with_reducible exact Below.refl _ _ | with_reducible assumption | with_reducible refine Below.drew ?_ | with_reducible refine below_drewN ?_ _ | (with_reducible refine Below.alloc ?_ ?_ _; rotate_left; (try simp) <;> omega) | (with_reducible refine Below.setCell ?_ ?_ _; rotate_left; (try simp) <;> omega)))
      have e2' : decide ((k : Int) ≤ z) = false := decide_eq_false e2
      by_cases e3 : j = 0
      · have H := HGj.out (by rw [HT.out, e1', e2', decide_eq_false (show ¬ 0 < j by omega)]; rfl)
        have e3' : decide ((0 : Int) < (j : Int)) = false := decide_eq_false (by omega)
        have e3n : decide (0 < j) = false := decide_eq_false (by omega)
        have E3 := Lib.hid e3
        clear HT HYj HGj e1 e3
        go_wp2
        go_quiet (fail)
        go_wp2
        go_roundw
        case rel => (first | exact ⟨j + 1, by omega, by go_num, H, by exact (by repeat (first | with_reducible exact Below.refl _ _ | with_reducible assumption | with_reducible refine Below.drew ?_ | with_reducible refine below_drewN ?_ _ | (with_reducible refine Below.alloc ?_ ?_ _; rotate_left; (try simp) <;> omega) | (with_reducible refine Below.setCell ?_ ?_ _; rotate_left; (try simp) <;> omega))), by exact (by repeat (first | with_reducible assumption | with_reducible exact Bk.new _ _ _ | with_reducible refine Bk.drew ?_ | with_reducible refine Bk.drewN ?_ _ | with_reducible refine Bk.alloc ?_ _ | (with_reducible refine Bk.far ?_ ?_ _; rotate_left; (try simp) <;> omega)))⟩ | ((repeat apply Exists.intro); exact ⟨⟨j + 1, by omega, by go_num, H, by exact (by repeat (first | with_reducible exact Below.refl _ _ | with_reducible assumption | with_reducible refine Below.drew ?_ | with_reducible refine below_drewN ?_ _ | (with_reducible refine Below.alloc ?_ ?_ _; rotate_left; (try simp) <;> omega) | (with_reducible refine Below.setCell ?_ ?_ _; rotate_left; (try simp) <;> omega))), by exact (by repeat (first | with_reducible assumption | with_reducible exact Bk.new _ _ _ | with_reducible refine Bk.drew ?_ | with_reducible refine Bk.drewN ?_ _ | with_reducible refine Bk.alloc ?_ _ | (with_reducible refine Bk.far ?_ ?_ _; rotate_left; (try simp) <;> omega)))⟩, rfl⟩))
        case measure => simp [intOf]; omega
      have e3' : decide ((0 : Int) < (j : Int)) = true := decide_eq_true (by omega)
      have e3n : decide (0 < j) = true := decide_eq_true (by omega)
      have e3'' : (0 : Int) < (j : Int) := by omega
      have hkm : ((j : Int) - 1).toNat = j - 1 := by omega
      have hkp : 0 ≤ (j : Int) - 1 := by omega
      have hkq : (j : Int) - 1 < (af.length : Int) := by omega
      by_cases e4 : z ≤ y
      · have H := HYj.out (by rw [HT.out, e1', e2', decide_eq_true e4, decide_eq_true (show 0 < j by omega)]; rfl)
        have e4' : decide (z ≤ y) = true := decide_eq_true e4
        clear HT HYj HGj e1
        go_wp2
        go_quiet (fail)
        go_wp2
        go_ret
        exact int_end H.out.symm (by repeat (first | with_reducible exact Below.refl _ _ | with_reducible assumption | with_reducible refine Below.drew ?_ | with_reducible refine below_drewN ?_ _ | (with_reducible refine Below.alloc ?_ ?_ _; rotate_left; (try simp) <;> omega) | (with_reducible refine Below.setCell ?_ ?_ _; rotate_left; (try simp) <;> omega)))
      · have H := HGj.out (by rw [HT.out, e1', e2', decide_eq_false e4]; simp)
        have e4' : decide (z ≤ y) = false := decide_eq_false e4
        clear HT HYj HGj e1
        go_wp2
        go_quiet (fail)
        go_wp2
        go_roundw
        case rel => (first | exact ⟨j + 1, by omega, by go_num, H, by exact (by repeat (first | with_reducible exact Below.refl _ _ | with_reducible assumption | with_reducible refine Below.drew ?_ | with_reducible refine below_drewN ?_ _ | (with_reducible refine Below.alloc ?_ ?_ _; rotate_left; (try simp) <;> omega) | (with_reducible refine Below.setCell ?_ ?_ _; rotate_left; (try simp) <;> omega))), by exact (by repeat (first | with_reducible assumption | with_reducible exact Bk.new _ _ _ | with_reducible refine Bk.drew ?_ | with_reducible refine Bk.drewN ?_ _ | with_reducible refine Bk.alloc ?_ _ | (with_reducible refine Bk.far ?_ ?_ _; rotate_left; (try simp) <;> omega)))⟩ | ((repeat apply Exists.intro); exact ⟨⟨j + 1, by omega, by go_num, H, by exact (by repeat (first | with_reducible exact Below.refl _ _ | with_reducible assumption | with_reducible refine Below.drew ?_ | with_reducible refine below_drewN ?_ _ | (with_reducible refine Below.alloc ?_ ?_ _; rotate_left; (try simp) <;> omega) | (with_reducible refine Below.setCell ?_ ?_ _; rotate_left; (try simp) <;> omega))), by exact (by repeat (first | with_reducible assumption | with_reducible exact Bk.new _ _ _ | with_reducible refine Bk.drew ?_ | with_reducible refine Bk.drewN ?_ _ | with_reducible refine Bk.alloc ?_ _ | (with_reducible refine Bk.far ?_ ?_ _; rotate_left; (try simp) <;> omega)))⟩, rfl⟩))
        case measure => simp [intOf]; omega
    obtain rfl : j = af.length := by omega
    have HX2 : Hid (q = co.any longS) := by show _ = _; rw [HX'.out, any_no hg.out]; rfl
    clear hg HX' hj hjt
    go_wp2
    have x9 := hbk.cell 3 rfl
    go_loopw [7] (fun y wx => ∃ j : Nat, j ≤ co.length ∧ y = .int .i64 j ∧ Hid (∀ i (h : i < co.length), i < j → longS co[i] = false) ∧ Below w.heap.size w wx ∧ Bk wx tb 48 #[.int .i64 wk, .int .i64 nd, .slice aA af.length ac, .slice cA co.length cc]) (fun y _ => co.length - (intOf y).toNat)
    case atStart => exact ⟨0, by omega, rfl, fun i _ hi => absurd hi (by omega), hbx, hbk⟩
    case round =>
    clear hbx hbk x2 x9 hxs hlk
    obtain ⟨j, hj, rfl, hg, hbx, hbk⟩ := hrel
    have hxs := hbx.size
    have hlk := hbk.lt
    have x3 := hbk.cell 3 rfl
    by_cases hjt : j < co.length
    · obtain ⟨ad2, hA2, had2, d0⟩ := str_at (HCO.out _ hbx) hjt
      subst hA2
      have hss := HZ3.out _ (List.getElem_mem hjt)
      have HT : Hid (longS co[j] = decide ((24 : Int) < co[j].size)) := rfl
      have HYj : Hid (longS co[j] = true → Hid (chkL l = 1)) := fun h => HYk.out (by rw [HX2.out]; exact anyl_yes hjt h)
      have HGj : Hid (longS co[j] = false → Hid (∀ i (h : i < co.length), i < j + 1 → longS co[i] = false)) := fun h i h' hi => by
        by_cases e : i = j
        · subst e; exact h
        · exact hg.out i h' (by omega)
      clear hg
      by_cases e1 : (24 : Int) < co[j].size
      · have H := HYj.out (by rw [HT.out]; exact decide_eq_true e1)
        clear HT HYj HGj
        go_wp2
        go_ret
        exact int_end H.out.symm (by repeat (first | with_reducible exact Below.refl _ _ | with_reducible assumption | with_reducible refine Below.drew ?_ | with_reducible refine below_drewN ?_ _ | (with_reducible refine Below.alloc ?_ ?_ _; rotate_left; (try simp) <;> omega) | (with_reducible refine Below.setCell ?_ ?_ _; rotate_left; (try simp) <;> omega)))
      · have H := HGj.out (by rw [HT.out]; exact decide_eq_false e1)
        clear HT HYj HGj
        go_wp2
        go_roundw
        case rel => (first | exact ⟨j + 1, by omega, by go_num, H, by exact (by repeat (first | with_reducible exact Below.refl _ _ | with_reducible assumption | with_reducible refine Below.drew ?_ | with_reducible refine below_drewN ?_ _ | (with_reducible refine Below.alloc ?_ ?_ _; rotate_left; (try simp) <;> omega) | (with_reducible refine Below.setCell ?_ ?_ _; rotate_left; (try simp) <;> omega))), by exact (by repeat (first | with_reducible assumption | with_reducible exact Bk.new _ _ _ | with_reducible refine Bk.drew ?_ | with_reducible refine Bk.drewN ?_ _ | with_reducible refine Bk.alloc ?_ _ | (with_reducible refine Bk.far ?_ ?_ _; rotate_left; (try simp) <;> omega)))⟩ | ((repeat apply Exists.intro); exact ⟨⟨j + 1, by omega, by go_num, H, by exact (by repeat (first | with_reducible exact Below.refl _ _ | with_reducible assumption | with_reducible refine Below.drew ?_ | with_reducible refine below_drewN ?_ _ | (with_reducible refine Below.alloc ?_ ?_ _; rotate_left; (try simp) <;> omega) | (with_reducible refine Below.setCell ?_ ?_ _; rotate_left; (try simp) <;> omega))), by exact (by repeat (first | with_reducible assumption | with_reducible exact Bk.new _ _ _ | with_reducible refine Bk.drew ?_ | with_reducible refine Bk.drewN ?_ _ | with_reducible refine Bk.alloc ?_ _ | (with_reducible refine Bk.far ?_ ?_ _; rotate_left; (try simp) <;> omega)))⟩, rfl⟩))
        case measure => simp [intOf]; omega
    obtain rfl : j = co.length := by omega
    have H := HG.out (by rw [HX2.out]; exact anyl_no fun i hi => hg.out i hi hi)
    clear hg
    go_wp2
    go_roundw
    case rel => (first | exact ⟨k + 1, by omega, by go_num, H, hbx⟩ | ((repeat apply Exists.intro); exact ⟨⟨k + 1, by omega, by go_num, H, hbx⟩, rfl⟩))
    case measure => simp [intOf]; omega
  · obtain rfl : k = l.length := by omega
    have H := HN.out (fun i hi => hg.out i hi hi)
    clear hg
    go_wp2
    go_ret
    exact int_end H.out.symm hbw
end Go.Proofs.Ytjgnikmnadmheaa
