/- The law CrewChecks, walked. -/
import Derived.Test.YtjgnikmnadmheaaG02
import Derived.Test.YtjgnikmnadmheaaG03
import Derived.Test.YtjgnikmnadmheaaG05
import Derived.Test.YtjgnikmnadmheaaG61
import Derived.Test.YtjgnikmnadmheaaG68
import Derived.Test.YtjgnikmnadmheaaG79

namespace Go.Proofs.Ytjgnikmnadmheaa
open Go.RowKit

theorem vast_facts {Y : Yd} {l : List Tk} (h : vastB Y l = false) : (Y.cl.length ≤ 300 ∧ Y.pi.length ≤ 20 ∧ Y.ma.length ≤ 20 ∧ l.length ≤ 20) ∧ (∀ m ∈ Y.ma, m.name.size ≤ 100) ∧ (∀ t ∈ l, t.af.length ≤ 30 ∧ t.co.length ≤ 50 ∧ ∀ s ∈ t.co, s.size ≤ 100) := by
  unfold vastB at h
  rw [Bool.or_eq_false_iff, Bool.or_eq_false_iff, decide_eq_false_iff_not, List.any_eq_false, List.any_eq_false] at h
  obtain ⟨h1, h2, h3⟩ := h
  refine ⟨by omega, fun m hm => ?_, fun t ht => ?_⟩
  · have := h2 m hm
    unfold longName at this
    simp at this; omega
  · have := h3 t ht
    unfold bigTask at this
    simp only [Bool.or_eq_true, decide_eq_true_eq, List.any_eq_true, not_or, not_exists, not_and] at this
    obtain ⟨⟨a, b⟩, c⟩ := this
    refine ⟨by omega, by omega, fun s hs => ?_⟩
    have := c s hs
    unfold longStr at this
    simp at this; omega
theorem tame_of {Y : Yd} {l : List Tk} (h : vastB Y l = false) : tame l := by
  obtain ⟨h1, _, h3⟩ := vast_facts h
  exact ⟨by omega, fun t ht => by obtain ⟨a, b, c⟩ := h3 t ht; exact ⟨by omega, by omega, fun s hs => by have := c s hs; omega⟩⟩

set_option maxRecDepth 100000 in
set_option maxHeartbeats 1000000 in
theorem lawChecks_any (C : Array Value) (Y : Yd) (l : List Tk) (A : Option Addr) (c : Nat) (w : World) (hY : YardAt w w.heap.size C Y) (hT : TasksAt w w.heap.size A l) :
    Calls Try.prog 3 #[.agg C, .slice A l.length c] w fun e w' => e = .returned (.bool true) ∧ Below w.heap.size w w' := by
  have HWO := Lib.hid works_any
  have HVA := Lib.hid (fun W (hb : Below w.heap.size w W) => vast_any C Y l A c W ((hY.below hb (Nat.le_refl _)).more hb.size) ((hT.below hb (Nat.le_refl _)).more hb.size))
  have HLOAD : Hid (∀ W : World, Bk W w.heap.size 29 C → W.rangeAt w.heap.size 0 C.toList) := fun W hb => hb.range
  have HC28 : Hid (C.toList.length = 28) := by show _ = _; rw [Array.length_toList]; exact hY.size
  cases h0 : vastB Y l with
  | true =>
    have H0 := Lib.hid h0; clear h0 hY hT
    go_enter Try.func3, Try.ntmps3
    go_upto_region 1 with fail
    go_wp2_with (first | (refine wpList_load_mid (P := Try.prog) rfl 29 (.tmp 2) rfl w.heap.size 0 rfl C.toList _ (HLOAD.out _ (by exact (by repeat (first | with_reducible assumption | with_reducible exact Bk.new _ _ _ | with_reducible refine Bk.drew ?_ | with_reducible refine Bk.drewN ?_ _ | with_reducible refine Bk.alloc ?_ _ | (with_reducible refine Bk.far ?_ ?_ _; rotate_left; (try simp) <;> omega))))) Try.underlying29 rfl (by rw [HC28.out]; exact info29) ?_) | (go_at_call 14; refine (HVA.out _ (by exact (by repeat (first | with_reducible exact Below.refl _ _ | with_reducible assumption | with_reducible refine Below.drew ?_ | with_reducible refine below_drewN ?_ _ | (with_reducible refine Below.alloc ?_ ?_ _; rotate_left; (try simp) <;> omega) | (with_reducible refine Below.setCell ?_ ?_ _; rotate_left; (try simp) <;> omega))))).mono ?_; rintro e w1 ⟨rfl, hb⟩; rw [H0.out]; have hB1 : Below w.heap.size w w1 := Below.trans (by exact (by repeat (first | with_reducible exact Below.refl _ _ | with_reducible assumption | with_reducible refine Below.drew ?_ | with_reducible refine below_drewN ?_ _ | (with_reducible refine Below.alloc ?_ ?_ _; rotate_left; (try simp) <;> omega) | (with_reducible refine Below.setCell ?_ ?_ _; rotate_left; (try simp) <;> omega)))) (hb.mono (by simp))) | (go_at_call 15; refine (HWO.out _).mono ?_; rintro e w2 ⟨rfl, hb2⟩; have hB2 : Below w.heap.size w w2 := Below.trans hB1 (hb2.mono hB1.size)))
    go_ret
    exact ⟨rfl, hB2⟩
  | false =>
    have hv := vast_facts h0
    have HCK := Lib.hid (fun W (hb : Below w.heap.size w W) => checkYard_any C Y W ((hY.below hb (Nat.le_refl _)).more hb.size) (by omega) (by omega) (by omega) (fun m hm => hv.2.1 m hm))
    have HRK := Lib.hid (fun W (hb : Below w.heap.size w W) => rCheckYard_any C Y W ((hY.below hb (Nat.le_refl _)).more hb.size) (by omega) (by omega) (by omega) (fun m hm => hv.2.1 m hm))
    have HCT := Lib.hid (fun W (hb : Below w.heap.size w W) => checkTasks_any l A c W ((hT.below hb (Nat.le_refl _)).more hb.size) (tame_of h0))
    have HRT := Lib.hid (fun W (hb : Below w.heap.size w W) => rCheckTasks_any l A c W ((hT.below hb (Nat.le_refl _)).more hb.size) (tame_of h0))
    have H0 := Lib.hid h0
    have h28 := hY.len
    have hi : (Try.prog.info? 29).map (·.size) = some C.toList.length := by rw [h28]; exact info29
    clear h0 hY hT hv h28
    generalize chkY Y = n1 at *
    generalize chkL l = n2 at *
    go_enter Try.func3, Try.ntmps3
    go_upto_region 3 with (first | (refine wpList_load_mid (P := Try.prog) rfl 29 (.tmp 2) rfl w.heap.size 0 rfl C.toList _ (HLOAD.out _ (by exact (by repeat (first | with_reducible assumption | with_reducible exact Bk.new _ _ _ | with_reducible refine Bk.drew ?_ | with_reducible refine Bk.drewN ?_ _ | with_reducible refine Bk.alloc ?_ _ | (with_reducible refine Bk.far ?_ ?_ _; rotate_left; (try simp) <;> omega))))) Try.underlying29 rfl (by rw [HC28.out]; exact info29) ?_) | (go_at_call 14; refine (HVA.out _ (by exact (by repeat (first | with_reducible exact Below.refl _ _ | with_reducible assumption | with_reducible refine Below.drew ?_ | with_reducible refine below_drewN ?_ _ | (with_reducible refine Below.alloc ?_ ?_ _; rotate_left; (try simp) <;> omega) | (with_reducible refine Below.setCell ?_ ?_ _; rotate_left; (try simp) <;> omega))))).mono ?_; rintro e w1 ⟨rfl, hb⟩; rw [H0.out]; have hB1 : Below w.heap.size w w1 := Below.trans (by exact (by repeat (first | with_reducible exact Below.refl _ _ | with_reducible assumption | with_reducible refine Below.drew ?_ | with_reducible refine below_drewN ?_ _ | (with_reducible refine Below.alloc ?_ ?_ _; rotate_left; (try simp) <;> omega) | (with_reducible refine Below.setCell ?_ ?_ _; rotate_left; (try simp) <;> omega)))) (hb.mono (by simp)); have hK1 : Bk w1 w.heap.size 29 C := Bk.below (by exact (by repeat (first | with_reducible assumption | with_reducible exact Bk.new _ _ _ | with_reducible refine Bk.drew ?_ | with_reducible refine Bk.drewN ?_ _ | with_reducible refine Bk.alloc ?_ _ | (with_reducible refine Bk.far ?_ ?_ _; rotate_left; (try simp) <;> omega)))) hb (by simp)))
    have hu := Try.underlying29
    have HR := hK1.range
    have l0 := hK1.lt
    refine wp_region_held_drew (S := (fun w' => w'.rangeAt w.heap.size 0 C.toList)) (by kernel_rfl) ?_ (fun hHeld => ?_)
    · first | assumption | go_keep
    (refine held_call 0 (some 9) 15 _ rfl (by kernel_rfl) (by rfl) ?_ (HWO.out _) ?_; rotate_left; rotate_left; (simp only [List.getElem?_toArray, List.getElem?_cons_zero, List.getElem?_cons_succ, Option.map_some]; refine congrArg some ?_; go_simp))
    rintro e w5 ⟨rfl, hb5'⟩
    have hB5 : Below w.heap.size w w5 := Below.trans (by exact (by repeat (first | with_reducible exact Below.refl _ _ | with_reducible assumption | with_reducible refine Below.drew ?_ | with_reducible refine below_drewN ?_ _ | (with_reducible refine Below.alloc ?_ ?_ _; rotate_left; (try simp) <;> omega) | (with_reducible refine Below.setCell ?_ ?_ _; rotate_left; (try simp) <;> omega)))) (hb5'.mono (by first | exact hB1.size | (simp; exact hB1.size)))
    have hK5 : Bk w5 w.heap.size 29 C := Bk.below (by exact (by repeat (first | with_reducible assumption | with_reducible exact Bk.new _ _ _ | with_reducible refine Bk.drew ?_ | with_reducible refine Bk.drewN ?_ _ | with_reducible refine Bk.alloc ?_ _ | (with_reducible refine Bk.far ?_ ?_ _; rotate_left; (try simp) <;> omega)))) hb5' (by first | exact l0 | (simp; exact l0))
    have HR5 := hK5.range
    have l5 := hK5.lt
    refine ⟨_, rfl, HR5, fun hHeld => ?_⟩
    (try simp only [Act.put, List.setIfInBounds_toArray, List.set_cons_zero, List.set_cons_succ])
    refine tk 1 10 ?_
    (refine held_row 2 (some 11) 29 (.tmp 2) (w.heap.size) 0 C.toList _ rfl rfl (by kernel_rfl) (by kernel_rfl) (by kernel_rfl) (by rfl) rfl (fun _ _ _ h => h) (by assumption) (fun _ hS => hS) Try.underlying29 rfl (by assumption) ?_; (try simp only [Act.put, List.setIfInBounds_toArray, List.set_cons_zero, List.set_cons_succ]))
    (refine held_row 4 (some 13) 29 (.tmp 2) (w.heap.size) 0 C.toList _ rfl rfl (by kernel_rfl) (by kernel_rfl) (by kernel_rfl) (by rfl) rfl (fun _ _ _ h => h) (by assumption) (fun _ hS => hS) Try.underlying29 rfl (by assumption) ?_; (try simp only [Act.put, List.setIfInBounds_toArray, List.set_cons_zero, List.set_cons_succ]))
    (refine held_call 3 (some 12) 16 _ rfl (by kernel_rfl) (by rfl) ?_ (HCK.out _ (by exact (by repeat (first | with_reducible exact Below.refl _ _ | with_reducible assumption | with_reducible refine Below.drew ?_ | with_reducible refine below_drewN ?_ _ | (with_reducible refine Below.alloc ?_ ?_ _; rotate_left; (try simp) <;> omega) | (with_reducible refine Below.setCell ?_ ?_ _; rotate_left; (try simp) <;> omega))))) ?_; rotate_left; rotate_left; (simp only [List.getElem?_toArray, List.getElem?_cons_zero, List.getElem?_cons_succ, Option.map_some]; refine congrArg some ?_; go_simp))
    rintro e w6 ⟨rfl, hb6'⟩
    have hB6 : Below w.heap.size w w6 := Below.trans (by exact (by repeat (first | with_reducible exact Below.refl _ _ | with_reducible assumption | with_reducible refine Below.drew ?_ | with_reducible refine below_drewN ?_ _ | (with_reducible refine Below.alloc ?_ ?_ _; rotate_left; (try simp) <;> omega) | (with_reducible refine Below.setCell ?_ ?_ _; rotate_left; (try simp) <;> omega)))) (hb6'.mono (by first | exact hB5.size | (simp; exact hB5.size)))
    have hK6 : Bk w6 w.heap.size 29 C := Bk.below (by exact (by repeat (first | with_reducible assumption | with_reducible exact Bk.new _ _ _ | with_reducible refine Bk.drew ?_ | with_reducible refine Bk.drewN ?_ _ | with_reducible refine Bk.alloc ?_ _ | (with_reducible refine Bk.far ?_ ?_ _; rotate_left; (try simp) <;> omega)))) hb6' (by first | exact l5 | (simp; exact l5))
    have HR6 := hK6.range
    have l6 := hK6.lt
    refine ⟨_, rfl, HR6, fun hHeld => ?_⟩
    (try simp only [Act.put, List.setIfInBounds_toArray, List.set_cons_zero, List.set_cons_succ])
    (refine held_call 5 (some 14) 17 _ rfl (by kernel_rfl) (by rfl) ?_ (HRK.out _ (by exact (by repeat (first | with_reducible exact Below.refl _ _ | with_reducible assumption | with_reducible refine Below.drew ?_ | with_reducible refine below_drewN ?_ _ | (with_reducible refine Below.alloc ?_ ?_ _; rotate_left; (try simp) <;> omega) | (with_reducible refine Below.setCell ?_ ?_ _; rotate_left; (try simp) <;> omega))))) ?_; rotate_left; rotate_left; (simp only [List.getElem?_toArray, List.getElem?_cons_zero, List.getElem?_cons_succ, Option.map_some]; refine congrArg some ?_; go_simp))
    rintro e w7 ⟨rfl, hb7'⟩
    have hB7 : Below w.heap.size w w7 := Below.trans (by exact (by repeat (first | with_reducible exact Below.refl _ _ | with_reducible assumption | with_reducible refine Below.drew ?_ | with_reducible refine below_drewN ?_ _ | (with_reducible refine Below.alloc ?_ ?_ _; rotate_left; (try simp) <;> omega) | (with_reducible refine Below.setCell ?_ ?_ _; rotate_left; (try simp) <;> omega)))) (hb7'.mono (by first | exact hB6.size | (simp; exact hB6.size)))
    have hK7 : Bk w7 w.heap.size 29 C := Bk.below (by exact (by repeat (first | with_reducible assumption | with_reducible exact Bk.new _ _ _ | with_reducible refine Bk.drew ?_ | with_reducible refine Bk.drewN ?_ _ | with_reducible refine Bk.alloc ?_ _ | (with_reducible refine Bk.far ?_ ?_ _; rotate_left; (try simp) <;> omega)))) hb7' (by first | exact l6 | (simp; exact l6))
    have HR7 := hK7.range
    have l7 := hK7.lt
    refine ⟨_, rfl, HR7, fun hHeld => ?_⟩
    (try simp only [Act.put, List.setIfInBounds_toArray, List.set_cons_zero, List.set_cons_succ])
    refine tk 6 15 ?_
    refine tk 7 16 ?_
    refine tk 8 17 ?_
    refine tk 9 18 ?_
    refine tk 11 20 ?_
    (refine held_call 10 (some 19) 18 _ rfl (by kernel_rfl) (by rfl) ?_ (HCT.out _ (by exact (by repeat (first | with_reducible exact Below.refl _ _ | with_reducible assumption | with_reducible refine Below.drew ?_ | with_reducible refine below_drewN ?_ _ | (with_reducible refine Below.alloc ?_ ?_ _; rotate_left; (try simp) <;> omega) | (with_reducible refine Below.setCell ?_ ?_ _; rotate_left; (try simp) <;> omega))))) ?_; rotate_left; rotate_left; (simp only [List.getElem?_toArray, List.getElem?_cons_zero, List.getElem?_cons_succ, Option.map_some]; refine congrArg some ?_; go_simp))
    rintro e w8 ⟨rfl, hb8'⟩
    have hB8 : Below w.heap.size w w8 := Below.trans (by exact (by repeat (first | with_reducible exact Below.refl _ _ | with_reducible assumption | with_reducible refine Below.drew ?_ | with_reducible refine below_drewN ?_ _ | (with_reducible refine Below.alloc ?_ ?_ _; rotate_left; (try simp) <;> omega) | (with_reducible refine Below.setCell ?_ ?_ _; rotate_left; (try simp) <;> omega)))) (hb8'.mono (by first | exact hB7.size | (simp; exact hB7.size)))
    have hK8 : Bk w8 w.heap.size 29 C := Bk.below (by exact (by repeat (first | with_reducible assumption | with_reducible exact Bk.new _ _ _ | with_reducible refine Bk.drew ?_ | with_reducible refine Bk.drewN ?_ _ | with_reducible refine Bk.alloc ?_ _ | (with_reducible refine Bk.far ?_ ?_ _; rotate_left; (try simp) <;> omega)))) hb8' (by first | exact l7 | (simp; exact l7))
    have HR8 := hK8.range
    have l8 := hK8.lt
    refine ⟨_, rfl, HR8, fun hHeld => ?_⟩
    (try simp only [Act.put, List.setIfInBounds_toArray, List.set_cons_zero, List.set_cons_succ])
    (refine held_call 12 (some 21) 19 _ rfl (by kernel_rfl) (by rfl) ?_ (HRT.out _ (by exact (by repeat (first | with_reducible exact Below.refl _ _ | with_reducible assumption | with_reducible refine Below.drew ?_ | with_reducible refine below_drewN ?_ _ | (with_reducible refine Below.alloc ?_ ?_ _; rotate_left; (try simp) <;> omega) | (with_reducible refine Below.setCell ?_ ?_ _; rotate_left; (try simp) <;> omega))))) ?_; rotate_left; rotate_left; (simp only [List.getElem?_toArray, List.getElem?_cons_zero, List.getElem?_cons_succ, Option.map_some]; refine congrArg some ?_; go_simp))
    rintro e w9 ⟨rfl, hb9'⟩
    have hB9 : Below w.heap.size w w9 := Below.trans (by exact (by repeat (first | with_reducible exact Below.refl _ _ | with_reducible assumption | with_reducible refine Below.drew ?_ | with_reducible refine below_drewN ?_ _ | (with_reducible refine Below.alloc ?_ ?_ _; rotate_left; (try simp) <;> omega) | (with_reducible refine Below.setCell ?_ ?_ _; rotate_left; (try simp) <;> omega)))) (hb9'.mono (by first | exact hB8.size | (simp; exact hB8.size)))
    have hK9 : Bk w9 w.heap.size 29 C := Bk.below (by exact (by repeat (first | with_reducible assumption | with_reducible exact Bk.new _ _ _ | with_reducible refine Bk.drew ?_ | with_reducible refine Bk.drewN ?_ _ | with_reducible refine Bk.alloc ?_ _ | (with_reducible refine Bk.far ?_ ?_ _; rotate_left; (try simp) <;> omega)))) hb9' (by first | exact l8 | (simp; exact l8))
    refine ⟨_, rfl, hK9.range, fun hHeld => ?_⟩
    (try simp only [Act.put, List.setIfInBounds_toArray, List.set_cons_zero, List.set_cons_succ])
    refine tk 13 22 ?_
    refine tk 14 23 ?_
    refine tk 15 4 ?_
    refine wpAnyH_done (by kernel_rfl) ?_ _
    go_wp2
    go_ret
    exact ⟨by simp, hB9⟩
end Go.Proofs.Ytjgnikmnadmheaa

namespace Go.Proofs.Ytjgnikmnadmheaa
open Go.RowKit

def slowB (Y : Yd) (l : List Tk) : Bool := vastB Y l || (decide (7 < l.length ∧ l.length ≤ 12) || decide (12 < Y.cl.length ∧ Y.cl.length ≤ 200))
set_option maxRecDepth 100000 in
set_option maxHeartbeats 1000000 in
theorem slow_any (C : Array Value) (Y : Yd) (l : List Tk) (A : Option Addr) (c : Nat) (w : World) (hY : YardAt w w.heap.size C Y) (hT : TasksAt w w.heap.size A l) :
    Calls Try.prog 23 #[.agg C, .slice A l.length c] w (ShEnd (slowB Y l) w) := by
  have HVA := Lib.hid (fun W (hb : Below w.heap.size w W) => vast_any C Y l A c W ((hY.below hb (Nat.le_refl _)).more hb.size) ((hT.below hb (Nat.le_refl _)).more hb.size))
  have HC28 := Lib.hid hY.len
  obtain ⟨Ac, kc, e24, _⟩ := hY.cl
  have b2 : Bk (w.alloc (.cells C 29)) w.heap.size 29 C := Bk.new _ _ _
  have hb0 : Below w.heap.size w (w.alloc (.cells C 29)) := by exact (by repeat (first | with_reducible exact Below.refl _ _ | with_reducible assumption | with_reducible refine Below.drew ?_ | with_reducible refine below_drewN ?_ _ | (with_reducible refine Below.alloc ?_ ?_ _; rotate_left; (try simp) <;> omega) | (with_reducible refine Below.setCell ?_ ?_ _; rotate_left; (try simp) <;> omega)))
  have HR0 := Lib.hid b2.range
  have HS : Hid (slowB Y l = (vastB Y l || (decide (7 < l.length ∧ l.length ≤ 12) || decide (12 < Y.cl.length ∧ Y.cl.length ≤ 200)))) := rfl
  clear hY hT
  generalize slowB Y l = r at *
  cases h0 : vastB Y l with
  | true =>
    have H0 := Lib.hid h0
    rw [h0, Bool.true_or] at HS
    clear h0
    go_enter Try.func23, Try.ntmps23
    go_wp2_with (first | (have h9 := HR0; clear h9; refine wpList_load_mid (P := Try.prog) rfl 29 (.tmp 2) rfl w.heap.size 0 rfl C.toList _ HR0.out Try.underlying29 rfl (by rw [HC28.out]; exact info29) ?_) | (go_at_call 14; refine (HVA.out _ hb0).mono ?_; rintro e w1 ⟨rfl, hb⟩; rw [H0.out]; clear HR0; have hB1 : Below w.heap.size w w1 := hb0.trans (hb.mono hb0.size)))
    go_ret
    rw [HS.out]
    exact ⟨by first | rfl | (simp; omega) | simp, hB1⟩
  | false =>
    have H0 := Lib.hid h0
    rw [h0, Bool.false_or] at HS
    clear h0
    by_cases a1 : (7 : Int) < (l.length : Int)
    · by_cases a2 : (l.length : Int) ≤ 12
      · have HR : Hid (r = true) := by show _ = _; rw [HS.out, decide_eq_true (⟨by omega, by omega⟩ : 7 < l.length ∧ l.length ≤ 12)]; rfl
        go_enter Try.func23, Try.ntmps23
        go_wp2_with (first | (have h9 := HR0; clear h9; refine wpList_load_mid (P := Try.prog) rfl 29 (.tmp 2) rfl w.heap.size 0 rfl C.toList _ HR0.out Try.underlying29 rfl (by rw [HC28.out]; exact info29) ?_) | (go_at_call 14; refine (HVA.out _ hb0).mono ?_; rintro e w1 ⟨rfl, hb⟩; rw [H0.out]; clear HR0; have hB1 : Below w.heap.size w w1 := hb0.trans (hb.mono hb0.size); have x1 := (b2.below hb b2.lt).cell 24 e24))
        go_ret
        rw [HR.out]
        exact ⟨by first | rfl | (simp; omega) | simp, hB1⟩
      · have HS2 : Hid (r = decide (12 < Y.cl.length ∧ Y.cl.length ≤ 200)) := by show _ = _; rw [HS.out, decide_eq_false (by omega : ¬ (7 < l.length ∧ l.length ≤ 12)), Bool.false_or]
        by_cases b1 : (12 : Int) < (Y.cl.length : Int)
        · by_cases b3 : (Y.cl.length : Int) ≤ 200
          · have HR : Hid (r = true) := by show _ = _; rw [HS2.out]; exact decide_eq_true (by omega)
            go_enter Try.func23, Try.ntmps23
            go_wp2_with (first | (have h9 := HR0; clear h9; refine wpList_load_mid (P := Try.prog) rfl 29 (.tmp 2) rfl w.heap.size 0 rfl C.toList _ HR0.out Try.underlying29 rfl (by rw [HC28.out]; exact info29) ?_) | (go_at_call 14; refine (HVA.out _ hb0).mono ?_; rintro e w1 ⟨rfl, hb⟩; rw [H0.out]; clear HR0; have hB1 : Below w.heap.size w w1 := hb0.trans (hb.mono hb0.size); have x1 := (b2.below hb b2.lt).cell 24 e24))
            go_ret
            rw [HR.out]
            exact ⟨by first | rfl | (simp; omega) | simp, hB1⟩
          · have HR : Hid (r = false) := by show _ = _; rw [HS2.out]; exact decide_eq_false (by omega)
            go_enter Try.func23, Try.ntmps23
            go_wp2_with (first | (have h9 := HR0; clear h9; refine wpList_load_mid (P := Try.prog) rfl 29 (.tmp 2) rfl w.heap.size 0 rfl C.toList _ HR0.out Try.underlying29 rfl (by rw [HC28.out]; exact info29) ?_) | (go_at_call 14; refine (HVA.out _ hb0).mono ?_; rintro e w1 ⟨rfl, hb⟩; rw [H0.out]; clear HR0; have hB1 : Below w.heap.size w w1 := hb0.trans (hb.mono hb0.size); have x1 := (b2.below hb b2.lt).cell 24 e24))
            go_ret
            rw [HR.out]
            exact ⟨by first | rfl | (simp; omega) | simp, hB1⟩
        · have HR : Hid (r = false) := by show _ = _; rw [HS2.out]; exact decide_eq_false (by omega)
          go_enter Try.func23, Try.ntmps23
          go_wp2_with (first | (have h9 := HR0; clear h9; refine wpList_load_mid (P := Try.prog) rfl 29 (.tmp 2) rfl w.heap.size 0 rfl C.toList _ HR0.out Try.underlying29 rfl (by rw [HC28.out]; exact info29) ?_) | (go_at_call 14; refine (HVA.out _ hb0).mono ?_; rintro e w1 ⟨rfl, hb⟩; rw [H0.out]; clear HR0; have hB1 : Below w.heap.size w w1 := hb0.trans (hb.mono hb0.size); have x1 := (b2.below hb b2.lt).cell 24 e24))
          go_ret
          rw [HR.out]
          exact ⟨by first | rfl | (simp; omega) | simp, hB1⟩
    · have HS2 : Hid (r = decide (12 < Y.cl.length ∧ Y.cl.length ≤ 200)) := by show _ = _; rw [HS.out, decide_eq_false (by omega : ¬ (7 < l.length ∧ l.length ≤ 12)), Bool.false_or]
      by_cases b1 : (12 : Int) < (Y.cl.length : Int)
      · by_cases b3 : (Y.cl.length : Int) ≤ 200
        · have HR : Hid (r = true) := by show _ = _; rw [HS2.out]; exact decide_eq_true (by omega)
          go_enter Try.func23, Try.ntmps23
          go_wp2_with (first | (have h9 := HR0; clear h9; refine wpList_load_mid (P := Try.prog) rfl 29 (.tmp 2) rfl w.heap.size 0 rfl C.toList _ HR0.out Try.underlying29 rfl (by rw [HC28.out]; exact info29) ?_) | (go_at_call 14; refine (HVA.out _ hb0).mono ?_; rintro e w1 ⟨rfl, hb⟩; rw [H0.out]; clear HR0; have hB1 : Below w.heap.size w w1 := hb0.trans (hb.mono hb0.size); have x1 := (b2.below hb b2.lt).cell 24 e24))
          go_ret
          rw [HR.out]
          exact ⟨by first | rfl | (simp; omega) | simp, hB1⟩
        · have HR : Hid (r = false) := by show _ = _; rw [HS2.out]; exact decide_eq_false (by omega)
          go_enter Try.func23, Try.ntmps23
          go_wp2_with (first | (have h9 := HR0; clear h9; refine wpList_load_mid (P := Try.prog) rfl 29 (.tmp 2) rfl w.heap.size 0 rfl C.toList _ HR0.out Try.underlying29 rfl (by rw [HC28.out]; exact info29) ?_) | (go_at_call 14; refine (HVA.out _ hb0).mono ?_; rintro e w1 ⟨rfl, hb⟩; rw [H0.out]; clear HR0; have hB1 : Below w.heap.size w w1 := hb0.trans (hb.mono hb0.size); have x1 := (b2.below hb b2.lt).cell 24 e24))
          go_ret
          rw [HR.out]
          exact ⟨by first | rfl | (simp; omega) | simp, hB1⟩
      · have HR : Hid (r = false) := by show _ = _; rw [HS2.out]; exact decide_eq_false (by omega)
        go_enter Try.func23, Try.ntmps23
        go_wp2_with (first | (have h9 := HR0; clear h9; refine wpList_load_mid (P := Try.prog) rfl 29 (.tmp 2) rfl w.heap.size 0 rfl C.toList _ HR0.out Try.underlying29 rfl (by rw [HC28.out]; exact info29) ?_) | (go_at_call 14; refine (HVA.out _ hb0).mono ?_; rintro e w1 ⟨rfl, hb⟩; rw [H0.out]; clear HR0; have hB1 : Below w.heap.size w w1 := hb0.trans (hb.mono hb0.size); have x1 := (b2.below hb b2.lt).cell 24 e24))
        go_ret
        rw [HR.out]
        exact ⟨by first | rfl | (simp; omega) | simp, hB1⟩
end Go.Proofs.Ytjgnikmnadmheaa

namespace Go.Proofs.Ytjgnikmnadmheaa
open Go.RowKit

theorem lowK_up {dry f : Int} {af days : List Int} : ∀ (j : Nat) {i : Nat}, i ≤ j → j ≤ af.length → lowK dry f af days i ≤ lowK dry f af days j
  | 0, i, h, _ => by obtain rfl : i = 0 := by omega
                     exact Int.le_refl _
  | j + 1, i, h, hj => by
    by_cases e : i = j + 1
    · subst e; exact Int.le_refl _
    · have := lowK_up j (dry := dry) (f := f) (af := af) (days := days) (show i ≤ j by omega) (by omega)
      rw [lowK_succ (by omega)]
      omega
theorem lowS_after {dry f : Int} {af days : List Int} {a : Int} (h : a ∈ af) : days.getD a.toNat 0 + dry + 1 ≤ lowS dry f af days := by
  obtain ⟨k, hk, rfl⟩ := List.mem_iff_getElem.1 h
  have h1 := lowK_up (dry := dry) (f := f) (af := af) (days := days) af.length (show k + 1 ≤ af.length by omega) (Nat.le_refl _)
  rw [lowK_succ hk] at h1
  show _ ≤ lowK dry f af days af.length
  omega
theorem lowS_prev {dry f : Int} {af days : List Int} (h : 0 < days.length) : days.getD (days.length - 1) 0 + 1 ≤ lowS dry f af days ∧ f ≤ lowS dry f af days := by
  have h1 := lowK_up (dry := dry) (f := f) (af := af) (days := days) af.length (Nat.zero_le _) (Nat.le_refl _)
  rw [lowK_zero] at h1
  unfold lowB at h1
  rw [if_neg (by omega)] at h1
  show _ ≤ lowK dry f af days af.length ∧ _ ≤ lowK dry f af days af.length
  omega
theorem lowS_first {dry f : Int} {af days : List Int} : f ≤ lowS dry f af days := by
  by_cases h : 0 < days.length
  · exact (lowS_prev h).2
  · have h1 := lowK_up (dry := dry) (f := f) (af := af) (days := days) af.length (Nat.zero_le _) (Nat.le_refl _)
    rw [lowK_zero] at h1
    unfold lowB at h1
    rw [if_pos (by omega)] at h1
    exact h1

/-- each day is one of those that suit behind the ones before -/
theorem est_each {Y : Yd} {l : List Tk} {f : Int} : ∀ (m : Nat) (ds L : List Int), est Y l f (fun _ => none) m ds = some L → ds <+: L ∧ ∀ j (_ : ds.length ≤ j) (hj : j < L.length), L[j] ∈ nextL Y l f (L.take j)
  | 0, ds, L, h => by
    cases h
    exact ⟨List.prefix_refl _, fun j h1 h2 => absurd h2 (by omega)⟩
  | m + 1, ds, L, h => by
    change (match stepE Y l f (fun _ => none) ds with | some d => est Y l f (fun _ => none) m (ds ++ [d]) | none => none) = some L at h
    split at h
    · rename_i d hd
      obtain ⟨h1, h2⟩ := est_each m _ L h
      have hp : ds <+: L := (List.prefix_append _ _).trans h1
      refine ⟨hp, fun j hj hjl => ?_⟩
      by_cases e : j = ds.length
      · subst e
        have ht : L.take ds.length = ds := (List.prefix_iff_eq_take.1 hp).symm
        have hx : L[ds.length] = d := by
          obtain ⟨r, rfl⟩ := h1
          simp
        rw [ht, hx]
        change (nextL Y l f ds).head? = some d at hd
        exact List.mem_of_head? hd
      · exact h2 j (by simp; omega) hjl
    · cases h

def aftB (l : List Tk) (j i : Nat) : Bool := match l[j]? with
  | some t => t.af.contains (i : Int)
  | none => false
theorem aftB_at {l : List Tk} {j i : Nat} (h : j < l.length) : aftB l j i = l[j].af.contains (i : Int) := by unfold aftB; rw [List.getElem?_eq_getElem h]
/-- days that are the earliest ones -/
structure Early (Y : Yd) (l : List Tk) (f : Int) (ds : List Int) : Prop where
  len : ds.length = l.length
  suit : ∀ i (h : i < l.length), suitB Y l[i] i (ds.getD i 0) = true
  bd : ∀ i, i < l.length → f ≤ ds.getD i 0 ∧ ds.getD i 0 < f + 400
  nxt : ∀ i, i + 1 < l.length → ds.getD i 0 < ds.getD (i + 1) 0
  aft : ∀ i j, i < j → j < l.length → aftB l j i = true → ds.getD i 0 + Y.dry + 1 ≤ ds.getD j 0
theorem early_of {Y : Yd} {l : List Tk} {f : Int} {ds : List Int} (h : earD Y l f = some ds) : Early Y l f ds := by
  have hl := earD_len h
  obtain ⟨_, he⟩ := est_each _ _ _ h
  have hm : ∀ i (hi : i < l.length), lowS Y.dry f l[i].af (ds.take i) ≤ ds.getD i 0 ∧ ds.getD i 0 < f + 400 ∧ suitB Y l[i] i (ds.getD i 0) = true := fun i hi => by
    have h1 := he i (Nat.zero_le _) (by omega)
    have hti : (ds.take i).length = i := by simp; omega
    have h2 := nextL_mem (ds := ds.take i) (by rw [hti]; exact hi) h1
    have e : l[(ds.take i).length]'(by rw [hti]; exact hi) = l[i] := by congr 1
    rw [e, hti] at h2
    rw [List.getD_eq_getElem?_getD, List.getElem?_eq_getElem (by omega), Option.getD_some]
    exact h2
  have htk : ∀ i j, i < j → j ≤ ds.length → (ds.take j).getD i 0 = ds.getD i 0 := fun i j h1 h2 => by
    rw [List.getD_eq_getElem?_getD, List.getD_eq_getElem?_getD, List.getElem?_take_of_lt h1]
  refine ⟨hl, fun i hi => (hm i hi).2.2, fun i hi => ⟨Int.le_trans lowS_first (hm i hi).1, (hm i hi).2.1⟩, fun i hi => ?_, fun i j hij hj ha => ?_⟩
  · have h1 := (hm (i + 1) hi).1
    have hti : (ds.take (i + 1)).length = i + 1 := by simp; omega
    have h2 := (lowS_prev (dry := Y.dry) (f := f) (af := l[i + 1].af) (days := ds.take (i + 1)) (by omega)).1
    rw [hti, Nat.add_sub_cancel, htk i (i + 1) (by omega) (by omega)] at h2
    omega
  · rw [aftB_at hj, List.contains_iff_mem] at ha
    have h1 := (hm j hj).1
    have h2 := lowS_after (dry := Y.dry) (f := f) (days := ds.take j) ha
    rw [Int.toNat_natCast, htk i j hij (by omega)] at h2
    omega

def lastOr (L : List Int) (d : Int) : Int := L.getLast?.getD d
/-- the highest day of task i by the first k of the later tasks, whose days are T -/
def hiK (l : List Tk) (dry : Int) (i : Nat) (T : List Int) : Nat → Int
  | 0 => T.getD 0 0 - 1
  | k + 1 => if aftB l (i + 1 + k) i = true then min (hiK l dry i T k) (T.getD k 0 - dry - 1) else hiK l dry i T k
/-- the latest day of task i, before later tasks whose days are T -/
def lateX (Y : Yd) (l : List Tk) (ds : List Int) (i : Nat) (T : List Int) : Int := match l[i]? with
  | some t => if T.length = 0 then ds.getD i 0 else lastOr (suitK Y t i (ds.getD i 0) (hiK l Y.dry i T T.length + 1 - ds.getD i 0).toNat) (ds.getD i 0)
  | none => 0
theorem lateX_at {Y : Yd} {l : List Tk} {ds : List Int} {i : Nat} {T : List Int} (h : i < l.length) (ht : 0 < T.length) : lateX Y l ds i T = lastOr (suitK Y l[i] i (ds.getD i 0) (hiK l Y.dry i T T.length + 1 - ds.getD i 0).toNat) (ds.getD i 0) := by
  unfold lateX; rw [List.getElem?_eq_getElem h]; dsimp only; rw [if_neg (by omega)]
theorem lateX_nil {Y : Yd} {l : List Tk} {ds : List Int} {i : Nat} (h : i < l.length) : lateX Y l ds i [] = ds.getD i 0 := by
  unfold lateX; rw [List.getElem?_eq_getElem h]; rfl
/-- the latest days of the last m tasks -/
def lateT (Y : Yd) (l : List Tk) (ds : List Int) : Nat → List Int
  | 0 => []
  | m + 1 => lateX Y l ds (l.length - 1 - m) (lateT Y l ds m) :: lateT Y l ds m
theorem lateT_len (Y : Yd) (l : List Tk) (ds : List Int) : ∀ m, (lateT Y l ds m).length = m
  | 0 => rfl
  | m + 1 => by show (lateT Y l ds m).length + 1 = m + 1; rw [lateT_len Y l ds m]
theorem lastOr_mem {L : List Int} {d : Int} : lastOr L d = d ∨ lastOr L d ∈ L := by
  unfold lastOr
  cases h : L.getLast? with
  | none => exact .inl rfl
  | some x => exact .inr (List.mem_of_getLast? h)
theorem lastOr_bd {Y : Yd} {t : Tk} {i : Nat} {a hi : Int} (h : a ≤ hi) : a ≤ lastOr (suitK Y t i a (hi + 1 - a).toNat) a ∧ lastOr (suitK Y t i a (hi + 1 - a).toNat) a ≤ hi := by
  rcases lastOr_mem (L := suitK Y t i a (hi + 1 - a).toNat) (d := a) with e | e
  · rw [e]; omega
  · have := suitK_mem e
    omega
theorem hiK_le (l : List Tk) (dry : Int) (i : Nat) (T : List Int) : ∀ k, hiK l dry i T k ≤ T.getD 0 0 - 1
  | 0 => Int.le_refl _
  | k + 1 => by
    have := hiK_le l dry i T k
    show (if aftB l (i + 1 + k) i = true then min (hiK l dry i T k) (T.getD k 0 - dry - 1) else hiK l dry i T k) ≤ _
    split <;> omega
theorem hiK_ge {Y : Yd} {l : List Tk} {f : Int} {ds : List Int} (he : Early Y l f ds) {i : Nat} {T : List Int} (hT : ∀ q, q < T.length → ds.getD (i + 1 + q) 0 ≤ T.getD q 0) (hn : i + 1 + T.length ≤ l.length) (h0 : 0 < T.length) : ∀ k, k ≤ T.length → ds.getD i 0 ≤ hiK l Y.dry i T k
  | 0, _ => by
    have h1 := hT 0 h0
    have h2 := he.nxt i (by omega)
    show _ ≤ T.getD 0 0 - 1
    rw [Nat.add_zero] at h1
    omega
  | k + 1, hk => by
    have ih := hiK_ge he hT hn h0 k (by omega)
    show _ ≤ (if aftB l (i + 1 + k) i = true then min (hiK l Y.dry i T k) (T.getD k 0 - Y.dry - 1) else hiK l Y.dry i T k)
    split
    · rename_i ha
      have h1 := hT k (by omega)
      have h2 := he.aft i (i + 1 + k) (by omega) (by omega) ha
      omega
    · exact ih
/-- no task is later than it may, nor earlier than it is -/
theorem lateT_bd {Y : Yd} {l : List Tk} {f : Int} {ds : List Int} (he : Early Y l f ds) : ∀ m, m ≤ l.length → ∀ q, q < m → ds.getD (l.length - m + q) 0 ≤ (lateT Y l ds m).getD q 0 ∧ (lateT Y l ds m).getD q 0 < f + 400
  | 0, _, q, hq => absurd hq (by omega)
  | m + 1, hm, q, hq => by
    have ih := lateT_bd he m (by omega)
    have hlen := lateT_len Y l ds m
    cases q with
    | succ q =>
      have := ih q (by omega)
      rw [show l.length - (m + 1) + (q + 1) = l.length - m + q by omega]
      exact this
    | zero =>
      show ds.getD (l.length - (m + 1) + 0) 0 ≤ lateX Y l ds (l.length - 1 - m) (lateT Y l ds m) ∧ lateX Y l ds (l.length - 1 - m) (lateT Y l ds m) < f + 400
      rw [show l.length - (m + 1) + 0 = l.length - 1 - m by omega]
      have hb := he.bd (l.length - 1 - m) (by omega)
      by_cases h0 : m = 0
      · subst h0
        show _ ≤ lateX Y l ds _ [] ∧ lateX Y l ds _ [] < _
        rw [lateX_nil (by omega)]
        omega
      · rw [lateX_at (by omega) (by omega)]
        have hg := hiK_ge he (i := l.length - 1 - m) (T := lateT Y l ds m) (fun q hq => by
          have := (ih q (by omega)).1
          rw [show l.length - 1 - m + 1 + q = l.length - m + q by omega]
          exact this) (by omega) (by omega) m (by omega)
        have hle := hiK_le l Y.dry (l.length - 1 - m) (lateT Y l ds m) m
        have h1 := (ih 0 (by omega)).2
        rw [hlen]
        have := lastOr_bd (Y := Y) (t := l[l.length - 1 - m]) (i := l.length - 1 - m) hg
        omega
/-- the highest day for task n - 1 - m lies at or behind its earliest -/
theorem hiK_fits {Y : Yd} {l : List Tk} {f : Int} {ds : List Int} (he : Early Y l f ds) {m : Nat} (h0 : 0 < m) (hm : m < l.length) {k : Nat} (hk : k ≤ m) : ds.getD (l.length - 1 - m) 0 ≤ hiK l Y.dry (l.length - 1 - m) (lateT Y l ds m) k ∧ hiK l Y.dry (l.length - 1 - m) (lateT Y l ds m) k < f + 400 := by
  have hlen := lateT_len Y l ds m
  have ih := lateT_bd he m (by omega)
  have hg := hiK_ge he (i := l.length - 1 - m) (T := lateT Y l ds m) (fun q hq => by
    have := (ih q (by omega)).1
    rw [show l.length - 1 - m + 1 + q = l.length - m + q by omega]
    exact this) (by omega) (by omega) k (by omega)
  have hle := hiK_le l Y.dry (l.length - 1 - m) (lateT Y l ds m) k
  have h1 := (ih 0 (by omega)).2
  omega
/-- the last of the days that suit -/
theorem suitK_ext {Y : Yd} {t : Tk} {i : Nat} {a : Int} {k : Nat} : ∀ r, (∀ j, k ≤ j → j < k + r → suitB Y t i (a + (j : Int)) = false) → suitK Y t i a (k + r) = suitK Y t i a k
  | 0, _ => rfl
  | r + 1, h => by
    rw [← suitK_ext r (fun j h1 h2 => h j h1 (by omega)), ← Nat.add_assoc]
    exact suitK_no (h (k + r) (by omega) (by omega))
theorem lastOr_is {Y : Yd} {t : Tk} {i : Nat} {a d hi : Int} (h1 : a ≤ d) (h2 : d ≤ hi) (hs : suitB Y t i d = true) (hn : ∀ e, d < e → e ≤ hi → suitB Y t i e = false) : lastOr (suitK Y t i a (hi + 1 - a).toNat) a = d := by
  have e1 : (hi + 1 - a).toNat = ((d - a).toNat + 1) + (hi - d).toNat := by omega
  have e2 : a + ((d - a).toNat : Int) = d := by omega
  rw [e1, suitK_ext _ (fun j h3 h4 => hn _ (by omega) (by omega)), suitK_yes (by rw [e2]; exact hs), e2]
  unfold lastOr
  simp
/-- how much later tasks may be -/
def slkL (Y : Yd) (l : List Tk) (ds : List Int) : List Int := List.zipWith (· - ·) (lateT Y l ds l.length) ds
def slk (Y : Yd) (l : List Tk) (f : Int) : List Int := if begE Y l f = 0 then (match earD Y l f with | some ds => slkL Y l ds | none => []) else []
theorem usualU_day (Y : Yd) (l : List Tk) (days : List Int) (hl : days.length ≤ l.length) : ∀ (m : Nat) (ts : List Tu), ts.length + m ≤ days.length → (usualU Y l days m ts).map Tu.day = ts.map Tu.day ++ (days.drop ts.length).take m
  | 0, ts, _ => by simp [usualU]
  | m + 1, ts, h => by
    show (usualU Y l days m (ts ++ [usualT Y l days ts])).map Tu.day = _
    rw [usualU_day Y l days hl m _ (by simp; omega), usualT_at (by omega) (by omega)]
    simp only [List.map_append, List.map_cons, List.map_nil, List.length_append, List.length_cons, List.length_nil, List.append_assoc]
    congr 1
    rw [List.drop_eq_getElem_cons (show ts.length < days.length by omega), List.take_succ_cons]
    rfl
theorem usual_day (Y : Yd) (l : List Tk) (days : List Int) (hl : days.length ≤ l.length) : (usual Y l [] days).map Tu.day = days := by
  unfold usual
  rw [usualU_day Y l days hl _ _ (by simp)]
  simp
end Go.Proofs.Ytjgnikmnadmheaa

namespace Go.Proofs.Ytjgnikmnadmheaa
open Go.RowKit

theorem suitK_pair (Y : Yd) (t : Tk) (i : Nat) (a : Int) (k : Nat) : (suitK Y t i a k).Pairwise (· < ·) := by
  unfold suitK
  refine List.Pairwise.filter _ (List.Pairwise.map _ (fun x y h => ?_) List.pairwise_lt_range)
  omega
theorem suitK_head {Y : Yd} {t : Tk} {i : Nat} {a x y : Int} {k : Nat} (h : (suitK Y t i a k).head? = some x) (hy : y ∈ suitK Y t i a k) : x ≤ y := by
  have hp := suitK_pair Y t i a k
  cases hL : suitK Y t i a k with
  | nil => rw [hL] at hy; cases hy
  | cons z zs =>
    rw [hL] at h hy hp
    cases h
    rcases List.mem_cons.1 hy with e | e
    · omega
    · have := (List.pairwise_cons.1 hp).1 y e
      omega
theorem mem_suitK {Y : Yd} {t : Tk} {i : Nat} {a d : Int} {k : Nat} (h1 : a ≤ d) (h2 : d < a + (k : Int)) (h3 : suitB Y t i d = true) : d ∈ suitK Y t i a k := by
  unfold suitK
  rw [List.mem_filter, List.mem_map]
  exact ⟨⟨(d - a).toNat, List.mem_range.2 (by omega), by omega⟩, h3⟩
theorem lowK_le {dry f : Int} {af P Q : List Int} (hl : P.length = Q.length) (h : ∀ j, P.getD j 0 ≤ Q.getD j 0) : ∀ k, k ≤ af.length → lowK dry f af P k ≤ lowK dry f af Q k
  | 0, _ => by
    rw [lowK_zero, lowK_zero]
    unfold lowB
    rw [hl]
    have := h (Q.length - 1)
    split <;> omega
  | k + 1, hk => by
    have ih := lowK_le (dry := dry) (f := f) (af := af) hl h k (by omega)
    rw [lowK_succ (by omega), lowK_succ (by omega)]
    have := h af[k].toNat
    omega
theorem getD_take {L : List Int} {i j : Nat} : (L.take i).getD j 0 = if j < i then L.getD j 0 else 0 := by
  by_cases h : j < i
  · rw [if_pos h, List.getD_eq_getElem?_getD, List.getD_eq_getElem?_getD, List.getElem?_take_of_lt h]
  · rw [if_neg h, List.getD_eq_getElem?_getD, List.getElem?_eq_none (by simp; omega)]
    rfl
/-- days that a plan may have -/
structure DaysOK (Y : Yd) (l : List Tk) (f : Int) (D : List Int) : Prop where
  len : D.length = l.length
  at_ : ∀ i (h : i < l.length), lowS Y.dry f l[i].af (D.take i) ≤ D.getD i 0 ∧ D.getD i 0 < f + 400 ∧ suitB Y l[i] i (D.getD i 0) = true
theorem daysOK_plan {Y : Yd} {l : List Tk} {f : Int} {ts : List Tu} (h : planOK Y l f ts = true) : DaysOK Y l f (ts.map Tu.day) := by
  unfold planOK at h
  rw [Bool.and_eq_true, decide_eq_true_eq, List.all_eq_true] at h
  obtain ⟨hl, ha⟩ := h
  refine ⟨by simpa using hl, fun i hi => ?_⟩
  have h1 := ha i (List.mem_range.2 hi)
  rw [turnOK_at hi (by omega), Bool.and_eq_true] at h1
  have h2 := h1.1
  unfold dayOK at h2
  rw [Bool.and_eq_true, Bool.and_eq_true, decide_eq_true_eq, decide_eq_true_eq, List.map_take] at h2
  have e : (ts.map Tu.day).getD i 0 = (ts[i]'(by omega)).day := by
    rw [List.getD_eq_getElem?_getD, List.getElem?_map, List.getElem?_eq_getElem (by omega)]
    rfl
  rw [e]
  exact ⟨h2.2.1, h2.1, h2.2.2⟩
theorem est_least {Y : Yd} {l : List Tk} {f : Int} {D : List Int} (hD : DaysOK Y l f D) : ∀ (m : Nat) (P : List Int), P.length + m = l.length → (∀ j, j < P.length → P.getD j 0 ≤ D.getD j 0) → ∃ L, est Y l f (fun _ => none) m P = some L ∧ ∀ j, j < L.length → L.getD j 0 ≤ D.getD j 0
  | 0, P, _, h => ⟨P, rfl, h⟩
  | m + 1, P, hn, h => by
    have hk : P.length < l.length := by omega
    obtain ⟨h1, h2, h3⟩ := hD.at_ P.length hk
    have hlow : lowS Y.dry f l[P.length].af P ≤ lowS Y.dry f l[P.length].af (D.take P.length) := by
      refine lowK_le (by rw [List.length_take, hD.len]; omega) (fun j => ?_) _ (Nat.le_refl _)
      rw [getD_take]
      by_cases hj : j < P.length
      · rw [if_pos hj]; exact h j hj
      · rw [if_neg hj, List.getD_eq_getElem?_getD, List.getElem?_eq_none (by omega)]
        exact Int.le_refl _
    have hmem : D.getD P.length 0 ∈ nextL Y l f P := by
      rw [nextL_at hk]
      exact mem_suitK (by omega) (by omega) h3
    obtain ⟨x, hx⟩ : ∃ x, (nextL Y l f P).head? = some x := by
      cases hL : nextL Y l f P with
      | nil => rw [hL] at hmem; cases hmem
      | cons x xs => exact ⟨x, rfl⟩
    have hle : x ≤ D.getD P.length 0 := by
      rw [nextL_at hk] at hx hmem
      exact suitK_head hx hmem
    obtain ⟨L, hL1, hL2⟩ := est_least hD m (P ++ [x]) (by simp; omega) (fun j hj => by
      rw [List.length_append] at hj
      by_cases e : j < P.length
      · rw [List.getD_eq_getElem?_getD, List.getElem?_append_left e, ← List.getD_eq_getElem?_getD]; exact h j e
      · obtain rfl : j = P.length := by simp at hj; omega
        rw [List.getD_eq_getElem?_getD, List.getElem?_append_right (Nat.le_refl _)]
        simpa using hle)
    refine ⟨L, ?_, hL2⟩
    show (match stepE Y l f (fun _ => none) P with | some d => est Y l f (fun _ => none) m (P ++ [d]) | none => none) = some L
    rw [show stepE Y l f (fun _ => none) P = some x from hx]
    exact hL1
/-- where Earliest finds nothing there is no plan -/
theorem none_plan {Y : Yd} {l : List Tk} {f : Int} {ts : List Tu} (h : earD Y l f = none) : planOK Y l f ts = false := by
  cases hp : planOK Y l f ts with
  | false => rfl
  | true =>
    obtain ⟨L, hL, _⟩ := est_least (daysOK_plan hp) l.length [] (by simp) (fun j hj => absurd hj (by simp))
    have : earD Y l f = some L := hL
    rw [h] at this; cases this
theorem least_plan {Y : Yd} {l : List Tk} {f : Int} {ds D : List Int} (h : earD Y l f = some ds) (hD : DaysOK Y l f D) : ∀ j, j < l.length → ds.getD j 0 ≤ D.getD j 0 := by
  obtain ⟨L, hL, hl⟩ := est_least hD l.length [] (by simp) (fun j hj => absurd hj (by simp))
  have : earD Y l f = some L := hL
  rw [h] at this; cases this
  intro j hj
  exact hl j (by rw [earD_len h]; exact hj)
theorem est_heads {Y : Yd} {l : List Tk} {f : Int} : ∀ (m : Nat) (ds L : List Int), est Y l f (fun _ => none) m ds = some L → ds <+: L ∧ ∀ j (_ : ds.length ≤ j) (hj : j < L.length), (nextL Y l f (L.take j)).head? = some L[j]
  | 0, ds, L, h => by
    cases h
    exact ⟨List.prefix_refl _, fun j h1 h2 => absurd h2 (by omega)⟩
  | m + 1, ds, L, h => by
    change (match stepE Y l f (fun _ => none) ds with | some d => est Y l f (fun _ => none) m (ds ++ [d]) | none => none) = some L at h
    split at h
    · rename_i d hd
      obtain ⟨h1, h2⟩ := est_heads m _ L h
      have hp : ds <+: L := (List.prefix_append _ _).trans h1
      refine ⟨hp, fun j hj hjl => ?_⟩
      by_cases e : j = ds.length
      · subst e
        have ht : L.take ds.length = ds := (List.prefix_iff_eq_take.1 hp).symm
        have hx : L[ds.length] = d := by
          obtain ⟨r, rfl⟩ := h1
          simp
        rw [ht, hx]
        exact hd
      · exact h2 j (by simp; omega) hjl
    · cases h
theorem daysOK_ear {Y : Yd} {l : List Tk} {f : Int} {ds : List Int} (h : earD Y l f = some ds) : DaysOK Y l f ds := by
  have hl := earD_len h
  obtain ⟨_, he⟩ := est_each _ _ _ h
  refine ⟨hl, fun i hi => ?_⟩
  have h1 := he i (Nat.zero_le _) (by omega)
  have hti : (ds.take i).length = i := by simp; omega
  have h2 := nextL_mem (ds := ds.take i) (by rw [hti]; exact hi) h1
  have e : l[(ds.take i).length]'(by rw [hti]; exact hi) = l[i] := by congr 1
  rw [e, hti] at h2
  rw [List.getD_eq_getElem?_getD, List.getElem?_eq_getElem (by omega), Option.getD_some]
  exact h2
/-- the bounds of Earliest are right -/
theorem sum_range_le {g h : Nat → Int} : ∀ n, (∀ j, j < n → g j ≤ h j) → ((List.range n).map g).sum ≤ ((List.range n).map h).sum
  | 0, _ => Int.le_refl _
  | n + 1, hh => by
    rw [List.range_succ, List.map_append, List.map_append, List.sum_append, List.sum_append]
    have := sum_range_le n (fun j hj => hh j (by omega))
    have := hh n (by omega)
    simp only [List.map_cons, List.map_nil, List.sum_cons, List.sum_nil]
    omega
theorem cnt_split (n : Nat) : ∀ ts : List Tu, ts.countP (fun t => decide (0 ≤ t.pit ∧ t.pit < ((n + 1 : Nat) : Int))) = ts.countP (fun t => decide (0 ≤ t.pit ∧ t.pit < (n : Int))) + ts.countP (fun t => decide (t.pit = (n : Int)))
  | [] => rfl
  | t :: ts => by
    rw [List.countP_cons, List.countP_cons, List.countP_cons, cnt_split n ts]
    by_cases h1 : 0 ≤ t.pit ∧ t.pit < (n : Int)
    · have h2 : 0 ≤ t.pit ∧ t.pit < ((n + 1 : Nat) : Int) := by omega
      have h3 : ¬ t.pit = (n : Int) := by omega
      simp only [decide_eq_true h1, decide_eq_true h2, decide_eq_false h3]
      simp; omega
    · by_cases h3 : t.pit = (n : Int)
      · have h2 : 0 ≤ t.pit ∧ t.pit < ((n + 1 : Nat) : Int) := by omega
        simp only [decide_eq_false h1, decide_eq_true h2, decide_eq_true h3]
        simp; omega
      · have h2 : ¬ (0 ≤ t.pit ∧ t.pit < ((n + 1 : Nat) : Int)) := by omega
        simp only [decide_eq_false h1, decide_eq_false h2, decide_eq_false h3]
        simp
theorem cnt_sum (ts : List Tu) : ∀ n : Nat, ((List.range n).map (fun j : Nat => cntP ts (j : Int))).sum = (ts.countP (fun t => decide (0 ≤ t.pit ∧ t.pit < (n : Int))) : Nat)
  | 0 => by
    have : ts.countP (fun t => decide (0 ≤ t.pit ∧ t.pit < ((0 : Nat) : Int))) = 0 := by
      rw [List.countP_eq_zero]
      intro t _
      simp <;> omega
    rw [this]; rfl
  | n + 1 => by
    rw [List.range_succ, List.map_append, List.sum_append, cnt_sum ts n, cnt_split n ts]
    simp only [List.map_cons, List.map_nil, List.sum_cons, List.sum_nil]
    unfold cntP
    omega
theorem list_range (L : List Int) : L = (List.range L.length).map (fun j => L.getD j 0) := by
  apply List.ext_getElem
  · simp
  · intro j h1 h2
    rw [List.getElem_map, List.getElem_range, List.getD_eq_getElem?_getD, List.getElem?_eq_getElem h1]
    rfl
theorem pit_found {pi : List Pit} {ts : List Tu} {d : Int} (h : (ts.length : Int) + 1 ≤ batOf pi d) : ∃ j : Nat, j < pi.length ∧ pitOf pi ts d = (j : Int) ∧ pitOK pi ts d j = true := by
  unfold pitOf
  cases hf : (List.range pi.length).find? (pitOK pi ts d) with
  | some j =>
    exact ⟨j, List.mem_range.1 (List.mem_of_find?_eq_some hf), rfl, List.find?_some hf⟩
  | none =>
    exfalso
    rw [List.find?_eq_none] at hf
    have h1 : batOf pi d ≤ ((List.range pi.length).map (fun j : Nat => cntP ts (j : Int))).sum := by
      unfold batOf
      rw [list_range (pi.map (batAt d)), List.length_map]
      refine sum_range_le _ fun j hj => ?_
      rw [List.getD_eq_getElem?_getD, List.getElem?_map, List.getElem?_eq_getElem hj]
      have h2 := hf j (List.mem_range.2 hj)
      rw [pitOK_at hj, Bool.and_eq_true, decide_eq_true_eq] at h2
      show batAt d pi[j] ≤ _
      have h3 := (cntP_bd ts (j : Int)).1
      unfold batAt
      by_cases ha : agedB pi[j] d = true
      · rw [if_pos ha]
        have : ¬ cntP ts (j : Int) < pi[j].b := fun e => h2 ⟨ha, e⟩
        omega
      · rw [if_neg ha]; exact h3
    rw [cnt_sum] at h1
    have h4 : ts.countP (fun t => decide (0 ≤ t.pit ∧ t.pit < (pi.length : Int))) ≤ ts.length := List.countP_le_length
    omega
theorem best_fold {ma : List Mas} : ∀ (L : List Int) (b : Int), L.foldl (bestStep ma) b = b ∨ L.foldl (bestStep ma) b ∈ L
  | [], b => .inl rfl
  | x :: xs, b => by
    rcases best_fold xs (bestStep ma b x) with e | e
    · show xs.foldl (bestStep ma) (bestStep ma b x) = b ∨ xs.foldl (bestStep ma) (bestStep ma b x) ∈ x :: xs
      rw [e]
      unfold bestStep
      split
      · right; simp
      · left; rfl
    · exact .inr (List.mem_cons_of_mem _ e)
theorem bestM_mem {ma : List Mas} {L : List Int} (h : 0 < L.length) : bestM ma L ∈ L := by
  cases L with
  | nil => simp at h
  | cons x xs =>
    show xs.foldl (bestStep ma) (bestStep ma (-1) x) ∈ x :: xs
    have : bestStep ma (-1) x = x := by unfold bestStep; rw [if_pos (.inl (by decide))]
    rw [this]
    rcases best_fold xs x with e | e
    · rw [e]; simp
    · exact List.mem_cons_of_mem _ e
theorem usual_each {Y : Yd} {l : List Tk} {days : List Int} : ∀ (m : Nat) (ts : List Tu), ts <+: usualU Y l days m ts ∧ ∀ j (_ : ts.length ≤ j) (hj : j < (usualU Y l days m ts).length), (usualU Y l days m ts)[j] = usualT Y l days ((usualU Y l days m ts).take j)
  | 0, ts => ⟨List.prefix_refl _, fun j h1 h2 => absurd h2 (by show ¬ j < ts.length; omega)⟩
  | m + 1, ts => by
    obtain ⟨h1, h2⟩ := usual_each m (ts ++ [usualT Y l days ts])
    have e : usualU Y l days (m + 1) ts = usualU Y l days m (ts ++ [usualT Y l days ts]) := rfl
    rw [e]
    have hp : ts <+: usualU Y l days m (ts ++ [usualT Y l days ts]) := (List.prefix_append _ _).trans h1
    refine ⟨hp, fun j hj hjl => ?_⟩
    by_cases e2 : j = ts.length
    · subst e2
      have ht : (usualU Y l days m (ts ++ [usualT Y l days ts])).take ts.length = ts := (List.prefix_iff_eq_take.1 hp).symm
      have hx : (usualU Y l days m (ts ++ [usualT Y l days ts]))[ts.length] = usualT Y l days ts := by
        have := h1.getElem (i := ts.length) (by simp)
        rw [← this]; simp
      rw [ht, hx]
    · exact h2 j (by simp; omega) hjl
/-- CheckPlan accepts the usual plan of days that are right -/
theorem plan_usual {Y : Yd} {l : List Tk} {f : Int} {ds : List Int} (hD : DaysOK Y l f ds) : planOK Y l f (usual Y l [] ds) = true := by
  have hul := usual_len Y l [] ds (Nat.zero_le _)
  have hud := usual_day Y l ds (by rw [hD.len]; exact Nat.le_refl _)
  have hn := hD.len
  obtain ⟨_, he⟩ := usual_each (Y := Y) (l := l) (days := ds) (ds.length - ([] : List Tu).length) []
  change ∀ j (_ : 0 ≤ j) (hj : j < (usual Y l [] ds).length), (usual Y l [] ds)[j] = usualT Y l ds ((usual Y l [] ds).take j) at he
  generalize usual Y l [] ds = R at *
  refine planOK_yes (by omega) fun i hi => ?_
  have hiR : i < R.length := by omega
  have hti : (R.take i).length = i := by simp; omega
  obtain ⟨d1, d2, d3⟩ := hD.at_ i hi
  have hdi : ds.getD i 0 = ds[i]'(by omega) := by rw [List.getD_eq_getElem?_getD, List.getElem?_eq_getElem (by omega)]; rfl
  rw [hdi] at d1 d2 d3
  have hR := he i (Nat.zero_le _) hiR
  rw [usualT_at (by rw [hti]; omega) (by rw [hti]; exact hi)] at hR
  have e1 : ds[(R.take i).length]'(by rw [hti]; omega) = ds[i]'(by omega) := by congr 1
  have e2 : l[(R.take i).length]'(by rw [hti]; exact hi) = l[i] := by congr 1
  rw [e1, e2] at hR
  have hmt : (R.take i).map Tu.day = ds.take i := by rw [List.map_take, hud]
  have hsb := d3
  unfold suitB at hsb
  rw [Bool.and_eq_true, Bool.and_eq_true, Bool.and_eq_true, decide_eq_true_eq, decide_eq_true_eq, decide_eq_true_eq] at hsb
  obtain ⟨_, _, hbat, hskl⟩ := hsb
  obtain ⟨j, hj, hpj, hpk⟩ := pit_found (pi := Y.pi) (ts := R.take i) (d := ds[i]'(by omega)) (by rw [hti]; exact hbat)
  rw [pitOK_at hj, Bool.and_eq_true, decide_eq_true_eq] at hpk
  have hct := cntP_take hiR (j : Int)
  rw [turnOK_at hi hiR, hmt]
  rw [hR, hpj] at hct ⊢
  rw [if_pos rfl] at hct
  rw [Bool.and_eq_true, Bool.and_eq_true, Bool.and_eq_true]
  refine ⟨?_, ?_, ?_, ?_⟩
  · unfold dayOK
    rw [Bool.and_eq_true, Bool.and_eq_true, decide_eq_true_eq, decide_eq_true_eq]
    exact ⟨d2, d1, d3⟩
  · rw [List.contains_iff_mem]; exact bestM_mem hskl
  · rw [inB_iff]; show 0 ≤ (j : Int) ∧ (j : Int) ≤ _; omega
  · unfold pitTake
    show (match Y.pi[(j : Int).toNat]? with | some p => agedB p _ && decide (cntP (R.take (i + 1)) (j : Int) ≤ p.b) | none => false) = true
    rw [Int.toNat_natCast, List.getElem?_eq_getElem hj]
    show (agedB Y.pi[j] _ && decide (cntP (R.take (i + 1)) (j : Int) ≤ Y.pi[j].b)) = true
    rw [Bool.and_eq_true, decide_eq_true_eq, hct]
    exact ⟨hpk.1, by omega⟩
end Go.Proofs.Ytjgnikmnadmheaa

namespace Go.Proofs.Ytjgnikmnadmheaa
open Go.RowKit

theorem small_l {Y : Yd} {l : List Tk} (h : slowB Y l = false) : Small Y ∧ tame l := by
  have hv : vastB Y l = false := by unfold slowB at h; rw [Bool.or_eq_false_iff] at h; exact h.1
  obtain ⟨h1, h2, _⟩ := vast_facts hv
  exact ⟨⟨by omega, by omega, by omega, h2⟩, tame_of hv⟩
theorem begE_span (Y : Yd) (l : List Tk) (f : Int) : begE Y l f ≠ 70 := by
  have h1 : chkY Y ≠ 70 := by unfold chkY; split <;> (try split) <;> (try split) <;> decide
  have h2 : chkL l ≠ 70 := by unfold chkL; split <;> (try split) <;> decide
  have h3 : comE Y l ≠ 70 := by unfold comE; split <;> assumption
  unfold begE
  split
  · split <;> decide
  · exact h3
theorem plan_pits {Y : Yd} {l : List Tk} {f : Int} {ts : List Tu} (hp : Y.pi.length ≤ 1000) (h : planOK Y l f ts = true) : ∀ t ∈ ts, i64v t.pit := fun t ht => by
  unfold planOK at h
  rw [Bool.and_eq_true, decide_eq_true_eq, List.all_eq_true] at h
  obtain ⟨i, hi, rfl⟩ := List.mem_iff_getElem.1 ht
  have h1 := h.2 i (List.mem_range.2 (by omega))
  rw [turnOK_at (by omega) hi, Bool.and_eq_true, Bool.and_eq_true, Bool.and_eq_true] at h1
  have h2 := inB_iff.1 h1.2.2.1
  unfold i64v
  omega
end Go.Proofs.Ytjgnikmnadmheaa
