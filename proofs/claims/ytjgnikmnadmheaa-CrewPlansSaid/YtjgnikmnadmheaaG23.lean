/- The law CrewChecks, walked. -/
import Derived.Test.YtjgnikmnadmheaaG02
import Derived.Test.YtjgnikmnadmheaaG03
import Derived.Test.YtjgnikmnadmheaaG05
import Derived.Test.YtjgnikmnadmheaaG08
import Derived.Test.YtjgnikmnadmheaaG16
import Derived.Test.YtjgnikmnadmheaaG17
import Derived.Test.YtjgnikmnadmheaaG22

namespace Go.Proofs.Ytjgnikmnadmheaa
open Go.RowKit

theorem vast_facts {Y : Yd} {l : List Tk} (h : vastB Y l = false) : (Y.cl.length ≤ 300 ∧ Y.pi.length ≤ 20 ∧ Y.ma.length ≤ 20 ∧ l.length ≤ 20) ∧ (∀ m ∈ Y.ma, m.name.size ≤ 100) ∧ (∀ t ∈ l, t.af.length ≤ 30 ∧ t.co.length ≤ 50 ∧ ∀ s ∈ t.co, s.size ≤ 100) := by
  unfold vastB at h
  rw [Bool.or_eq_false_iff, Bool.or_eq_false_iff, decide_eq_false_iff_not, List.any_eq_false, List.any_eq_false] at h
  obtain ⟨h1, h2, h3⟩ := h
  refine ⟨by omega, fun m hm => ?_, fun t ht => ?_⟩
  · have := h2 m hm
    unfold longName at this
    simp at this; omega
  · have := h3 t ht
    unfold bigTask at this
    simp only [Bool.or_eq_true, decide_eq_true_eq, List.any_eq_true, not_or, not_exists, not_and] at this
    obtain ⟨⟨a, b⟩, c⟩ := this
    refine ⟨by omega, by omega, fun s hs => ?_⟩
    have := c s hs
    unfold longStr at this
    simp at this; omega
theorem tame_of {Y : Yd} {l : List Tk} (h : vastB Y l = false) : tame l := by
  obtain ⟨h1, _, h3⟩ := vast_facts h
  exact ⟨by omega, fun t ht => by obtain ⟨a, b, c⟩ := h3 t ht; exact ⟨by omega, by omega, fun s hs => by have := c s hs; omega⟩⟩

set_option maxRecDepth 100000 in
set_option maxHeartbeats 1000000 in
theorem lawChecks_any (C : Array Value) (Y : Yd) (l : List Tk) (A : Option Addr) (c : Nat) (w : World) (hY : YardAt w w.heap.size C Y) (hT : TasksAt w w.heap.size A l) :
    Calls Try.prog 3 #[.agg C, .slice A l.length c] w fun e w' => e = .returned (.bool true) ∧ Below w.heap.size w w' := by
  have HWO := Lib.hid works_any
  have HVA := Lib.hid (fun W (hb : Below w.heap.size w W) => vast_any C Y l A c W ((hY.below hb (Nat.le_refl _)).more hb.size) ((hT.below hb (Nat.le_refl _)).more hb.size))
  have HLOAD : Hid (∀ W : World, Bk W w.heap.size 29 C → W.rangeAt w.heap.size 0 C.toList) := fun W hb => hb.range
  have HC28 : Hid (C.toList.length = 28) := by show _ = _; rw [Array.length_toList]; exact hY.size
  cases h0 : vastB Y l with
  | true =>
    have H0 := Lib.hid h0; clear h0 hY hT
    go_enter Try.func3, Try.ntmps3
    go_upto_region 1 with fail
    go_wp2_with (first | (refine wpList_load_mid (P := Try.prog) rfl 29 (.tmp 2) rfl w.heap.size 0 rfl C.toList _ (HLOAD.out _ (by exact (by repeat (first | with_reducible assumption | with_reducible exact Bk.new _ _ _ | with_reducible refine Bk.drew ?_ | with_reducible refine Bk.drewN ?_ _ | with_reducible refine Bk.alloc ?_ _ | (with_reducible refine Bk.far ?_ ?_ _; rotate_left; (try simp) <;> omega))))) Try.underlying29 rfl (by rw [HC28.out]; exact info29) ?_) | (go_at_call 14; refine (HVA.out _ (by exact (by repeat (first | with_reducible exact Below.refl _ _ | with_reducible assumption | with_reducible refine Below.drew ?_ | with_reducible refine below_drewN ?_ _ | (with_reducible refine Below.alloc ?_ ?_ _; rotate_left; (try simp) <;> omega) | (with_reducible refine Below.setCell ?_ ?_ _; rotate_left; (try simp) <;> omega))))).mono ?_; rintro e w1 ⟨rfl, hb⟩; rw [H0.out]; have hB1 : Below w.heap.size w w1 := Below.trans (by exact (by repeat (first | with_reducible exact Below.refl _ _ | with_reducible assumption | with_reducible refine Below.drew ?_ | with_reducible refine below_drewN ?_ _ | (with_reducible refine Below.alloc ?_ ?_ _; rotate_left; (try simp) <;> omega) | (with_reducible refine Below.setCell ?_ ?_ _; rotate_left; (try simp) <;> omega)))) (hb.mono (by simp))) | (go_at_call 15; refine (HWO.out _).mono ?_; rintro e w2 ⟨rfl, hb2⟩; have hB2 : Below w.heap.size w w2 := Below.trans hB1 (hb2.mono hB1.size)))
    go_ret
    exact ⟨rfl, hB2⟩
  | false =>
    have hv := vast_facts h0
    have HCK := Lib.hid (fun W (hb : Below w.heap.size w W) => checkYard_any C Y W ((hY.below hb (Nat.le_refl _)).more hb.size) (by omega) (by omega) (by omega) (fun m hm => hv.2.1 m hm))
    have HRK := Lib.hid (fun W (hb : Below w.heap.size w W) => rCheckYard_any C Y W ((hY.below hb (Nat.le_refl _)).more hb.size) (by omega) (by omega) (by omega) (fun m hm => hv.2.1 m hm))
    have HCT := Lib.hid (fun W (hb : Below w.heap.size w W) => checkTasks_any l A c W ((hT.below hb (Nat.le_refl _)).more hb.size) (tame_of h0))
    have HRT := Lib.hid (fun W (hb : Below w.heap.size w W) => rCheckTasks_any l A c W ((hT.below hb (Nat.le_refl _)).more hb.size) (tame_of h0))
    have H0 := Lib.hid h0
    have h28 := hY.len
    have hi : (Try.prog.info? 29).map (·.size) = some C.toList.length := by rw [h28]; exact info29
    clear h0 hY hT hv h28
    generalize chkY Y = n1 at *
    generalize chkL l = n2 at *
    go_enter Try.func3, Try.ntmps3
    go_upto_region 3 with (first | (refine wpList_load_mid (P := Try.prog) rfl 29 (.tmp 2) rfl w.heap.size 0 rfl C.toList _ (HLOAD.out _ (by exact (by repeat (first | with_reducible assumption | with_reducible exact Bk.new _ _ _ | with_reducible refine Bk.drew ?_ | with_reducible refine Bk.drewN ?_ _ | with_reducible refine Bk.alloc ?_ _ | (with_reducible refine Bk.far ?_ ?_ _; rotate_left; (try simp) <;> omega))))) Try.underlying29 rfl (by rw [HC28.out]; exact info29) ?_) | (go_at_call 14; refine (HVA.out _ (by exact (by repeat (first | with_reducible exact Below.refl _ _ | with_reducible assumption | with_reducible refine Below.drew ?_ | with_reducible refine below_drewN ?_ _ | (with_reducible refine Below.alloc ?_ ?_ _; rotate_left; (try simp) <;> omega) | (with_reducible refine Below.setCell ?_ ?_ _; rotate_left; (try simp) <;> omega))))).mono ?_; rintro e w1 ⟨rfl, hb⟩; rw [H0.out]; have hB1 : Below w.heap.size w w1 := Below.trans (by exact (by repeat (first | with_reducible exact Below.refl _ _ | with_reducible assumption | with_reducible refine Below.drew ?_ | with_reducible refine below_drewN ?_ _ | (with_reducible refine Below.alloc ?_ ?_ _; rotate_left; (try simp) <;> omega) | (with_reducible refine Below.setCell ?_ ?_ _; rotate_left; (try simp) <;> omega)))) (hb.mono (by simp)); have hK1 : Bk w1 w.heap.size 29 C := Bk.below (by exact (by repeat (first | with_reducible assumption | with_reducible exact Bk.new _ _ _ | with_reducible refine Bk.drew ?_ | with_reducible refine Bk.drewN ?_ _ | with_reducible refine Bk.alloc ?_ _ | (with_reducible refine Bk.far ?_ ?_ _; rotate_left; (try simp) <;> omega)))) hb (by simp)))
    have hu := Try.underlying29
    have HR := hK1.range
    have l0 := hK1.lt
    refine wp_region_held_drew (S := (fun w' => w'.rangeAt w.heap.size 0 C.toList)) (by kernel_rfl) ?_ (fun hHeld => ?_)
    · first | assumption | go_keep
    (refine held_call 0 (some 9) 15 _ rfl (by kernel_rfl) (by rfl) ?_ (HWO.out _) ?_; rotate_left; rotate_left; (simp only [List.getElem?_toArray, List.getElem?_cons_zero, List.getElem?_cons_succ, Option.map_some]; refine congrArg some ?_; go_simp))
    rintro e w5 ⟨rfl, hb5'⟩
    have hB5 : Below w.heap.size w w5 := Below.trans (by exact (by repeat (first | with_reducible exact Below.refl _ _ | with_reducible assumption | with_reducible refine Below.drew ?_ | with_reducible refine below_drewN ?_ _ | (with_reducible refine Below.alloc ?_ ?_ _; rotate_left; (try simp) <;> omega) | (with_reducible refine Below.setCell ?_ ?_ _; rotate_left; (try simp) <;> omega)))) (hb5'.mono (by first | exact hB1.size | (simp; exact hB1.size)))
    have hK5 : Bk w5 w.heap.size 29 C := Bk.below (by exact (by repeat (first | with_reducible assumption | with_reducible exact Bk.new _ _ _ | with_reducible refine Bk.drew ?_ | with_reducible refine Bk.drewN ?_ _ | with_reducible refine Bk.alloc ?_ _ | (with_reducible refine Bk.far ?_ ?_ _; rotate_left; (try simp) <;> omega)))) hb5' (by first | exact l0 | (simp; exact l0))
    have HR5 := hK5.range
    have l5 := hK5.lt
    refine ⟨_, rfl, HR5, fun hHeld => ?_⟩
    (try simp only [Act.put, List.setIfInBounds_toArray, List.set_cons_zero, List.set_cons_succ])
    refine tk 1 10 ?_
    (refine held_row 2 (some 11) 29 (.tmp 2) (w.heap.size) 0 C.toList _ rfl rfl (by kernel_rfl) (by kernel_rfl) (by kernel_rfl) (by rfl) rfl (fun _ _ _ h => h) (by assumption) (fun _ hS => hS) Try.underlying29 rfl (by assumption) ?_; (try simp only [Act.put, List.setIfInBounds_toArray, List.set_cons_zero, List.set_cons_succ]))
    (refine held_row 4 (some 13) 29 (.tmp 2) (w.heap.size) 0 C.toList _ rfl rfl (by kernel_rfl) (by kernel_rfl) (by kernel_rfl) (by rfl) rfl (fun _ _ _ h => h) (by assumption) (fun _ hS => hS) Try.underlying29 rfl (by assumption) ?_; (try simp only [Act.put, List.setIfInBounds_toArray, List.set_cons_zero, List.set_cons_succ]))
    (refine held_call 3 (some 12) 16 _ rfl (by kernel_rfl) (by rfl) ?_ (HCK.out _ (by exact (by repeat (first | with_reducible exact Below.refl _ _ | with_reducible assumption | with_reducible refine Below.drew ?_ | with_reducible refine below_drewN ?_ _ | (with_reducible refine Below.alloc ?_ ?_ _; rotate_left; (try simp) <;> omega) | (with_reducible refine Below.setCell ?_ ?_ _; rotate_left; (try simp) <;> omega))))) ?_; rotate_left; rotate_left; (simp only [List.getElem?_toArray, List.getElem?_cons_zero, List.getElem?_cons_succ, Option.map_some]; refine congrArg some ?_; go_simp))
    rintro e w6 ⟨rfl, hb6'⟩
    have hB6 : Below w.heap.size w w6 := Below.trans (by exact (by repeat (first | with_reducible exact Below.refl _ _ | with_reducible assumption | with_reducible refine Below.drew ?_ | with_reducible refine below_drewN ?_ _ | (with_reducible refine Below.alloc ?_ ?_ _; rotate_left; (try simp) <;> omega) | (with_reducible refine Below.setCell ?_ ?_ _; rotate_left; (try simp) <;> omega)))) (hb6'.mono (by first | exact hB5.size | (simp; exact hB5.size)))
    have hK6 : Bk w6 w.heap.size 29 C := Bk.below (by exact (by repeat (first | with_reducible assumption | with_reducible exact Bk.new _ _ _ | with_reducible refine Bk.drew ?_ | with_reducible refine Bk.drewN ?_ _ | with_reducible refine Bk.alloc ?_ _ | (with_reducible refine Bk.far ?_ ?_ _; rotate_left; (try simp) <;> omega)))) hb6' (by first | exact l5 | (simp; exact l5))
    have HR6 := hK6.range
    have l6 := hK6.lt
    refine ⟨_, rfl, HR6, fun hHeld => ?_⟩
    (try simp only [Act.put, List.setIfInBounds_toArray, List.set_cons_zero, List.set_cons_succ])
    (refine held_call 5 (some 14) 17 _ rfl (by kernel_rfl) (by rfl) ?_ (HRK.out _ (by exact (by repeat (first | with_reducible exact Below.refl _ _ | with_reducible assumption | with_reducible refine Below.drew ?_ | with_reducible refine below_drewN ?_ _ | (with_reducible refine Below.alloc ?_ ?_ _; rotate_left; (try simp) <;> omega) | (with_reducible refine Below.setCell ?_ ?_ _; rotate_left; (try simp) <;> omega))))) ?_; rotate_left; rotate_left; (simp only [List.getElem?_toArray, List.getElem?_cons_zero, List.getElem?_cons_succ, Option.map_some]; refine congrArg some ?_; go_simp))
    rintro e w7 ⟨rfl, hb7'⟩
    have hB7 : Below w.heap.size w w7 := Below.trans (by exact (by repeat (first | with_reducible exact Below.refl _ _ | with_reducible assumption | with_reducible refine Below.drew ?_ | with_reducible refine below_drewN ?_ _ | (with_reducible refine Below.alloc ?_ ?_ _; rotate_left; (try simp) <;> omega) | (with_reducible refine Below.setCell ?_ ?_ _; rotate_left; (try simp) <;> omega)))) (hb7'.mono (by first | exact hB6.size | (simp; exact hB6.size)))
    have hK7 : Bk w7 w.heap.size 29 C := Bk.below (by exact (by repeat (first | with_reducible assumption | with_reducible exact Bk.new _ _ _ | with_reducible refine Bk.drew ?_ | with_reducible refine Bk.drewN ?_ _ | with_reducible refine Bk.alloc ?_ _ | (with_reducible refine Bk.far ?_ ?_ _; rotate_left; (try simp) <;> omega)))) hb7' (by first | exact l6 | (simp; exact l6))
    have HR7 := hK7.range
    have l7 := hK7.lt
    refine ⟨_, rfl, HR7, fun hHeld => ?_⟩
    (try simp only [Act.put, List.setIfInBounds_toArray, List.set_cons_zero, List.set_cons_succ])
    refine tk 6 15 ?_
    refine tk 7 16 ?_
    refine tk 8 17 ?_
    refine tk 9 18 ?_
    refine tk 11 20 ?_
    (refine held_call 10 (some 19) 18 _ rfl (by kernel_rfl) (by rfl) ?_ (HCT.out _ (by exact (by repeat (first | with_reducible exact Below.refl _ _ | with_reducible assumption | with_reducible refine Below.drew ?_ | with_reducible refine below_drewN ?_ _ | (with_reducible refine Below.alloc ?_ ?_ _; rotate_left; (try simp) <;> omega) | (with_reducible refine Below.setCell ?_ ?_ _; rotate_left; (try simp) <;> omega))))) ?_; rotate_left; rotate_left; (simp only [List.getElem?_toArray, List.getElem?_cons_zero, List.getElem?_cons_succ, Option.map_some]; refine congrArg some ?_; go_simp))
    rintro e w8 ⟨rfl, hb8'⟩
    have hB8 : Below w.heap.size w w8 := Below.trans (by exact (by repeat (first | with_reducible exact Below.refl _ _ | with_reducible assumption | with_reducible refine Below.drew ?_ | with_reducible refine below_drewN ?_ _ | (with_reducible refine Below.alloc ?_ ?_ _; rotate_left; (try simp) <;> omega) | (with_reducible refine Below.setCell ?_ ?_ _; rotate_left; (try simp) <;> omega)))) (hb8'.mono (by first | exact hB7.size | (simp; exact hB7.size)))
    have hK8 : Bk w8 w.heap.size 29 C := Bk.below (by exact (by repeat (first | with_reducible assumption | with_reducible exact Bk.new _ _ _ | with_reducible refine Bk.drew ?_ | with_reducible refine Bk.drewN ?_ _ | with_reducible refine Bk.alloc ?_ _ | (with_reducible refine Bk.far ?_ ?_ _; rotate_left; (try simp) <;> omega)))) hb8' (by first | exact l7 | (simp; exact l7))
    have HR8 := hK8.range
    have l8 := hK8.lt
    refine ⟨_, rfl, HR8, fun hHeld => ?_⟩
    (try simp only [Act.put, List.setIfInBounds_toArray, List.set_cons_zero, List.set_cons_succ])
    (refine held_call 12 (some 21) 19 _ rfl (by kernel_rfl) (by rfl) ?_ (HRT.out _ (by exact (by repeat (first | with_reducible exact Below.refl _ _ | with_reducible assumption | with_reducible refine Below.drew ?_ | with_reducible refine below_drewN ?_ _ | (with_reducible refine Below.alloc ?_ ?_ _; rotate_left; (try simp) <;> omega) | (with_reducible refine Below.setCell ?_ ?_ _; rotate_left; (try simp) <;> omega))))) ?_; rotate_left; rotate_left; (simp only [List.getElem?_toArray, List.getElem?_cons_zero, List.getElem?_cons_succ, Option.map_some]; refine congrArg some ?_; go_simp))
    rintro e w9 ⟨rfl, hb9'⟩
    have hB9 : Below w.heap.size w w9 := Below.trans (by exact (by repeat (first | with_reducible exact Below.refl _ _ | with_reducible assumption | with_reducible refine Below.drew ?_ | with_reducible refine below_drewN ?_ _ | (with_reducible refine Below.alloc ?_ ?_ _; rotate_left; (try simp) <;> omega) | (with_reducible refine Below.setCell ?_ ?_ _; rotate_left; (try simp) <;> omega)))) (hb9'.mono (by first | exact hB8.size | (simp; exact hB8.size)))
    have hK9 : Bk w9 w.heap.size 29 C := Bk.below (by exact (by repeat (first | with_reducible assumption | with_reducible exact Bk.new _ _ _ | with_reducible refine Bk.drew ?_ | with_reducible refine Bk.drewN ?_ _ | with_reducible refine Bk.alloc ?_ _ | (with_reducible refine Bk.far ?_ ?_ _; rotate_left; (try simp) <;> omega)))) hb9' (by first | exact l8 | (simp; exact l8))
    refine ⟨_, rfl, hK9.range, fun hHeld => ?_⟩
    (try simp only [Act.put, List.setIfInBounds_toArray, List.set_cons_zero, List.set_cons_succ])
    refine tk 13 22 ?_
    refine tk 14 23 ?_
    refine tk 15 4 ?_
    refine wpAnyH_done (by kernel_rfl) ?_ _
    go_wp2
    go_ret
    exact ⟨by simp, hB9⟩
end Go.Proofs.Ytjgnikmnadmheaa

namespace Go.Proofs.Ytjgnikmnadmheaa
open Go.RowKit

def slowB (Y : Yd) (l : List Tk) : Bool := vastB Y l || (decide (7 < l.length ∧ l.length ≤ 12) || decide (12 < Y.cl.length ∧ Y.cl.length ≤ 200))
set_option maxRecDepth 100000 in
set_option maxHeartbeats 1000000 in
theorem slow_any (C : Array Value) (Y : Yd) (l : List Tk) (A : Option Addr) (c : Nat) (w : World) (hY : YardAt w w.heap.size C Y) (hT : TasksAt w w.heap.size A l) :
    Calls Try.prog 23 #[.agg C, .slice A l.length c] w (ShEnd (slowB Y l) w) := by
  have HVA := Lib.hid (fun W (hb : Below w.heap.size w W) => vast_any C Y l A c W ((hY.below hb (Nat.le_refl _)).more hb.size) ((hT.below hb (Nat.le_refl _)).more hb.size))
  have HC28 := Lib.hid hY.len
  obtain ⟨Ac, kc, e24, _⟩ := hY.cl
  have b2 : Bk (w.alloc (.cells C 29)) w.heap.size 29 C := Bk.new _ _ _
  have hb0 : Below w.heap.size w (w.alloc (.cells C 29)) := by exact (by repeat (first | with_reducible exact Below.refl _ _ | with_reducible assumption | with_reducible refine Below.drew ?_ | with_reducible refine below_drewN ?_ _ | (with_reducible refine Below.alloc ?_ ?_ _; rotate_left; (try simp) <;> omega) | (with_reducible refine Below.setCell ?_ ?_ _; rotate_left; (try simp) <;> omega)))
  have HR0 := Lib.hid b2.range
  have HS : Hid (slowB Y l = (vastB Y l || (decide (7 < l.length ∧ l.length ≤ 12) || decide (12 < Y.cl.length ∧ Y.cl.length ≤ 200)))) := rfl
  clear hY hT
  generalize slowB Y l = r at *
  cases h0 : vastB Y l with
  | true =>
    have H0 := Lib.hid h0
    rw [h0, Bool.true_or] at HS
    clear h0
    go_enter Try.func23, Try.ntmps23
    go_wp2_with (first | (have h9 := HR0; clear h9; refine wpList_load_mid (P := Try.prog) rfl 29 (.tmp 2) rfl w.heap.size 0 rfl C.toList _ HR0.out Try.underlying29 rfl (by rw [HC28.out]; exact info29) ?_) | (go_at_call 14; refine (HVA.out _ hb0).mono ?_; rintro e w1 ⟨rfl, hb⟩; rw [H0.out]; clear HR0; have hB1 : Below w.heap.size w w1 := hb0.trans (hb.mono hb0.size)))
    go_ret
    rw [HS.out]
    exact ⟨by first | rfl | (simp; omega) | simp, hB1⟩
  | false =>
    have H0 := Lib.hid h0
    rw [h0, Bool.false_or] at HS
    clear h0
    by_cases a1 : (7 : Int) < (l.length : Int)
    · by_cases a2 : (l.length : Int) ≤ 12
      · have HR : Hid (r = true) := by show _ = _; rw [HS.out, decide_eq_true (⟨by omega, by omega⟩ : 7 < l.length ∧ l.length ≤ 12)]; rfl
        go_enter Try.func23, Try.ntmps23
        go_wp2_with (first | (have h9 := HR0; clear h9; refine wpList_load_mid (P := Try.prog) rfl 29 (.tmp 2) rfl w.heap.size 0 rfl C.toList _ HR0.out Try.underlying29 rfl (by rw [HC28.out]; exact info29) ?_) | (go_at_call 14; refine (HVA.out _ hb0).mono ?_; rintro e w1 ⟨rfl, hb⟩; rw [H0.out]; clear HR0; have hB1 : Below w.heap.size w w1 := hb0.trans (hb.mono hb0.size); have x1 := (b2.below hb b2.lt).cell 24 e24))
        go_ret
        rw [HR.out]
        exact ⟨by first | rfl | (simp; omega) | simp, hB1⟩
      · have HS2 : Hid (r = decide (12 < Y.cl.length ∧ Y.cl.length ≤ 200)) := by show _ = _; rw [HS.out, decide_eq_false (by omega : ¬ (7 < l.length ∧ l.length ≤ 12)), Bool.false_or]
        by_cases b1 : (12 : Int) < (Y.cl.length : Int)
        · by_cases b3 : (Y.cl.length : Int) ≤ 200
          · have HR : Hid (r = true) := by show _ = _; rw [HS2.out]; exact decide_eq_true (by omega)
            go_enter Try.func23, Try.ntmps23
            go_wp2_with (first | (have h9 := HR0; clear h9; refine wpList_load_mid (P := Try.prog) rfl 29 (.tmp 2) rfl w.heap.size 0 rfl C.toList _ HR0.out Try.underlying29 rfl (by rw [HC28.out]; exact info29) ?_) | (go_at_call 14; refine (HVA.out _ hb0).mono ?_; rintro e w1 ⟨rfl, hb⟩; rw [H0.out]; clear HR0; have hB1 : Below w.heap.size w w1 := hb0.trans (hb.mono hb0.size); have x1 := (b2.below hb b2.lt).cell 24 e24))
            go_ret
            rw [HR.out]
            exact ⟨by first | rfl | (simp; omega) | simp, hB1⟩
          · have HR : Hid (r = false) := by show _ = _; rw [HS2.out]; exact decide_eq_false (by omega)
            go_enter Try.func23, Try.ntmps23
            go_wp2_with (first | (have h9 := HR0; clear h9; refine wpList_load_mid (P := Try.prog) rfl 29 (.tmp 2) rfl w.heap.size 0 rfl C.toList _ HR0.out Try.underlying29 rfl (by rw [HC28.out]; exact info29) ?_) | (go_at_call 14; refine (HVA.out _ hb0).mono ?_; rintro e w1 ⟨rfl, hb⟩; rw [H0.out]; clear HR0; have hB1 : Below w.heap.size w w1 := hb0.trans (hb.mono hb0.size); have x1 := (b2.below hb b2.lt).cell 24 e24))
            go_ret
            rw [HR.out]
            exact ⟨by first | rfl | (simp; omega) | simp, hB1⟩
        · have HR : Hid (r = false) := by show _ = _; rw [HS2.out]; exact decide_eq_false (by omega)
          go_enter Try.func23, Try.ntmps23
          go_wp2_with (first | (have h9 := HR0; clear h9; refine wpList_load_mid (P := Try.prog) rfl 29 (.tmp 2) rfl w.heap.size 0 rfl C.toList _ HR0.out Try.underlying29 rfl (by rw [HC28.out]; exact info29) ?_) | (go_at_call 14; refine (HVA.out _ hb0).mono ?_; rintro e w1 ⟨rfl, hb⟩; rw [H0.out]; clear HR0; have hB1 : Below w.heap.size w w1 := hb0.trans (hb.mono hb0.size); have x1 := (b2.below hb b2.lt).cell 24 e24))
          go_ret
          rw [HR.out]
          exact ⟨by first | rfl | (simp; omega) | simp, hB1⟩
    · have HS2 : Hid (r = decide (12 < Y.cl.length ∧ Y.cl.length ≤ 200)) := by show _ = _; rw [HS.out, decide_eq_false (by omega : ¬ (7 < l.length ∧ l.length ≤ 12)), Bool.false_or]
      by_cases b1 : (12 : Int) < (Y.cl.length : Int)
      · by_cases b3 : (Y.cl.length : Int) ≤ 200
        · have HR : Hid (r = true) := by show _ = _; rw [HS2.out]; exact decide_eq_true (by omega)
          go_enter Try.func23, Try.ntmps23
          go_wp2_with (first | (have h9 := HR0; clear h9; refine wpList_load_mid (P := Try.prog) rfl 29 (.tmp 2) rfl w.heap.size 0 rfl C.toList _ HR0.out Try.underlying29 rfl (by rw [HC28.out]; exact info29) ?_) | (go_at_call 14; refine (HVA.out _ hb0).mono ?_; rintro e w1 ⟨rfl, hb⟩; rw [H0.out]; clear HR0; have hB1 : Below w.heap.size w w1 := hb0.trans (hb.mono hb0.size); have x1 := (b2.below hb b2.lt).cell 24 e24))
          go_ret
          rw [HR.out]
          exact ⟨by first | rfl | (simp; omega) | simp, hB1⟩
        · have HR : Hid (r = false) := by show _ = _; rw [HS2.out]; exact decide_eq_false (by omega)
          go_enter Try.func23, Try.ntmps23
          go_wp2_with (first | (have h9 := HR0; clear h9; refine wpList_load_mid (P := Try.prog) rfl 29 (.tmp 2) rfl w.heap.size 0 rfl C.toList _ HR0.out Try.underlying29 rfl (by rw [HC28.out]; exact info29) ?_) | (go_at_call 14; refine (HVA.out _ hb0).mono ?_; rintro e w1 ⟨rfl, hb⟩; rw [H0.out]; clear HR0; have hB1 : Below w.heap.size w w1 := hb0.trans (hb.mono hb0.size); have x1 := (b2.below hb b2.lt).cell 24 e24))
          go_ret
          rw [HR.out]
          exact ⟨by first | rfl | (simp; omega) | simp, hB1⟩
      · have HR : Hid (r = false) := by show _ = _; rw [HS2.out]; exact decide_eq_false (by omega)
        go_enter Try.func23, Try.ntmps23
        go_wp2_with (first | (have h9 := HR0; clear h9; refine wpList_load_mid (P := Try.prog) rfl 29 (.tmp 2) rfl w.heap.size 0 rfl C.toList _ HR0.out Try.underlying29 rfl (by rw [HC28.out]; exact info29) ?_) | (go_at_call 14; refine (HVA.out _ hb0).mono ?_; rintro e w1 ⟨rfl, hb⟩; rw [H0.out]; clear HR0; have hB1 : Below w.heap.size w w1 := hb0.trans (hb.mono hb0.size); have x1 := (b2.below hb b2.lt).cell 24 e24))
        go_ret
        rw [HR.out]
        exact ⟨by first | rfl | (simp; omega) | simp, hB1⟩
end Go.Proofs.Ytjgnikmnadmheaa

namespace Go.Proofs.Ytjgnikmnadmheaa
open Go.RowKit

theorem small_w {Y : Yd} {l : List Tk} (h : slowB Y l = false) : Small Y ∧ tame l := by
  have hv : vastB Y l = false := by unfold slowB at h; rw [Bool.or_eq_false_iff] at h; exact h.1
  obtain ⟨h1, h2, _⟩ := vast_facts hv
  exact ⟨⟨by omega, by omega, by omega, h2⟩, tame_of hv⟩

set_option maxRecDepth 100000 in
set_option maxHeartbeats 2000000 in
theorem lawPlans_any (C : Array Value) (Y : Yd) (l : List Tk) (A : Option Addr) (c : Nat) (f : Int) (ts : List Tu) (T : Option Addr) (ct : Nat) (bs : List Int) (D : Option Addr) (cd : Nat) (w : World) (hY : YardAt w w.heap.size C Y) (hT : TasksAt w w.heap.size A l)
    (hP : Lies w w.heap.size T (turnsC ts)) (hgp : ∀ p ∈ ts, i64v p.day ∧ i64v p.pit ∧ i64v p.mas) (hD : Lies w w.heap.size D (ints bs)) (hgi : ∀ k ∈ bs, i64v k) :
    Calls Try.prog 11 #[.agg C, .slice A l.length c, .int .i64 f, .agg #[.slice T ts.length ct], .slice D bs.length cd] w fun e w' => e = .returned (.bool true) ∧ Below w.heap.size w w' := by
  have HWO := Lib.hid works_any
  have HSL := Lib.hid (fun W (hb : Below w.heap.size w W) => slow_any C Y l A c W ((hY.below hb (Nat.le_refl _)).more hb.size) ((hT.below hb (Nat.le_refl _)).more hb.size))
  have h28 := hY.len
  have HC28 := Lib.hid h28
  clear h28
  have hK0 : Bk ((w.alloc (.cells C 29)).alloc (.cells #[.slice T ts.length ct] 42)) w.heap.size 29 C := (Bk.new _ _ _).alloc _
  have hP0 : Bk ((w.alloc (.cells C 29)).alloc (.cells #[.slice T ts.length ct] 42)) (w.heap.size + 1) 42 #[.slice T ts.length ct] := by simpa using Bk.new (w.alloc (.cells C 29)) 42 #[.slice T ts.length ct]
  have hB0 : Below w.heap.size w ((w.alloc (.cells C 29)).alloc (.cells #[.slice T ts.length ct] 42)) := by exact (by repeat (first | with_reducible exact Below.refl _ _ | with_reducible assumption | with_reducible refine Below.drew ?_ | with_reducible refine below_drewN ?_ _ | (with_reducible refine Below.alloc ?_ ?_ _; rotate_left; (try simp) <;> omega) | (with_reducible refine Below.setCell ?_ ?_ _; rotate_left; (try simp) <;> omega)))
  have HR0 := Lib.hid hK0.range
  have x8_0 : ((w.alloc (.cells C 29)).alloc (.cells #[.slice T ts.length ct] 42)).heap.size = w.heap.size + 1 + 1 := by simp
  cases h0 : slowB Y l with
  | true =>
    have H0 := Lib.hid h0; clear h0 hY hT hP hD hgp hgi
    go_enter Try.func11, Try.ntmps11
    go_wp2_with (first | (have h9 := HR0; clear h9; refine wpList_load_guard (P := Try.prog) (by rfl) 29 (.tmp 5) rfl w.heap.size 0 rfl C.toList _ HR0.out Try.underlying29 rfl (by rw [HC28.out]; exact info29) ?_) | (go_at_call 23; refine (HSL.out _ hB0).mono ?_; rintro e w1 ⟨rfl, hb1⟩; rw [H0.out]; clear HR0; have hB1 : Below w.heap.size w w1 := hB0.trans (hb1.mono hB0.size); have hK1 : Bk w1 w.heap.size 29 C := hK0.below hb1 hK0.lt; have hP1 : Bk w1 (w.heap.size + 1) 42 #[.slice T ts.length ct] := hP0.below hb1 hP0.lt; have HR0 := Lib.hid hK1.range; have x8_1 := hP1.cell 0 rfl; clear hb1 x8_0) | (go_at_call 15; refine (HWO.out _).mono ?_; rintro e w2 ⟨rfl, hb2⟩; have hB2 : Below w.heap.size w w2 := hB1.trans (hb2.mono hB1.size)))
    go_ret
    exact ⟨rfl, hB2⟩
  | false =>
    by_cases a1 : (20 : Int) < (ts.length : Int)
    · have H0 := Lib.hid h0; clear h0 hY hT hP hD hgp hgi
      go_enter Try.func11, Try.ntmps11
      go_wp2_with (first | (have h9 := HR0; clear h9; refine wpList_load_guard (P := Try.prog) (by rfl) 29 (.tmp 5) rfl w.heap.size 0 rfl C.toList _ HR0.out Try.underlying29 rfl (by rw [HC28.out]; exact info29) ?_) | (go_at_call 23; refine (HSL.out _ hB0).mono ?_; rintro e w1 ⟨rfl, hb1⟩; rw [H0.out]; clear HR0; have hB1 : Below w.heap.size w w1 := hB0.trans (hb1.mono hB0.size); have hK1 : Bk w1 w.heap.size 29 C := hK0.below hb1 hK0.lt; have hP1 : Bk w1 (w.heap.size + 1) 42 #[.slice T ts.length ct] := hP0.below hb1 hP0.lt; have HR0 := Lib.hid hK1.range; have x8_1 := hP1.cell 0 rfl; clear hb1 x8_0) | (go_at_call 15; refine (HWO.out _).mono ?_; rintro e w2 ⟨rfl, hb2⟩; have hB2 : Below w.heap.size w w2 := hB1.trans (hb2.mono hB1.size)))
      go_ret
      exact ⟨rfl, hB2⟩
    · by_cases a2 : (20 : Int) < (bs.length : Int)
      · have H0 := Lib.hid h0; clear h0 hY hT hP hD hgp hgi
        go_enter Try.func11, Try.ntmps11
        go_wp2_with (first | (have h9 := HR0; clear h9; refine wpList_load_guard (P := Try.prog) (by rfl) 29 (.tmp 5) rfl w.heap.size 0 rfl C.toList _ HR0.out Try.underlying29 rfl (by rw [HC28.out]; exact info29) ?_) | (go_at_call 23; refine (HSL.out _ hB0).mono ?_; rintro e w1 ⟨rfl, hb1⟩; rw [H0.out]; clear HR0; have hB1 : Below w.heap.size w w1 := hB0.trans (hb1.mono hB0.size); have hK1 : Bk w1 w.heap.size 29 C := hK0.below hb1 hK0.lt; have hP1 : Bk w1 (w.heap.size + 1) 42 #[.slice T ts.length ct] := hP0.below hb1 hP0.lt; have HR0 := Lib.hid hK1.range; have x8_1 := hP1.cell 0 rfl; clear hb1 x8_0) | (go_at_call 15; refine (HWO.out _).mono ?_; rintro e w2 ⟨rfl, hb2⟩; have hB2 : Below w.heap.size w w2 := hB1.trans (hb2.mono hB1.size)))
        go_ret
        exact ⟨rfl, hB2⟩
      · obtain ⟨hs, ht⟩ := small_w h0
        have hn : ts.length ≤ 20 := by omega
        have hm : bs.length ≤ 20 := by omega
        have H0 := Lib.hid h0
        have HCP := Lib.hid (fun W (hb : Below w.heap.size w W) => checkPlan_any C Y l A c f ts T ct W ((hY.below hb (Nat.le_refl _)).more hb.size) hs ((hT.below hb (Nat.le_refl _)).more hb.size) ht ((hP.below hb (Nat.le_refl _)).more hb.size) hn (fun t h => (hgp t h).2.1))
        have HRP := Lib.hid (fun W (hb : Below w.heap.size w W) => rcheckPlan_any C Y l A c f ts T ct W ((hY.below hb (Nat.le_refl _)).more hb.size) hs ((hT.below hb (Nat.le_refl _)).more hb.size) ht ((hP.below hb (Nat.le_refl _)).more hb.size) hn)
        have HCB := Lib.hid (fun W (hb : Below w.heap.size w W) => checkBounds_any C Y l A c f bs D cd W ((hY.below hb (Nat.le_refl _)).more hb.size) hs ((hT.below hb (Nat.le_refl _)).more hb.size) ht ((hD.below hb (Nat.le_refl _)).more hb.size) (by omega) hgi)
        have HRB := Lib.hid (fun W (hb : Below w.heap.size w W) => rcheckBounds_any C Y l A c f bs D cd W ((hY.below hb (Nat.le_refl _)).more hb.size) hs ((hT.below hb (Nat.le_refl _)).more hb.size) ht ((hD.below hb (Nat.le_refl _)).more hb.size) (by omega) hgi)
        have HEN := Lib.hid (fun W (hb : Below w.heap.size w W) => end_any ts T ct W ((hP.below hb (Nat.le_refl _)).more hb.size) (by omega))
        have HRN := Lib.hid (fun W (hb : Below w.heap.size w W) => rend_any ts T ct W ((hP.below hb (Nat.le_refl _)).more hb.size) (by omega))
        clear h0 hs ht hY hT hP hD hgp hgi
        generalize (decide (begE Y l f = 0) && planOK Y l f ts) = r1 at *
        generalize (decide (begE Y l f = 0) && bndsOK Y l f bs) = r2 at *
        generalize begE Y l f = N at *
        generalize endP ts = E at *
        go_enter Try.func11, Try.ntmps11
        go_upto_region 7 with (first | (have h9 := HR0; clear h9; refine wpList_load_guard (P := Try.prog) (by rfl) 29 (.tmp 5) rfl w.heap.size 0 rfl C.toList _ HR0.out Try.underlying29 rfl (by rw [HC28.out]; exact info29) ?_) | (go_at_call 23; refine (HSL.out _ hB0).mono ?_; rintro e w1 ⟨rfl, hb1⟩; rw [H0.out]; clear HR0; have hB1 : Below w.heap.size w w1 := hB0.trans (hb1.mono hB0.size); have hK1 : Bk w1 w.heap.size 29 C := hK0.below hb1 hK0.lt; have hP1 : Bk w1 (w.heap.size + 1) 42 #[.slice T ts.length ct] := hP0.below hb1 hP0.lt; have HR0 := Lib.hid hK1.range; have x8_1 := hP1.cell 0 rfl; clear hb1 x8_0) | (go_at_call 41; refine (HCP.out _ hB1).mono ?_; rintro e w2 ⟨rfl, hb2⟩; clear HR0; have hB2 : Below w.heap.size w w2 := hB1.trans (hb2.mono hB1.size); have hK2 : Bk w2 w.heap.size 29 C := hK1.below hb2 hK1.lt; have hP2 : Bk w2 (w.heap.size + 1) 42 #[.slice T ts.length ct] := hP1.below hb2 hP1.lt; have HR0 := Lib.hid hK2.range; have x8_2 := hP2.cell 0 rfl; clear hb2 x8_1) | (go_at_call 43; refine (HRP.out _ hB2).mono ?_; rintro e w3 ⟨rfl, hb3⟩; clear HR0; have hB3 : Below w.heap.size w w3 := hB2.trans (hb3.mono hB2.size); have hK3 : Bk w3 w.heap.size 29 C := hK2.below hb3 hK2.lt; have hP3 : Bk w3 (w.heap.size + 1) 42 #[.slice T ts.length ct] := hP2.below hb3 hP2.lt; have HR0 := Lib.hid hK3.range; have x8_3 := hP3.cell 0 rfl; clear hb3 x8_2) | (go_at_call 42; refine (HCB.out _ hB3).mono ?_; rintro e w4 ⟨rfl, hb4⟩; clear HR0; have hB4 : Below w.heap.size w w4 := hB3.trans (hb4.mono hB3.size); have hK4 : Bk w4 w.heap.size 29 C := hK3.below hb4 hK3.lt; have hP4 : Bk w4 (w.heap.size + 1) 42 #[.slice T ts.length ct] := hP3.below hb4 hP3.lt; have HR0 := Lib.hid hK4.range; have x8_4 := hP4.cell 0 rfl; clear hb4 x8_3) | (go_at_call 44; refine (HRB.out _ hB4).mono ?_; rintro e w5 ⟨rfl, hb5⟩; clear HR0; have hB5 : Below w.heap.size w w5 := hB4.trans (hb5.mono hB4.size); have hK5 : Bk w5 w.heap.size 29 C := hK4.below hb5 hK4.lt; have hP5 : Bk w5 (w.heap.size + 1) 42 #[.slice T ts.length ct] := hP4.below hb5 hP4.lt; have HR0 := Lib.hid hK5.range; have x8_5 := hP5.cell 0 rfl; clear hb5 x8_4))
        have hl05 := hP5.lt
        clear HR0
        refine wp_region_held_drew (S := (fun w' => w'.cell? ⟨w.heap.size + 1, 0, none⟩ = some (.slice T ts.length ct))) (by kernel_rfl) ?_ (fun hHeld => ?_)
        · first | assumption | exact hP5.cell 0 rfl | go_keep
        (refine held_call 0 (some 66) 15 _ rfl (by kernel_rfl) (by rfl) ?_ (HWO.out _) ?_; rotate_left; rotate_left; (simp only [List.getElem?_toArray, List.getElem?_cons_zero, List.getElem?_cons_succ, Option.map_some]; refine congrArg some ?_; go_simp))
        rintro e w6 ⟨rfl, hb6'⟩
        have hB6 : Below w.heap.size w w6 := Below.trans (by exact (by repeat (first | with_reducible exact Below.refl _ _ | with_reducible assumption | with_reducible refine Below.drew ?_ | with_reducible refine below_drewN ?_ _ | (with_reducible refine Below.alloc ?_ ?_ _; rotate_left; (try simp) <;> omega) | (with_reducible refine Below.setCell ?_ ?_ _; rotate_left; (try simp) <;> omega)))) (hb6'.mono (by first | exact hB5.size | (simp; exact hB5.size)))
        have hP6 : Bk w6 (w.heap.size + 1) 42 #[.slice T ts.length ct] := Bk.below (by exact (by repeat (first | with_reducible assumption | with_reducible exact Bk.new _ _ _ | with_reducible refine Bk.drew ?_ | with_reducible refine Bk.drewN ?_ _ | with_reducible refine Bk.alloc ?_ _ | (with_reducible refine Bk.far ?_ ?_ _; rotate_left; (try simp) <;> omega)))) hb6' (by first | exact hl05 | (simp; exact hl05))
        have hl06 := hP6.lt
        refine ⟨_, rfl, hP6.cell 0 rfl, fun hHeld => ?_⟩
        (try simp only [Act.put, List.setIfInBounds_toArray, List.set_cons_zero, List.set_cons_succ])
        refine tk 1 67 ?_
        refine tk 2 68 ?_
        refine tk 3 69 ?_
        refine tk 4 70 ?_
        refine tk 5 71 ?_
        refine tk 6 72 ?_
        refine tk 7 73 ?_
        refine tk 8 74 ?_
        refine tk 9 75 ?_
        refine tk 10 76 ?_
        refine tk 11 77 ?_
        refine tk 12 78 ?_
        refine tk 13 79 ?_
        refine tk 14 80 ?_
        refine tk 15 81 ?_
        refine tk 16 82 ?_
        refine tk 17 83 ?_
        refine tk 18 84 ?_
        refine tk 19 85 ?_
        refine tk 20 86 ?_
        refine tk 21 87 ?_
        refine tk 22 88 ?_
        refine tk 24 90 ?_
        (refine held_call 23 (some 89) 40 _ rfl (by kernel_rfl) (by rfl) ?_ (HEN.out _ (by exact (by repeat (first | with_reducible exact Below.refl _ _ | with_reducible assumption | with_reducible refine Below.drew ?_ | with_reducible refine below_drewN ?_ _ | (with_reducible refine Below.alloc ?_ ?_ _; rotate_left; (try simp) <;> omega) | (with_reducible refine Below.setCell ?_ ?_ _; rotate_left; (try simp) <;> omega))))) ?_; rotate_left; rotate_left; (simp only [List.getElem?_toArray, List.getElem?_cons_zero, List.getElem?_cons_succ, Option.map_some]; refine congrArg some ?_; go_simp))
        rintro e w7 ⟨rfl, hb7'⟩
        have hB7 : Below w.heap.size w w7 := Below.trans (by exact (by repeat (first | with_reducible exact Below.refl _ _ | with_reducible assumption | with_reducible refine Below.drew ?_ | with_reducible refine below_drewN ?_ _ | (with_reducible refine Below.alloc ?_ ?_ _; rotate_left; (try simp) <;> omega) | (with_reducible refine Below.setCell ?_ ?_ _; rotate_left; (try simp) <;> omega)))) (hb7'.mono (by first | exact hB6.size | (simp; exact hB6.size)))
        have hP7 : Bk w7 (w.heap.size + 1) 42 #[.slice T ts.length ct] := Bk.below (by exact (by repeat (first | with_reducible assumption | with_reducible exact Bk.new _ _ _ | with_reducible refine Bk.drew ?_ | with_reducible refine Bk.drewN ?_ _ | with_reducible refine Bk.alloc ?_ _ | (with_reducible refine Bk.far ?_ ?_ _; rotate_left; (try simp) <;> omega)))) hb7' (by first | exact hl06 | (simp; exact hl06))
        have hl07 := hP7.lt
        refine ⟨_, rfl, hP7.cell 0 rfl, fun hHeld => ?_⟩
        (try simp only [Act.put, List.setIfInBounds_toArray, List.set_cons_zero, List.set_cons_succ])
        (refine held_call 25 (some 91) 45 _ rfl (by kernel_rfl) (by rfl) ?_ (HRN.out _ (by exact (by repeat (first | with_reducible exact Below.refl _ _ | with_reducible assumption | with_reducible refine Below.drew ?_ | with_reducible refine below_drewN ?_ _ | (with_reducible refine Below.alloc ?_ ?_ _; rotate_left; (try simp) <;> omega) | (with_reducible refine Below.setCell ?_ ?_ _; rotate_left; (try simp) <;> omega))))) ?_; rotate_left; rotate_left; (simp only [List.getElem?_toArray, List.getElem?_cons_zero, List.getElem?_cons_succ, Option.map_some]; refine congrArg some ?_; go_simp))
        rintro e w8 ⟨rfl, hb8'⟩
        have hB8 : Below w.heap.size w w8 := Below.trans (by exact (by repeat (first | with_reducible exact Below.refl _ _ | with_reducible assumption | with_reducible refine Below.drew ?_ | with_reducible refine below_drewN ?_ _ | (with_reducible refine Below.alloc ?_ ?_ _; rotate_left; (try simp) <;> omega) | (with_reducible refine Below.setCell ?_ ?_ _; rotate_left; (try simp) <;> omega)))) (hb8'.mono (by first | exact hB7.size | (simp; exact hB7.size)))
        have hP8 : Bk w8 (w.heap.size + 1) 42 #[.slice T ts.length ct] := Bk.below (by exact (by repeat (first | with_reducible assumption | with_reducible exact Bk.new _ _ _ | with_reducible refine Bk.drew ?_ | with_reducible refine Bk.drewN ?_ _ | with_reducible refine Bk.alloc ?_ _ | (with_reducible refine Bk.far ?_ ?_ _; rotate_left; (try simp) <;> omega)))) hb8' (by first | exact hl07 | (simp; exact hl07))
        have hl08 := hP8.lt
        refine ⟨_, rfl, hP8.cell 0 rfl, fun hHeld => ?_⟩
        (try simp only [Act.put, List.setIfInBounds_toArray, List.set_cons_zero, List.set_cons_succ])
        refine tk 26 92 ?_
        refine tk 27 93 ?_
        refine tk 28 10 ?_
        refine wpAnyH_done (by kernel_rfl) ?_ _
        go_wp2
        go_ret
        exact ⟨by simp, hB8⟩
end Go.Proofs.Ytjgnikmnadmheaa
