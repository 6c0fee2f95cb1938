/- The law CrewChecks, walked. -/
import Derived.Deep.QuietTactic
import Derived.BigQuiet
import Derived.Test.YtjgnikmnadmheaaG02
import Derived.Test.YtjgnikmnadmheaaG03
import Derived.Test.YtjgnikmnadmheaaG05
import Derived.Test.YtjgnikmnadmheaaG07
import Derived.Test.YtjgnikmnadmheaaG61
import Derived.Test.YtjgnikmnadmheaaG64
import Derived.Test.YtjgnikmnadmheaaG65
import Derived.Test.YtjgnikmnadmheaaG68
import Derived.Test.YtjgnikmnadmheaaG89

namespace Go.Proofs.Ytjgnikmnadmheaa
open Go.RowKit

theorem vast_facts {Y : Yd} {l : List Tk} (h : vastB Y l = false) : (Y.cl.length ≤ 300 ∧ Y.pi.length ≤ 20 ∧ Y.ma.length ≤ 20 ∧ l.length ≤ 20) ∧ (∀ m ∈ Y.ma, m.name.size ≤ 100) ∧ (∀ t ∈ l, t.af.length ≤ 30 ∧ t.co.length ≤ 50 ∧ ∀ s ∈ t.co, s.size ≤ 100) := by
  unfold vastB at h
  rw [Bool.or_eq_false_iff, Bool.or_eq_false_iff, decide_eq_false_iff_not, List.any_eq_false, List.any_eq_false] at h
  obtain ⟨h1, h2, h3⟩ := h
  refine ⟨by omega, fun m hm => ?_, fun t ht => ?_⟩
  · have := h2 m hm
    unfold longName at this
    simp at this; omega
  · have := h3 t ht
    unfold bigTask at this
    simp only [Bool.or_eq_true, decide_eq_true_eq, List.any_eq_true, not_or, not_exists, not_and] at this
    obtain ⟨⟨a, b⟩, c⟩ := this
    refine ⟨by omega, by omega, fun s hs => ?_⟩
    have := c s hs
    unfold longStr at this
    simp at this; omega
theorem tame_of {Y : Yd} {l : List Tk} (h : vastB Y l = false) : tame l := by
  obtain ⟨h1, _, h3⟩ := vast_facts h
  exact ⟨by omega, fun t ht => by obtain ⟨a, b, c⟩ := h3 t ht; exact ⟨by omega, by omega, fun s hs => by have := c s hs; omega⟩⟩

set_option maxRecDepth 100000 in
set_option maxHeartbeats 1000000 in
theorem lawChecks_any (C : Array Value) (Y : Yd) (l : List Tk) (A : Option Addr) (c : Nat) (w : World) (hY : YardAt w w.heap.size C Y) (hT : TasksAt w w.heap.size A l) :
    Calls Try.prog 3 #[.agg C, .slice A l.length c] w fun e w' => e = .returned (.bool true) ∧ Below w.heap.size w w' := by
  have HWO := Lib.hid works_any
  have HVA := Lib.hid (fun W (hb : Below w.heap.size w W) => vast_any C Y l A c W ((hY.below hb (Nat.le_refl _)).more hb.size) ((hT.below hb (Nat.le_refl _)).more hb.size))
  have HLOAD : Hid (∀ W : World, Bk W w.heap.size 29 C → W.rangeAt w.heap.size 0 C.toList) := fun W hb => hb.range
  have HC28 : Hid (C.toList.length = 28) := by show _ = _; rw [Array.length_toList]; exact hY.size
  cases h0 : vastB Y l with
  | true =>
    have H0 := Lib.hid h0; clear h0 hY hT
    go_enter Try.func3, Try.ntmps3
    go_upto_region 1 with fail
    go_wp2_with (first | (refine wpList_load_mid (P := Try.prog) rfl 29 (.tmp 2) rfl w.heap.size 0 rfl C.toList _ (HLOAD.out _ (by exact (by repeat (first | with_reducible assumption | with_reducible exact Bk.new _ _ _ | with_reducible refine Bk.drew ?_ | with_reducible refine Bk.drewN ?_ _ | with_reducible refine Bk.alloc ?_ _ | (with_reducible refine Bk.far ?_ ?_ _; rotate_left; (try simp) <;> omega))))) Try.underlying29 rfl (by rw [HC28.out]; exact info29) ?_) | (go_at_call 14; refine (HVA.out _ (by exact (by repeat (first | with_reducible exact Below.refl _ _ | with_reducible assumption | with_reducible refine Below.drew ?_ | with_reducible refine below_drewN ?_ _ | (with_reducible refine Below.alloc ?_ ?_ _; rotate_left; (try simp) <;> omega) | (with_reducible refine Below.setCell ?_ ?_ _; rotate_left; (try simp) <;> omega))))).mono ?_; rintro e w1 ⟨rfl, hb⟩; rw [H0.out]; have hB1 : Below w.heap.size w w1 := Below.trans (by exact (by repeat (first | with_reducible exact Below.refl _ _ | with_reducible assumption | with_reducible refine Below.drew ?_ | with_reducible refine below_drewN ?_ _ | (with_reducible refine Below.alloc ?_ ?_ _; rotate_left; (try simp) <;> omega) | (with_reducible refine Below.setCell ?_ ?_ _; rotate_left; (try simp) <;> omega)))) (hb.mono (by simp))) | (go_at_call 15; refine (HWO.out _).mono ?_; rintro e w2 ⟨rfl, hb2⟩; have hB2 : Below w.heap.size w w2 := Below.trans hB1 (hb2.mono hB1.size)))
    go_ret
    exact ⟨rfl, hB2⟩
  | false =>
    have hv := vast_facts h0
    have HCK := Lib.hid (fun W (hb : Below w.heap.size w W) => checkYard_any C Y W ((hY.below hb (Nat.le_refl _)).more hb.size) (by omega) (by omega) (by omega) (fun m hm => hv.2.1 m hm))
    have HRK := Lib.hid (fun W (hb : Below w.heap.size w W) => rCheckYard_any C Y W ((hY.below hb (Nat.le_refl _)).more hb.size) (by omega) (by omega) (by omega) (fun m hm => hv.2.1 m hm))
    have HCT := Lib.hid (fun W (hb : Below w.heap.size w W) => checkTasks_any l A c W ((hT.below hb (Nat.le_refl _)).more hb.size) (tame_of h0))
    have HRT := Lib.hid (fun W (hb : Below w.heap.size w W) => rCheckTasks_any l A c W ((hT.below hb (Nat.le_refl _)).more hb.size) (tame_of h0))
    have H0 := Lib.hid h0
    have h28 := hY.len
    have hi : (Try.prog.info? 29).map (·.size) = some C.toList.length := by rw [h28]; exact info29
    clear h0 hY hT hv h28
    generalize chkY Y = n1 at *
    generalize chkL l = n2 at *
    go_enter Try.func3, Try.ntmps3
    go_upto_region 3 with (first | (refine wpList_load_mid (P := Try.prog) rfl 29 (.tmp 2) rfl w.heap.size 0 rfl C.toList _ (HLOAD.out _ (by exact (by repeat (first | with_reducible assumption | with_reducible exact Bk.new _ _ _ | with_reducible refine Bk.drew ?_ | with_reducible refine Bk.drewN ?_ _ | with_reducible refine Bk.alloc ?_ _ | (with_reducible refine Bk.far ?_ ?_ _; rotate_left; (try simp) <;> omega))))) Try.underlying29 rfl (by rw [HC28.out]; exact info29) ?_) | (go_at_call 14; refine (HVA.out _ (by exact (by repeat (first | with_reducible exact Below.refl _ _ | with_reducible assumption | with_reducible refine Below.drew ?_ | with_reducible refine below_drewN ?_ _ | (with_reducible refine Below.alloc ?_ ?_ _; rotate_left; (try simp) <;> omega) | (with_reducible refine Below.setCell ?_ ?_ _; rotate_left; (try simp) <;> omega))))).mono ?_; rintro e w1 ⟨rfl, hb⟩; rw [H0.out]; have hB1 : Below w.heap.size w w1 := Below.trans (by exact (by repeat (first | with_reducible exact Below.refl _ _ | with_reducible assumption | with_reducible refine Below.drew ?_ | with_reducible refine below_drewN ?_ _ | (with_reducible refine Below.alloc ?_ ?_ _; rotate_left; (try simp) <;> omega) | (with_reducible refine Below.setCell ?_ ?_ _; rotate_left; (try simp) <;> omega)))) (hb.mono (by simp)); have hK1 : Bk w1 w.heap.size 29 C := Bk.below (by exact (by repeat (first | with_reducible assumption | with_reducible exact Bk.new _ _ _ | with_reducible refine Bk.drew ?_ | with_reducible refine Bk.drewN ?_ _ | with_reducible refine Bk.alloc ?_ _ | (with_reducible refine Bk.far ?_ ?_ _; rotate_left; (try simp) <;> omega)))) hb (by simp)))
    have hu := Try.underlying29
    have HR := hK1.range
    have l0 := hK1.lt
    refine wp_region_held_drew (S := (fun w' => w'.rangeAt w.heap.size 0 C.toList)) (by kernel_rfl) ?_ (fun hHeld => ?_)
    · first | assumption | go_keep
    (refine held_call 0 (some 9) 15 _ rfl (by kernel_rfl) (by rfl) ?_ (HWO.out _) ?_; rotate_left; rotate_left; (simp only [List.getElem?_toArray, List.getElem?_cons_zero, List.getElem?_cons_succ, Option.map_some]; refine congrArg some ?_; go_simp))
    rintro e w5 ⟨rfl, hb5'⟩
    have hB5 : Below w.heap.size w w5 := Below.trans (by exact (by repeat (first | with_reducible exact Below.refl _ _ | with_reducible assumption | with_reducible refine Below.drew ?_ | with_reducible refine below_drewN ?_ _ | (with_reducible refine Below.alloc ?_ ?_ _; rotate_left; (try simp) <;> omega) | (with_reducible refine Below.setCell ?_ ?_ _; rotate_left; (try simp) <;> omega)))) (hb5'.mono (by first | exact hB1.size | (simp; exact hB1.size)))
    have hK5 : Bk w5 w.heap.size 29 C := Bk.below (by exact (by repeat (first | with_reducible assumption | with_reducible exact Bk.new _ _ _ | with_reducible refine Bk.drew ?_ | with_reducible refine Bk.drewN ?_ _ | with_reducible refine Bk.alloc ?_ _ | (with_reducible refine Bk.far ?_ ?_ _; rotate_left; (try simp) <;> omega)))) hb5' (by first | exact l0 | (simp; exact l0))
    have HR5 := hK5.range
    have l5 := hK5.lt
    refine ⟨_, rfl, HR5, fun hHeld => ?_⟩
    (try simp only [Act.put, List.setIfInBounds_toArray, List.set_cons_zero, List.set_cons_succ])
    refine tk 1 10 ?_
    (refine held_row 2 (some 11) 29 (.tmp 2) (w.heap.size) 0 C.toList _ rfl rfl (by kernel_rfl) (by kernel_rfl) (by kernel_rfl) (by rfl) rfl (fun _ _ _ h => h) (by assumption) (fun _ hS => hS) Try.underlying29 rfl (by assumption) ?_; (try simp only [Act.put, List.setIfInBounds_toArray, List.set_cons_zero, List.set_cons_succ]))
    (refine held_row 4 (some 13) 29 (.tmp 2) (w.heap.size) 0 C.toList _ rfl rfl (by kernel_rfl) (by kernel_rfl) (by kernel_rfl) (by rfl) rfl (fun _ _ _ h => h) (by assumption) (fun _ hS => hS) Try.underlying29 rfl (by assumption) ?_; (try simp only [Act.put, List.setIfInBounds_toArray, List.set_cons_zero, List.set_cons_succ]))
    (refine held_call 3 (some 12) 16 _ rfl (by kernel_rfl) (by rfl) ?_ (HCK.out _ (by exact (by repeat (first | with_reducible exact Below.refl _ _ | with_reducible assumption | with_reducible refine Below.drew ?_ | with_reducible refine below_drewN ?_ _ | (with_reducible refine Below.alloc ?_ ?_ _; rotate_left; (try simp) <;> omega) | (with_reducible refine Below.setCell ?_ ?_ _; rotate_left; (try simp) <;> omega))))) ?_; rotate_left; rotate_left; (simp only [List.getElem?_toArray, List.getElem?_cons_zero, List.getElem?_cons_succ, Option.map_some]; refine congrArg some ?_; go_simp))
    rintro e w6 ⟨rfl, hb6'⟩
    have hB6 : Below w.heap.size w w6 := Below.trans (by exact (by repeat (first | with_reducible exact Below.refl _ _ | with_reducible assumption | with_reducible refine Below.drew ?_ | with_reducible refine below_drewN ?_ _ | (with_reducible refine Below.alloc ?_ ?_ _; rotate_left; (try simp) <;> omega) | (with_reducible refine Below.setCell ?_ ?_ _; rotate_left; (try simp) <;> omega)))) (hb6'.mono (by first | exact hB5.size | (simp; exact hB5.size)))
    have hK6 : Bk w6 w.heap.size 29 C := Bk.below (by exact (by repeat (first | with_reducible assumption | with_reducible exact Bk.new _ _ _ | with_reducible refine Bk.drew ?_ | with_reducible refine Bk.drewN ?_ _ | with_reducible refine Bk.alloc ?_ _ | (with_reducible refine Bk.far ?_ ?_ _; rotate_left; (try simp) <;> omega)))) hb6' (by first | exact l5 | (simp; exact l5))
    have HR6 := hK6.range
    have l6 := hK6.lt
    refine ⟨_, rfl, HR6, fun hHeld => ?_⟩
    (try simp only [Act.put, List.setIfInBounds_toArray, List.set_cons_zero, List.set_cons_succ])
    (refine held_call 5 (some 14) 17 _ rfl (by kernel_rfl) (by rfl) ?_ (HRK.out _ (by exact (by repeat (first | with_reducible exact Below.refl _ _ | with_reducible assumption | with_reducible refine Below.drew ?_ | with_reducible refine below_drewN ?_ _ | (with_reducible refine Below.alloc ?_ ?_ _; rotate_left; (try simp) <;> omega) | (with_reducible refine Below.setCell ?_ ?_ _; rotate_left; (try simp) <;> omega))))) ?_; rotate_left; rotate_left; (simp only [List.getElem?_toArray, List.getElem?_cons_zero, List.getElem?_cons_succ, Option.map_some]; refine congrArg some ?_; go_simp))
    rintro e w7 ⟨rfl, hb7'⟩
    have hB7 : Below w.heap.size w w7 := Below.trans (by exact (by repeat (first | with_reducible exact Below.refl _ _ | with_reducible assumption | with_reducible refine Below.drew ?_ | with_reducible refine below_drewN ?_ _ | (with_reducible refine Below.alloc ?_ ?_ _; rotate_left; (try simp) <;> omega) | (with_reducible refine Below.setCell ?_ ?_ _; rotate_left; (try simp) <;> omega)))) (hb7'.mono (by first | exact hB6.size | (simp; exact hB6.size)))
    have hK7 : Bk w7 w.heap.size 29 C := Bk.below (by exact (by repeat (first | with_reducible assumption | with_reducible exact Bk.new _ _ _ | with_reducible refine Bk.drew ?_ | with_reducible refine Bk.drewN ?_ _ | with_reducible refine Bk.alloc ?_ _ | (with_reducible refine Bk.far ?_ ?_ _; rotate_left; (try simp) <;> omega)))) hb7' (by first | exact l6 | (simp; exact l6))
    have HR7 := hK7.range
    have l7 := hK7.lt
    refine ⟨_, rfl, HR7, fun hHeld => ?_⟩
    (try simp only [Act.put, List.setIfInBounds_toArray, List.set_cons_zero, List.set_cons_succ])
    refine tk 6 15 ?_
    refine tk 7 16 ?_
    refine tk 8 17 ?_
    refine tk 9 18 ?_
    refine tk 11 20 ?_
    (refine held_call 10 (some 19) 18 _ rfl (by kernel_rfl) (by rfl) ?_ (HCT.out _ (by exact (by repeat (first | with_reducible exact Below.refl _ _ | with_reducible assumption | with_reducible refine Below.drew ?_ | with_reducible refine below_drewN ?_ _ | (with_reducible refine Below.alloc ?_ ?_ _; rotate_left; (try simp) <;> omega) | (with_reducible refine Below.setCell ?_ ?_ _; rotate_left; (try simp) <;> omega))))) ?_; rotate_left; rotate_left; (simp only [List.getElem?_toArray, List.getElem?_cons_zero, List.getElem?_cons_succ, Option.map_some]; refine congrArg some ?_; go_simp))
    rintro e w8 ⟨rfl, hb8'⟩
    have hB8 : Below w.heap.size w w8 := Below.trans (by exact (by repeat (first | with_reducible exact Below.refl _ _ | with_reducible assumption | with_reducible refine Below.drew ?_ | with_reducible refine below_drewN ?_ _ | (with_reducible refine Below.alloc ?_ ?_ _; rotate_left; (try simp) <;> omega) | (with_reducible refine Below.setCell ?_ ?_ _; rotate_left; (try simp) <;> omega)))) (hb8'.mono (by first | exact hB7.size | (simp; exact hB7.size)))
    have hK8 : Bk w8 w.heap.size 29 C := Bk.below (by exact (by repeat (first | with_reducible assumption | with_reducible exact Bk.new _ _ _ | with_reducible refine Bk.drew ?_ | with_reducible refine Bk.drewN ?_ _ | with_reducible refine Bk.alloc ?_ _ | (with_reducible refine Bk.far ?_ ?_ _; rotate_left; (try simp) <;> omega)))) hb8' (by first | exact l7 | (simp; exact l7))
    have HR8 := hK8.range
    have l8 := hK8.lt
    refine ⟨_, rfl, HR8, fun hHeld => ?_⟩
    (try simp only [Act.put, List.setIfInBounds_toArray, List.set_cons_zero, List.set_cons_succ])
    (refine held_call 12 (some 21) 19 _ rfl (by kernel_rfl) (by rfl) ?_ (HRT.out _ (by exact (by repeat (first | with_reducible exact Below.refl _ _ | with_reducible assumption | with_reducible refine Below.drew ?_ | with_reducible refine below_drewN ?_ _ | (with_reducible refine Below.alloc ?_ ?_ _; rotate_left; (try simp) <;> omega) | (with_reducible refine Below.setCell ?_ ?_ _; rotate_left; (try simp) <;> omega))))) ?_; rotate_left; rotate_left; (simp only [List.getElem?_toArray, List.getElem?_cons_zero, List.getElem?_cons_succ, Option.map_some]; refine congrArg some ?_; go_simp))
    rintro e w9 ⟨rfl, hb9'⟩
    have hB9 : Below w.heap.size w w9 := Below.trans (by exact (by repeat (first | with_reducible exact Below.refl _ _ | with_reducible assumption | with_reducible refine Below.drew ?_ | with_reducible refine below_drewN ?_ _ | (with_reducible refine Below.alloc ?_ ?_ _; rotate_left; (try simp) <;> omega) | (with_reducible refine Below.setCell ?_ ?_ _; rotate_left; (try simp) <;> omega)))) (hb9'.mono (by first | exact hB8.size | (simp; exact hB8.size)))
    have hK9 : Bk w9 w.heap.size 29 C := Bk.below (by exact (by repeat (first | with_reducible assumption | with_reducible exact Bk.new _ _ _ | with_reducible refine Bk.drew ?_ | with_reducible refine Bk.drewN ?_ _ | with_reducible refine Bk.alloc ?_ _ | (with_reducible refine Bk.far ?_ ?_ _; rotate_left; (try simp) <;> omega)))) hb9' (by first | exact l8 | (simp; exact l8))
    refine ⟨_, rfl, hK9.range, fun hHeld => ?_⟩
    (try simp only [Act.put, List.setIfInBounds_toArray, List.set_cons_zero, List.set_cons_succ])
    refine tk 13 22 ?_
    refine tk 14 23 ?_
    refine tk 15 4 ?_
    refine wpAnyH_done (by kernel_rfl) ?_ _
    go_wp2
    go_ret
    exact ⟨by simp, hB9⟩
end Go.Proofs.Ytjgnikmnadmheaa

namespace Go.Proofs.Ytjgnikmnadmheaa
open Go.RowKit

def slowB (Y : Yd) (l : List Tk) : Bool := vastB Y l || (decide (7 < l.length ∧ l.length ≤ 12) || decide (12 < Y.cl.length ∧ Y.cl.length ≤ 200))
set_option maxRecDepth 100000 in
set_option maxHeartbeats 1000000 in
theorem slow_any (C : Array Value) (Y : Yd) (l : List Tk) (A : Option Addr) (c : Nat) (w : World) (hY : YardAt w w.heap.size C Y) (hT : TasksAt w w.heap.size A l) :
    Calls Try.prog 23 #[.agg C, .slice A l.length c] w (ShEnd (slowB Y l) w) := by
  have HVA := Lib.hid (fun W (hb : Below w.heap.size w W) => vast_any C Y l A c W ((hY.below hb (Nat.le_refl _)).more hb.size) ((hT.below hb (Nat.le_refl _)).more hb.size))
  have HC28 := Lib.hid hY.len
  obtain ⟨Ac, kc, e24, _⟩ := hY.cl
  have b2 : Bk (w.alloc (.cells C 29)) w.heap.size 29 C := Bk.new _ _ _
  have hb0 : Below w.heap.size w (w.alloc (.cells C 29)) := by exact (by repeat (first | with_reducible exact Below.refl _ _ | with_reducible assumption | with_reducible refine Below.drew ?_ | with_reducible refine below_drewN ?_ _ | (with_reducible refine Below.alloc ?_ ?_ _; rotate_left; (try simp) <;> omega) | (with_reducible refine Below.setCell ?_ ?_ _; rotate_left; (try simp) <;> omega)))
  have HR0 := Lib.hid b2.range
  have HS : Hid (slowB Y l = (vastB Y l || (decide (7 < l.length ∧ l.length ≤ 12) || decide (12 < Y.cl.length ∧ Y.cl.length ≤ 200)))) := rfl
  clear hY hT
  generalize slowB Y l = r at *
  cases h0 : vastB Y l with
  | true =>
    have H0 := Lib.hid h0
    rw [h0, Bool.true_or] at HS
    clear h0
    go_enter Try.func23, Try.ntmps23
    go_wp2_with (first | (have h9 := HR0; clear h9; refine wpList_load_mid (P := Try.prog) rfl 29 (.tmp 2) rfl w.heap.size 0 rfl C.toList _ HR0.out Try.underlying29 rfl (by rw [HC28.out]; exact info29) ?_) | (go_at_call 14; refine (HVA.out _ hb0).mono ?_; rintro e w1 ⟨rfl, hb⟩; rw [H0.out]; clear HR0; have hB1 : Below w.heap.size w w1 := hb0.trans (hb.mono hb0.size)))
    go_ret
    rw [HS.out]
    exact ⟨by first | rfl | (simp; omega) | simp, hB1⟩
  | false =>
    have H0 := Lib.hid h0
    rw [h0, Bool.false_or] at HS
    clear h0
    by_cases a1 : (7 : Int) < (l.length : Int)
    · by_cases a2 : (l.length : Int) ≤ 12
      · have HR : Hid (r = true) := by show _ = _; rw [HS.out, decide_eq_true (⟨by omega, by omega⟩ : 7 < l.length ∧ l.length ≤ 12)]; rfl
        go_enter Try.func23, Try.ntmps23
        go_wp2_with (first | (have h9 := HR0; clear h9; refine wpList_load_mid (P := Try.prog) rfl 29 (.tmp 2) rfl w.heap.size 0 rfl C.toList _ HR0.out Try.underlying29 rfl (by rw [HC28.out]; exact info29) ?_) | (go_at_call 14; refine (HVA.out _ hb0).mono ?_; rintro e w1 ⟨rfl, hb⟩; rw [H0.out]; clear HR0; have hB1 : Below w.heap.size w w1 := hb0.trans (hb.mono hb0.size); have x1 := (b2.below hb b2.lt).cell 24 e24))
        go_ret
        rw [HR.out]
        exact ⟨by first | rfl | (simp; omega) | simp, hB1⟩
      · have HS2 : Hid (r = decide (12 < Y.cl.length ∧ Y.cl.length ≤ 200)) := by show _ = _; rw [HS.out, decide_eq_false (by omega : ¬ (7 < l.length ∧ l.length ≤ 12)), Bool.false_or]
        by_cases b1 : (12 : Int) < (Y.cl.length : Int)
        · by_cases b3 : (Y.cl.length : Int) ≤ 200
          · have HR : Hid (r = true) := by show _ = _; rw [HS2.out]; exact decide_eq_true (by omega)
            go_enter Try.func23, Try.ntmps23
            go_wp2_with (first | (have h9 := HR0; clear h9; refine wpList_load_mid (P := Try.prog) rfl 29 (.tmp 2) rfl w.heap.size 0 rfl C.toList _ HR0.out Try.underlying29 rfl (by rw [HC28.out]; exact info29) ?_) | (go_at_call 14; refine (HVA.out _ hb0).mono ?_; rintro e w1 ⟨rfl, hb⟩; rw [H0.out]; clear HR0; have hB1 : Below w.heap.size w w1 := hb0.trans (hb.mono hb0.size); have x1 := (b2.below hb b2.lt).cell 24 e24))
            go_ret
            rw [HR.out]
            exact ⟨by first | rfl | (simp; omega) | simp, hB1⟩
          · have HR : Hid (r = false) := by show _ = _; rw [HS2.out]; exact decide_eq_false (by omega)
            go_enter Try.func23, Try.ntmps23
            go_wp2_with (first | (have h9 := HR0; clear h9; refine wpList_load_mid (P := Try.prog) rfl 29 (.tmp 2) rfl w.heap.size 0 rfl C.toList _ HR0.out Try.underlying29 rfl (by rw [HC28.out]; exact info29) ?_) | (go_at_call 14; refine (HVA.out _ hb0).mono ?_; rintro e w1 ⟨rfl, hb⟩; rw [H0.out]; clear HR0; have hB1 : Below w.heap.size w w1 := hb0.trans (hb.mono hb0.size); have x1 := (b2.below hb b2.lt).cell 24 e24))
            go_ret
            rw [HR.out]
            exact ⟨by first | rfl | (simp; omega) | simp, hB1⟩
        · have HR : Hid (r = false) := by show _ = _; rw [HS2.out]; exact decide_eq_false (by omega)
          go_enter Try.func23, Try.ntmps23
          go_wp2_with (first | (have h9 := HR0; clear h9; refine wpList_load_mid (P := Try.prog) rfl 29 (.tmp 2) rfl w.heap.size 0 rfl C.toList _ HR0.out Try.underlying29 rfl (by rw [HC28.out]; exact info29) ?_) | (go_at_call 14; refine (HVA.out _ hb0).mono ?_; rintro e w1 ⟨rfl, hb⟩; rw [H0.out]; clear HR0; have hB1 : Below w.heap.size w w1 := hb0.trans (hb.mono hb0.size); have x1 := (b2.below hb b2.lt).cell 24 e24))
          go_ret
          rw [HR.out]
          exact ⟨by first | rfl | (simp; omega) | simp, hB1⟩
    · have HS2 : Hid (r = decide (12 < Y.cl.length ∧ Y.cl.length ≤ 200)) := by show _ = _; rw [HS.out, decide_eq_false (by omega : ¬ (7 < l.length ∧ l.length ≤ 12)), Bool.false_or]
      by_cases b1 : (12 : Int) < (Y.cl.length : Int)
      · by_cases b3 : (Y.cl.length : Int) ≤ 200
        · have HR : Hid (r = true) := by show _ = _; rw [HS2.out]; exact decide_eq_true (by omega)
          go_enter Try.func23, Try.ntmps23
          go_wp2_with (first | (have h9 := HR0; clear h9; refine wpList_load_mid (P := Try.prog) rfl 29 (.tmp 2) rfl w.heap.size 0 rfl C.toList _ HR0.out Try.underlying29 rfl (by rw [HC28.out]; exact info29) ?_) | (go_at_call 14; refine (HVA.out _ hb0).mono ?_; rintro e w1 ⟨rfl, hb⟩; rw [H0.out]; clear HR0; have hB1 : Below w.heap.size w w1 := hb0.trans (hb.mono hb0.size); have x1 := (b2.below hb b2.lt).cell 24 e24))
          go_ret
          rw [HR.out]
          exact ⟨by first | rfl | (simp; omega) | simp, hB1⟩
        · have HR : Hid (r = false) := by show _ = _; rw [HS2.out]; exact decide_eq_false (by omega)
          go_enter Try.func23, Try.ntmps23
          go_wp2_with (first | (have h9 := HR0; clear h9; refine wpList_load_mid (P := Try.prog) rfl 29 (.tmp 2) rfl w.heap.size 0 rfl C.toList _ HR0.out Try.underlying29 rfl (by rw [HC28.out]; exact info29) ?_) | (go_at_call 14; refine (HVA.out _ hb0).mono ?_; rintro e w1 ⟨rfl, hb⟩; rw [H0.out]; clear HR0; have hB1 : Below w.heap.size w w1 := hb0.trans (hb.mono hb0.size); have x1 := (b2.below hb b2.lt).cell 24 e24))
          go_ret
          rw [HR.out]
          exact ⟨by first | rfl | (simp; omega) | simp, hB1⟩
      · have HR : Hid (r = false) := by show _ = _; rw [HS2.out]; exact decide_eq_false (by omega)
        go_enter Try.func23, Try.ntmps23
        go_wp2_with (first | (have h9 := HR0; clear h9; refine wpList_load_mid (P := Try.prog) rfl 29 (.tmp 2) rfl w.heap.size 0 rfl C.toList _ HR0.out Try.underlying29 rfl (by rw [HC28.out]; exact info29) ?_) | (go_at_call 14; refine (HVA.out _ hb0).mono ?_; rintro e w1 ⟨rfl, hb⟩; rw [H0.out]; clear HR0; have hB1 : Below w.heap.size w w1 := hb0.trans (hb.mono hb0.size); have x1 := (b2.below hb b2.lt).cell 24 e24))
        go_ret
        rw [HR.out]
        exact ⟨by first | rfl | (simp; omega) | simp, hB1⟩
end Go.Proofs.Ytjgnikmnadmheaa

namespace Go.Proofs.Ytjgnikmnadmheaa
open Go.RowKit

set_option maxRecDepth 100000 in
set_option maxHeartbeats 1000000 in
theorem samePlan_me (ts : List Tu) (A B : Option Addr) (c d : Nat) (w : World) (hA : Lies w w.heap.size A (turnsC ts)) (hB : Lies w w.heap.size B (turnsC ts)) (hn : ts.length ≤ 1000) :
    Calls Try.prog 35 #[.agg #[.slice A ts.length c], .agg #[.slice B ts.length d]] w (ShEnd true w) := by
  have k2 : Bk ((w.alloc (.cells #[.slice A ts.length c] 42)).alloc (.cells #[.slice B ts.length d] 42)) w.heap.size 42 #[.slice A ts.length c] := (Bk.new _ _ _).alloc _
  have k3 : Bk ((w.alloc (.cells #[.slice A ts.length c] 42)).alloc (.cells #[.slice B ts.length d] 42)) (w.heap.size + 1) 42 #[.slice B ts.length d] := by simpa using Bk.new (w.alloc (.cells #[.slice A ts.length c] 42)) 42 #[.slice B ts.length d]
  have hb0 : Below w.heap.size w ((w.alloc (.cells #[.slice A ts.length c] 42)).alloc (.cells #[.slice B ts.length d] 42)) := by exact (by repeat (first | with_reducible exact Below.refl _ _ | with_reducible assumption | with_reducible refine Below.drew ?_ | with_reducible refine below_drewN ?_ _ | (with_reducible refine Below.alloc ?_ ?_ _; rotate_left; (try simp) <;> omega) | (with_reducible refine Below.setCell ?_ ?_ _; rotate_left; (try simp) <;> omega)))
  have HAW := Lib.hid (fun W (hb : Below w.heap.size w W) => hA.below hb (Nat.le_refl _))
  have HBW := Lib.hid (fun W (hb : Below w.heap.size w W) => hB.below hb (Nat.le_refl _))
  clear hA hB
  go_enter Try.func35, Try.ntmps35
  go_wp2
  go_loopw [5] (fun y wr => ∃ k : Nat, k ≤ ts.length ∧ y = .int .i64 (k : Int) ∧ Below w.heap.size w wr ∧ Bk wr w.heap.size 42 #[.slice A ts.length c] ∧ Bk wr (w.heap.size + 1) 42 #[.slice B ts.length d]) (fun y _ => ts.length - (intOf y).toNat)
  case atStart => exact ⟨0, Nat.zero_le _, rfl, hb0, k2, k3⟩
  case round =>
  clear hb0 k2 k3
  obtain ⟨k, hk, rfl, hbw, h2, h3⟩ := hrel
  have x2 := h2.cell 0 rfl
  have x3 := h3.cell 0 rfl
  by_cases hlt : k < ts.length
  · obtain ⟨a1, rfl, ha1, t0, t1, t2⟩ := turn_at (HAW.out wr hbw) hlt
    obtain ⟨a2, rfl, ha2, s0, s1, s2⟩ := turn_at (HBW.out wr hbw) hlt
    generalize ts[k] = t at *
    obtain ⟨dd, pp, mm⟩ := t
    dsimp only at *
    have hkI : (k : Int) < (ts.length : Int) := by omega
    have hk0 : 0 ≤ (k : Int) := by omega
    go_upto_region 6 with fail
    refine wp_region_held_drew (S := (fun w' => (w'.cell? ⟨w.heap.size, 0, none⟩ = some (.slice (some a1) ts.length c) ∧ w'.cell? ⟨w.heap.size + 1, 0, none⟩ = some (.slice (some a2) ts.length d)) ∧ (w'.cell? (a1.add (k * 3)) = some (.int .i64 dd) ∧ w'.cell? ⟨(a1.add (k * 3)).block, (a1.add (k * 3)).off + 1, none⟩ = some (.int .i64 pp) ∧ w'.cell? ⟨(a1.add (k * 3)).block, (a1.add (k * 3)).off + 2, none⟩ = some (.int .i64 mm)) ∧ (w'.cell? (a2.add (k * 3)) = some (.int .i64 dd) ∧ w'.cell? ⟨(a2.add (k * 3)).block, (a2.add (k * 3)).off + 1, none⟩ = some (.int .i64 pp) ∧ w'.cell? ⟨(a2.add (k * 3)).block, (a2.add (k * 3)).off + 2, none⟩ = some (.int .i64 mm)))) (by kernel_rfl) ?_ (fun hHeld => ?_)
    · exact ⟨⟨x2, x3⟩, ⟨t0, t1, t2⟩, s0, s1, s2⟩
    refine tk 0 20 ?_
    refine tk 1 21 ?_
    refine tk 2 22 ?_
    refine tk 3 23 ?_
    refine tk 4 24 ?_
    refine tk 5 25 ?_
    refine tk 6 26 ?_
    refine tk 7 27 ?_
    refine tk 8 28 ?_
    refine tk 9 29 ?_
    refine tk 10 30 ?_
    refine wpAnyH_done (by kernel_rfl) ?_ _
    clear hHeld
    go_wp2
    go_roundw
    case rel => exact ⟨k + 1, by omega, by go_num, by exact (by repeat (first | with_reducible exact Below.refl _ _ | with_reducible assumption | with_reducible refine Below.drew ?_ | with_reducible refine below_drewN ?_ _ | (with_reducible refine Below.alloc ?_ ?_ _; rotate_left; (try simp) <;> omega) | (with_reducible refine Below.setCell ?_ ?_ _; rotate_left; (try simp) <;> omega))), h2.drew, h3.drew⟩
    case measure => simp [intOf] <;> omega
  · obtain rfl : k = ts.length := by omega
    go_wp2
    go_ret
    exact ⟨rfl, hbw⟩
end Go.Proofs.Ytjgnikmnadmheaa

namespace Go.Proofs.Ytjgnikmnadmheaa
open Go.RowKit

def sameB (l m : List Int) : Bool := decide (l = m)
theorem sameB_ne {l m : List Int} (h : l.length ≠ m.length) : sameB l m = false := by
  unfold sameB; rw [decide_eq_false_iff_not]; intro e; exact h (by rw [e])
theorem sameB_at {l m : List Int} {k : Nat} (hk : k < l.length) (hm : k < m.length) (h : l[k] ≠ m[k]) : sameB l m = false := by
  unfold sameB; rw [decide_eq_false_iff_not]; intro e; subst e; exact h rfl
theorem sameB_yes {l m : List Int} (hn : l.length = m.length) (h : ∀ k (h1 : k < l.length) (h2 : k < m.length), l[k] = m[k]) : sameB l m = true := by
  unfold sameB; rw [decide_eq_true_eq]; exact List.ext_getElem hn h

set_option maxHeartbeats 400000 in
theorem sameInts_any (l m : List Int) (A B : Option Addr) (c d : Nat) (w : World) (hl : Lies w w.heap.size A (ints l)) (hm : Lies w w.heap.size B (ints m)) (h1 : l.length ≤ 1000000) (h2 : m.length ≤ 1000000) :
    Calls Try.prog 36 #[.slice A l.length c, .slice B m.length d] w (ShEnd (sameB l m) w) := by
  by_cases hn : l.length = m.length
  · have HN := Lib.hid hn
    have HE := Lib.hid (fun k (h1 : k < l.length) (h2 : k < m.length) (h : l[k] ≠ m[k]) => show Hid (sameB l m = false) from sameB_at h1 h2 h)
    have HY := Lib.hid (fun (h : ∀ k (h1 : k < l.length) (h2 : k < m.length), l[k] = m[k]) => show Hid (sameB l m = true) from sameB_yes hn h)
    rw [← hn]
    clear hn
    go_enter Try.func36, Try.ntmps36
    go_wp2
    go_loopw [5] (fun y wr => ∃ k : Nat, k ≤ l.length ∧ y = .int .i64 k ∧ Hid (∀ j, j < k → ∀ (h1 : j < l.length) (h2 : j < m.length), l[j] = m[j]) ∧ Below w.heap.size w wr) (fun y _ => l.length - (intOf y).toNat)
    case atStart => exact ⟨0, by omega, rfl, fun j hj => absurd hj (by omega), Below.refl _ _⟩
    case round =>
      obtain ⟨k, hk, rfl, hg, hbw⟩ := hrel
      by_cases hlt : k < l.length
      · have hlt2 : k < m.length := by have := HN.out; omega
        obtain ⟨a1, rfl, _, c0⟩ := int_at (hl.below hbw (Nat.le_refl _)) hlt
        obtain ⟨a2, rfl, _, c1⟩ := int_at (hm.below hbw (Nat.le_refl _)) hlt2
        have H0 := Lib.hid (HE.out k hlt hlt2)
        have HG := Lib.hid (fun (h : l[k] = m[k]) => show Hid (∀ j, j < k + 1 → ∀ (h1 : j < l.length) (h2 : j < m.length), l[j] = m[j]) from fun j hj h1 h2 => by
          by_cases e : j = k
          · subst e; exact h
          · exact hg.out j (by omega) h1 h2)
        clear hl hm hg
        generalize l[k] = x at *
        generalize m[k] = y at *
        have hkm : (k : Int) < (m.length : Int) := by omega
        have hkl : (k : Int) < (l.length : Int) := by omega
        have hk0 : 0 ≤ (k : Int) := by omega
        by_cases hxy : x = y
        · have H := HG.out hxy
          have hx1 : (x != y) = false := by simp [hxy]
          clear hxy
          go_wp2
          go_quiet (fail)
          go_wp2
          go_roundw
          case rel => exact ⟨k + 1, by omega, by go_num, H, by exact (by repeat (first | with_reducible exact Below.refl _ _ | with_reducible assumption | with_reducible refine Below.drew ?_ | with_reducible refine below_drewN ?_ _ | (with_reducible refine Below.alloc ?_ ?_ _; rotate_left; (try simp) <;> omega) | (with_reducible refine Below.setCell ?_ ?_ _; rotate_left; (try simp) <;> omega)))⟩
          case measure => simp [intOf]; omega
        · have H := H0.out hxy
          have hx1 : (x != y) = true := by simp [hxy]
          clear hxy
          go_wp2
          go_quiet (fail)
          go_wp2
          go_ret
          exact sh_ret H.out.symm (by exact (by repeat (first | with_reducible exact Below.refl _ _ | with_reducible assumption | with_reducible refine Below.drew ?_ | with_reducible refine below_drewN ?_ _ | (with_reducible refine Below.alloc ?_ ?_ _; rotate_left; (try simp) <;> omega) | (with_reducible refine Below.setCell ?_ ?_ _; rotate_left; (try simp) <;> omega))))
      · have H := HY.out (fun j h1 h2 => hg.out j (by omega) h1 h2)
        obtain rfl : k = l.length := by omega
        clear hg hl hm
        go_wp2
        go_ret
        exact sh_ret H.out.symm (by exact (by repeat (first | with_reducible exact Below.refl _ _ | with_reducible assumption | with_reducible refine Below.drew ?_ | with_reducible refine below_drewN ?_ _ | (with_reducible refine Below.alloc ?_ ?_ _; rotate_left; (try simp) <;> omega) | (with_reducible refine Below.setCell ?_ ?_ _; rotate_left; (try simp) <;> omega))))
  · have H := Lib.hid (sameB_ne hn)
    have hx : ((l.length : Int) != (m.length : Int)) = true := by rw [bne_iff_ne]; omega
    have hx2 : (l.length != m.length) = true := by rw [bne_iff_ne]; exact hn
    clear hn
    go_enter Try.func36, Try.ntmps36
    go_wp2
    go_ret
    exact sh_ret H.out.symm (by exact (by repeat (first | with_reducible exact Below.refl _ _ | with_reducible assumption | with_reducible refine Below.drew ?_ | with_reducible refine below_drewN ?_ _ | (with_reducible refine Below.alloc ?_ ?_ _; rotate_left; (try simp) <;> omega) | (with_reducible refine Below.setCell ?_ ?_ _; rotate_left; (try simp) <;> omega))))
end Go.Proofs.Ytjgnikmnadmheaa

namespace Go.Proofs.Ytjgnikmnadmheaa
open Go.RowKit

theorem suitK_pair (Y : Yd) (t : Tk) (i : Nat) (a : Int) (k : Nat) : (suitK Y t i a k).Pairwise (· < ·) := by
  unfold suitK
  refine List.Pairwise.filter _ (List.Pairwise.map _ (fun x y h => ?_) List.pairwise_lt_range)
  omega
theorem suitK_head {Y : Yd} {t : Tk} {i : Nat} {a x y : Int} {k : Nat} (h : (suitK Y t i a k).head? = some x) (hy : y ∈ suitK Y t i a k) : x ≤ y := by
  have hp := suitK_pair Y t i a k
  cases hL : suitK Y t i a k with
  | nil => rw [hL] at hy; cases hy
  | cons z zs =>
    rw [hL] at h hy hp
    cases h
    rcases List.mem_cons.1 hy with e | e
    · omega
    · have := (List.pairwise_cons.1 hp).1 y e
      omega
theorem mem_suitK {Y : Yd} {t : Tk} {i : Nat} {a d : Int} {k : Nat} (h1 : a ≤ d) (h2 : d < a + (k : Int)) (h3 : suitB Y t i d = true) : d ∈ suitK Y t i a k := by
  unfold suitK
  rw [List.mem_filter, List.mem_map]
  exact ⟨⟨(d - a).toNat, List.mem_range.2 (by omega), by omega⟩, h3⟩
theorem lowK_le {dry f : Int} {af P Q : List Int} (hl : P.length = Q.length) (h : ∀ j, P.getD j 0 ≤ Q.getD j 0) : ∀ k, k ≤ af.length → lowK dry f af P k ≤ lowK dry f af Q k
  | 0, _ => by
    rw [lowK_zero, lowK_zero]
    unfold lowB
    rw [hl]
    have := h (Q.length - 1)
    split <;> omega
  | k + 1, hk => by
    have ih := lowK_le (dry := dry) (f := f) (af := af) hl h k (by omega)
    rw [lowK_succ (by omega), lowK_succ (by omega)]
    have := h af[k].toNat
    omega
theorem getD_take {L : List Int} {i j : Nat} : (L.take i).getD j 0 = if j < i then L.getD j 0 else 0 := by
  by_cases h : j < i
  · rw [if_pos h, List.getD_eq_getElem?_getD, List.getD_eq_getElem?_getD, List.getElem?_take_of_lt h]
  · rw [if_neg h, List.getD_eq_getElem?_getD, List.getElem?_eq_none (by simp; omega)]
    rfl
end Go.Proofs.Ytjgnikmnadmheaa

namespace Go.Proofs.Ytjgnikmnadmheaa
open Go.RowKit

/-! lists of numbers in the order of words -/
def lexB : List Int → List Int → Bool
  | x :: xs, y :: ys => decide (x < y) || (decide (x = y) && lexB xs ys)
  | _, _ => false
theorem lexB_cons {x y : Int} {xs ys : List Int} : lexB (x :: xs) (y :: ys) = true ↔ x < y ∨ (x = y ∧ lexB xs ys = true) := by
  show (decide (x < y) || (decide (x = y) && lexB xs ys)) = true ↔ _
  simp
theorem lexB_irr : ∀ a : List Int, lexB a a = false
  | [] => rfl
  | x :: xs => by
    rw [Bool.eq_false_iff]
    intro h
    rw [lexB_cons, lexB_irr xs] at h
    rcases h with h | h
    · omega
    · cases h.2
theorem lexB_trans : ∀ {a b c : List Int}, lexB a b = true → lexB b c = true → lexB a c = true
  | [], b, c, h, _ => by cases b <;> cases h
  | x :: xs, [], c, h, _ => by cases h
  | x :: xs, y :: ys, [], _, h => by cases h
  | x :: xs, y :: ys, z :: zs, h1, h2 => by
    rw [lexB_cons] at h1 h2 ⊢
    rcases h1 with h1 | ⟨h1, h3⟩ <;> rcases h2 with h2 | ⟨h2, h4⟩
    · left; omega
    · left; omega
    · left; omega
    · right; exact ⟨by omega, lexB_trans h3 h4⟩
theorem lexB_total : ∀ {a b : List Int}, a.length = b.length → lexB a b = false → lexB b a = false → a = b
  | [], [], _, _, _ => rfl
  | [], _ :: _, h, _, _ => by cases h
  | _ :: _, [], h, _, _ => by cases h
  | x :: xs, y :: ys, h, h1, h2 => by
    rw [Bool.eq_false_iff] at h1 h2
    have n1 : ¬ x < y := fun e => h1 (lexB_cons.2 (.inl e))
    have n2 : ¬ y < x := fun e => h2 (lexB_cons.2 (.inl e))
    obtain rfl : x = y := by omega
    have e := lexB_total (a := xs) (b := ys) (by simpa using h) (by rw [Bool.eq_false_iff]; exact fun e => h1 (lexB_cons.2 (.inr ⟨rfl, e⟩))) (by rw [Bool.eq_false_iff]; exact fun e => h2 (lexB_cons.2 (.inr ⟨rfl, e⟩)))
    rw [e]
theorem lexB_asym {a b : List Int} (h : lexB a b = true) : lexB b a = false := by
  rw [Bool.eq_false_iff]
  intro h2
  have := lexB_trans h h2
  rw [lexB_irr] at this; cases this
/-- not after, in steps -/
theorem lexB_le_trans {a b c : List Int} (hl : a.length = b.length) (h1 : lexB b a = false) (h2 : lexB c b = false) : lexB c a = false := by
  rw [Bool.eq_false_iff]
  intro h
  cases hab : lexB a b with
  | true => rw [lexB_trans h hab] at h2; cases h2
  | false =>
    have := lexB_total hl hab h1
    subst this
    rw [h] at h2; cases h2

/-! the sequences among which Replan chooses -/
def dayAt (old : List Tu) (i : Nat) : Option Int := (old[i]?).map Tu.day
/-- a choice of tasks that keep their old days -/
def FxOK (old : List Tu) (done n : Nat) (fx : Nat → Option Int) : Prop := ∀ i d, fx i = some d → done ≤ i ∧ i < n ∧ dayAt old i = some d
structure LSx (Y : Yd) (l : List Tk) (f : Int) (old : List Tu) (ds D : List Int) : Prop where
  len : D.length = l.length
  pre : ds <+: D
  at_ : ∀ i, ds.length ≤ i → i < l.length → (nextL Y l f (D.take i)).head? = some (D.getD i 0) ∨ (dayAt old i = some (D.getD i 0) ∧ D.getD i 0 ∈ nextL Y l f (D.take i))
theorem mem_nextL {Y : Yd} {l : List Tk} {f d : Int} {ds : List Int} (h : ds.length < l.length) : d ∈ nextL Y l f ds ↔ lowS Y.dry f l[ds.length].af ds ≤ d ∧ d < f + 400 ∧ suitB Y l[ds.length] ds.length d = true := by
  refine ⟨nextL_mem h, fun ⟨h1, h2, h3⟩ => ?_⟩
  rw [nextL_at h]
  exact mem_suitK h1 (by omega) h3
theorem head_mem {Y : Yd} {l : List Tk} {f d : Int} {ds : List Int} (h : (nextL Y l f ds).head? = some d) : d ∈ nextL Y l f ds := List.mem_of_mem_head? (by rw [h]; exact Option.mem_some_self d)
theorem stepE_fix {Y : Yd} {l : List Tk} {f d : Int} {fx : Nat → Option Int} {ds : List Int} (h : ds.length < l.length) (hf : fx ds.length = some d) : stepE Y l f fx ds = if lowS Y.dry f l[ds.length].af ds ≤ d ∧ d < f + 400 ∧ suitB Y l[ds.length] ds.length d = true then some d else none := by
  unfold stepE
  rw [hf, List.getElem?_eq_getElem h]
theorem stepE_free {Y : Yd} {l : List Tk} {f : Int} {fx : Nat → Option Int} {ds : List Int} (hf : fx ds.length = none) : stepE Y l f fx ds = (nextL Y l f ds).head? := by
  unfold stepE
  rw [hf]
theorem est_steps {Y : Yd} {l : List Tk} {f : Int} {fx : Nat → Option Int} : ∀ (m : Nat) (ds L : List Int), est Y l f fx m ds = some L → L.length = ds.length + m ∧ ds <+: L ∧ ∀ j, ds.length ≤ j → j < L.length → stepE Y l f fx (L.take j) = some (L.getD j 0)
  | 0, ds, L, h => by
    cases h
    exact ⟨rfl, List.prefix_refl _, fun j h1 h2 => absurd h2 (by omega)⟩
  | m + 1, ds, L, h => by
    change (match stepE Y l f fx ds with | some d => est Y l f fx m (ds ++ [d]) | none => none) = some L at h
    split at h
    · rename_i d hd
      obtain ⟨h0, h1, h2⟩ := est_steps m _ L h
      have hp : ds <+: L := (List.prefix_append _ _).trans h1
      refine ⟨by rw [h0]; simp; omega, hp, fun j hj hjl => ?_⟩
      by_cases e : j = ds.length
      · subst e
        have ht : L.take ds.length = ds := (List.prefix_iff_eq_take.1 hp).symm
        have hx : L.getD ds.length 0 = d := by
          obtain ⟨r, rfl⟩ := h1
          simp [List.getD_eq_getElem?_getD]
        rw [ht, hx]
        exact hd
      · exact h2 j (by simp; omega) hjl
    · cases h
theorem est_of {Y : Yd} {l : List Tk} {f : Int} {fx : Nat → Option Int} {L : List Int} : ∀ (m : Nat) (ds : List Int), L.length = ds.length + m → ds <+: L → (∀ j, ds.length ≤ j → j < L.length → stepE Y l f fx (L.take j) = some (L.getD j 0)) → est Y l f fx m ds = some L
  | 0, ds, h, hp, _ => by
    have : ds = L := hp.eq_of_length (by omega)
    subst this; rfl
  | m + 1, ds, h, hp, hs => by
    have ht : L.take ds.length = ds := (List.prefix_iff_eq_take.1 hp).symm
    have h1 := hs ds.length (Nat.le_refl _) (by omega)
    rw [ht] at h1
    have hk : ds.length < L.length := by omega
    have hp2 : ds ++ [L.getD ds.length 0] <+: L := by
      have e : ds ++ [L.getD ds.length 0] = L.take (ds.length + 1) := by
        rw [List.take_succ_eq_append_getElem hk, ht, List.getD_eq_getElem?_getD, List.getElem?_eq_getElem hk]; rfl
      rw [e]
      exact List.take_prefix _ _
    show (match stepE Y l f fx ds with | some d => est Y l f fx m (ds ++ [d]) | none => none) = some L
    rw [h1]
    exact est_of m _ (by simp; omega) hp2 (fun j hj hl => hs j (by simp at hj; omega) hl)

/-- what is kept of a sequence -/
def fxOf (old : List Tu) (done : Nat) (D : List Int) : Nat → Option Int := fun i => if done ≤ i ∧ i < D.length ∧ dayAt old i = some (D.getD i 0) then some (D.getD i 0) else none
theorem fxOf_ok (old : List Tu) (done : Nat) (D : List Int) : FxOK old done D.length (fxOf old done D) := fun i d h => by
  unfold fxOf at h
  split at h
  · rename_i hc; cases h; exact hc
  · cases h
section
variable {Y : Yd} {l : List Tk} {f : Int} {old : List Tu} {ds D : List Int}
theorem ls_of_est {fx : Nat → Option Int} (hd : ds.length ≤ l.length) (hf : FxOK old ds.length l.length fx) (h : est Y l f fx (l.length - ds.length) ds = some D) : LSx Y l f old ds D := by
  obtain ⟨h1, h2, h3⟩ := est_steps _ _ _ h
  refine ⟨by omega, h2, fun i hi hl => ?_⟩
  have h4 := h3 i hi (by omega)
  have hk : (D.take i).length = i := by rw [List.length_take]; omega
  cases hx : fx i with
  | none => rw [stepE_free (by rw [hk]; exact hx)] at h4; exact .inl h4
  | some d =>
    rw [stepE_fix (d := d) (by omega) (by rw [hk]; exact hx)] at h4
    split at h4
    · rename_i hc
      have e := Option.some.inj h4
      rw [← e]
      exact .inr ⟨(hf i d hx).2.2, (mem_nextL (by omega)).2 hc⟩
    · cases h4
theorem est_of_ls (hd : ds.length ≤ l.length) (h : LSx Y l f old ds D) : est Y l f (fxOf old ds.length D) (l.length - ds.length) ds = some D := by
  have hlen := h.len
  refine est_of _ _ (by omega) h.pre fun j hj hl => ?_
  have hk : (D.take j).length = j := by rw [List.length_take]; omega
  by_cases hc : dayAt old j = some (D.getD j 0)
  · have hx : fxOf old ds.length D j = some (D.getD j 0) := by unfold fxOf; rw [if_pos ⟨hj, hl, hc⟩]
    rw [stepE_fix (d := D.getD j 0) (by omega) (by rw [hk]; exact hx)]
    have hm : D.getD j 0 ∈ nextL Y l f (D.take j) := by
      rcases h.at_ j hj (by omega) with e | e
      · exact head_mem e
      · exact e.2
    rw [if_pos ((mem_nextL (by omega)).1 hm)]
  · have hx : fxOf old ds.length D j = none := by unfold fxOf; rw [if_neg (fun e => hc e.2.2)]
    rw [stepE_free (by rw [hk]; exact hx)]
    rcases h.at_ j hj (by omega) with e | e
    · exact e
    · exact absurd e.1 hc
end

/-! counting -/
def szK (fx : Nat → Option Int) : Nat → Int
  | 0 => 0
  | k + 1 => szK fx k + if (fx k).isSome = true then 1 else 0
def cntK (old : List Tu) (done : Nat) (D : List Int) : Nat → Int
  | 0 => 0
  | k + 1 => cntK old done D k + if done ≤ k ∧ dayAt old k ≠ some (D.getD k 0) then 1 else 0
/-- the number of tasks that change -/
def cntC (old : List Tu) (done : Nat) (D : List Int) : Int := cntK old done D D.length
theorem cnt_le {old : List Tu} {done : Nat} {D : List Int} {fx : Nat → Option Int} (h : ∀ i d, fx i = some d → done ≤ i ∧ dayAt old i = some (D.getD i 0)) : ∀ k, cntK old done D k + szK fx k ≤ if done ≤ k then ((k - done : Nat) : Int) else 0
  | 0 => by show (0 : Int) + 0 ≤ _; split <;> omega
  | k + 1 => by
    have ih := cnt_le h k
    show cntK old done D k + (if done ≤ k ∧ dayAt old k ≠ some (D.getD k 0) then 1 else 0) + (szK fx k + if (fx k).isSome = true then 1 else 0) ≤ _
    cases hx : fx k with
    | none =>
      by_cases hd : done ≤ k
      · rw [if_pos hd] at ih
        rw [if_pos (show done ≤ k + 1 by omega)]
        have : (if done ≤ k ∧ dayAt old k ≠ some (D.getD k 0) then (1 : Int) else 0) ≤ 1 := by split <;> omega
        simp only [Option.isSome_none, Bool.false_eq_true, if_false]
        omega
      · rw [if_neg hd] at ih
        rw [if_neg (fun e => hd e.1)]
        simp only [Option.isSome_none, Bool.false_eq_true, if_false]
        split <;> omega
    | some d =>
      obtain ⟨h1, h2⟩ := h k d hx
      rw [if_pos h1] at ih
      rw [if_neg (fun e => e.2 h2), if_pos (show done ≤ k + 1 by omega)]
      simp only [Option.isSome_some, if_true]
      omega
theorem cnt_eq {old : List Tu} {done : Nat} {D : List Int} : ∀ k, k ≤ D.length → cntK old done D k + szK (fxOf old done D) k = if done ≤ k then ((k - done : Nat) : Int) else 0
  | 0, _ => by show (0 : Int) + 0 = _; split <;> omega
  | k + 1, hk => by
    have ih := cnt_eq (old := old) (done := done) (D := D) k (by omega)
    show cntK old done D k + (if done ≤ k ∧ dayAt old k ≠ some (D.getD k 0) then 1 else 0) + (szK (fxOf old done D) k + if (fxOf old done D k).isSome = true then 1 else 0) = _
    by_cases hd : done ≤ k
    · rw [if_pos hd] at ih
      rw [if_pos (show done ≤ k + 1 by omega)]
      by_cases hc : dayAt old k = some (D.getD k 0)
      · rw [if_neg (fun e => e.2 hc)]
        have hx : fxOf old done D k = some (D.getD k 0) := by unfold fxOf; rw [if_pos ⟨hd, by omega, hc⟩]
        rw [hx]; simp only [Option.isSome_some, if_true]; omega
      · rw [if_pos ⟨hd, hc⟩]
        have hx : fxOf old done D k = none := by unfold fxOf; rw [if_neg (fun e => hc e.2.2)]
        rw [hx]; simp only [Option.isSome_none, Bool.false_eq_true, if_false]; omega
    · rw [if_neg hd] at ih
      rw [if_neg (fun e => hd e.1)]
      have hx : fxOf old done D k = none := by unfold fxOf; rw [if_neg (fun e => hd e.1)]
      rw [hx]; simp only [Option.isSome_none, Bool.false_eq_true, if_false]
      split <;> omega
theorem szK_nonneg (fx : Nat → Option Int) : ∀ k, 0 ≤ szK fx k
  | 0 => Int.le_refl _
  | k + 1 => by
    have := szK_nonneg fx k
    show 0 ≤ szK fx k + _
    split <;> omega
theorem szK_le (fx : Nat → Option Int) : ∀ k, szK fx k ≤ (k : Int)
  | 0 => Int.le_refl _
  | k + 1 => by
    have := szK_le fx k
    show szK fx k + _ ≤ _
    split <;> omega
theorem szK_same {fx fy : Nat → Option Int} : ∀ k, (∀ i, i < k → fx i = fy i) → szK fx k = szK fy k
  | 0, _ => rfl
  | k + 1, h => by
    show szK fx k + _ = szK fy k + _
    rw [szK_same k (fun i hi => h i (by omega)), h k (by omega)]

/-! the earliest of all sequences that go on with some days -/
theorem est_low {Y : Yd} {l : List Tk} {f : Int} {D : List Int} {fx : Nat → Option Int} (hlen : D.length = l.length) (hf : ∀ i d, fx i = some d → d = D.getD i 0) :
    ∀ (m : Nat) (P : List Int), P.length + m = l.length → (∀ j, j < P.length → P.getD j 0 ≤ D.getD j 0) → (∀ i, P.length ≤ i → ∀ h : i < l.length, lowS Y.dry f l[i].af (D.take i) ≤ D.getD i 0 ∧ D.getD i 0 < f + 400 ∧ suitB Y l[i] i (D.getD i 0) = true) →
    ∃ L, est Y l f fx m P = some L ∧ ∀ j, j < L.length → L.getD j 0 ≤ D.getD j 0
  | 0, P, _, h, _ => ⟨P, rfl, h⟩
  | m + 1, P, hn, h, hD => by
    have hk : P.length < l.length := by omega
    obtain ⟨h1, h2, h3⟩ := hD P.length (Nat.le_refl _) hk
    have hlow : lowS Y.dry f l[P.length].af P ≤ lowS Y.dry f l[P.length].af (D.take P.length) := by
      refine lowK_le (by rw [List.length_take, hlen]; omega) (fun j => ?_) _ (Nat.le_refl _)
      rw [getD_take]
      by_cases hj : j < P.length
      · rw [if_pos hj]; exact h j hj
      · rw [if_neg hj, List.getD_eq_getElem?_getD, List.getElem?_eq_none (by omega)]
        exact Int.le_refl _
    have hmem : D.getD P.length 0 ∈ nextL Y l f P := (mem_nextL hk).2 ⟨by omega, h2, h3⟩
    obtain ⟨x, hx, hle⟩ : ∃ x, stepE Y l f fx P = some x ∧ x ≤ D.getD P.length 0 := by
      cases hfx : fx P.length with
      | some d =>
        have e := hf _ _ hfx
        subst e
        exact ⟨_, by rw [stepE_fix hk hfx, if_pos ⟨by omega, h2, h3⟩], Int.le_refl _⟩
      | none =>
        rw [stepE_free hfx]
        cases hL : nextL Y l f P with
        | nil => rw [hL] at hmem; cases hmem
        | cons x xs =>
          refine ⟨x, rfl, ?_⟩
          rw [nextL_at hk] at hL hmem
          exact suitK_head (by rw [hL]; rfl) hmem
    obtain ⟨L, hL1, hL2⟩ := est_low hlen hf m (P ++ [x]) (by simp; omega) (fun j hj => by
      rw [List.length_append] at hj
      by_cases e : j < P.length
      · rw [List.getD_eq_getElem?_getD, List.getElem?_append_left e, ← List.getD_eq_getElem?_getD]; exact h j e
      · obtain rfl : j = P.length := by simp at hj; omega
        rw [List.getD_eq_getElem?_getD, List.getElem?_append_right (Nat.le_refl _)]
        simpa using hle) (fun i hi => hD i (by simp at hi; omega))
    refine ⟨L, ?_, hL2⟩
    show (match stepE Y l f fx P with | some d => est Y l f fx m (P ++ [d]) | none => none) = some L
    rw [hx]
    exact hL1
theorem ls_days {Y : Yd} {l : List Tk} {f : Int} {old : List Tu} {ds D : List Int} (h : LSx Y l f old ds D) : ∀ i, ds.length ≤ i → ∀ hi : i < l.length, lowS Y.dry f l[i].af (D.take i) ≤ D.getD i 0 ∧ D.getD i 0 < f + 400 ∧ suitB Y l[i] i (D.getD i 0) = true := by
  intro i hd hi
  have hlen := h.len
  have hk : (D.take i).length = i := by rw [List.length_take]; omega
  have hm : D.getD i 0 ∈ nextL Y l f (D.take i) := by
    rcases h.at_ i hd hi with e | e
    · exact head_mem e
    · exact e.2
  have := (mem_nextL (by omega)).1 hm
  simpa only [hk] using this
end Go.Proofs.Ytjgnikmnadmheaa
