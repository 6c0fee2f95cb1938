/- giornatalaw07.slow. -/
import Derived.Test.YtjgnikmnadmheaaR2
namespace Go.Proofs.Ytjgnikmnadmheaa
open Go.RowKit

def slowB (Y : Yd) (l : List Tk) : Bool := vastB Y l || (decide (7 < l.length ∧ l.length ≤ 12) || decide (12 < Y.cl.length ∧ Y.cl.length ≤ 200))
set_option maxRecDepth 100000 in
set_option maxHeartbeats 1000000 in
theorem slow_any (C : Array Value) (Y : Yd) (l : List Tk) (A : Option Addr) (c : Nat) (w : World) (hY : YardAt w w.heap.size C Y) (hT : TasksAt w w.heap.size A l) :
    Calls Try.prog 23 #[.agg C, .slice A l.length c] w (ShEnd (slowB Y l) w) := by
  have HVA := Lib.hid (fun W (hb : Below w.heap.size w W) => vast_any C Y l A c W ((hY.below hb (Nat.le_refl _)).more hb.size) ((hT.below hb (Nat.le_refl _)).more hb.size))
  have HC28 := Lib.hid hY.len
  obtain ⟨Ac, kc, e24, _⟩ := hY.cl
  have b2 : Bk (w.alloc (.cells C 29)) w.heap.size 29 C := Bk.new _ _ _
  have hb0 : Below w.heap.size w (w.alloc (.cells C 29)) := by exact (by repeat (first | with_reducible exact Below.refl _ _ | with_reducible assumption | with_reducible refine Below.drew ?_ | with_reducible refine below_drewN ?_ _ | (with_reducible refine Below.alloc ?_ ?_ _; rotate_left; (try simp) <;> omega) | (with_reducible refine Below.setCell ?_ ?_ _; rotate_left; (try simp) <;> omega)))
  have HR0 := Lib.hid b2.range
  have HS : Hid (slowB Y l = (vastB Y l || (decide (7 < l.length ∧ l.length ≤ 12) || decide (12 < Y.cl.length ∧ Y.cl.length ≤ 200)))) := rfl
  clear hY hT
  generalize slowB Y l = r at *
  cases h0 : vastB Y l with
  | true =>
    have H0 := Lib.hid h0
    rw [h0, Bool.true_or] at HS
    clear h0
    go_enter Try.func23, Try.ntmps23
    go_wp2_with (first | (have h9 := HR0; clear h9; refine wpList_load_mid (P := Try.prog) rfl 29 (.tmp 2) rfl w.heap.size 0 rfl C.toList _ HR0.out Try.underlying29 rfl (by rw [HC28.out]; exact info29) ?_) | (go_at_call 14; refine (HVA.out _ hb0).mono ?_; rintro e w1 ⟨rfl, hb⟩; rw [H0.out]; clear HR0; have hB1 : Below w.heap.size w w1 := hb0.trans (hb.mono hb0.size)))
    go_ret
    rw [HS.out]
    exact ⟨by first | rfl | (simp; omega) | simp, hB1⟩
  | false =>
    have H0 := Lib.hid h0
    rw [h0, Bool.false_or] at HS
    clear h0
    by_cases a1 : (7 : Int) < (l.length : Int)
    · by_cases a2 : (l.length : Int) ≤ 12
      · have HR : Hid (r = true) := by show _ = _; rw [HS.out, decide_eq_true (⟨by omega, by omega⟩ : 7 < l.length ∧ l.length ≤ 12)]; rfl
        go_enter Try.func23, Try.ntmps23
        go_wp2_with (first | (have h9 := HR0; clear h9; refine wpList_load_mid (P := Try.prog) rfl 29 (.tmp 2) rfl w.heap.size 0 rfl C.toList _ HR0.out Try.underlying29 rfl (by rw [HC28.out]; exact info29) ?_) | (go_at_call 14; refine (HVA.out _ hb0).mono ?_; rintro e w1 ⟨rfl, hb⟩; rw [H0.out]; clear HR0; have hB1 : Below w.heap.size w w1 := hb0.trans (hb.mono hb0.size); have x1 := (b2.below hb b2.lt).cell 24 e24))
        go_ret
        rw [HR.out]
        exact ⟨by first | rfl | (simp; omega) | simp, hB1⟩
      · have HS2 : Hid (r = decide (12 < Y.cl.length ∧ Y.cl.length ≤ 200)) := by show _ = _; rw [HS.out, decide_eq_false (by omega : ¬ (7 < l.length ∧ l.length ≤ 12)), Bool.false_or]
        by_cases b1 : (12 : Int) < (Y.cl.length : Int)
        · by_cases b3 : (Y.cl.length : Int) ≤ 200
          · have HR : Hid (r = true) := by show _ = _; rw [HS2.out]; exact decide_eq_true (by omega)
            go_enter Try.func23, Try.ntmps23
            go_wp2_with (first | (have h9 := HR0; clear h9; refine wpList_load_mid (P := Try.prog) rfl 29 (.tmp 2) rfl w.heap.size 0 rfl C.toList _ HR0.out Try.underlying29 rfl (by rw [HC28.out]; exact info29) ?_) | (go_at_call 14; refine (HVA.out _ hb0).mono ?_; rintro e w1 ⟨rfl, hb⟩; rw [H0.out]; clear HR0; have hB1 : Below w.heap.size w w1 := hb0.trans (hb.mono hb0.size); have x1 := (b2.below hb b2.lt).cell 24 e24))
            go_ret
            rw [HR.out]
            exact ⟨by first | rfl | (simp; omega) | simp, hB1⟩
          · have HR : Hid (r = false) := by show _ = _; rw [HS2.out]; exact decide_eq_false (by omega)
            go_enter Try.func23, Try.ntmps23
            go_wp2_with (first | (have h9 := HR0; clear h9; refine wpList_load_mid (P := Try.prog) rfl 29 (.tmp 2) rfl w.heap.size 0 rfl C.toList _ HR0.out Try.underlying29 rfl (by rw [HC28.out]; exact info29) ?_) | (go_at_call 14; refine (HVA.out _ hb0).mono ?_; rintro e w1 ⟨rfl, hb⟩; rw [H0.out]; clear HR0; have hB1 : Below w.heap.size w w1 := hb0.trans (hb.mono hb0.size); have x1 := (b2.below hb b2.lt).cell 24 e24))
            go_ret
            rw [HR.out]
            exact ⟨by first | rfl | (simp; omega) | simp, hB1⟩
        · have HR : Hid (r = false) := by show _ = _; rw [HS2.out]; exact decide_eq_false (by omega)
          go_enter Try.func23, Try.ntmps23
          go_wp2_with (first | (have h9 := HR0; clear h9; refine wpList_load_mid (P := Try.prog) rfl 29 (.tmp 2) rfl w.heap.size 0 rfl C.toList _ HR0.out Try.underlying29 rfl (by rw [HC28.out]; exact info29) ?_) | (go_at_call 14; refine (HVA.out _ hb0).mono ?_; rintro e w1 ⟨rfl, hb⟩; rw [H0.out]; clear HR0; have hB1 : Below w.heap.size w w1 := hb0.trans (hb.mono hb0.size); have x1 := (b2.below hb b2.lt).cell 24 e24))
          go_ret
          rw [HR.out]
          exact ⟨by first | rfl | (simp; omega) | simp, hB1⟩
    · have HS2 : Hid (r = decide (12 < Y.cl.length ∧ Y.cl.length ≤ 200)) := by show _ = _; rw [HS.out, decide_eq_false (by omega : ¬ (7 < l.length ∧ l.length ≤ 12)), Bool.false_or]
      by_cases b1 : (12 : Int) < (Y.cl.length : Int)
      · by_cases b3 : (Y.cl.length : Int) ≤ 200
        · have HR : Hid (r = true) := by show _ = _; rw [HS2.out]; exact decide_eq_true (by omega)
          go_enter Try.func23, Try.ntmps23
          go_wp2_with (first | (have h9 := HR0; clear h9; refine wpList_load_mid (P := Try.prog) rfl 29 (.tmp 2) rfl w.heap.size 0 rfl C.toList _ HR0.out Try.underlying29 rfl (by rw [HC28.out]; exact info29) ?_) | (go_at_call 14; refine (HVA.out _ hb0).mono ?_; rintro e w1 ⟨rfl, hb⟩; rw [H0.out]; clear HR0; have hB1 : Below w.heap.size w w1 := hb0.trans (hb.mono hb0.size); have x1 := (b2.below hb b2.lt).cell 24 e24))
          go_ret
          rw [HR.out]
          exact ⟨by first | rfl | (simp; omega) | simp, hB1⟩
        · have HR : Hid (r = false) := by show _ = _; rw [HS2.out]; exact decide_eq_false (by omega)
          go_enter Try.func23, Try.ntmps23
          go_wp2_with (first | (have h9 := HR0; clear h9; refine wpList_load_mid (P := Try.prog) rfl 29 (.tmp 2) rfl w.heap.size 0 rfl C.toList _ HR0.out Try.underlying29 rfl (by rw [HC28.out]; exact info29) ?_) | (go_at_call 14; refine (HVA.out _ hb0).mono ?_; rintro e w1 ⟨rfl, hb⟩; rw [H0.out]; clear HR0; have hB1 : Below w.heap.size w w1 := hb0.trans (hb.mono hb0.size); have x1 := (b2.below hb b2.lt).cell 24 e24))
          go_ret
          rw [HR.out]
          exact ⟨by first | rfl | (simp; omega) | simp, hB1⟩
      · have HR : Hid (r = false) := by show _ = _; rw [HS2.out]; exact decide_eq_false (by omega)
        go_enter Try.func23, Try.ntmps23
        go_wp2_with (first | (have h9 := HR0; clear h9; refine wpList_load_mid (P := Try.prog) rfl 29 (.tmp 2) rfl w.heap.size 0 rfl C.toList _ HR0.out Try.underlying29 rfl (by rw [HC28.out]; exact info29) ?_) | (go_at_call 14; refine (HVA.out _ hb0).mono ?_; rintro e w1 ⟨rfl, hb⟩; rw [H0.out]; clear HR0; have hB1 : Below w.heap.size w w1 := hb0.trans (hb.mono hb0.size); have x1 := (b2.below hb b2.lt).cell 24 e24))
        go_ret
        rw [HR.out]
        exact ⟨by first | rfl | (simp; omega) | simp, hB1⟩
end Go.Proofs.Ytjgnikmnadmheaa
