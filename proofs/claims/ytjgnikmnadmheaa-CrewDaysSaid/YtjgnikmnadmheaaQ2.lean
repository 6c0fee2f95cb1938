/- in, within, isDay, rising: for all arguments. -/
import Derived.Test.YtjgnikmnadmheaaQ1
namespace Go.Proofs.Ytjgnikmnadmheaa
open Go.RowKit

def inB (x a b : Int) : Bool := decide (a ≤ x) && decide (x ≤ b)
set_option maxHeartbeats 400000 in
theorem in_any (x a b : Int) (w : World) : Calls Try.prog 66 #[.int .i64 x, .int .i64 a, .int .i64 b] w (BoolEnd (inB x a b) w) := by
  unfold inB BoolEnd
  by_cases h1 : a ≤ x <;> by_cases h2 : x ≤ b
  all_goals
    go_enter Try.func66, Try.ntmps66
    go_wp2
    go_ret
    simp [h1, h2]
set_option maxHeartbeats 400000 in
theorem within_any (x a b : Int) (w : World) : Calls Try.prog 69 #[.int .i64 x, .int .i64 a, .int .i64 b] w (BoolEnd (inB x a b) w) := by
  unfold inB BoolEnd
  by_cases h1 : a ≤ x <;> by_cases h2 : x ≤ b
  all_goals
    go_enter Try.func69, Try.ntmps69
    go_wp2
    go_ret
    simp [h1, h2]
set_option maxHeartbeats 400000 in
theorem isDay_any (x : Int) (w : World) : Calls Try.prog 81 #[.int .i64 x] w (BoolEnd (inB x 0 100000) w) := by
  go_enter Try.func81, Try.ntmps81
  go_wp2_with (go_at_call 69; refine (within_any _ _ _ _).mono ?_; rintro e w' ⟨rfl, rfl⟩)
  go_ret
  exact ⟨rfl, rfl⟩

/-- strictly ascending -/
def risingB : List Int → Bool
  | a :: b :: l => decide (a < b) && risingB (b :: l)
  | _ => true
theorem risingB_iff : ∀ l : List Int, risingB l = true ↔ ∀ k (h : k + 1 < l.length), l[k]'(by omega) < l[k + 1]
  | [] => by simp [risingB]
  | [a] => by simp [risingB]
  | a :: b :: l => by
    have ih := risingB_iff (b :: l)
    simp only [risingB, Bool.and_eq_true, decide_eq_true_eq, ih]
    constructor
    · rintro ⟨h1, h2⟩ k hk
      cases k with
      | zero => exact h1
      | succ k => exact h2 k (by simpa using hk)
    · intro h
      exact ⟨h 0 (by simp), fun k hk => h (k + 1) (by simpa using hk)⟩
theorem int_at {w : World} {B : Nat} {A : Option Addr} {l : List Int} (h : Lies w B A (ints l)) {k : Nat} (hk : k < l.length) :
    ∃ ad, A = some ad ∧ ad.block < B ∧ w.cell? (ad.add k) = some (.int .i64 l[k]) := by
  obtain ⟨ad, u, e, hb, hu, hc⟩ := h.at_ (k := k) (by simpa [ints] using hk)
  refine ⟨ad, e, hb, ?_⟩
  rw [hc]
  simp [ints, List.getElem?_eq_getElem hk] at hu
  rw [hu]
theorem int_at2 {w : World} {B : Nat} {A : Option Addr} {l : List Int} (h : Lies w B A (ints l)) {k j : Nat} (hk : k < l.length) (hj : j < l.length) :
    ∃ ad, A = some ad ∧ ad.block < B ∧ w.cell? (ad.add k) = some (.int .i64 l[k]) ∧ w.cell? (ad.add j) = some (.int .i64 l[j]) := by
  obtain ⟨ad, e, hb, hc⟩ := int_at h hk
  obtain ⟨ad2, e2, _, hc2⟩ := int_at h hj
  rw [e] at e2; cases e2
  exact ⟨ad, e, hb, hc, hc2⟩

set_option maxHeartbeats 1000000 in
theorem rising_any (l : List Int) (A : Option Addr) (c : Nat) (w : World) (hl : Lies w w.heap.size A (ints l)) (hm : l.length ≤ 1000) :
    Calls Try.prog 67 #[.slice A l.length c] w fun e w' => e = .returned (.bool (risingB l)) ∧ Below w.heap.size w w' := by
  have HR := Lib.hid (risingB_iff l)
  go_enter Try.func67, Try.ntmps67
  go_wp2
  go_loopw [3] (fun y wr => ∃ k : Nat, 1 ≤ k ∧ (k ≤ l.length ∨ k = 1) ∧ y = .int .i64 k ∧ Hid (∀ j (hj : j + 1 < k) (h' : j + 1 < l.length), l[j]'(by omega) < l[j + 1]) ∧ Below w.heap.size w wr) (fun y _ => l.length - (intOf y).toNat)
  case atStart => exact ⟨1, by omega, .inr rfl, rfl, fun j hj => absurd hj (by omega), Below.refl _ _⟩
  case round =>
    obtain ⟨k, hk1, hk, rfl, hg, hbw⟩ := hrel
    have hbs := hbw.size
    by_cases hlt : k < l.length
    · obtain ⟨ad, rfl, hadb, c0, c1⟩ := int_at2 (hl.below hbw (Nat.le_refl _)) (k := k - 1) (j := k) (by omega) hlt
      have hkm : ((k : Int) - 1).toNat = k - 1 := by omega
      have hkp : 0 ≤ (k : Int) - 1 := by omega
      have hkq : (k : Int) - 1 < (l.length : Int) := by omega
      clear hl
      obtain ⟨x, hx⟩ : ∃ x, x = l[k - 1]'(by omega) := ⟨_, rfl⟩
      obtain ⟨y, hy⟩ : ∃ y, y = l[k] := ⟨_, rfl⟩
      rw [← hx] at c0
      rw [← hy] at c1
      by_cases h0 : y ≤ x
      · have H : Hid (risingB l = false) := by
          show _ = _
          rw [← Bool.not_eq_true]
          intro h
          have := HR.out.1 h (k - 1) (by omega)
          rw [← hx] at this
          have e : l[k - 1 + 1]'(by omega) = y := by rw [hy]; congr 1; omega
          rw [e] at this; omega
        have HX := Lib.hid hx; have HY := Lib.hid hy; clear hx hy hk
        go_wp2
        go_quiet (fail)
        go_wp2
        go_ret
        refine ⟨congrArg (fun b => Ending.returned (.bool b)) H.out.symm, ?_⟩
        exact (by repeat (first | with_reducible exact Below.refl _ _ | with_reducible assumption | with_reducible refine Below.drew ?_ | with_reducible refine below_drewN ?_ _ | (with_reducible refine Below.alloc ?_ ?_ _; rotate_left; (try simp) <;> omega) | (with_reducible refine Below.setCell ?_ ?_ _; rotate_left; (try simp) <;> omega)))
      · have h0' : x < y := by omega
        have H : Hid (∀ j (hj : j + 1 < k + 1) (h' : j + 1 < l.length), l[j]'(by omega) < l[j + 1]) := fun j hj h' => by
          by_cases e : j + 1 = k
          · subst e
            have e2 : l[j + 1 - 1]'(by omega) = l[j]'(by omega) := by congr 1
            rw [e2] at hx
            rw [← hx, ← hy]; exact h0'
          · exact hg.out j (by omega) h'
        have HX := Lib.hid hx; have HY := Lib.hid hy; clear hx hy hk
        go_wp2
        go_quiet (fail)
        go_wp2
        go_roundw
        case rel => exact ⟨k + 1, by omega, .inl (by omega), by go_num, H, by exact (by repeat (first | with_reducible exact Below.refl _ _ | with_reducible assumption | with_reducible refine Below.drew ?_ | with_reducible refine below_drewN ?_ _ | (with_reducible refine Below.alloc ?_ ?_ _; rotate_left; (try simp) <;> omega) | (with_reducible refine Below.setCell ?_ ?_ _; rotate_left; (try simp) <;> omega)))⟩
        case measure => simp [intOf]; omega
    · have H : Hid (risingB l = true) := HR.out.2 fun j hj => hg.out j (by omega) hj
      have hge : (l.length : Int) ≤ (k : Int) := by omega
      clear hk
      go_wp2
      go_ret
      exact ⟨congrArg (fun b => Ending.returned (.bool b)) H.out.symm, hbw⟩
end Go.Proofs.Ytjgnikmnadmheaa
