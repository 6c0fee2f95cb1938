import Derived.Test.YtkjceegmmhnajaaA3h
namespace Go.Proofs.Ytkjceegmmhnajaa
open Go.RowKit

/-- numbers within n; vectors within n -/
def ab (n : Nat) (a : Int) : Prop := -(n : Int) ≤ a ∧ a ≤ n
def vb (n : Nat) (a b c : Int) : Prop := ab n a ∧ ab n b ∧ ab n c
theorem ab_mul {A B : Nat} {a x : Int} (h : ab A a) (k : ab B x) : ab (A * B) (a * x) := by
  unfold ab at *
  have h1 : a.natAbs ≤ A := by omega
  have h2 : x.natAbs ≤ B := by omega
  have h3 : (a * x).natAbs ≤ A * B := by rw [Int.natAbs_mul]; exact Nat.mul_le_mul h1 h2
  have : ((A * B : Nat) : Int) = A * B := by simp
  omega
theorem ab_sub {A B : Nat} {a x : Int} (h : ab A a) (k : ab B x) : ab (A + B) (a - x) := by unfold ab at *; omega
theorem ab_add {A B : Nat} {a x : Int} (h : ab A a) (k : ab B x) : ab (A + B) (a + x) := by unfold ab at *; omega
theorem ab_big {A : Nat} {a : Int} (h : ab A a) (hA : A ≤ 3050000000000000000) : bigP a := by unfold ab at h; unfold bigP; omega
theorem ab_mono {A B : Nat} {a : Int} (h : ab A a) (hA : A ≤ B) : ab B a := by unfold ab at *; omega

def Minus (a b c x y z : Int) (N : Nat) (w : World) (e : Ending) (w' : World) : Prop := ∃ r s t : Int, e = .returned (.agg #[.int .i64 r, .int .i64 s, .int .i64 t]) ∧ Hid (r = a - x ∧ s = b - y ∧ t = c - z) ∧ vb N r s t ∧ Below w.heap.size w w' ∧ w'.heap.size = w.heap.size + 1 + 1 + 1
def Cross (a b c x y z : Int) (N : Nat) (w : World) (e : Ending) (w' : World) : Prop := ∃ r s t : Int, e = .returned (.agg #[.int .i64 r, .int .i64 s, .int .i64 t]) ∧ Hid (r = b * z - c * y ∧ s = c * x - a * z ∧ t = a * y - b * x) ∧ vb N r s t ∧ Below w.heap.size w w' ∧ w'.heap.size = w.heap.size + 1 + 1 + 1
def Scaled (a b c n : Int) (N : Nat) (w : World) (e : Ending) (w' : World) : Prop := ∃ r s t : Int, e = .returned (.agg #[.int .i64 r, .int .i64 s, .int .i64 t]) ∧ Hid (r = a * n ∧ s = b * n ∧ t = c * n) ∧ vb N r s t ∧ Below w.heap.size w w' ∧ w'.heap.size = w.heap.size + 1 + 1
def Times (a b c x y z : Int) (N : Nat) (w : World) (e : Ending) (w' : World) : Prop := ∃ r : Int, e = .returned (.int .i64 r) ∧ Hid (r = a * x + b * y + c * z) ∧ ab N r ∧ Below w.heap.size w w' ∧ w'.heap.size = w.heap.size + 1 + 1
set_option maxHeartbeats 400000 in
theorem minus_b {A B : Nat} {a b c x y z : Int} (w : World) (h : vb A a b c) (k : vb B x y z) (hAB : A + B ≤ 3050000000000000000) :
    Calls Try.prog 75 #[.agg #[.int .i64 a, .int .i64 b, .int .i64 c], .agg #[.int .i64 x, .int .i64 y, .int .i64 z]] w (Minus a b c x y z (A + B) w) := by
  have h1 := ab_sub h.1 k.1
  have h2 := ab_sub h.2.1 k.2.1
  have h3 := ab_sub h.2.2 k.2.2
  have HV : Hid (vb (A + B) (a - x) (b - y) (c - z)) := ⟨h1, h2, h3⟩
  replace h1 := ab_big h1 hAB
  replace h2 := ab_big h2 hAB
  replace h3 := ab_big h3 hAB
  unfold bigP at h1 h2 h3
  clear h k hAB
  go_enter Try.func75, Try.ntmps75
  go_wp2
  refine bodyPost_ret (v := .agg #[.int .i64 (a - x), .int .i64 (b - y), .int .i64 (c - z)]) (by simp [results, Try.results75, go_sem]) rfl ⟨_, _, _, rfl, ⟨rfl, rfl, rfl⟩, HV.out, (by repeat (first | with_reducible exact Below.refl _ _ | with_reducible assumption | with_reducible refine Below.drew ?_ | with_reducible refine below_drewN ?_ _ | (with_reducible refine Below.alloc ?_ ?_ _; rotate_left; (try simp) <;> omega) | (with_reducible refine Below.setCell ?_ ?_ _; rotate_left; (try simp) <;> omega))), by simp⟩
set_option maxHeartbeats 400000 in
theorem rminus_b {A B : Nat} {a b c x y z : Int} (w : World) (h : vb A a b c) (k : vb B x y z) (hAB : A + B ≤ 3050000000000000000) :
    Calls Try.prog 91 #[.agg #[.int .i64 a, .int .i64 b, .int .i64 c], .agg #[.int .i64 x, .int .i64 y, .int .i64 z]] w (Minus a b c x y z (A + B) w) := by
  have h1 := ab_sub h.1 k.1
  have h2 := ab_sub h.2.1 k.2.1
  have h3 := ab_sub h.2.2 k.2.2
  have HV : Hid (vb (A + B) (a - x) (b - y) (c - z)) := ⟨h1, h2, h3⟩
  replace h1 := ab_big h1 hAB
  replace h2 := ab_big h2 hAB
  replace h3 := ab_big h3 hAB
  unfold bigP at h1 h2 h3
  clear h k hAB
  go_enter Try.func91, Try.ntmps91
  go_wp2
  refine bodyPost_ret (v := .agg #[.int .i64 (a - x), .int .i64 (b - y), .int .i64 (c - z)]) (by simp [results, Try.results91, go_sem]) rfl ⟨_, _, _, rfl, ⟨rfl, rfl, rfl⟩, HV.out, (by repeat (first | with_reducible exact Below.refl _ _ | with_reducible assumption | with_reducible refine Below.drew ?_ | with_reducible refine below_drewN ?_ _ | (with_reducible refine Below.alloc ?_ ?_ _; rotate_left; (try simp) <;> omega) | (with_reducible refine Below.setCell ?_ ?_ _; rotate_left; (try simp) <;> omega))), by simp⟩
set_option maxHeartbeats 400000 in
theorem cross_b {A B : Nat} {a b c x y z : Int} (w : World) (h : vb A a b c) (k : vb B x y z) (hAB : A * B + A * B ≤ 3050000000000000000) :
    Calls Try.prog 82 #[.agg #[.int .i64 a, .int .i64 b, .int .i64 c], .agg #[.int .i64 x, .int .i64 y, .int .i64 z]] w (Cross a b c x y z (A * B + A * B) w) := by
  have hle : A * B ≤ 3050000000000000000 := by omega
  have HV : Hid (vb (A * B + A * B) (b * z - c * y) (c * x - a * z) (a * y - b * x)) := ⟨ab_sub (ab_mul h.2.1 k.2.2) (ab_mul h.2.2 k.2.1), ab_sub (ab_mul h.2.2 k.1) (ab_mul h.1 k.2.2), ab_sub (ab_mul h.1 k.2.1) (ab_mul h.2.1 k.1)⟩
  have h1 := ab_big (ab_mul h.2.1 k.2.2) hle
  have h2 := ab_big (ab_mul h.2.2 k.2.1) hle
  have h3 := ab_big (ab_mul h.2.2 k.1) hle
  have h4 := ab_big (ab_mul h.1 k.2.2) hle
  have h5 := ab_big (ab_mul h.1 k.2.1) hle
  have h6 := ab_big (ab_mul h.2.1 k.1) hle
  unfold bigP at h1 h2 h3 h4 h5 h6
  clear h k hAB hle
  go_enter Try.func82, Try.ntmps82
  go_wp2
  refine bodyPost_ret (v := .agg #[.int .i64 (b * z - c * y), .int .i64 (c * x - a * z), .int .i64 (a * y - b * x)]) (by simp [results, Try.results82, go_sem]) rfl ⟨_, _, _, rfl, ⟨rfl, rfl, rfl⟩, HV.out, (by repeat (first | with_reducible exact Below.refl _ _ | with_reducible assumption | with_reducible refine Below.drew ?_ | with_reducible refine below_drewN ?_ _ | (with_reducible refine Below.alloc ?_ ?_ _; rotate_left; (try simp) <;> omega) | (with_reducible refine Below.setCell ?_ ?_ _; rotate_left; (try simp) <;> omega))), by simp⟩
set_option maxHeartbeats 400000 in
theorem rcross_b {A B : Nat} {a b c x y z : Int} (w : World) (h : vb A a b c) (k : vb B x y z) (hAB : A * B + A * B ≤ 3050000000000000000) :
    Calls Try.prog 92 #[.agg #[.int .i64 a, .int .i64 b, .int .i64 c], .agg #[.int .i64 x, .int .i64 y, .int .i64 z]] w (Cross a b c x y z (A * B + A * B) w) := by
  have hle : A * B ≤ 3050000000000000000 := by omega
  have HV : Hid (vb (A * B + A * B) (b * z - c * y) (c * x - a * z) (a * y - b * x)) := ⟨ab_sub (ab_mul h.2.1 k.2.2) (ab_mul h.2.2 k.2.1), ab_sub (ab_mul h.2.2 k.1) (ab_mul h.1 k.2.2), ab_sub (ab_mul h.1 k.2.1) (ab_mul h.2.1 k.1)⟩
  have h1 := ab_big (ab_mul h.2.1 k.2.2) hle
  have h2 := ab_big (ab_mul h.2.2 k.2.1) hle
  have h3 := ab_big (ab_mul h.2.2 k.1) hle
  have h4 := ab_big (ab_mul h.1 k.2.2) hle
  have h5 := ab_big (ab_mul h.1 k.2.1) hle
  have h6 := ab_big (ab_mul h.2.1 k.1) hle
  unfold bigP at h1 h2 h3 h4 h5 h6
  clear h k hAB hle
  go_enter Try.func92, Try.ntmps92
  go_wp2
  refine bodyPost_ret (v := .agg #[.int .i64 (b * z - c * y), .int .i64 (c * x - a * z), .int .i64 (a * y - b * x)]) (by simp [results, Try.results92, go_sem]) rfl ⟨_, _, _, rfl, ⟨rfl, rfl, rfl⟩, HV.out, (by repeat (first | with_reducible exact Below.refl _ _ | with_reducible assumption | with_reducible refine Below.drew ?_ | with_reducible refine below_drewN ?_ _ | (with_reducible refine Below.alloc ?_ ?_ _; rotate_left; (try simp) <;> omega) | (with_reducible refine Below.setCell ?_ ?_ _; rotate_left; (try simp) <;> omega))), by simp⟩
set_option maxHeartbeats 400000 in
theorem scaled_b {A B : Nat} {a b c n : Int} (w : World) (h : vb A a b c) (k : ab B n) (hAB : A * B ≤ 3050000000000000000) :
    Calls Try.prog 77 #[.agg #[.int .i64 a, .int .i64 b, .int .i64 c], .int .i64 n] w (Scaled a b c n (A * B) w) := by
  have HV : Hid (vb (A * B) (a * n) (b * n) (c * n)) := ⟨ab_mul h.1 k, ab_mul h.2.1 k, ab_mul h.2.2 k⟩
  have h1 := ab_big (ab_mul h.1 k) hAB
  have h2 := ab_big (ab_mul h.2.1 k) hAB
  have h3 := ab_big (ab_mul h.2.2 k) hAB
  unfold bigP at h1 h2 h3
  clear h k hAB
  go_enter Try.func77, Try.ntmps77
  go_wp2
  refine bodyPost_ret (v := .agg #[.int .i64 (a * n), .int .i64 (b * n), .int .i64 (c * n)]) (by simp [results, Try.results77, go_sem]) rfl ⟨_, _, _, rfl, ⟨rfl, rfl, rfl⟩, HV.out, (by repeat (first | with_reducible exact Below.refl _ _ | with_reducible assumption | with_reducible refine Below.drew ?_ | with_reducible refine below_drewN ?_ _ | (with_reducible refine Below.alloc ?_ ?_ _; rotate_left; (try simp) <;> omega) | (with_reducible refine Below.setCell ?_ ?_ _; rotate_left; (try simp) <;> omega))), by simp⟩
set_option maxHeartbeats 400000 in
theorem times_b {A B : Nat} {a b c x y z : Int} (w : World) (h : vb A a b c) (k : vb B x y z) (hAB : A * B + A * B + A * B ≤ 3050000000000000000) :
    Calls Try.prog 46 #[.agg #[.int .i64 a, .int .i64 b, .int .i64 c], .agg #[.int .i64 x, .int .i64 y, .int .i64 z]] w (Times a b c x y z (A * B + A * B + A * B) w) := by
  have hle : A * B ≤ 3050000000000000000 := by omega
  have HV : Hid (ab (A * B + A * B + A * B) (a * x + b * y + c * z)) := ab_add (ab_add (ab_mul h.1 k.1) (ab_mul h.2.1 k.2.1)) (ab_mul h.2.2 k.2.2)
  have h1 := ab_big (ab_mul h.1 k.1) hle
  have h2 := ab_big (ab_mul h.2.1 k.2.1) hle
  have h3 := ab_big (ab_mul h.2.2 k.2.2) hle
  unfold bigP at h1 h2 h3
  clear h k hAB hle
  go_enter Try.func46, Try.ntmps46
  go_wp2
  go_ret
  exact ⟨_, rfl, rfl, HV.out, (by repeat (first | with_reducible exact Below.refl _ _ | with_reducible assumption | with_reducible refine Below.drew ?_ | with_reducible refine below_drewN ?_ _ | (with_reducible refine Below.alloc ?_ ?_ _; rotate_left; (try simp) <;> omega) | (with_reducible refine Below.setCell ?_ ?_ _; rotate_left; (try simp) <;> omega))), by simp⟩
set_option maxHeartbeats 400000 in
theorem dot_b {A B : Nat} {a b c x y z : Int} (w : World) (h : vb A a b c) (k : vb B x y z) (hAB : A * B + A * B + A * B ≤ 3050000000000000000) :
    Calls Try.prog 50 #[.agg #[.int .i64 a, .int .i64 b, .int .i64 c], .agg #[.int .i64 x, .int .i64 y, .int .i64 z]] w (Times a b c x y z (A * B + A * B + A * B) w) := by
  have hle : A * B ≤ 3050000000000000000 := by omega
  have HV : Hid (ab (A * B + A * B + A * B) (a * x + b * y + c * z)) := ab_add (ab_add (ab_mul h.1 k.1) (ab_mul h.2.1 k.2.1)) (ab_mul h.2.2 k.2.2)
  have h1 := ab_big (ab_mul h.1 k.1) hle
  have h2 := ab_big (ab_mul h.2.1 k.2.1) hle
  have h3 := ab_big (ab_mul h.2.2 k.2.2) hle
  unfold bigP at h1 h2 h3
  clear h k hAB hle
  go_enter Try.func50, Try.ntmps50
  go_wp2
  go_ret
  exact ⟨_, rfl, rfl, HV.out, (by repeat (first | with_reducible exact Below.refl _ _ | with_reducible assumption | with_reducible refine Below.drew ?_ | with_reducible refine below_drewN ?_ _ | (with_reducible refine Below.alloc ?_ ?_ _; rotate_left; (try simp) <;> omega) | (with_reducible refine Below.setCell ?_ ?_ _; rotate_left; (try simp) <;> omega))), by simp⟩
end Go.Proofs.Ytkjceegmmhnajaa
