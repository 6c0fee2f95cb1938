/- The law PigmentMixes, walked. -/
import Derived.Test.YtkjceegmmhnajaaN2
import Derived.Test.YtkjceegmmhnajaaA3h
import Derived.Test.YtkjceegmmhnajaaA4a
namespace Go.Proofs.Ytkjceegmmhnajaa
open Go.RowKit

theorem fine_facts {l : List Tn} {n : Int} (h : fineB l n = true) : (l.length : Int) ≤ n ∧ ∀ t ∈ l, t.name.size ≤ 60 := by
  unfold fineB at h
  rw [Bool.and_eq_true, List.all_eq_true] at h
  exact ⟨by simpa using h.1, fun t ht => by simpa using h.2 t ht⟩

set_option maxRecDepth 100000 in
set_option maxHeartbeats 1000000 in
theorem lawMixes_any (l : List Tn) (ps : List Pt) (At A : Option Addr) (ct c : Nat) (w : World) (hlt : Lies w w.heap.size At (tintsC l)) (hl : Lies w w.heap.size A (partsC ps)) (hm : ps.length ≤ maxLen) (hm2 : l.length ≤ maxLen)
    (hs : ∀ t ∈ l, t.name.size ≤ maxLen) :
    Calls Try.prog 3 #[.slice At l.length ct, .agg #[.slice A ps.length c]] w fun e w' => e = .returned (.bool true) ∧ Below w.heap.size w w' := by
  have HF := Lib.hid (fun W (hb : Below w.heap.size w W) => fine_any l At ct 14 W ((hlt.below hb (Nat.le_refl _)).more hb.size) hm2 hs)
  have HM := Lib.hid mixed_any
  unfold maxLen at hm hm2
  by_cases h0 : fineB l 14 = true
  · obtain ⟨g1, g2⟩ := fine_facts h0
    by_cases h1 : ps.length ≤ 6
    · have hs2 : ∀ t ∈ l, t.name.size ≤ 100 := fun t ht => by have := g2 t ht; omega
      have HX := Lib.hid (fun W (hb : Below w.heap.size w W) => mix_any l ps At A ct c W ((hlt.below hb (Nat.le_refl _)).more hb.size) ((hl.below hb (Nat.le_refl _)).more hb.size) (by omega) (by omega) hs2)
      have HY := Lib.hid (fun W (hb : Below w.heap.size w W) => rmix_any l ps At A ct c W ((hlt.below hb (Nat.le_refl _)).more hb.size) ((hl.below hb (Nat.le_refl _)).more hb.size) (by omega) (by omega) hs2)
      have HZ := Lib.hid (fun W (hb : Below w.heap.size w W) => prices_any l ps At A ct c W ((hlt.below hb (Nat.le_refl _)).more hb.size) ((hl.below hb (Nat.le_refl _)).more hb.size) (by omega) (by omega) hs2)
      have HW := Lib.hid (fun W (hb : Below w.heap.size w W) => rprices_any l ps At A ct c W ((hlt.below hb (Nat.le_refl _)).more hb.size) ((hl.below hb (Nat.le_refl _)).more hb.size) (by omega) (by omega) hs2)
      have H0 := Lib.hid h0
      clear hlt hl hs hs2 g2 h0
      generalize mixE l ps = n at *
      generalize mixF l ps = F at *
      generalize priF l ps = q at *
      have e1 : (n == n) = true := by simp
      have E30 : ∀ w, (Op.equalIn 10000 30 (.agg #[.int .i64 (F 0).1, .int .i64 (F 0).2, .int .i64 (F 1).1, .int .i64 (F 1).2, .int .i64 (F 2).1, .int .i64 (F 2).2]) (.agg #[.int .i64 (F 0).1, .int .i64 (F 0).2, .int .i64 (F 1).1, .int .i64 (F 1).2, .int .i64 (F 2).1, .int .i64 (F 2).2])).run Try.prog w = .ok true w := fun w => by rw [eq30]; simp
      have E29 : ∀ w, (Op.equalIn 10000 29 (.agg #[.int .i64 q.1, .int .i64 q.2]) (.agg #[.int .i64 q.1, .int .i64 q.2])).run Try.prog w = .ok true w := fun w => by rw [eq29 9998]; simp
      go_enter Try.func3, Try.ntmps3
      go_wp2_with (go_at_call 9; refine (HF.out _ (by exact (by repeat (first | with_reducible exact Below.refl _ _ | with_reducible assumption | with_reducible refine Below.drew ?_ | with_reducible refine below_drewN ?_ _ | (with_reducible refine Below.alloc ?_ ?_ _; rotate_left; (try simp) <;> omega) | (with_reducible refine Below.setCell ?_ ?_ _; rotate_left; (try simp) <;> omega))))).mono ?_; rintro e w1 ⟨rfl, rfl⟩; rw [H0.out])
      go_wp2_with fail
      refine (HX.out _ (by exact (by repeat (first | with_reducible exact Below.refl _ _ | with_reducible assumption | with_reducible refine Below.drew ?_ | with_reducible refine below_drewN ?_ _ | (with_reducible refine Below.alloc ?_ ?_ _; rotate_left; (try simp) <;> omega) | (with_reducible refine Below.setCell ?_ ?_ _; rotate_left; (try simp) <;> omega))))).mono ?_
      rintro e w1 ⟨rfl, hb1⟩
      have B1 : Below w.heap.size w w1 := (Below.trans (by repeat (first | with_reducible exact Below.refl _ _ | with_reducible assumption | with_reducible refine Below.drew ?_ | with_reducible refine below_drewN ?_ _ | (with_reducible refine Below.alloc ?_ ?_ _; rotate_left; (try simp) <;> omega) | (with_reducible refine Below.setCell ?_ ?_ _; rotate_left; (try simp) <;> omega))) (hb1.mono (by simp)))
      have k1 : Bk w1 w.heap.size 25 #[.slice A ps.length c] := (Bk.new _ _ _).below hb1 (by simp)
      have l1 := k1.lt
      have x1 := k1.cell 0 rfl
      go_wp2_with fail
      refine (HY.out _ (by exact (by repeat (first | with_reducible exact Below.refl _ _ | with_reducible assumption | with_reducible refine Below.drew ?_ | with_reducible refine below_drewN ?_ _ | (with_reducible refine Below.alloc ?_ ?_ _; rotate_left; (try simp) <;> omega) | (with_reducible refine Below.setCell ?_ ?_ _; rotate_left; (try simp) <;> omega))))).mono ?_
      rintro e w2 ⟨rfl, hb2⟩
      have B2 : Below w.heap.size w w2 := (Below.trans (by repeat (first | with_reducible exact Below.refl _ _ | with_reducible assumption | with_reducible refine Below.drew ?_ | with_reducible refine below_drewN ?_ _ | (with_reducible refine Below.alloc ?_ ?_ _; rotate_left; (try simp) <;> omega) | (with_reducible refine Below.setCell ?_ ?_ _; rotate_left; (try simp) <;> omega))) (hb2.mono (by simp; omega)))
      have k2 : Bk w2 w.heap.size 25 #[.slice A ps.length c] := (k1.alloc _).below hb2 (by simp; omega)
      have l2 := k2.lt
      have x2 := k2.cell 0 rfl
      have m2 : Bk w2 w1.heap.size 30 #[.int .i64 (F 0).1, .int .i64 (F 0).2, .int .i64 (F 1).1, .int .i64 (F 1).2, .int .i64 (F 2).1, .int .i64 (F 2).2] := (Bk.new w1 30 #[.int .i64 (F 0).1, .int .i64 (F 0).2, .int .i64 (F 1).1, .int .i64 (F 1).2, .int .i64 (F 2).1, .int .i64 (F 2).2]).below hb2 (by simp)
      have n2 := m2.lt
      go_wp2_with fail
      refine (HZ.out _ (by exact (by repeat (first | with_reducible exact Below.refl _ _ | with_reducible assumption | with_reducible refine Below.drew ?_ | with_reducible refine below_drewN ?_ _ | (with_reducible refine Below.alloc ?_ ?_ _; rotate_left; (try simp) <;> omega) | (with_reducible refine Below.setCell ?_ ?_ _; rotate_left; (try simp) <;> omega))))).mono ?_
      rintro e w3 ⟨rfl, hb3⟩
      have B3 : Below w.heap.size w w3 := (Below.trans (by repeat (first | with_reducible exact Below.refl _ _ | with_reducible assumption | with_reducible refine Below.drew ?_ | with_reducible refine below_drewN ?_ _ | (with_reducible refine Below.alloc ?_ ?_ _; rotate_left; (try simp) <;> omega) | (with_reducible refine Below.setCell ?_ ?_ _; rotate_left; (try simp) <;> omega))) (hb3.mono (by simp; omega)))
      have k3 : Bk w3 w.heap.size 25 #[.slice A ps.length c] := (k2.alloc _).below hb3 (by simp; omega)
      have l3 := k3.lt
      have x3 := k3.cell 0 rfl
      have m3 : Bk w3 w1.heap.size 30 #[.int .i64 (F 0).1, .int .i64 (F 0).2, .int .i64 (F 1).1, .int .i64 (F 1).2, .int .i64 (F 2).1, .int .i64 (F 2).2] := (m2.alloc _).below hb3 (by simp; omega)
      have n3 := m3.lt
      have o3 : Bk w3 w2.heap.size 30 #[.int .i64 (F 0).1, .int .i64 (F 0).2, .int .i64 (F 1).1, .int .i64 (F 1).2, .int .i64 (F 2).1, .int .i64 (F 2).2] := (Bk.new w2 30 #[.int .i64 (F 0).1, .int .i64 (F 0).2, .int .i64 (F 1).1, .int .i64 (F 1).2, .int .i64 (F 2).1, .int .i64 (F 2).2]).below hb3 (by simp)
      have r3 := o3.lt
      go_wp2_with fail
      refine (HW.out _ (by exact (by repeat (first | with_reducible exact Below.refl _ _ | with_reducible assumption | with_reducible refine Below.drew ?_ | with_reducible refine below_drewN ?_ _ | (with_reducible refine Below.alloc ?_ ?_ _; rotate_left; (try simp) <;> omega) | (with_reducible refine Below.setCell ?_ ?_ _; rotate_left; (try simp) <;> omega))))).mono ?_
      rintro e w4 ⟨rfl, hb4⟩
      have B4 : Below w.heap.size w w4 := (Below.trans (by repeat (first | with_reducible exact Below.refl _ _ | with_reducible assumption | with_reducible refine Below.drew ?_ | with_reducible refine below_drewN ?_ _ | (with_reducible refine Below.alloc ?_ ?_ _; rotate_left; (try simp) <;> omega) | (with_reducible refine Below.setCell ?_ ?_ _; rotate_left; (try simp) <;> omega))) (hb4.mono (by simp; omega)))
      have m4 : Bk w4 w1.heap.size 30 #[.int .i64 (F 0).1, .int .i64 (F 0).2, .int .i64 (F 1).1, .int .i64 (F 1).2, .int .i64 (F 2).1, .int .i64 (F 2).2] := (m3.alloc _).below hb4 (by simp; omega)
      have n4 := m4.lt
      have o4 : Bk w4 w2.heap.size 30 #[.int .i64 (F 0).1, .int .i64 (F 0).2, .int .i64 (F 1).1, .int .i64 (F 1).2, .int .i64 (F 2).1, .int .i64 (F 2).2] := (o3.alloc _).below hb4 (by simp; omega)
      have r4 := o4.lt
      have s4 : Bk w4 w3.heap.size 29 #[.int .i64 q.1, .int .i64 q.2] := (Bk.new w3 29 #[.int .i64 q.1, .int .i64 q.2]).below hb4 (by simp)
      have t4 := s4.lt
      go_wp2_with fail
      refine (HM.out _).mono ?_
      rintro e w5 ⟨rfl, hb5⟩
      have B5 : Below w.heap.size w w5 := (Below.trans (by repeat (first | with_reducible exact Below.refl _ _ | with_reducible assumption | with_reducible refine Below.drew ?_ | with_reducible refine below_drewN ?_ _ | (with_reducible refine Below.alloc ?_ ?_ _; rotate_left; (try simp) <;> omega) | (with_reducible refine Below.setCell ?_ ?_ _; rotate_left; (try simp) <;> omega))) (hb5.mono (by simp; omega)))
      have m5 : Bk w5 w1.heap.size 30 #[.int .i64 (F 0).1, .int .i64 (F 0).2, .int .i64 (F 1).1, .int .i64 (F 1).2, .int .i64 (F 2).1, .int .i64 (F 2).2] := (m4.alloc _).below hb5 (by simp; omega)
      have o5 : Bk w5 w2.heap.size 30 #[.int .i64 (F 0).1, .int .i64 (F 0).2, .int .i64 (F 1).1, .int .i64 (F 1).2, .int .i64 (F 2).1, .int .i64 (F 2).2] := (o4.alloc _).below hb5 (by simp; omega)
      have s5 : Bk w5 w3.heap.size 29 #[.int .i64 q.1, .int .i64 q.2] := (s4.alloc _).below hb5 (by simp; omega)
      have u5 : Bk w5 w4.heap.size 29 #[.int .i64 q.1, .int .i64 q.2] := (Bk.new w4 29 #[.int .i64 q.1, .int .i64 q.2]).below hb5 (by simp)
      have m10 := m5.cell 0 rfl
      have m11 := m5.cell 1 rfl
      have m12 := m5.cell 2 rfl
      have m13 := m5.cell 3 rfl
      have m14 := m5.cell 4 rfl
      have m15 := m5.cell 5 rfl
      have o10 := o5.cell 0 rfl
      have o11 := o5.cell 1 rfl
      have o12 := o5.cell 2 rfl
      have o13 := o5.cell 3 rfl
      have o14 := o5.cell 4 rfl
      have o15 := o5.cell 5 rfl
      have s10 := s5.cell 0 rfl
      have s11 := s5.cell 1 rfl
      have u10 := u5.cell 0 rfl
      have u11 := u5.cell 1 rfl
      go_wp2
      go_ret
      exact ⟨rfl, B5⟩
    · have H0 := Lib.hid h0
      clear hlt hl hs g2 h0
      go_enter Try.func3, Try.ntmps3
      go_wp2_with (first | (go_at_call 9; refine (HF.out _ (by exact (by repeat (first | with_reducible exact Below.refl _ _ | with_reducible assumption | with_reducible refine Below.drew ?_ | with_reducible refine below_drewN ?_ _ | (with_reducible refine Below.alloc ?_ ?_ _; rotate_left; (try simp) <;> omega) | (with_reducible refine Below.setCell ?_ ?_ _; rotate_left; (try simp) <;> omega))))).mono ?_; rintro e w1 ⟨rfl, rfl⟩; rw [H0.out]) | (go_at_call 10; refine (HM.out _).mono ?_; rintro e w1 ⟨rfl, hb⟩))
      go_ret
      exact ⟨rfl, Below.trans (by repeat (first | with_reducible exact Below.refl _ _ | with_reducible assumption | with_reducible refine Below.drew ?_ | with_reducible refine below_drewN ?_ _ | (with_reducible refine Below.alloc ?_ ?_ _; rotate_left; (try simp) <;> omega) | (with_reducible refine Below.setCell ?_ ?_ _; rotate_left; (try simp) <;> omega))) (hb.mono (by simp))⟩
  · have H0 := Lib.hid (show fineB l 14 = false by simpa using h0)
    clear hlt hl hs h0
    go_enter Try.func3, Try.ntmps3
    go_wp2_with (first | (go_at_call 9; refine (HF.out _ (by exact (by repeat (first | with_reducible exact Below.refl _ _ | with_reducible assumption | with_reducible refine Below.drew ?_ | with_reducible refine below_drewN ?_ _ | (with_reducible refine Below.alloc ?_ ?_ _; rotate_left; (try simp) <;> omega) | (with_reducible refine Below.setCell ?_ ?_ _; rotate_left; (try simp) <;> omega))))).mono ?_; rintro e w1 ⟨rfl, rfl⟩; rw [H0.out]) | (go_at_call 10; refine (HM.out _).mono ?_; rintro e w1 ⟨rfl, hb⟩))
    go_ret
    exact ⟨rfl, Below.trans (by repeat (first | with_reducible exact Below.refl _ _ | with_reducible assumption | with_reducible refine Below.drew ?_ | with_reducible refine below_drewN ?_ _ | (with_reducible refine Below.alloc ?_ ?_ _; rotate_left; (try simp) <;> omega) | (with_reducible refine Below.setCell ?_ ?_ _; rotate_left; (try simp) <;> omega))) (hb.mono (by simp))⟩
end Go.Proofs.Ytkjceegmmhnajaa
