/- The reference's formed (fn 85). Printed by gen_n2.py. -/
import Derived.Test.YtkfeagokmcakgaaGreatDoorG17
import Derived.Test.YtkfeagokmcakgaaGreatDoorG61

set_option linter.unusedVariables false
set_option linter.unusedSimpArgs false

namespace Go.Proofs.YtkfeagokmcakgaaGreatDoor
open Go.RowKit

structure NmK (s : ByteArray) (b : Bool) : Prop where
  run : ∀ V, Calls Tryz.prog 97 #[.string s] V (BoolEnd b V)
theorem NmK.go {s : ByteArray} {b : Bool} (h : NmK s b) (V : World) : Calls Tryz.prog 97 #[.string s] V (BoolEnd b V) := h.run V
theorem size_nil (y : ByteArray) (h : y.size = 0) : (y.toList == ([] : List UInt8)) = true := by
  rw [ByteArray.toList_eq]
  have : y.data.toList.length = 0 := by rw [Array.length_toList]; exact h
  rw [List.eq_nil_of_length_eq_zero this]; rfl
theorem size_cons (y : ByteArray) (h : ¬ y.size = 0) : (y.toList == ([] : List UInt8)) = false := by
  rw [ByteArray.toList_eq]
  cases hl : y.data.toList with
  | nil => exact absurd (by have : y.data.toList.length = y.size := by rw [Array.length_toList]; rfl
                            rw [← this, hl]; rfl) h
  | cons a b => rfl
set_option maxHeartbeats 1000000 in
set_option maxRecDepth 100000 in
theorem rformed_any (r : Rul) (w : World) (hx : r.x.size ≤ 100) (hy : r.y.size ≤ 100) : Calls Tryz.prog 85 #[r.agg] w (ShEnd (frm r) w) := by
  obtain ⟨id, kn, kd, x, y, of⟩ := r
  have hxs : x.size ≤ 100 := hx
  have hys : y.size ≤ 100 := hy
  clear hx hy
  have HB : Hid (frm ⟨id, kn, kd, x, y, of⟩ = (decide (1 ≤ id) && decide (id ≤ 1000000) && decide (0 ≤ kn) && decide (kn ≤ 100000) && shpB ⟨id, kn, kd, x, y, of⟩)) := rfl
  show Calls Tryz.prog 85 #[.agg #[.int .i64 id, .int .i64 kn, .int .u8 kd, .string x, .string y, .int .i64 of]] w _
  by_cases h1 : 1 ≤ id
  case neg =>
    have R : Hid (frm ⟨id, kn, kd, x, y, of⟩ = false) := by show _ = _; rw [HB.out]; simp [h1]
    have g1 : id < 1 := by omega
    clear HB
    go_enter Tryz.func85, Tryz.ntmps85
    go_wp2_with (first | (go_at_call 97; refine (NmK.go (by assumption) _).mono ?_; rintro e u ⟨rfl, rfl⟩))
    go_ret
    exact sh_ret R.out.symm (by exact (by repeat (first | with_reducible exact Below.refl _ _ | with_reducible assumption | with_reducible refine Below.drew ?_ | with_reducible refine below_drewN ?_ _ | (with_reducible refine Below.alloc ?_ ?_ _; rotate_left; (try simp) <;> omega) | (with_reducible refine Below.setCell ?_ ?_ _; rotate_left; (try simp) <;> omega))))
  have g1 : ¬ id < 1 := by omega
  by_cases h2 : id ≤ 1000000
  case neg =>
    have R : Hid (frm ⟨id, kn, kd, x, y, of⟩ = false) := by show _ = _; rw [HB.out]; simp [h2]
    have g2 : (1000000 : Int) < id := by omega
    clear HB
    go_enter Tryz.func85, Tryz.ntmps85
    go_wp2_with (first | (go_at_call 97; refine (NmK.go (by assumption) _).mono ?_; rintro e u ⟨rfl, rfl⟩))
    go_ret
    exact sh_ret R.out.symm (by exact (by repeat (first | with_reducible exact Below.refl _ _ | with_reducible assumption | with_reducible refine Below.drew ?_ | with_reducible refine below_drewN ?_ _ | (with_reducible refine Below.alloc ?_ ?_ _; rotate_left; (try simp) <;> omega) | (with_reducible refine Below.setCell ?_ ?_ _; rotate_left; (try simp) <;> omega))))
  have g2 : ¬ (1000000 : Int) < id := by omega
  by_cases h3 : 0 ≤ kn
  case neg =>
    have R : Hid (frm ⟨id, kn, kd, x, y, of⟩ = false) := by show _ = _; rw [HB.out]; simp [h3]
    have g3 : kn < 0 := by omega
    clear HB
    go_enter Tryz.func85, Tryz.ntmps85
    go_wp2_with (first | (go_at_call 97; refine (NmK.go (by assumption) _).mono ?_; rintro e u ⟨rfl, rfl⟩))
    go_ret
    exact sh_ret R.out.symm (by exact (by repeat (first | with_reducible exact Below.refl _ _ | with_reducible assumption | with_reducible refine Below.drew ?_ | with_reducible refine below_drewN ?_ _ | (with_reducible refine Below.alloc ?_ ?_ _; rotate_left; (try simp) <;> omega) | (with_reducible refine Below.setCell ?_ ?_ _; rotate_left; (try simp) <;> omega))))
  have g3 : ¬ kn < 0 := by omega
  by_cases h4 : kn ≤ 100000
  case neg =>
    have R : Hid (frm ⟨id, kn, kd, x, y, of⟩ = false) := by show _ = _; rw [HB.out]; simp [h4]
    have g4 : (100000 : Int) < kn := by omega
    clear HB
    go_enter Tryz.func85, Tryz.ntmps85
    go_wp2_with (first | (go_at_call 97; refine (NmK.go (by assumption) _).mono ?_; rintro e u ⟨rfl, rfl⟩))
    go_ret
    exact sh_ret R.out.symm (by exact (by repeat (first | with_reducible exact Below.refl _ _ | with_reducible assumption | with_reducible refine Below.drew ?_ | with_reducible refine below_drewN ?_ _ | (with_reducible refine Below.alloc ?_ ?_ _; rotate_left; (try simp) <;> omega) | (with_reducible refine Below.setCell ?_ ?_ _; rotate_left; (try simp) <;> omega))))
  have g4 : ¬ (100000 : Int) < kn := by omega
  have HB : Hid (frm ⟨id, kn, kd, x, y, of⟩ = shpB ⟨id, kn, kd, x, y, of⟩) := by show _ = _; rw [HB.out]; simp [h1, h2, h3, h4]
  clear h1 h2 h3 h4
  by_cases hk : 1 ≤ kd ∧ kd ≤ 6
  case neg =>
    have R : Hid (frm ⟨id, kn, kd, x, y, of⟩ = false) := by show _ = _; rw [HB.out]; exact shpB_0 _ hk
    have nx : NmK x (nameB x) := ⟨fun V => rName_any x V hxs⟩
    have ny : NmK y (nameB y) := ⟨fun V => rName_any y V hys⟩
    have k1 : (kd == 1) = false := by rw [beq_eq_false_iff_ne]; omega
    have k2 : (kd == 2) = false := by rw [beq_eq_false_iff_ne]; omega
    have k3 : (kd == 3) = false := by rw [beq_eq_false_iff_ne]; omega
    have k4 : (kd == 4) = false := by rw [beq_eq_false_iff_ne]; omega
    have k5 : (kd == 5) = false := by rw [beq_eq_false_iff_ne]; omega
    have k6 : (kd == 6) = false := by rw [beq_eq_false_iff_ne]; omega
    clear HB hk
    go_enter Tryz.func85, Tryz.ntmps85
    go_wp2_with (first | (go_at_call 97; refine (NmK.go (by assumption) _).mono ?_; rintro e u ⟨rfl, rfl⟩))
    go_ret
    exact sh_ret R.out.symm (by exact (by repeat (first | with_reducible exact Below.refl _ _ | with_reducible assumption | with_reducible refine Below.drew ?_ | with_reducible refine below_drewN ?_ _ | (with_reducible refine Below.alloc ?_ ?_ _; rotate_left; (try simp) <;> omega) | (with_reducible refine Below.setCell ?_ ?_ _; rotate_left; (try simp) <;> omega))))
  have hk6 : kd = 1 ∨ kd = 2 ∨ kd = 3 ∨ kd = 4 ∨ kd = 5 ∨ kd = 6 := by omega
  clear hk
  rcases hk6 with rfl | rfl | rfl | rfl | rfl | rfl
  · have HB : Hid (frm ⟨id, kn, 1, x, y, of⟩ = shp1 ⟨id, kn, 1, x, y, of⟩) := by show _ = _; rw [HB.out]; exact shpB_1 _ (.inl rfl)
    have ny : NmK y (nameB y) := ⟨fun V => rName_any y V hys⟩
    cases hx : nameB x
    · have R : Hid (frm ⟨id, kn, 1, x, y, of⟩ = false) := by show _ = _; rw [HB.out]; simp [shp1, hx]
      have nx : NmK x false := ⟨fun V => by have h := rName_any x V hxs; rw [hx] at h; exact h⟩
      clear HB hx
      go_enter Tryz.func85, Tryz.ntmps85
      go_wp2_with (first | (go_at_call 97; refine (NmK.go (by assumption) _).mono ?_; rintro e u ⟨rfl, rfl⟩))
      go_ret
      exact sh_ret R.out.symm (by exact (by repeat (first | with_reducible exact Below.refl _ _ | with_reducible assumption | with_reducible refine Below.drew ?_ | with_reducible refine below_drewN ?_ _ | (with_reducible refine Below.alloc ?_ ?_ _; rotate_left; (try simp) <;> omega) | (with_reducible refine Below.setCell ?_ ?_ _; rotate_left; (try simp) <;> omega))))
    · have nx : NmK x true := ⟨fun V => by have h := rName_any x V hxs; rw [hx] at h; exact h⟩
      by_cases hye : y.size = 0
      case neg =>
        have R : Hid (frm ⟨id, kn, 1, x, y, of⟩ = false) := by show _ = _; rw [HB.out]; simp [shp1, hx, hye]
        have gye : (y.toList == ([] : List UInt8)) = false := size_cons y hye
        clear HB
        go_enter Tryz.func85, Tryz.ntmps85
        go_wp2_with (first | (go_at_call 97; refine (NmK.go (by assumption) _).mono ?_; rintro e u ⟨rfl, rfl⟩))
        go_ret
        exact sh_ret R.out.symm (by exact (by repeat (first | with_reducible exact Below.refl _ _ | with_reducible assumption | with_reducible refine Below.drew ?_ | with_reducible refine below_drewN ?_ _ | (with_reducible refine Below.alloc ?_ ?_ _; rotate_left; (try simp) <;> omega) | (with_reducible refine Below.setCell ?_ ?_ _; rotate_left; (try simp) <;> omega))))
      have gye : (y.toList == ([] : List UInt8)) = true := size_nil y hye
      by_cases hof : of = 0
      case neg =>
        have R : Hid (frm ⟨id, kn, 1, x, y, of⟩ = false) := by show _ = _; rw [HB.out]; simp [shp1, hx, hye, hof]
        have gof : (of == 0) = false := by rw [beq_eq_false_iff_ne]; exact hof
        clear HB
        go_enter Tryz.func85, Tryz.ntmps85
        go_wp2_with (first | (go_at_call 97; refine (NmK.go (by assumption) _).mono ?_; rintro e u ⟨rfl, rfl⟩))
        go_ret
        exact sh_ret R.out.symm (by exact (by repeat (first | with_reducible exact Below.refl _ _ | with_reducible assumption | with_reducible refine Below.drew ?_ | with_reducible refine below_drewN ?_ _ | (with_reducible refine Below.alloc ?_ ?_ _; rotate_left; (try simp) <;> omega) | (with_reducible refine Below.setCell ?_ ?_ _; rotate_left; (try simp) <;> omega))))
      have gof : (of == 0) = true := by rw [beq_iff_eq]; exact hof
      have R : Hid (frm ⟨id, kn, 1, x, y, of⟩ = true) := by show _ = _; rw [HB.out]; simp [shp1, hx, hye, hof]
      clear HB
      go_enter Tryz.func85, Tryz.ntmps85
      go_wp2_with (first | (go_at_call 97; refine (NmK.go (by assumption) _).mono ?_; rintro e u ⟨rfl, rfl⟩))
      go_ret
      exact sh_ret R.out.symm (by exact (by repeat (first | with_reducible exact Below.refl _ _ | with_reducible assumption | with_reducible refine Below.drew ?_ | with_reducible refine below_drewN ?_ _ | (with_reducible refine Below.alloc ?_ ?_ _; rotate_left; (try simp) <;> omega) | (with_reducible refine Below.setCell ?_ ?_ _; rotate_left; (try simp) <;> omega))))
  · have HB : Hid (frm ⟨id, kn, 2, x, y, of⟩ = shp1 ⟨id, kn, 2, x, y, of⟩) := by show _ = _; rw [HB.out]; exact shpB_1 _ (.inr rfl)
    have ny : NmK y (nameB y) := ⟨fun V => rName_any y V hys⟩
    cases hx : nameB x
    · have R : Hid (frm ⟨id, kn, 2, x, y, of⟩ = false) := by show _ = _; rw [HB.out]; simp [shp1, hx]
      have nx : NmK x false := ⟨fun V => by have h := rName_any x V hxs; rw [hx] at h; exact h⟩
      clear HB hx
      go_enter Tryz.func85, Tryz.ntmps85
      go_wp2_with (first | (go_at_call 97; refine (NmK.go (by assumption) _).mono ?_; rintro e u ⟨rfl, rfl⟩))
      go_ret
      exact sh_ret R.out.symm (by exact (by repeat (first | with_reducible exact Below.refl _ _ | with_reducible assumption | with_reducible refine Below.drew ?_ | with_reducible refine below_drewN ?_ _ | (with_reducible refine Below.alloc ?_ ?_ _; rotate_left; (try simp) <;> omega) | (with_reducible refine Below.setCell ?_ ?_ _; rotate_left; (try simp) <;> omega))))
    · have nx : NmK x true := ⟨fun V => by have h := rName_any x V hxs; rw [hx] at h; exact h⟩
      by_cases hye : y.size = 0
      case neg =>
        have R : Hid (frm ⟨id, kn, 2, x, y, of⟩ = false) := by show _ = _; rw [HB.out]; simp [shp1, hx, hye]
        have gye : (y.toList == ([] : List UInt8)) = false := size_cons y hye
        clear HB
        go_enter Tryz.func85, Tryz.ntmps85
        go_wp2_with (first | (go_at_call 97; refine (NmK.go (by assumption) _).mono ?_; rintro e u ⟨rfl, rfl⟩))
        go_ret
        exact sh_ret R.out.symm (by exact (by repeat (first | with_reducible exact Below.refl _ _ | with_reducible assumption | with_reducible refine Below.drew ?_ | with_reducible refine below_drewN ?_ _ | (with_reducible refine Below.alloc ?_ ?_ _; rotate_left; (try simp) <;> omega) | (with_reducible refine Below.setCell ?_ ?_ _; rotate_left; (try simp) <;> omega))))
      have gye : (y.toList == ([] : List UInt8)) = true := size_nil y hye
      by_cases hof : of = 0
      case neg =>
        have R : Hid (frm ⟨id, kn, 2, x, y, of⟩ = false) := by show _ = _; rw [HB.out]; simp [shp1, hx, hye, hof]
        have gof : (of == 0) = false := by rw [beq_eq_false_iff_ne]; exact hof
        clear HB
        go_enter Tryz.func85, Tryz.ntmps85
        go_wp2_with (first | (go_at_call 97; refine (NmK.go (by assumption) _).mono ?_; rintro e u ⟨rfl, rfl⟩))
        go_ret
        exact sh_ret R.out.symm (by exact (by repeat (first | with_reducible exact Below.refl _ _ | with_reducible assumption | with_reducible refine Below.drew ?_ | with_reducible refine below_drewN ?_ _ | (with_reducible refine Below.alloc ?_ ?_ _; rotate_left; (try simp) <;> omega) | (with_reducible refine Below.setCell ?_ ?_ _; rotate_left; (try simp) <;> omega))))
      have gof : (of == 0) = true := by rw [beq_iff_eq]; exact hof
      have R : Hid (frm ⟨id, kn, 2, x, y, of⟩ = true) := by show _ = _; rw [HB.out]; simp [shp1, hx, hye, hof]
      clear HB
      go_enter Tryz.func85, Tryz.ntmps85
      go_wp2_with (first | (go_at_call 97; refine (NmK.go (by assumption) _).mono ?_; rintro e u ⟨rfl, rfl⟩))
      go_ret
      exact sh_ret R.out.symm (by exact (by repeat (first | with_reducible exact Below.refl _ _ | with_reducible assumption | with_reducible refine Below.drew ?_ | with_reducible refine below_drewN ?_ _ | (with_reducible refine Below.alloc ?_ ?_ _; rotate_left; (try simp) <;> omega) | (with_reducible refine Below.setCell ?_ ?_ _; rotate_left; (try simp) <;> omega))))
  · have HB : Hid (frm ⟨id, kn, 3, x, y, of⟩ = shp2 ⟨id, kn, 3, x, y, of⟩) := by show _ = _; rw [HB.out]; exact shpB_3 _ (.inl rfl)
    cases hx : nameB x
    · have R : Hid (frm ⟨id, kn, 3, x, y, of⟩ = false) := by show _ = _; rw [HB.out]; simp [shp2, hx]
      have nx : NmK x false := ⟨fun V => by have h := rName_any x V hxs; rw [hx] at h; exact h⟩
      have ny : NmK y (nameB y) := ⟨fun V => rName_any y V hys⟩
      clear HB hx
      go_enter Tryz.func85, Tryz.ntmps85
      go_wp2_with (first | (go_at_call 97; refine (NmK.go (by assumption) _).mono ?_; rintro e u ⟨rfl, rfl⟩))
      go_ret
      exact sh_ret R.out.symm (by exact (by repeat (first | with_reducible exact Below.refl _ _ | with_reducible assumption | with_reducible refine Below.drew ?_ | with_reducible refine below_drewN ?_ _ | (with_reducible refine Below.alloc ?_ ?_ _; rotate_left; (try simp) <;> omega) | (with_reducible refine Below.setCell ?_ ?_ _; rotate_left; (try simp) <;> omega))))
    · have nx : NmK x true := ⟨fun V => by have h := rName_any x V hxs; rw [hx] at h; exact h⟩
      cases hy : nameB y
      · have R : Hid (frm ⟨id, kn, 3, x, y, of⟩ = false) := by show _ = _; rw [HB.out]; simp [shp2, hx, hy]
        have ny : NmK y false := ⟨fun V => by have h := rName_any y V hys; rw [hy] at h; exact h⟩
        clear HB hy
        go_enter Tryz.func85, Tryz.ntmps85
        go_wp2_with (first | (go_at_call 97; refine (NmK.go (by assumption) _).mono ?_; rintro e u ⟨rfl, rfl⟩))
        go_ret
        exact sh_ret R.out.symm (by exact (by repeat (first | with_reducible exact Below.refl _ _ | with_reducible assumption | with_reducible refine Below.drew ?_ | with_reducible refine below_drewN ?_ _ | (with_reducible refine Below.alloc ?_ ?_ _; rotate_left; (try simp) <;> omega) | (with_reducible refine Below.setCell ?_ ?_ _; rotate_left; (try simp) <;> omega))))
      · have ny : NmK y true := ⟨fun V => by have h := rName_any y V hys; rw [hy] at h; exact h⟩
        by_cases hof : of = 0
        case neg =>
          have R : Hid (frm ⟨id, kn, 3, x, y, of⟩ = false) := by show _ = _; rw [HB.out]; simp [shp2, hx, hy, hof]
          have gof : (of == 0) = false := by rw [beq_eq_false_iff_ne]; exact hof
          clear HB
          go_enter Tryz.func85, Tryz.ntmps85
          go_wp2_with (first | (go_at_call 97; refine (NmK.go (by assumption) _).mono ?_; rintro e u ⟨rfl, rfl⟩))
          go_ret
          exact sh_ret R.out.symm (by exact (by repeat (first | with_reducible exact Below.refl _ _ | with_reducible assumption | with_reducible refine Below.drew ?_ | with_reducible refine below_drewN ?_ _ | (with_reducible refine Below.alloc ?_ ?_ _; rotate_left; (try simp) <;> omega) | (with_reducible refine Below.setCell ?_ ?_ _; rotate_left; (try simp) <;> omega))))
        have gof : (of == 0) = true := by rw [beq_iff_eq]; exact hof
        have R : Hid (frm ⟨id, kn, 3, x, y, of⟩ = true) := by show _ = _; rw [HB.out]; simp [shp2, hx, hy, hof]
        clear HB
        go_enter Tryz.func85, Tryz.ntmps85
        go_wp2_with (first | (go_at_call 97; refine (NmK.go (by assumption) _).mono ?_; rintro e u ⟨rfl, rfl⟩))
        go_ret
        exact sh_ret R.out.symm (by exact (by repeat (first | with_reducible exact Below.refl _ _ | with_reducible assumption | with_reducible refine Below.drew ?_ | with_reducible refine below_drewN ?_ _ | (with_reducible refine Below.alloc ?_ ?_ _; rotate_left; (try simp) <;> omega) | (with_reducible refine Below.setCell ?_ ?_ _; rotate_left; (try simp) <;> omega))))
  · have HB : Hid (frm ⟨id, kn, 4, x, y, of⟩ = shp2 ⟨id, kn, 4, x, y, of⟩) := by show _ = _; rw [HB.out]; exact shpB_3 _ (.inr rfl)
    cases hx : nameB x
    · have R : Hid (frm ⟨id, kn, 4, x, y, of⟩ = false) := by show _ = _; rw [HB.out]; simp [shp2, hx]
      have nx : NmK x false := ⟨fun V => by have h := rName_any x V hxs; rw [hx] at h; exact h⟩
      have ny : NmK y (nameB y) := ⟨fun V => rName_any y V hys⟩
      clear HB hx
      go_enter Tryz.func85, Tryz.ntmps85
      go_wp2_with (first | (go_at_call 97; refine (NmK.go (by assumption) _).mono ?_; rintro e u ⟨rfl, rfl⟩))
      go_ret
      exact sh_ret R.out.symm (by exact (by repeat (first | with_reducible exact Below.refl _ _ | with_reducible assumption | with_reducible refine Below.drew ?_ | with_reducible refine below_drewN ?_ _ | (with_reducible refine Below.alloc ?_ ?_ _; rotate_left; (try simp) <;> omega) | (with_reducible refine Below.setCell ?_ ?_ _; rotate_left; (try simp) <;> omega))))
    · have nx : NmK x true := ⟨fun V => by have h := rName_any x V hxs; rw [hx] at h; exact h⟩
      cases hy : nameB y
      · have R : Hid (frm ⟨id, kn, 4, x, y, of⟩ = false) := by show _ = _; rw [HB.out]; simp [shp2, hx, hy]
        have ny : NmK y false := ⟨fun V => by have h := rName_any y V hys; rw [hy] at h; exact h⟩
        clear HB hy
        go_enter Tryz.func85, Tryz.ntmps85
        go_wp2_with (first | (go_at_call 97; refine (NmK.go (by assumption) _).mono ?_; rintro e u ⟨rfl, rfl⟩))
        go_ret
        exact sh_ret R.out.symm (by exact (by repeat (first | with_reducible exact Below.refl _ _ | with_reducible assumption | with_reducible refine Below.drew ?_ | with_reducible refine below_drewN ?_ _ | (with_reducible refine Below.alloc ?_ ?_ _; rotate_left; (try simp) <;> omega) | (with_reducible refine Below.setCell ?_ ?_ _; rotate_left; (try simp) <;> omega))))
      · have ny : NmK y true := ⟨fun V => by have h := rName_any y V hys; rw [hy] at h; exact h⟩
        by_cases hof : of = 0
        case neg =>
          have R : Hid (frm ⟨id, kn, 4, x, y, of⟩ = false) := by show _ = _; rw [HB.out]; simp [shp2, hx, hy, hof]
          have gof : (of == 0) = false := by rw [beq_eq_false_iff_ne]; exact hof
          clear HB
          go_enter Tryz.func85, Tryz.ntmps85
          go_wp2_with (first | (go_at_call 97; refine (NmK.go (by assumption) _).mono ?_; rintro e u ⟨rfl, rfl⟩))
          go_ret
          exact sh_ret R.out.symm (by exact (by repeat (first | with_reducible exact Below.refl _ _ | with_reducible assumption | with_reducible refine Below.drew ?_ | with_reducible refine below_drewN ?_ _ | (with_reducible refine Below.alloc ?_ ?_ _; rotate_left; (try simp) <;> omega) | (with_reducible refine Below.setCell ?_ ?_ _; rotate_left; (try simp) <;> omega))))
        have gof : (of == 0) = true := by rw [beq_iff_eq]; exact hof
        have R : Hid (frm ⟨id, kn, 4, x, y, of⟩ = true) := by show _ = _; rw [HB.out]; simp [shp2, hx, hy, hof]
        clear HB
        go_enter Tryz.func85, Tryz.ntmps85
        go_wp2_with (first | (go_at_call 97; refine (NmK.go (by assumption) _).mono ?_; rintro e u ⟨rfl, rfl⟩))
        go_ret
        exact sh_ret R.out.symm (by exact (by repeat (first | with_reducible exact Below.refl _ _ | with_reducible assumption | with_reducible refine Below.drew ?_ | with_reducible refine below_drewN ?_ _ | (with_reducible refine Below.alloc ?_ ?_ _; rotate_left; (try simp) <;> omega) | (with_reducible refine Below.setCell ?_ ?_ _; rotate_left; (try simp) <;> omega))))
  · have HB : Hid (frm ⟨id, kn, 5, x, y, of⟩ = shp5 ⟨id, kn, 5, x, y, of⟩) := by show _ = _; rw [HB.out]; exact shpB_5 _ rfl
    cases hx : nameB x
    · have R : Hid (frm ⟨id, kn, 5, x, y, of⟩ = false) := by show _ = _; rw [HB.out]; simp [shp5, shp2, hx]
      have nx : NmK x false := ⟨fun V => by have h := rName_any x V hxs; rw [hx] at h; exact h⟩
      have ny : NmK y (nameB y) := ⟨fun V => rName_any y V hys⟩
      clear HB hx
      go_enter Tryz.func85, Tryz.ntmps85
      go_wp2_with (first | (go_at_call 97; refine (NmK.go (by assumption) _).mono ?_; rintro e u ⟨rfl, rfl⟩))
      go_ret
      exact sh_ret R.out.symm (by exact (by repeat (first | with_reducible exact Below.refl _ _ | with_reducible assumption | with_reducible refine Below.drew ?_ | with_reducible refine below_drewN ?_ _ | (with_reducible refine Below.alloc ?_ ?_ _; rotate_left; (try simp) <;> omega) | (with_reducible refine Below.setCell ?_ ?_ _; rotate_left; (try simp) <;> omega))))
    · have nx : NmK x true := ⟨fun V => by have h := rName_any x V hxs; rw [hx] at h; exact h⟩
      cases hy : nameB y
      · have R : Hid (frm ⟨id, kn, 5, x, y, of⟩ = false) := by show _ = _; rw [HB.out]; simp [shp5, shp2, hx, hy]
        have ny : NmK y false := ⟨fun V => by have h := rName_any y V hys; rw [hy] at h; exact h⟩
        clear HB hy
        go_enter Tryz.func85, Tryz.ntmps85
        go_wp2_with (first | (go_at_call 97; refine (NmK.go (by assumption) _).mono ?_; rintro e u ⟨rfl, rfl⟩))
        go_ret
        exact sh_ret R.out.symm (by exact (by repeat (first | with_reducible exact Below.refl _ _ | with_reducible assumption | with_reducible refine Below.drew ?_ | with_reducible refine below_drewN ?_ _ | (with_reducible refine Below.alloc ?_ ?_ _; rotate_left; (try simp) <;> omega) | (with_reducible refine Below.setCell ?_ ?_ _; rotate_left; (try simp) <;> omega))))
      · have ny : NmK y true := ⟨fun V => by have h := rName_any y V hys; rw [hy] at h; exact h⟩
        by_cases hne : ¬ x = y
        case neg =>
          have ene : x = y := Classical.not_not.1 hne
          have R : Hid (frm ⟨id, kn, 5, x, y, of⟩ = false) := by show _ = _; rw [HB.out]; simp [shp5, shp2, hx, hy, ene]
          have gne : (x.toList == y.toList) = true := by rw [str_eq]; exact decide_eq_true (Classical.not_not.1 hne)
          clear HB ene
          go_enter Tryz.func85, Tryz.ntmps85
          go_wp2_with (first | (go_at_call 97; refine (NmK.go (by assumption) _).mono ?_; rintro e u ⟨rfl, rfl⟩))
          go_ret
          exact sh_ret R.out.symm (by exact (by repeat (first | with_reducible exact Below.refl _ _ | with_reducible assumption | with_reducible refine Below.drew ?_ | with_reducible refine below_drewN ?_ _ | (with_reducible refine Below.alloc ?_ ?_ _; rotate_left; (try simp) <;> omega) | (with_reducible refine Below.setCell ?_ ?_ _; rotate_left; (try simp) <;> omega))))
        have gne : (x.toList == y.toList) = false := by rw [str_eq]; exact decide_eq_false hne
        by_cases hof : of = 0
        case neg =>
          have R : Hid (frm ⟨id, kn, 5, x, y, of⟩ = false) := by show _ = _; rw [HB.out]; simp [shp5, shp2, hx, hy, hne, hof]
          have gof : (of == 0) = false := by rw [beq_eq_false_iff_ne]; exact hof
          clear HB
          go_enter Tryz.func85, Tryz.ntmps85
          go_wp2_with (first | (go_at_call 97; refine (NmK.go (by assumption) _).mono ?_; rintro e u ⟨rfl, rfl⟩))
          go_ret
          exact sh_ret R.out.symm (by exact (by repeat (first | with_reducible exact Below.refl _ _ | with_reducible assumption | with_reducible refine Below.drew ?_ | with_reducible refine below_drewN ?_ _ | (with_reducible refine Below.alloc ?_ ?_ _; rotate_left; (try simp) <;> omega) | (with_reducible refine Below.setCell ?_ ?_ _; rotate_left; (try simp) <;> omega))))
        have gof : (of == 0) = true := by rw [beq_iff_eq]; exact hof
        have R : Hid (frm ⟨id, kn, 5, x, y, of⟩ = true) := by show _ = _; rw [HB.out]; simp [shp5, shp2, hx, hy, hne, hof]
        clear HB
        go_enter Tryz.func85, Tryz.ntmps85
        go_wp2_with (first | (go_at_call 97; refine (NmK.go (by assumption) _).mono ?_; rintro e u ⟨rfl, rfl⟩))
        go_ret
        exact sh_ret R.out.symm (by exact (by repeat (first | with_reducible exact Below.refl _ _ | with_reducible assumption | with_reducible refine Below.drew ?_ | with_reducible refine below_drewN ?_ _ | (with_reducible refine Below.alloc ?_ ?_ _; rotate_left; (try simp) <;> omega) | (with_reducible refine Below.setCell ?_ ?_ _; rotate_left; (try simp) <;> omega))))
  · have HB : Hid (frm ⟨id, kn, 6, x, y, of⟩ = shp6 ⟨id, kn, 6, x, y, of⟩) := by show _ = _; rw [HB.out]; exact shpB_6 _ rfl
    have nx : NmK x (nameB x) := ⟨fun V => rName_any x V hxs⟩
    have ny : NmK y (nameB y) := ⟨fun V => rName_any y V hys⟩
    by_cases hxe : x.size = 0
    case neg =>
      have R : Hid (frm ⟨id, kn, 6, x, y, of⟩ = false) := by show _ = _; rw [HB.out]; simp [shp6, idB, hxe]
      have gxe : (x.toList == ([] : List UInt8)) = false := size_cons x hxe
      clear HB
      go_enter Tryz.func85, Tryz.ntmps85
      go_wp2_with (first | (go_at_call 97; refine (NmK.go (by assumption) _).mono ?_; rintro e u ⟨rfl, rfl⟩))
      go_ret
      exact sh_ret R.out.symm (by exact (by repeat (first | with_reducible exact Below.refl _ _ | with_reducible assumption | with_reducible refine Below.drew ?_ | with_reducible refine below_drewN ?_ _ | (with_reducible refine Below.alloc ?_ ?_ _; rotate_left; (try simp) <;> omega) | (with_reducible refine Below.setCell ?_ ?_ _; rotate_left; (try simp) <;> omega))))
    have gxe : (x.toList == ([] : List UInt8)) = true := size_nil x hxe
    by_cases hye : y.size = 0
    case neg =>
      have R : Hid (frm ⟨id, kn, 6, x, y, of⟩ = false) := by show _ = _; rw [HB.out]; simp [shp6, idB, hxe, hye]
      have gye : (y.toList == ([] : List UInt8)) = false := size_cons y hye
      clear HB
      go_enter Tryz.func85, Tryz.ntmps85
      go_wp2_with (first | (go_at_call 97; refine (NmK.go (by assumption) _).mono ?_; rintro e u ⟨rfl, rfl⟩))
      go_ret
      exact sh_ret R.out.symm (by exact (by repeat (first | with_reducible exact Below.refl _ _ | with_reducible assumption | with_reducible refine Below.drew ?_ | with_reducible refine below_drewN ?_ _ | (with_reducible refine Below.alloc ?_ ?_ _; rotate_left; (try simp) <;> omega) | (with_reducible refine Below.setCell ?_ ?_ _; rotate_left; (try simp) <;> omega))))
    have gye : (y.toList == ([] : List UInt8)) = true := size_nil y hye
    by_cases ho1 : 1 ≤ of
    case neg =>
      have R : Hid (frm ⟨id, kn, 6, x, y, of⟩ = false) := by show _ = _; rw [HB.out]; simp [shp6, idB, hxe, hye, ho1]
      have go1 : ¬ (1 : Int) ≤ of := ho1
      clear HB
      go_enter Tryz.func85, Tryz.ntmps85
      go_wp2_with (first | (go_at_call 97; refine (NmK.go (by assumption) _).mono ?_; rintro e u ⟨rfl, rfl⟩))
      go_ret
      exact sh_ret R.out.symm (by exact (by repeat (first | with_reducible exact Below.refl _ _ | with_reducible assumption | with_reducible refine Below.drew ?_ | with_reducible refine below_drewN ?_ _ | (with_reducible refine Below.alloc ?_ ?_ _; rotate_left; (try simp) <;> omega) | (with_reducible refine Below.setCell ?_ ?_ _; rotate_left; (try simp) <;> omega))))
    by_cases ho2 : of ≤ 1000000
    case neg =>
      have R : Hid (frm ⟨id, kn, 6, x, y, of⟩ = false) := by show _ = _; rw [HB.out]; simp [shp6, idB, hxe, hye, ho1, ho2]
      have go2 : ¬ of ≤ 1000000 := ho2
      clear HB
      go_enter Tryz.func85, Tryz.ntmps85
      go_wp2_with (first | (go_at_call 97; refine (NmK.go (by assumption) _).mono ?_; rintro e u ⟨rfl, rfl⟩))
      go_ret
      exact sh_ret R.out.symm (by exact (by repeat (first | with_reducible exact Below.refl _ _ | with_reducible assumption | with_reducible refine Below.drew ?_ | with_reducible refine below_drewN ?_ _ | (with_reducible refine Below.alloc ?_ ?_ _; rotate_left; (try simp) <;> omega) | (with_reducible refine Below.setCell ?_ ?_ _; rotate_left; (try simp) <;> omega))))
    by_cases ho3 : ¬ of = id
    case neg =>
      have eo3 : of = id := Classical.not_not.1 ho3
      have R : Hid (frm ⟨id, kn, 6, x, y, of⟩ = false) := by show _ = _; rw [HB.out]; simp [shp6, idB, hxe, hye, ho1, ho2, eo3]
      have go3 : (of != id) = false := by rw [bne_eq_false_iff_eq]; exact Classical.not_not.1 ho3
      clear HB eo3
      go_enter Tryz.func85, Tryz.ntmps85
      go_wp2_with (first | (go_at_call 97; refine (NmK.go (by assumption) _).mono ?_; rintro e u ⟨rfl, rfl⟩))
      go_ret
      exact sh_ret R.out.symm (by exact (by repeat (first | with_reducible exact Below.refl _ _ | with_reducible assumption | with_reducible refine Below.drew ?_ | with_reducible refine below_drewN ?_ _ | (with_reducible refine Below.alloc ?_ ?_ _; rotate_left; (try simp) <;> omega) | (with_reducible refine Below.setCell ?_ ?_ _; rotate_left; (try simp) <;> omega))))
    have go3 : (of != id) = true := by rw [bne_iff_ne]; exact ho3
    have R : Hid (frm ⟨id, kn, 6, x, y, of⟩ = true) := by show _ = _; rw [HB.out]; simp [shp6, idB, hxe, hye, ho1, ho2, ho3]
    clear HB
    go_enter Tryz.func85, Tryz.ntmps85
    go_wp2_with (first | (go_at_call 97; refine (NmK.go (by assumption) _).mono ?_; rintro e u ⟨rfl, rfl⟩))
    go_ret
    exact sh_ret R.out.symm (by exact (by repeat (first | with_reducible exact Below.refl _ _ | with_reducible assumption | with_reducible refine Below.drew ?_ | with_reducible refine below_drewN ?_ _ | (with_reducible refine Below.alloc ?_ ?_ _; rotate_left; (try simp) <;> omega) | (with_reducible refine Below.setCell ?_ ?_ _; rotate_left; (try simp) <;> omega))))
end Go.Proofs.YtkfeagokmcakgaaGreatDoor

namespace Go.Proofs.YtkfeagokmcakgaaGreatDoor
open Go.RowKit Go.Maps

def nm1 (r : Rul) (s : ByteArray) : Bool := decide (¬ r.kind = 6) && frm r && (decide (s = r.x) || (decide (s = r.y) && decide (¬ r.y.size = 0)))
def nmB (l : List Rul) (s : ByteArray) : Bool := l.any fun r => nm1 r s
theorem nmB_nil : setG (nmB []) = mNone := rfl
theorem nmB_snoc (l : List Rul) (r : Rul) (s : ByteArray) : nmB (l ++ [r]) s = (nmB l s || nm1 r s) := by unfold nmB; simp
theorem setG_no {l : List Rul} {r : Rul} (h : ∀ s, nm1 r s = false) : setG (nmB (l ++ [r])) = setG (nmB l) := by
  funext s; unfold setG; rw [nmB_snoc, h, Bool.or_false]
theorem setG_one {l : List Rul} {r : Rul} (h : ∀ s, nm1 r s = decide (s = r.x)) : setG (nmB (l ++ [r])) = mPut (setG (nmB l)) r.x true := by
  funext s
  unfold mPut setG
  rw [nmB_snoc, h]
  by_cases e : s = r.x
  · rw [decide_eq_true e, if_pos e, Bool.or_true, if_pos rfl]
  · rw [decide_eq_false e, if_neg e, Bool.or_false]
theorem setG_two {l : List Rul} {r : Rul} (h : ∀ s, nm1 r s = (decide (s = r.x) || decide (s = r.y))) : setG (nmB (l ++ [r])) = mPut (mPut (setG (nmB l)) r.x true) r.y true := by
  funext s
  unfold mPut setG
  rw [nmB_snoc, h]
  by_cases e : s = r.y
  · rw [decide_eq_true e, if_pos e, Bool.or_true, Bool.or_true, if_pos rfl]
  · rw [decide_eq_false e, if_neg e, Bool.or_false]
    by_cases e2 : s = r.x
    · rw [decide_eq_true e2, if_pos e2, Bool.or_true, if_pos rfl]
    · rw [decide_eq_false e2, if_neg e2, Bool.or_false]
def NmdE (l : List Rul) (w : World) (e : Ending) (w' : World) : Prop := ∃ b n, e = .returned (.map (some b)) ∧ w.heap.size ≤ b ∧ n ≤ 2 * l.length ∧ MapG mSB w' b n (setG (nmB l)) ∧ Below w.heap.size w w'
set_option maxHeartbeats 2500000 in
set_option maxRecDepth 100000 in
theorem namesOf_any (l : List Rul) (A : Option Addr) (c : Nat) (w : World) (hl : Lies w w.heap.size A (rulesC l)) (hok : RulOK l) (hm : l.length ≤ 1000) : Calls Tryz.prog 107 #[.slice A l.length c] w (NmdE l w) := by
  have HL : Hid (∀ V, Below w.heap.size w V → Lies V V.heap.size A (rulesC l)) := fun V hV => lies_on hl hV
  have HOK := Lib.hid hok
  have HM0 : Hid (MapG mSB (w.alloc (.map #[] 0)) w.heap.size 0 (setG (nmB (l.take 0)))) := MapG.made mSB w
  have HB0 : Hid (Below w.heap.size w (w.alloc (.map #[] 0))) := (Below.refl _ _).alloc (Nat.le_refl _) _
  have HEN : Hid (l.take l.length = l) := List.take_length
  clear hl hok
  have hmm := @run_makeMap Tryz.prog
  go_enter Tryz.func107, Tryz.ntmps107
  go_wp2
  go_loopw [9] (fun y wr => ∃ (k m : Nat), k ≤ l.length ∧ y = .int .i64 k ∧ m ≤ 2 * k ∧ Hid (MapG mSB wr w.heap.size m (setG (nmB (l.take k)))) ∧ Hid (Below w.heap.size w wr)) (fun y _ => l.length - (intOf y).toNat)
  case atStart => exact ⟨0, 0, by omega, rfl, by omega, HM0, HB0⟩
  case round =>
    clear HM0 HB0
    obtain ⟨k, m, hk, rfl, hmk, hM, hB⟩ := hrel
    have hbs := hB.out.size
    by_cases hlt : k < l.length
    · obtain ⟨ad, e, _, c0, c1, c2, c3, c4, c5⟩ := rule_at (HL.out wr hB.out) hlt
      subst e
      have hok := HOK.out _ (List.getElem_mem hlt)
      have HTK : Hid (l.take (k + 1) = l.take k ++ [l[k]]) := (List.take_append_getElem hlt).symm
      generalize l[k] = r at *
      have HFM := Lib.hid (fun V => formed_any r V hok.1 hok.2.1)
      have hrx := hok.1
      have hry := hok.2.1
      clear hok
      obtain ⟨rr, hrr⟩ : ∃ rr, rr = r := ⟨_, rfl⟩
      have HRX : Hid (rr.x = r.x ∧ rr.y = r.y ∧ rr.kind = r.kind ∧ frm rr = frm r) := by show _ ∧ _; rw [hrr]; exact ⟨rfl, rfl, rfl, rfl⟩
      rw [← hrr] at HTK
      generalize hfr : frm r = fr at *
      clear hfr hrr
      obtain ⟨id, kn, kd, x, y, of⟩ := r
      dsimp only at *
      go_upto_region 5 with fail
      have HK0 : Hid (Bk (wr.alloc (.cells #[.int .i64 id, .int .i64 kn, .int .u8 kd, .string x, .string y, .int .i64 of] 50)) wr.heap.size 50 #[.int .i64 id, .int .i64 kn, .int .u8 kd, .string x, .string y, .int .i64 of]) := Bk.new _ _ _
      have HM1 := Lib.hid (hM.out.alloc (.cells #[.int .i64 id, .int .i64 kn, .int .u8 kd, .string x, .string y, .int .i64 of] 50))
      have HB1 := Lib.hid (hB.out.alloc hbs (.cells #[.int .i64 id, .int .i64 kn, .int .u8 kd, .string x, .string y, .int .i64 of] 50))
      have hwb : w.heap.size < wr.heap.size := hM.out.lt
      clear hM hB c0 c1 c2 c3 c4 c5
      generalize wr.alloc (.cells #[.int .i64 id, .int .i64 kn, .int .u8 kd, .string x, .string y, .int .i64 of] 50) = wv at *
      have d0 := HK0.out.cell 0 rfl
      have d1 := HK0.out.cell 1 rfl
      have d2 := HK0.out.cell 2 rfl
      have d3 := HK0.out.cell 3 rfl
      have d4 := HK0.out.cell 4 rfl
      have d5 := HK0.out.cell 5 rfl
      by_cases h6 : kd = 6
      · have HN : Hid (setG (nmB (l.take (k + 1))) = setG (nmB (l.take k))) := by
          show _ = _
          rw [HTK.out]
          exact setG_no fun s => by unfold nm1; rw [HRX.out.2.2.1, decide_eq_false (fun h => h h6)]; rfl
        have e6 : (kd == 6) = true := by rw [h6]; rfl
        clear h6 HTK HRX
        go_wp2_with fail
        go_roundw
        case rel => exact ⟨k + 1, m, by omega, by go_num, by omega, by rw [HN.out]; exact HM1, HB1⟩
        case measure => simp [intOf]; omega
      have e6 : (kd == 6) = false := by rw [beq_eq_false_iff_ne]; exact h6
      have HV := Lib.hid (HFM.out wv)
      cases fr with
      | false =>
        have HN : Hid (setG (nmB (l.take (k + 1))) = setG (nmB (l.take k))) := by
          show _ = _
          rw [HTK.out]
          exact setG_no fun s => by unfold nm1; rw [HRX.out.2.2.2, Bool.and_false]; rfl
        clear h6 HTK HRX HFM
        go_wp2_with (go_at_call 81; refine HV.out.mono ?_; rintro e w5 ⟨rfl, hb5⟩)
        have HM5 := Lib.hid (HM1.out.below hb5 HM1.out.lt)
        have HB5 := Lib.hid (HB1.out.trans (hb5.mono HB1.out.size))
        go_roundw
        case rel => exact ⟨k + 1, m, by omega, by go_num, by omega, by rw [HN.out]; exact HM5, HB5⟩
        case measure => simp [intOf]; omega
      | true =>
        go_upto_region 6 with (go_at_call 81; refine HV.out.mono ?_; rintro e w5 ⟨rfl, hb5⟩)
        have HM5 := Lib.hid (HM1.out.below hb5 HM1.out.lt)
        have HB5 := Lib.hid (HB1.out.trans (hb5.mono HB1.out.size))
        have HK5 := Lib.hid (HK0.out.below hb5 HK0.out.lt)
        clear d0 d1 d2 d3 d4 d5 HM1 HB1 HK0 HV HFM hb5
        obtain ⟨w6, hr6, HM6, hg6⟩ := HM5.out.putS (by omega) hrx true
        have hHB6 := HB5.out.grown hg6 HB5.out.size (fun j hj => by cases hj; exact Nat.le_refl _)
        have hHK6 := HK5.out.grown hg6 (by intro e; have := Option.some.inj e; omega)
        have HB6 := Lib.hid hHB6
        have HK6 := Lib.hid hHK6
        replace HM6 := Lib.hid HM6
        have d3 := HK5.out.cell 3 rfl
        have f4 := hHK6.cell 4 rfl
        have f3 := hHK6.cell 3 rfl
        have HN1 : Hid (∀ s, nm1 rr s = (decide (s = rr.x) || (decide (s = rr.y) && decide (¬ rr.y.size = 0)))) := fun s => by
          unfold nm1; rw [HRX.out.2.2.1, HRX.out.2.2.2, decide_eq_true h6]; rfl
        clear hg6 hHB6 hHK6 h6
        by_cases hy0 : y.size = 0
        · have E1 := size_nil y hy0
          have E2 : (y.toList != ([] : List UInt8)) = false := by rw [bne, E1]; rfl
          have HN : Hid (setG (nmB (l.take (k + 1))) = mPut (setG (nmB (l.take k))) x true) := by
            show _ = _
            rw [HTK.out, setG_one (fun s => by rw [HN1.out, HRX.out.2.1, show decide (¬ y.size = 0) = false from decide_eq_false (fun h => h hy0), Bool.and_false, Bool.or_false]), HRX.out.1]
          clear hy0 HTK HRX HN1
          go_wp2_with fail
          go_roundw
          case rel => exact ⟨k + 1, m + 1, by omega, by go_num, by omega, by rw [HN.out]; exact HM6, HB6⟩
          case measure => simp [intOf]; omega
        · have E1 := size_cons y hy0
          have E2 : (y.toList != ([] : List UInt8)) = true := by rw [bne, E1]; rfl
          have HN : Hid (setG (nmB (l.take (k + 1))) = mPut (mPut (setG (nmB (l.take k))) x true) y true) := by
            show _ = _
            rw [HTK.out, setG_two (fun s => by rw [HN1.out, HRX.out.2.1, show decide (¬ y.size = 0) = true from decide_eq_true hy0, Bool.and_true]), HRX.out.1, HRX.out.2.1]
          obtain ⟨w7, hr7, HM7, hg7⟩ := HM6.out.putS (by omega) hry true
          have HB7 := Lib.hid (HB6.out.grown hg7 HB6.out.size (fun j hj => by cases hj; exact Nat.le_refl _))
          replace HM7 := Lib.hid HM7
          clear hg7 hy0 HTK HRX HN1
          go_wp2_with fail
          go_roundw
          case rel => exact ⟨k + 1, m + 1 + 1, by omega, by go_num, by omega, by rw [HN.out]; exact HM7, HB7⟩
          case measure => simp [intOf]; omega
    · obtain rfl : k = l.length := by omega
      rw [HEN.out] at hM
      clear HL HOK
      go_wp2
      go_ret
      exact ⟨w.heap.size, m, rfl, Nat.le_refl _, hmk, hM.out, hB.out⟩
end Go.Proofs.YtkfeagokmcakgaaGreatDoor

namespace Go.Proofs.YtkfeagokmcakgaaGreatDoor
open Go.RowKit Go.Maps

theorem ranges_below {w w' : World} {b r n : Nat} {D : DataW Unit} {left : Lit → Bool} {cnt B : Nat} (h : w.ranges Tryz.prog 9 (plainElem Tryz.prog 4) b r n D left cnt) (hb : Below B w w') (h1 : b < B) (h2 : r < B) : w'.ranges Tryz.prog 9 (plainElem Tryz.prog 4) b r n D left cnt := by
  obtain ⟨es, clock, since, seen, c0, hb0, F, hs, hD, hr, rest⟩ := h
  exact ⟨es, clock, since, seen, c0, (hb.block b h1).trans hb0, F, hs, hD, (hb.block r h2).trans hr, rest⟩
theorem nmB_le {l : List Rul} (hok : RulOK l) {s : ByteArray} (h : nmB l s = true) : s.size ≤ 100 := by
  unfold nmB at h
  obtain ⟨r, hr, h1⟩ := List.any_eq_true.1 h
  have h2 := hok r hr
  unfold nm1 at h1
  simp only [Bool.and_eq_true, Bool.or_eq_true, decide_eq_true_eq] at h1
  rcases h1.2 with e | e
  · rw [e]; exact h2.1
  · rw [e.1]; exact h2.2.1
theorem setG_some (p : ByteArray → Bool) (s : ByteArray) : (setG p s).isSome = p s := by unfold setG; cases p s <;> rfl
/-- the colours whose state is contrary -/
def ctr (d : List Rul) (s : ByteArray) : Bool := nmB d s && decide (stt d s = 3)
set_option maxHeartbeats 2500000 in
set_option maxRecDepth 100000 in
theorem contrary_any (l : List Rul) (A : Option Addr) (c : Nat) (known : Int) (w : World) (hl : Lies w w.heap.size A (rulesC l)) (hok : RulOK l) (hm : l.length ≤ 1000) :
    Calls Tryz.prog 58 #[.agg #[.slice A l.length c], .int .i64 known] w (GpE (ctr (cntL l known)) w) := by
  have HC : Hid (∀ W, Below w.heap.size w W → Calls Tryz.prog 38 #[.agg #[.slice A l.length c], .int .i64 known] W (SlE (cntL l known) W)) := fun W hb => counting_any l A c known W ((hl.below hb (Nat.le_refl _)).more hb.size) hok hm
  have HOK := Lib.hid (hok.sub (cnt_sub l known))
  have HLN : Hid ((cntL l known).length ≤ 1000) := Nat.le_trans (cnt_len l known) hm
  have HSZ := Lib.hid (fun s (h : nmB (cntL l known) s = true) => nmB_le HOK.out h)
  clear hl hok
  generalize cntL l known = d at *
  have HNA := Lib.hid (fun A' c' W hL => namesOf_any d A' c' W hL HOK.out HLN.out)
  go_enter Tryz.func58, Tryz.ntmps58
  go_upto_region 3 with (first | (go_at_call 38; refine (HC.out _ (by repeat (first | with_reducible exact Below.refl _ _ | with_reducible assumption | with_reducible refine Below.drew ?_ | with_reducible refine below_drewN ?_ _ | (with_reducible refine Below.alloc ?_ ?_ _; rotate_left; (try simp) <;> omega) | (with_reducible refine Below.setCell ?_ ?_ _; rotate_left; (try simp) <;> omega)))).mono ?_; rintro e w1 ⟨A1, c1, rfl, hl1, _, hb1⟩; have hB1 : Below w.heap.size w w1 := Below.trans (by repeat (first | with_reducible exact Below.refl _ _ | with_reducible assumption | with_reducible refine Below.drew ?_ | with_reducible refine below_drewN ?_ _ | (with_reducible refine Below.alloc ?_ ?_ _; rotate_left; (try simp) <;> omega) | (with_reducible refine Below.setCell ?_ ?_ _; rotate_left; (try simp) <;> omega))) (hb1.mono (by simp))) | (go_at_call 107; refine (HNA.out _ _ _ hl1).mono ?_; rintro e w2 ⟨b, n, rfl, hwb, hn2, hm2, hb2⟩; have hB2 : Below w.heap.size w w2 := hB1.trans (hb2.mono hB1.size)))
  have hb2' := hb2
  have HST : Hid (∀ V x, Below w1.heap.size w1 V → x.size ≤ 100 → Calls Tryz.prog 75 #[.slice A1 d.length c1, .string x] V (U8End (stt d x) V)) := fun V x hV hx => state_any d A1 c1 x V (lies_on hl1 hV) HOK.out HLN.out hx
  have hwb2 : w.heap.size ≤ b := Nat.le_trans hB1.size hwb
  obtain ⟨D, hown, hrd⟩ := hm2.out
  have HRD := Lib.hid hrd
  have hbl := hown.lt
  have hn1 : n ≤ 2000 := by have := HLN.out; omega
  have hown : w2.ownsMap Tryz.prog 9 (plainElem Tryz.prog 4) b n D := hown
  clear hm2 hrd HC HNA hl1 hb1 hb2 hn2
  go_wp2_with (first
    | (at_range; refine wpList_range_own _ rfl _ 114 rfl 9 4 (string_keyed Tryz.underlying9) Tryz.underlying114 _ b n _ rfl hown ?_; intro w0 hrg0 hg0 hs0)
    | go_in)
  go_frame
  have hb0 : Below w1.heap.size w1 w0 := hb2'.grown hg0 hb2'.size (fun j hj => by cases hj)
  go_loopw [7] (fun _ wr => ∃ (left : Lit → Bool) (cnt : Nat) (D : DataW Unit) (g : ByteArray → Option Bool), Hid (wr.ranges Tryz.prog 9 (plainElem Tryz.prog 4) b w2.heap.size n D left cnt) ∧ Hid (Reads mSB D g) ∧ Hid (Pm (setG (nmB d)) (fun s => decide (stt d s = 3)) left g) ∧ Hid (Below w1.heap.size w1 wr)) (fun _ wr => wr.rangeLeft b w2.heap.size)
  case atStart => exact ⟨_, _, D, _, hrg0, HRD, Pm.start HRD.out, hb0⟩
  case round =>
    clear hrg0 hg0 hs0 hb0 HRD hown
    obtain ⟨left, cnt, D', g, hrg, hrd, hpm, hbw⟩ := hrel
    go_wp2_with (first | (at_next; refine next_sb rfl _ rfl b w2.heap.size n _ _ _ rfl hrg.out ?_ ?_ ?_) | go_in)
    · intro hl0
      have hMG : MapG mSB wr b n g := ⟨⟨D', hrg.out.owns, hrd.out⟩⟩
      have HSO := Lib.hid (sorted_any g b n wr hMG (by omega))
      have HFI := Lib.hid (fun s hs => hpm.out.fin hl0 s hs)
      clear hrg hrd hpm hl0 hMG
      go_wp2_with (go_at_call 89; refine HSO.out.mono ?_; rintro e w5 ⟨R, A3, c3, hR, hRl, rfl, hL3, hc3, hb5⟩)
      go_ret
      exact ⟨R, A3, c3, hR.congr (fun s hs => by rw [HFI.out s hs, setG_some]; rfl), hRl, rfl, hL3, hc3, hB1.trans ((hbw.out.trans (hb5.mono hbw.out.size)).mono hB1.size)⟩
    · intro x w3 cnt1 hx hlx hat hrg1 hlt hg1 hs1 hen
      have hin := hpm.out.more x hx hlx
      have hsx := HSZ.out x (by rw [setG_some] at hin; exact hin)
      have hP2 := Lib.hid (hpm.out.step hx hlx)
      have has : Maps.has D' (.string (byB x)) = true := (hrd.out x hx).2.trans ((hpm.out.sm x hx).trans hin)
      have hRP := Lib.hid (fun c => hrd.out.put hrg.out.owns.isMap (x := x) c)
      have HAS := Lib.hid has
      have hb3 := Lib.hid (hbw.out.grown hg1 hbw.out.size (fun j hj => by cases hj; omega))
      have HCC := Lib.hid (HST.out w3 x hb3.out hsx)
      have HRG := Lib.hid hrg1
      have HME := Lib.hid (show wr.rangeLeft b w2.heap.size = cnt from hrg.out.left_eq)
      have hz3 := hrg1.lt
      have hzb := hrg1.owns.lt
      have HX := Lib.hid hx
      clear hg1 hs1 hlx hat hrg1 hrg hbw hrd hpm hin has hsx hx
      by_cases h3 : stt d x = 3
      · have e3 : (((stt d x : Nat) : Int) == 3) = true := by rw [h3]; rfl
        have HF : Hid (decide (stt d x = 3) = true) := decide_eq_true h3
        rw [HF.out] at hP2
        clear h3
        generalize stt d x = q3 at *
        go_wp2_with (first | (go_at_call 75; refine HCC.out.mono ?_; rintro e w4 ⟨rfl, hb4⟩; have HR4 := Lib.hid (ranges_below HRG.out hb4 hzb hz3); have HB4 := Lib.hid (hb3.out.trans (hb4.mono hb3.out.size))) | (at_mapUpdate; refine wpList_put_sb rfl _ _ _ rfl b w2.heap.size n D' _ cnt1 rfl HR4.out (by omega) x true HX.out rfl rfl HAS.out ?_; intro w5 hrg5 htu5) | go_in)
        have HB5 := Lib.hid (HB4.out.grown htu5.grown HB4.out.size (fun j hj => by cases hj; omega))
        have HRG5 := Lib.hid hrg5
        clear hrg5 htu5
        (first | go_frame | (simp only [Act.put]))
        go_roundw
        case rel => exact ⟨_, cnt1, _, _, HRG5, Lib.hid (hRP.out true), hP2, HB5⟩
        case measure => rw [HRG5.out.left_eq, HME.out]; exact hlt
      · have e3 : (((stt d x : Nat) : Int) == 3) = false := by rw [beq_eq_false_iff_ne]; omega
        have HF : Hid (decide (stt d x = 3) = false) := decide_eq_false h3
        rw [HF.out] at hP2
        clear h3
        generalize stt d x = q3 at *
        go_wp2_with (first | (go_at_call 75; refine HCC.out.mono ?_; rintro e w4 ⟨rfl, hb4⟩; have HR4 := Lib.hid (ranges_below HRG.out hb4 hzb hz3); have HB4 := Lib.hid (hb3.out.trans (hb4.mono hb3.out.size))) | (at_mapUpdate; refine wpList_put_sb rfl _ _ _ rfl b w2.heap.size n D' _ cnt1 rfl HR4.out (by omega) x false HX.out rfl rfl HAS.out ?_; intro w5 hrg5 htu5) | go_in)
        have HB5 := Lib.hid (HB4.out.grown htu5.grown HB4.out.size (fun j hj => by cases hj; omega))
        have HRG5 := Lib.hid hrg5
        clear hrg5 htu5
        (first | go_frame | (simp only [Act.put]))
        go_roundw
        case rel => exact ⟨_, cnt1, _, _, HRG5, Lib.hid (hRP.out false), hP2, HB5⟩
        case measure => rw [HRG5.out.left_eq, HME.out]; exact hlt
    · intro x w3 cnt1 hx hlx hat hrg1 hlt hg1 hs1 hen
      have hin := hpm.out.more x hx hlx
      have hsx := HSZ.out x (by rw [setG_some] at hin; exact hin)
      have hP2 := Lib.hid (hpm.out.step hx hlx)
      have has : Maps.has D' (.string (byB x)) = true := (hrd.out x hx).2.trans ((hpm.out.sm x hx).trans hin)
      have hRP := Lib.hid (fun c => hrd.out.put hrg.out.owns.isMap (x := x) c)
      have HAS := Lib.hid has
      have hb3 := Lib.hid (hbw.out.grown hg1 hbw.out.size (fun j hj => by cases hj; omega))
      have HCC := Lib.hid (HST.out w3 x hb3.out hsx)
      have HRG := Lib.hid hrg1
      have HME := Lib.hid (show wr.rangeLeft b w2.heap.size = cnt from hrg.out.left_eq)
      have hz3 := hrg1.lt
      have hzb := hrg1.owns.lt
      have HX := Lib.hid hx
      clear hg1 hs1 hlx hat hrg1 hrg hbw hrd hpm hin has hsx hx
      by_cases h3 : stt d x = 3
      · have e3 : (((stt d x : Nat) : Int) == 3) = true := by rw [h3]; rfl
        have HF : Hid (decide (stt d x = 3) = true) := decide_eq_true h3
        rw [HF.out] at hP2
        clear h3
        generalize stt d x = q3 at *
        go_wp2_with (first | (go_at_call 75; refine HCC.out.mono ?_; rintro e w4 ⟨rfl, hb4⟩; have HR4 := Lib.hid (ranges_below HRG.out hb4 hzb hz3); have HB4 := Lib.hid (hb3.out.trans (hb4.mono hb3.out.size))) | (at_mapUpdate; refine wpList_put_sb rfl _ _ _ rfl b w2.heap.size n D' _ cnt1 rfl HR4.out (by omega) x true HX.out rfl rfl HAS.out ?_; intro w5 hrg5 htu5) | go_in)
        have HB5 := Lib.hid (HB4.out.grown htu5.grown HB4.out.size (fun j hj => by cases hj; omega))
        have HRG5 := Lib.hid hrg5
        clear hrg5 htu5
        (first | go_frame | (simp only [Act.put]))
        go_roundw
        case rel => exact ⟨_, cnt1, _, _, HRG5, Lib.hid (hRP.out true), hP2, HB5⟩
        case measure => rw [HRG5.out.left_eq, HME.out]; exact hlt
      · have e3 : (((stt d x : Nat) : Int) == 3) = false := by rw [beq_eq_false_iff_ne]; omega
        have HF : Hid (decide (stt d x = 3) = false) := decide_eq_false h3
        rw [HF.out] at hP2
        clear h3
        generalize stt d x = q3 at *
        go_wp2_with (first | (go_at_call 75; refine HCC.out.mono ?_; rintro e w4 ⟨rfl, hb4⟩; have HR4 := Lib.hid (ranges_below HRG.out hb4 hzb hz3); have HB4 := Lib.hid (hb3.out.trans (hb4.mono hb3.out.size))) | (at_mapUpdate; refine wpList_put_sb rfl _ _ _ rfl b w2.heap.size n D' _ cnt1 rfl HR4.out (by omega) x false HX.out rfl rfl HAS.out ?_; intro w5 hrg5 htu5) | go_in)
        have HB5 := Lib.hid (HB4.out.grown htu5.grown HB4.out.size (fun j hj => by cases hj; omega))
        have HRG5 := Lib.hid hrg5
        clear hrg5 htu5
        (first | go_frame | (simp only [Act.put]))
        go_roundw
        case rel => exact ⟨_, cnt1, _, _, HRG5, Lib.hid (hRP.out false), hP2, HB5⟩
        case measure => rw [HRG5.out.left_eq, HME.out]; exact hlt
end Go.Proofs.YtkfeagokmcakgaaGreatDoor
