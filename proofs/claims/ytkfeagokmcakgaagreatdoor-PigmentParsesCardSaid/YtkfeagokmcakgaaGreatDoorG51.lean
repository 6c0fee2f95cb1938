/- The reference's formed (fn 85). Printed by gen_n2.py. -/
import Derived.Test.YtkfeagokmcakgaaGreatDoorG07
import Derived.Test.YtkfeagokmcakgaaGreatDoorG41
import Derived.Test.YtkfeagokmcakgaaGreatDoorG50

set_option linter.unusedVariables false
set_option linter.unusedSimpArgs false

namespace Go.Proofs.YtkfeagokmcakgaaGreatDoor
open Go.RowKit

structure NmK (s : ByteArray) (b : Bool) : Prop where
  run : ∀ V, Calls Tryz.prog 97 #[.string s] V (BoolEnd b V)
theorem NmK.go {s : ByteArray} {b : Bool} (h : NmK s b) (V : World) : Calls Tryz.prog 97 #[.string s] V (BoolEnd b V) := h.run V
theorem size_nil (y : ByteArray) (h : y.size = 0) : (y.toList == ([] : List UInt8)) = true := by
  rw [ByteArray.toList_eq]
  have : y.data.toList.length = 0 := by rw [Array.length_toList]; exact h
  rw [List.eq_nil_of_length_eq_zero this]; rfl
theorem size_cons (y : ByteArray) (h : ¬ y.size = 0) : (y.toList == ([] : List UInt8)) = false := by
  rw [ByteArray.toList_eq]
  cases hl : y.data.toList with
  | nil => exact absurd (by have : y.data.toList.length = y.size := by rw [Array.length_toList]; rfl
                            rw [← this, hl]; rfl) h
  | cons a b => rfl
set_option maxHeartbeats 1000000 in
set_option maxRecDepth 100000 in
theorem rformed_any (r : Rul) (w : World) (hx : r.x.size ≤ 100) (hy : r.y.size ≤ 100) : Calls Tryz.prog 85 #[r.agg] w (ShEnd (frm r) w) := by
  obtain ⟨id, kn, kd, x, y, of⟩ := r
  have hxs : x.size ≤ 100 := hx
  have hys : y.size ≤ 100 := hy
  clear hx hy
  have HB : Hid (frm ⟨id, kn, kd, x, y, of⟩ = (decide (1 ≤ id) && decide (id ≤ 1000000) && decide (0 ≤ kn) && decide (kn ≤ 100000) && shpB ⟨id, kn, kd, x, y, of⟩)) := rfl
  show Calls Tryz.prog 85 #[.agg #[.int .i64 id, .int .i64 kn, .int .u8 kd, .string x, .string y, .int .i64 of]] w _
  by_cases h1 : 1 ≤ id
  case neg =>
    have R : Hid (frm ⟨id, kn, kd, x, y, of⟩ = false) := by show _ = _; rw [HB.out]; simp [h1]
    have g1 : id < 1 := by omega
    clear HB
    go_enter Tryz.func85, Tryz.ntmps85
    go_wp2_with (first | (go_at_call 97; refine (NmK.go (by assumption) _).mono ?_; rintro e u ⟨rfl, rfl⟩))
    go_ret
    exact sh_ret R.out.symm (by exact (by repeat (first | with_reducible exact Below.refl _ _ | with_reducible assumption | with_reducible refine Below.drew ?_ | with_reducible refine below_drewN ?_ _ | (with_reducible refine Below.alloc ?_ ?_ _; rotate_left; (try simp) <;> omega) | (with_reducible refine Below.setCell ?_ ?_ _; rotate_left; (try simp) <;> omega))))
  have g1 : ¬ id < 1 := by omega
  by_cases h2 : id ≤ 1000000
  case neg =>
    have R : Hid (frm ⟨id, kn, kd, x, y, of⟩ = false) := by show _ = _; rw [HB.out]; simp [h2]
    have g2 : (1000000 : Int) < id := by omega
    clear HB
    go_enter Tryz.func85, Tryz.ntmps85
    go_wp2_with (first | (go_at_call 97; refine (NmK.go (by assumption) _).mono ?_; rintro e u ⟨rfl, rfl⟩))
    go_ret
    exact sh_ret R.out.symm (by exact (by repeat (first | with_reducible exact Below.refl _ _ | with_reducible assumption | with_reducible refine Below.drew ?_ | with_reducible refine below_drewN ?_ _ | (with_reducible refine Below.alloc ?_ ?_ _; rotate_left; (try simp) <;> omega) | (with_reducible refine Below.setCell ?_ ?_ _; rotate_left; (try simp) <;> omega))))
  have g2 : ¬ (1000000 : Int) < id := by omega
  by_cases h3 : 0 ≤ kn
  case neg =>
    have R : Hid (frm ⟨id, kn, kd, x, y, of⟩ = false) := by show _ = _; rw [HB.out]; simp [h3]
    have g3 : kn < 0 := by omega
    clear HB
    go_enter Tryz.func85, Tryz.ntmps85
    go_wp2_with (first | (go_at_call 97; refine (NmK.go (by assumption) _).mono ?_; rintro e u ⟨rfl, rfl⟩))
    go_ret
    exact sh_ret R.out.symm (by exact (by repeat (first | with_reducible exact Below.refl _ _ | with_reducible assumption | with_reducible refine Below.drew ?_ | with_reducible refine below_drewN ?_ _ | (with_reducible refine Below.alloc ?_ ?_ _; rotate_left; (try simp) <;> omega) | (with_reducible refine Below.setCell ?_ ?_ _; rotate_left; (try simp) <;> omega))))
  have g3 : ¬ kn < 0 := by omega
  by_cases h4 : kn ≤ 100000
  case neg =>
    have R : Hid (frm ⟨id, kn, kd, x, y, of⟩ = false) := by show _ = _; rw [HB.out]; simp [h4]
    have g4 : (100000 : Int) < kn := by omega
    clear HB
    go_enter Tryz.func85, Tryz.ntmps85
    go_wp2_with (first | (go_at_call 97; refine (NmK.go (by assumption) _).mono ?_; rintro e u ⟨rfl, rfl⟩))
    go_ret
    exact sh_ret R.out.symm (by exact (by repeat (first | with_reducible exact Below.refl _ _ | with_reducible assumption | with_reducible refine Below.drew ?_ | with_reducible refine below_drewN ?_ _ | (with_reducible refine Below.alloc ?_ ?_ _; rotate_left; (try simp) <;> omega) | (with_reducible refine Below.setCell ?_ ?_ _; rotate_left; (try simp) <;> omega))))
  have g4 : ¬ (100000 : Int) < kn := by omega
  have HB : Hid (frm ⟨id, kn, kd, x, y, of⟩ = shpB ⟨id, kn, kd, x, y, of⟩) := by show _ = _; rw [HB.out]; simp [h1, h2, h3, h4]
  clear h1 h2 h3 h4
  by_cases hk : 1 ≤ kd ∧ kd ≤ 6
  case neg =>
    have R : Hid (frm ⟨id, kn, kd, x, y, of⟩ = false) := by show _ = _; rw [HB.out]; exact shpB_0 _ hk
    have nx : NmK x (nameB x) := ⟨fun V => rName_any x V hxs⟩
    have ny : NmK y (nameB y) := ⟨fun V => rName_any y V hys⟩
    have k1 : (kd == 1) = false := by rw [beq_eq_false_iff_ne]; omega
    have k2 : (kd == 2) = false := by rw [beq_eq_false_iff_ne]; omega
    have k3 : (kd == 3) = false := by rw [beq_eq_false_iff_ne]; omega
    have k4 : (kd == 4) = false := by rw [beq_eq_false_iff_ne]; omega
    have k5 : (kd == 5) = false := by rw [beq_eq_false_iff_ne]; omega
    have k6 : (kd == 6) = false := by rw [beq_eq_false_iff_ne]; omega
    clear HB hk
    go_enter Tryz.func85, Tryz.ntmps85
    go_wp2_with (first | (go_at_call 97; refine (NmK.go (by assumption) _).mono ?_; rintro e u ⟨rfl, rfl⟩))
    go_ret
    exact sh_ret R.out.symm (by exact (by repeat (first | with_reducible exact Below.refl _ _ | with_reducible assumption | with_reducible refine Below.drew ?_ | with_reducible refine below_drewN ?_ _ | (with_reducible refine Below.alloc ?_ ?_ _; rotate_left; (try simp) <;> omega) | (with_reducible refine Below.setCell ?_ ?_ _; rotate_left; (try simp) <;> omega))))
  have hk6 : kd = 1 ∨ kd = 2 ∨ kd = 3 ∨ kd = 4 ∨ kd = 5 ∨ kd = 6 := by omega
  clear hk
  rcases hk6 with rfl | rfl | rfl | rfl | rfl | rfl
  · have HB : Hid (frm ⟨id, kn, 1, x, y, of⟩ = shp1 ⟨id, kn, 1, x, y, of⟩) := by show _ = _; rw [HB.out]; exact shpB_1 _ (.inl rfl)
    have ny : NmK y (nameB y) := ⟨fun V => rName_any y V hys⟩
    cases hx : nameB x
    · have R : Hid (frm ⟨id, kn, 1, x, y, of⟩ = false) := by show _ = _; rw [HB.out]; simp [shp1, hx]
      have nx : NmK x false := ⟨fun V => by have h := rName_any x V hxs; rw [hx] at h; exact h⟩
      clear HB hx
      go_enter Tryz.func85, Tryz.ntmps85
      go_wp2_with (first | (go_at_call 97; refine (NmK.go (by assumption) _).mono ?_; rintro e u ⟨rfl, rfl⟩))
      go_ret
      exact sh_ret R.out.symm (by exact (by repeat (first | with_reducible exact Below.refl _ _ | with_reducible assumption | with_reducible refine Below.drew ?_ | with_reducible refine below_drewN ?_ _ | (with_reducible refine Below.alloc ?_ ?_ _; rotate_left; (try simp) <;> omega) | (with_reducible refine Below.setCell ?_ ?_ _; rotate_left; (try simp) <;> omega))))
    · have nx : NmK x true := ⟨fun V => by have h := rName_any x V hxs; rw [hx] at h; exact h⟩
      by_cases hye : y.size = 0
      case neg =>
        have R : Hid (frm ⟨id, kn, 1, x, y, of⟩ = false) := by show _ = _; rw [HB.out]; simp [shp1, hx, hye]
        have gye : (y.toList == ([] : List UInt8)) = false := size_cons y hye
        clear HB
        go_enter Tryz.func85, Tryz.ntmps85
        go_wp2_with (first | (go_at_call 97; refine (NmK.go (by assumption) _).mono ?_; rintro e u ⟨rfl, rfl⟩))
        go_ret
        exact sh_ret R.out.symm (by exact (by repeat (first | with_reducible exact Below.refl _ _ | with_reducible assumption | with_reducible refine Below.drew ?_ | with_reducible refine below_drewN ?_ _ | (with_reducible refine Below.alloc ?_ ?_ _; rotate_left; (try simp) <;> omega) | (with_reducible refine Below.setCell ?_ ?_ _; rotate_left; (try simp) <;> omega))))
      have gye : (y.toList == ([] : List UInt8)) = true := size_nil y hye
      by_cases hof : of = 0
      case neg =>
        have R : Hid (frm ⟨id, kn, 1, x, y, of⟩ = false) := by show _ = _; rw [HB.out]; simp [shp1, hx, hye, hof]
        have gof : (of == 0) = false := by rw [beq_eq_false_iff_ne]; exact hof
        clear HB
        go_enter Tryz.func85, Tryz.ntmps85
        go_wp2_with (first | (go_at_call 97; refine (NmK.go (by assumption) _).mono ?_; rintro e u ⟨rfl, rfl⟩))
        go_ret
        exact sh_ret R.out.symm (by exact (by repeat (first | with_reducible exact Below.refl _ _ | with_reducible assumption | with_reducible refine Below.drew ?_ | with_reducible refine below_drewN ?_ _ | (with_reducible refine Below.alloc ?_ ?_ _; rotate_left; (try simp) <;> omega) | (with_reducible refine Below.setCell ?_ ?_ _; rotate_left; (try simp) <;> omega))))
      have gof : (of == 0) = true := by rw [beq_iff_eq]; exact hof
      have R : Hid (frm ⟨id, kn, 1, x, y, of⟩ = true) := by show _ = _; rw [HB.out]; simp [shp1, hx, hye, hof]
      clear HB
      go_enter Tryz.func85, Tryz.ntmps85
      go_wp2_with (first | (go_at_call 97; refine (NmK.go (by assumption) _).mono ?_; rintro e u ⟨rfl, rfl⟩))
      go_ret
      exact sh_ret R.out.symm (by exact (by repeat (first | with_reducible exact Below.refl _ _ | with_reducible assumption | with_reducible refine Below.drew ?_ | with_reducible refine below_drewN ?_ _ | (with_reducible refine Below.alloc ?_ ?_ _; rotate_left; (try simp) <;> omega) | (with_reducible refine Below.setCell ?_ ?_ _; rotate_left; (try simp) <;> omega))))
  · have HB : Hid (frm ⟨id, kn, 2, x, y, of⟩ = shp1 ⟨id, kn, 2, x, y, of⟩) := by show _ = _; rw [HB.out]; exact shpB_1 _ (.inr rfl)
    have ny : NmK y (nameB y) := ⟨fun V => rName_any y V hys⟩
    cases hx : nameB x
    · have R : Hid (frm ⟨id, kn, 2, x, y, of⟩ = false) := by show _ = _; rw [HB.out]; simp [shp1, hx]
      have nx : NmK x false := ⟨fun V => by have h := rName_any x V hxs; rw [hx] at h; exact h⟩
      clear HB hx
      go_enter Tryz.func85, Tryz.ntmps85
      go_wp2_with (first | (go_at_call 97; refine (NmK.go (by assumption) _).mono ?_; rintro e u ⟨rfl, rfl⟩))
      go_ret
      exact sh_ret R.out.symm (by exact (by repeat (first | with_reducible exact Below.refl _ _ | with_reducible assumption | with_reducible refine Below.drew ?_ | with_reducible refine below_drewN ?_ _ | (with_reducible refine Below.alloc ?_ ?_ _; rotate_left; (try simp) <;> omega) | (with_reducible refine Below.setCell ?_ ?_ _; rotate_left; (try simp) <;> omega))))
    · have nx : NmK x true := ⟨fun V => by have h := rName_any x V hxs; rw [hx] at h; exact h⟩
      by_cases hye : y.size = 0
      case neg =>
        have R : Hid (frm ⟨id, kn, 2, x, y, of⟩ = false) := by show _ = _; rw [HB.out]; simp [shp1, hx, hye]
        have gye : (y.toList == ([] : List UInt8)) = false := size_cons y hye
        clear HB
        go_enter Tryz.func85, Tryz.ntmps85
        go_wp2_with (first | (go_at_call 97; refine (NmK.go (by assumption) _).mono ?_; rintro e u ⟨rfl, rfl⟩))
        go_ret
        exact sh_ret R.out.symm (by exact (by repeat (first | with_reducible exact Below.refl _ _ | with_reducible assumption | with_reducible refine Below.drew ?_ | with_reducible refine below_drewN ?_ _ | (with_reducible refine Below.alloc ?_ ?_ _; rotate_left; (try simp) <;> omega) | (with_reducible refine Below.setCell ?_ ?_ _; rotate_left; (try simp) <;> omega))))
      have gye : (y.toList == ([] : List UInt8)) = true := size_nil y hye
      by_cases hof : of = 0
      case neg =>
        have R : Hid (frm ⟨id, kn, 2, x, y, of⟩ = false) := by show _ = _; rw [HB.out]; simp [shp1, hx, hye, hof]
        have gof : (of == 0) = false := by rw [beq_eq_false_iff_ne]; exact hof
        clear HB
        go_enter Tryz.func85, Tryz.ntmps85
        go_wp2_with (first | (go_at_call 97; refine (NmK.go (by assumption) _).mono ?_; rintro e u ⟨rfl, rfl⟩))
        go_ret
        exact sh_ret R.out.symm (by exact (by repeat (first | with_reducible exact Below.refl _ _ | with_reducible assumption | with_reducible refine Below.drew ?_ | with_reducible refine below_drewN ?_ _ | (with_reducible refine Below.alloc ?_ ?_ _; rotate_left; (try simp) <;> omega) | (with_reducible refine Below.setCell ?_ ?_ _; rotate_left; (try simp) <;> omega))))
      have gof : (of == 0) = true := by rw [beq_iff_eq]; exact hof
      have R : Hid (frm ⟨id, kn, 2, x, y, of⟩ = true) := by show _ = _; rw [HB.out]; simp [shp1, hx, hye, hof]
      clear HB
      go_enter Tryz.func85, Tryz.ntmps85
      go_wp2_with (first | (go_at_call 97; refine (NmK.go (by assumption) _).mono ?_; rintro e u ⟨rfl, rfl⟩))
      go_ret
      exact sh_ret R.out.symm (by exact (by repeat (first | with_reducible exact Below.refl _ _ | with_reducible assumption | with_reducible refine Below.drew ?_ | with_reducible refine below_drewN ?_ _ | (with_reducible refine Below.alloc ?_ ?_ _; rotate_left; (try simp) <;> omega) | (with_reducible refine Below.setCell ?_ ?_ _; rotate_left; (try simp) <;> omega))))
  · have HB : Hid (frm ⟨id, kn, 3, x, y, of⟩ = shp2 ⟨id, kn, 3, x, y, of⟩) := by show _ = _; rw [HB.out]; exact shpB_3 _ (.inl rfl)
    cases hx : nameB x
    · have R : Hid (frm ⟨id, kn, 3, x, y, of⟩ = false) := by show _ = _; rw [HB.out]; simp [shp2, hx]
      have nx : NmK x false := ⟨fun V => by have h := rName_any x V hxs; rw [hx] at h; exact h⟩
      have ny : NmK y (nameB y) := ⟨fun V => rName_any y V hys⟩
      clear HB hx
      go_enter Tryz.func85, Tryz.ntmps85
      go_wp2_with (first | (go_at_call 97; refine (NmK.go (by assumption) _).mono ?_; rintro e u ⟨rfl, rfl⟩))
      go_ret
      exact sh_ret R.out.symm (by exact (by repeat (first | with_reducible exact Below.refl _ _ | with_reducible assumption | with_reducible refine Below.drew ?_ | with_reducible refine below_drewN ?_ _ | (with_reducible refine Below.alloc ?_ ?_ _; rotate_left; (try simp) <;> omega) | (with_reducible refine Below.setCell ?_ ?_ _; rotate_left; (try simp) <;> omega))))
    · have nx : NmK x true := ⟨fun V => by have h := rName_any x V hxs; rw [hx] at h; exact h⟩
      cases hy : nameB y
      · have R : Hid (frm ⟨id, kn, 3, x, y, of⟩ = false) := by show _ = _; rw [HB.out]; simp [shp2, hx, hy]
        have ny : NmK y false := ⟨fun V => by have h := rName_any y V hys; rw [hy] at h; exact h⟩
        clear HB hy
        go_enter Tryz.func85, Tryz.ntmps85
        go_wp2_with (first | (go_at_call 97; refine (NmK.go (by assumption) _).mono ?_; rintro e u ⟨rfl, rfl⟩))
        go_ret
        exact sh_ret R.out.symm (by exact (by repeat (first | with_reducible exact Below.refl _ _ | with_reducible assumption | with_reducible refine Below.drew ?_ | with_reducible refine below_drewN ?_ _ | (with_reducible refine Below.alloc ?_ ?_ _; rotate_left; (try simp) <;> omega) | (with_reducible refine Below.setCell ?_ ?_ _; rotate_left; (try simp) <;> omega))))
      · have ny : NmK y true := ⟨fun V => by have h := rName_any y V hys; rw [hy] at h; exact h⟩
        by_cases hof : of = 0
        case neg =>
          have R : Hid (frm ⟨id, kn, 3, x, y, of⟩ = false) := by show _ = _; rw [HB.out]; simp [shp2, hx, hy, hof]
          have gof : (of == 0) = false := by rw [beq_eq_false_iff_ne]; exact hof
          clear HB
          go_enter Tryz.func85, Tryz.ntmps85
          go_wp2_with (first | (go_at_call 97; refine (NmK.go (by assumption) _).mono ?_; rintro e u ⟨rfl, rfl⟩))
          go_ret
          exact sh_ret R.out.symm (by exact (by repeat (first | with_reducible exact Below.refl _ _ | with_reducible assumption | with_reducible refine Below.drew ?_ | with_reducible refine below_drewN ?_ _ | (with_reducible refine Below.alloc ?_ ?_ _; rotate_left; (try simp) <;> omega) | (with_reducible refine Below.setCell ?_ ?_ _; rotate_left; (try simp) <;> omega))))
        have gof : (of == 0) = true := by rw [beq_iff_eq]; exact hof
        have R : Hid (frm ⟨id, kn, 3, x, y, of⟩ = true) := by show _ = _; rw [HB.out]; simp [shp2, hx, hy, hof]
        clear HB
        go_enter Tryz.func85, Tryz.ntmps85
        go_wp2_with (first | (go_at_call 97; refine (NmK.go (by assumption) _).mono ?_; rintro e u ⟨rfl, rfl⟩))
        go_ret
        exact sh_ret R.out.symm (by exact (by repeat (first | with_reducible exact Below.refl _ _ | with_reducible assumption | with_reducible refine Below.drew ?_ | with_reducible refine below_drewN ?_ _ | (with_reducible refine Below.alloc ?_ ?_ _; rotate_left; (try simp) <;> omega) | (with_reducible refine Below.setCell ?_ ?_ _; rotate_left; (try simp) <;> omega))))
  · have HB : Hid (frm ⟨id, kn, 4, x, y, of⟩ = shp2 ⟨id, kn, 4, x, y, of⟩) := by show _ = _; rw [HB.out]; exact shpB_3 _ (.inr rfl)
    cases hx : nameB x
    · have R : Hid (frm ⟨id, kn, 4, x, y, of⟩ = false) := by show _ = _; rw [HB.out]; simp [shp2, hx]
      have nx : NmK x false := ⟨fun V => by have h := rName_any x V hxs; rw [hx] at h; exact h⟩
      have ny : NmK y (nameB y) := ⟨fun V => rName_any y V hys⟩
      clear HB hx
      go_enter Tryz.func85, Tryz.ntmps85
      go_wp2_with (first | (go_at_call 97; refine (NmK.go (by assumption) _).mono ?_; rintro e u ⟨rfl, rfl⟩))
      go_ret
      exact sh_ret R.out.symm (by exact (by repeat (first | with_reducible exact Below.refl _ _ | with_reducible assumption | with_reducible refine Below.drew ?_ | with_reducible refine below_drewN ?_ _ | (with_reducible refine Below.alloc ?_ ?_ _; rotate_left; (try simp) <;> omega) | (with_reducible refine Below.setCell ?_ ?_ _; rotate_left; (try simp) <;> omega))))
    · have nx : NmK x true := ⟨fun V => by have h := rName_any x V hxs; rw [hx] at h; exact h⟩
      cases hy : nameB y
      · have R : Hid (frm ⟨id, kn, 4, x, y, of⟩ = false) := by show _ = _; rw [HB.out]; simp [shp2, hx, hy]
        have ny : NmK y false := ⟨fun V => by have h := rName_any y V hys; rw [hy] at h; exact h⟩
        clear HB hy
        go_enter Tryz.func85, Tryz.ntmps85
        go_wp2_with (first | (go_at_call 97; refine (NmK.go (by assumption) _).mono ?_; rintro e u ⟨rfl, rfl⟩))
        go_ret
        exact sh_ret R.out.symm (by exact (by repeat (first | with_reducible exact Below.refl _ _ | with_reducible assumption | with_reducible refine Below.drew ?_ | with_reducible refine below_drewN ?_ _ | (with_reducible refine Below.alloc ?_ ?_ _; rotate_left; (try simp) <;> omega) | (with_reducible refine Below.setCell ?_ ?_ _; rotate_left; (try simp) <;> omega))))
      · have ny : NmK y true := ⟨fun V => by have h := rName_any y V hys; rw [hy] at h; exact h⟩
        by_cases hof : of = 0
        case neg =>
          have R : Hid (frm ⟨id, kn, 4, x, y, of⟩ = false) := by show _ = _; rw [HB.out]; simp [shp2, hx, hy, hof]
          have gof : (of == 0) = false := by rw [beq_eq_false_iff_ne]; exact hof
          clear HB
          go_enter Tryz.func85, Tryz.ntmps85
          go_wp2_with (first | (go_at_call 97; refine (NmK.go (by assumption) _).mono ?_; rintro e u ⟨rfl, rfl⟩))
          go_ret
          exact sh_ret R.out.symm (by exact (by repeat (first | with_reducible exact Below.refl _ _ | with_reducible assumption | with_reducible refine Below.drew ?_ | with_reducible refine below_drewN ?_ _ | (with_reducible refine Below.alloc ?_ ?_ _; rotate_left; (try simp) <;> omega) | (with_reducible refine Below.setCell ?_ ?_ _; rotate_left; (try simp) <;> omega))))
        have gof : (of == 0) = true := by rw [beq_iff_eq]; exact hof
        have R : Hid (frm ⟨id, kn, 4, x, y, of⟩ = true) := by show _ = _; rw [HB.out]; simp [shp2, hx, hy, hof]
        clear HB
        go_enter Tryz.func85, Tryz.ntmps85
        go_wp2_with (first | (go_at_call 97; refine (NmK.go (by assumption) _).mono ?_; rintro e u ⟨rfl, rfl⟩))
        go_ret
        exact sh_ret R.out.symm (by exact (by repeat (first | with_reducible exact Below.refl _ _ | with_reducible assumption | with_reducible refine Below.drew ?_ | with_reducible refine below_drewN ?_ _ | (with_reducible refine Below.alloc ?_ ?_ _; rotate_left; (try simp) <;> omega) | (with_reducible refine Below.setCell ?_ ?_ _; rotate_left; (try simp) <;> omega))))
  · have HB : Hid (frm ⟨id, kn, 5, x, y, of⟩ = shp5 ⟨id, kn, 5, x, y, of⟩) := by show _ = _; rw [HB.out]; exact shpB_5 _ rfl
    cases hx : nameB x
    · have R : Hid (frm ⟨id, kn, 5, x, y, of⟩ = false) := by show _ = _; rw [HB.out]; simp [shp5, shp2, hx]
      have nx : NmK x false := ⟨fun V => by have h := rName_any x V hxs; rw [hx] at h; exact h⟩
      have ny : NmK y (nameB y) := ⟨fun V => rName_any y V hys⟩
      clear HB hx
      go_enter Tryz.func85, Tryz.ntmps85
      go_wp2_with (first | (go_at_call 97; refine (NmK.go (by assumption) _).mono ?_; rintro e u ⟨rfl, rfl⟩))
      go_ret
      exact sh_ret R.out.symm (by exact (by repeat (first | with_reducible exact Below.refl _ _ | with_reducible assumption | with_reducible refine Below.drew ?_ | with_reducible refine below_drewN ?_ _ | (with_reducible refine Below.alloc ?_ ?_ _; rotate_left; (try simp) <;> omega) | (with_reducible refine Below.setCell ?_ ?_ _; rotate_left; (try simp) <;> omega))))
    · have nx : NmK x true := ⟨fun V => by have h := rName_any x V hxs; rw [hx] at h; exact h⟩
      cases hy : nameB y
      · have R : Hid (frm ⟨id, kn, 5, x, y, of⟩ = false) := by show _ = _; rw [HB.out]; simp [shp5, shp2, hx, hy]
        have ny : NmK y false := ⟨fun V => by have h := rName_any y V hys; rw [hy] at h; exact h⟩
        clear HB hy
        go_enter Tryz.func85, Tryz.ntmps85
        go_wp2_with (first | (go_at_call 97; refine (NmK.go (by assumption) _).mono ?_; rintro e u ⟨rfl, rfl⟩))
        go_ret
        exact sh_ret R.out.symm (by exact (by repeat (first | with_reducible exact Below.refl _ _ | with_reducible assumption | with_reducible refine Below.drew ?_ | with_reducible refine below_drewN ?_ _ | (with_reducible refine Below.alloc ?_ ?_ _; rotate_left; (try simp) <;> omega) | (with_reducible refine Below.setCell ?_ ?_ _; rotate_left; (try simp) <;> omega))))
      · have ny : NmK y true := ⟨fun V => by have h := rName_any y V hys; rw [hy] at h; exact h⟩
        by_cases hne : ¬ x = y
        case neg =>
          have ene : x = y := Classical.not_not.1 hne
          have R : Hid (frm ⟨id, kn, 5, x, y, of⟩ = false) := by show _ = _; rw [HB.out]; simp [shp5, shp2, hx, hy, ene]
          have gne : (x.toList == y.toList) = true := by rw [str_eq]; exact decide_eq_true (Classical.not_not.1 hne)
          clear HB ene
          go_enter Tryz.func85, Tryz.ntmps85
          go_wp2_with (first | (go_at_call 97; refine (NmK.go (by assumption) _).mono ?_; rintro e u ⟨rfl, rfl⟩))
          go_ret
          exact sh_ret R.out.symm (by exact (by repeat (first | with_reducible exact Below.refl _ _ | with_reducible assumption | with_reducible refine Below.drew ?_ | with_reducible refine below_drewN ?_ _ | (with_reducible refine Below.alloc ?_ ?_ _; rotate_left; (try simp) <;> omega) | (with_reducible refine Below.setCell ?_ ?_ _; rotate_left; (try simp) <;> omega))))
        have gne : (x.toList == y.toList) = false := by rw [str_eq]; exact decide_eq_false hne
        by_cases hof : of = 0
        case neg =>
          have R : Hid (frm ⟨id, kn, 5, x, y, of⟩ = false) := by show _ = _; rw [HB.out]; simp [shp5, shp2, hx, hy, hne, hof]
          have gof : (of == 0) = false := by rw [beq_eq_false_iff_ne]; exact hof
          clear HB
          go_enter Tryz.func85, Tryz.ntmps85
          go_wp2_with (first | (go_at_call 97; refine (NmK.go (by assumption) _).mono ?_; rintro e u ⟨rfl, rfl⟩))
          go_ret
          exact sh_ret R.out.symm (by exact (by repeat (first | with_reducible exact Below.refl _ _ | with_reducible assumption | with_reducible refine Below.drew ?_ | with_reducible refine below_drewN ?_ _ | (with_reducible refine Below.alloc ?_ ?_ _; rotate_left; (try simp) <;> omega) | (with_reducible refine Below.setCell ?_ ?_ _; rotate_left; (try simp) <;> omega))))
        have gof : (of == 0) = true := by rw [beq_iff_eq]; exact hof
        have R : Hid (frm ⟨id, kn, 5, x, y, of⟩ = true) := by show _ = _; rw [HB.out]; simp [shp5, shp2, hx, hy, hne, hof]
        clear HB
        go_enter Tryz.func85, Tryz.ntmps85
        go_wp2_with (first | (go_at_call 97; refine (NmK.go (by assumption) _).mono ?_; rintro e u ⟨rfl, rfl⟩))
        go_ret
        exact sh_ret R.out.symm (by exact (by repeat (first | with_reducible exact Below.refl _ _ | with_reducible assumption | with_reducible refine Below.drew ?_ | with_reducible refine below_drewN ?_ _ | (with_reducible refine Below.alloc ?_ ?_ _; rotate_left; (try simp) <;> omega) | (with_reducible refine Below.setCell ?_ ?_ _; rotate_left; (try simp) <;> omega))))
  · have HB : Hid (frm ⟨id, kn, 6, x, y, of⟩ = shp6 ⟨id, kn, 6, x, y, of⟩) := by show _ = _; rw [HB.out]; exact shpB_6 _ rfl
    have nx : NmK x (nameB x) := ⟨fun V => rName_any x V hxs⟩
    have ny : NmK y (nameB y) := ⟨fun V => rName_any y V hys⟩
    by_cases hxe : x.size = 0
    case neg =>
      have R : Hid (frm ⟨id, kn, 6, x, y, of⟩ = false) := by show _ = _; rw [HB.out]; simp [shp6, idB, hxe]
      have gxe : (x.toList == ([] : List UInt8)) = false := size_cons x hxe
      clear HB
      go_enter Tryz.func85, Tryz.ntmps85
      go_wp2_with (first | (go_at_call 97; refine (NmK.go (by assumption) _).mono ?_; rintro e u ⟨rfl, rfl⟩))
      go_ret
      exact sh_ret R.out.symm (by exact (by repeat (first | with_reducible exact Below.refl _ _ | with_reducible assumption | with_reducible refine Below.drew ?_ | with_reducible refine below_drewN ?_ _ | (with_reducible refine Below.alloc ?_ ?_ _; rotate_left; (try simp) <;> omega) | (with_reducible refine Below.setCell ?_ ?_ _; rotate_left; (try simp) <;> omega))))
    have gxe : (x.toList == ([] : List UInt8)) = true := size_nil x hxe
    by_cases hye : y.size = 0
    case neg =>
      have R : Hid (frm ⟨id, kn, 6, x, y, of⟩ = false) := by show _ = _; rw [HB.out]; simp [shp6, idB, hxe, hye]
      have gye : (y.toList == ([] : List UInt8)) = false := size_cons y hye
      clear HB
      go_enter Tryz.func85, Tryz.ntmps85
      go_wp2_with (first | (go_at_call 97; refine (NmK.go (by assumption) _).mono ?_; rintro e u ⟨rfl, rfl⟩))
      go_ret
      exact sh_ret R.out.symm (by exact (by repeat (first | with_reducible exact Below.refl _ _ | with_reducible assumption | with_reducible refine Below.drew ?_ | with_reducible refine below_drewN ?_ _ | (with_reducible refine Below.alloc ?_ ?_ _; rotate_left; (try simp) <;> omega) | (with_reducible refine Below.setCell ?_ ?_ _; rotate_left; (try simp) <;> omega))))
    have gye : (y.toList == ([] : List UInt8)) = true := size_nil y hye
    by_cases ho1 : 1 ≤ of
    case neg =>
      have R : Hid (frm ⟨id, kn, 6, x, y, of⟩ = false) := by show _ = _; rw [HB.out]; simp [shp6, idB, hxe, hye, ho1]
      have go1 : ¬ (1 : Int) ≤ of := ho1
      clear HB
      go_enter Tryz.func85, Tryz.ntmps85
      go_wp2_with (first | (go_at_call 97; refine (NmK.go (by assumption) _).mono ?_; rintro e u ⟨rfl, rfl⟩))
      go_ret
      exact sh_ret R.out.symm (by exact (by repeat (first | with_reducible exact Below.refl _ _ | with_reducible assumption | with_reducible refine Below.drew ?_ | with_reducible refine below_drewN ?_ _ | (with_reducible refine Below.alloc ?_ ?_ _; rotate_left; (try simp) <;> omega) | (with_reducible refine Below.setCell ?_ ?_ _; rotate_left; (try simp) <;> omega))))
    by_cases ho2 : of ≤ 1000000
    case neg =>
      have R : Hid (frm ⟨id, kn, 6, x, y, of⟩ = false) := by show _ = _; rw [HB.out]; simp [shp6, idB, hxe, hye, ho1, ho2]
      have go2 : ¬ of ≤ 1000000 := ho2
      clear HB
      go_enter Tryz.func85, Tryz.ntmps85
      go_wp2_with (first | (go_at_call 97; refine (NmK.go (by assumption) _).mono ?_; rintro e u ⟨rfl, rfl⟩))
      go_ret
      exact sh_ret R.out.symm (by exact (by repeat (first | with_reducible exact Below.refl _ _ | with_reducible assumption | with_reducible refine Below.drew ?_ | with_reducible refine below_drewN ?_ _ | (with_reducible refine Below.alloc ?_ ?_ _; rotate_left; (try simp) <;> omega) | (with_reducible refine Below.setCell ?_ ?_ _; rotate_left; (try simp) <;> omega))))
    by_cases ho3 : ¬ of = id
    case neg =>
      have eo3 : of = id := Classical.not_not.1 ho3
      have R : Hid (frm ⟨id, kn, 6, x, y, of⟩ = false) := by show _ = _; rw [HB.out]; simp [shp6, idB, hxe, hye, ho1, ho2, eo3]
      have go3 : (of != id) = false := by rw [bne_eq_false_iff_eq]; exact Classical.not_not.1 ho3
      clear HB eo3
      go_enter Tryz.func85, Tryz.ntmps85
      go_wp2_with (first | (go_at_call 97; refine (NmK.go (by assumption) _).mono ?_; rintro e u ⟨rfl, rfl⟩))
      go_ret
      exact sh_ret R.out.symm (by exact (by repeat (first | with_reducible exact Below.refl _ _ | with_reducible assumption | with_reducible refine Below.drew ?_ | with_reducible refine below_drewN ?_ _ | (with_reducible refine Below.alloc ?_ ?_ _; rotate_left; (try simp) <;> omega) | (with_reducible refine Below.setCell ?_ ?_ _; rotate_left; (try simp) <;> omega))))
    have go3 : (of != id) = true := by rw [bne_iff_ne]; exact ho3
    have R : Hid (frm ⟨id, kn, 6, x, y, of⟩ = true) := by show _ = _; rw [HB.out]; simp [shp6, idB, hxe, hye, ho1, ho2, ho3]
    clear HB
    go_enter Tryz.func85, Tryz.ntmps85
    go_wp2_with (first | (go_at_call 97; refine (NmK.go (by assumption) _).mono ?_; rintro e u ⟨rfl, rfl⟩))
    go_ret
    exact sh_ret R.out.symm (by exact (by repeat (first | with_reducible exact Below.refl _ _ | with_reducible assumption | with_reducible refine Below.drew ?_ | with_reducible refine below_drewN ?_ _ | (with_reducible refine Below.alloc ?_ ?_ _; rotate_left; (try simp) <;> omega) | (with_reducible refine Below.setCell ?_ ?_ _; rotate_left; (try simp) <;> omega))))
end Go.Proofs.YtkfeagokmcakgaaGreatDoor

namespace Go.Proofs.YtkfeagokmcakgaaGreatDoor
open Go.RowKit

theorem own_new (w : World) (x : ByteArray) : (w.alloc (.cells #[.string x] 9)).ownsRow w.heap.size 9 1 (.slice (some ⟨w.heap.size, 0, none⟩) 1 1) 1 [.string x] :=
  ⟨by simp, .inr ⟨w.heap.size, 1, #[.string x], rfl, Nat.le_refl _, Bk.new w 9 #[.string x], Nat.le_refl _, by unfold maxLen; decide, rfl, rfl⟩⟩
theorem foldS_len (m : List Rul) (out : List ByteArray) : out.length ≤ (m.foldl grpS out).length := by
  obtain ⟨t, h⟩ := fold_pre m out
  rw [h, List.length_append]; omega
theorem grpN_len (l : List Rul) : ∀ n out, out.length ≤ (grpN l n out).length
  | 0, out => Nat.le_refl _
  | n + 1, out => Nat.le_trans (foldS_len l out) (grpN_len l n (grpR l out))
theorem grps_len (l : List Rul) (x : ByteArray) : (grps l x).length ≤ l.length + 1 := by
  have h2 : (grps l x).length ≤ (x :: l.map Rul.y).length := nodup_len _ _ (grps_nodup l x) fun z hz => by
    have h := (grps_iff l x z).1 hz
    refine Reach.inv (P := fun z => z ∈ x :: l.map Rul.y) h (by simp) ?_
    rintro u v _ ⟨r, hr, _, _, rfl⟩
    exact List.mem_cons_of_mem _ (List.mem_map.2 ⟨r, hr, rfl⟩)
  simpa using h2
theorem grpS_no {out : List ByteArray} {r : Rul} (h : ¬ (r.kind = 5 ∧ r.x ∈ out ∧ r.y ∉ out)) : grpS out r = out := by unfold grpS; rw [if_neg h]
theorem grpS_yes {out : List ByteArray} {r : Rul} (h : r.kind = 5 ∧ r.x ∈ out ∧ r.y ∉ out) : grpS out r = out ++ [r.y] := by unfold grpS; rw [if_pos h]
theorem foldS_step {l : List Rul} {k : Nat} (hk : k < l.length) (P : List ByteArray) : (l.drop k).foldl grpS P = (l.drop (k + 1)).foldl grpS (grpS P l[k]) := by
  rw [List.drop_eq_getElem_cons hk]; rfl
theorem grpN_step (l : List Rul) (n : Nat) (O : List ByteArray) (hn : n ≤ l.length) : grpN l (l.length + 1 - n) O = grpN l (l.length + 1 - (n + 1)) (grpR l O) := by
  rw [show l.length + 1 - n = (l.length + 1 - (n + 1)) + 1 by omega]; rfl
/-- whether a name is in the row that grows -/
structure HasK (A : Option Addr) (n c : Nat) (s : ByteArray) (b : Bool) (W : World) : Prop where
  run : ∀ V, Below W.heap.size W V → Calls Tryz.prog 77 #[.slice A n c, .string s] V (ShEnd b V)
theorem HasK.go {A : Option Addr} {n c : Nat} {s : ByteArray} {b : Bool} {W V : World} (h : HasK A n c s b W) (hb : Below W.heap.size W V) : Calls Tryz.prog 77 #[.slice A n c, .string s] V (ShEnd b V) := h.run V hb
set_option maxHeartbeats 1000000 in
set_option maxRecDepth 100000 in
theorem rgroups_any (l : List Rul) (A : Option Addr) (c : Nat) (x : ByteArray) (w : World) (hl : Lies w w.heap.size A (rulesC l)) (hm : l.length ≤ 1000) :
    Calls Tryz.prog 76 #[.slice A l.length c, .string x] w (fun e w' => ∃ A' c', e = .returned (.slice A' (grps l x).length c') ∧ Lies w' w'.heap.size A' (strsC (grps l x)) ∧ ((grps l x).length ≤ c' ∧ c' ≤ maxLen) ∧ Below w.heap.size w w') := by
  have HGL := Lib.hid (grps_len l x)
  have HN := Lib.hid (grpN_step l)
  have HNL := Lib.hid (grpN_len l)
  have HFL := Lib.hid foldS_len
  have HS0 : Hid (grpN l (l.length + 1 - 0) [x] = grps l x) := rfl
  have HEND : Hid (∀ O, grpN l (l.length + 1 - (l.length + 1)) O = grps l x → O = grps l x) := fun O h => by rw [Nat.sub_self] at h; exact h
  have HLL := Lib.hid hl
  generalize grps l x = G at *
  clear hl
  go_enter Tryz.func76, Tryz.ntmps76
  go_upto_region 3 with fail
  have ho0 := Lib.hid (own_new w x)
  have hb0 : Below w.heap.size w (w.alloc (.cells #[.string x] 9)) := (Below.refl _ _).alloc (Nat.le_refl _) _
  go_loopw [5, 6, 7] (fun v y _ wr => ∃ (n : Nat) (O : List ByteArray) (A' : Option Addr) (c' : Nat), n ≤ l.length + 1 ∧ v = .slice A' O.length c' ∧ y = .int .i64 n ∧ Hid (grpN l (l.length + 1 - n) O = G) ∧ Hid (wr.ownsRow w.heap.size 9 1 (.slice A' O.length c') O.length (strsC O)) ∧ Below w.heap.size w wr) (fun _ y _ _ => l.length + 1 - (intOf y).toNat)
  case atStart => exact ⟨0, [x], some ⟨w.heap.size, 0, none⟩, 1, by omega, rfl, rfl, HS0, ho0, hb0⟩
  case round =>
    obtain ⟨n, O, A1, c1, hn, rfl, rfl, hG, ho, hbw⟩ := hrel
    clear HS0 ho0 hb0
    by_cases hlt : n ≤ l.length
    · have hG2 : Hid (grpN l (l.length + 1 - (n + 1)) (grpR l O) = G) := by show _ = _; rw [← HN.out n O hlt]; exact hG.out
      have HLE : Hid ((grpR l O).length ≤ 1001) := by
        have h1 := HNL.out (l.length + 1 - (n + 1)) (grpR l O)
        rw [hG2.out] at h1
        have := HGL.out
        show _ ≤ _; omega
      have HF0 : Hid ((l.drop 0).foldl grpS O = grpR l O) := rfl
      have HFE : Hid (∀ P, (l.drop l.length).foldl grpS P = grpR l O → P = grpR l O) := fun P h => by rw [List.drop_length] at h; exact h
      generalize grpR l O = GR at *
      clear hG HN HNL HGL HEND
      have hnl : (n : Int) ≤ (l.length : Int) := by omega
      go_upto_region 6 with fail
      generalize wr = w1 at *
      go_loopw [5, 7] (fun v z w2 => ∃ (k : Nat) (P : List ByteArray) (A' : Option Addr) (c' : Nat), k ≤ l.length ∧ v = .slice A' P.length c' ∧ z = .int .i64 k ∧ Hid ((l.drop k).foldl grpS P = GR) ∧ Hid (w2.ownsRow w.heap.size 9 1 (.slice A' P.length c') P.length (strsC P)) ∧ Below w.heap.size w w2) (fun _ z _ => l.length - (intOf z).toNat)
      case atStart => exact ⟨0, O, A1, c1, by omega, rfl, rfl, HF0, ho, hbw⟩
      case round =>
        obtain ⟨k, P, A2, c2, hk, rfl, rfl, hP, ho2, hbw2⟩ := hrel
        by_cases hkl : k < l.length
        · obtain ⟨ad, rfl, hadb, d0, d1, d2, d3, d4, d5⟩ := rule_at ((HLL.out.below hbw2 (Nat.le_refl _)).more hbw2.size) hkl
          have HD : Hid (∀ V, Below w.heap.size w V → V.cell? ⟨(ad.add (k * 6)).block, (ad.add (k * 6)).off + 3, none⟩ = some (.string l[k].x) ∧ V.cell? ⟨(ad.add (k * 6)).block, (ad.add (k * 6)).off + 4, none⟩ = some (.string l[k].y)) := fun V hV => by
            obtain ⟨ad2, e2, _, _, _, _, e4, e5, _⟩ := rule_at ((HLL.out.below hV (Nat.le_refl _)).more hV.size) hkl
            cases e2
            exact ⟨e4, e5⟩
          have hst : Hid ((l.drop (k + 1)).foldl grpS (grpS P l[k]) = GR) := by show _ = _; rw [← foldS_step hkl]; exact hP.out
          have HNO := Lib.hid (grpS_no (out := P) (r := l[k]))
          have HYES := Lib.hid (grpS_yes (out := P) (r := l[k]))
          have HPL : Hid (P.length ≤ 1001) := by
            have h1 := HFL.out (l.drop k) P
            rw [hP.out] at h1
            have := HLE.out
            show _ ≤ _; omega
          have HHAS : Hid (∀ s, HasK A2 P.length c2 s (decide (s ∈ P)) wr) := fun s => ⟨fun V hV => rhas_any P A2 c2 s V (lies_on (ownsRow_lies ho2.out) hV) (by have := HPL.out; unfold maxLen; omega)⟩
          generalize l[k] = R at *
          obtain ⟨id, kn, kd, rx, ry, of⟩ := R
          dsimp only at *
          clear hP d0 d1 d4 d5
          have hpl := HPL.out
          have hbb : Below wr.heap.size wr wr := Below.refl _ _
          by_cases h5 : kd = 5
          · have h51 : (kd == 5) = true := by rw [beq_iff_eq]; exact h5
            by_cases hx : rx ∈ P
            · have kx := HHAS.out rx
              rw [decide_eq_true hx] at kx
              by_cases hy : ry ∈ P
              · have ky := HHAS.out ry
                rw [decide_eq_true hy] at ky
                have hS : Hid ((l.drop (k + 1)).foldl grpS P = GR) := by show _ = _; rw [← hst.out, HNO.out (fun h => h.2.2 hy)]
                clear hst HNO HYES HHAS HLE HFE HF0
                go_wp2_with (first | (go_at_call 77; refine (HasK.go (by assumption) (by assumption)).mono ?_; rintro e u ⟨rfl, hb⟩; have hbu : Below wr.heap.size wr u := Below.trans (by assumption) (hb.mono (Below.size (by assumption))); obtain ⟨y3, y4⟩ := HD.out u (hbw2.trans (hbu.mono hbw2.size)); clear hb))
                have hown := Lib.hid (ownsRow_below ho2.out hbu (Nat.le_refl _))
                have hbel := hbw2.trans (hbu.mono hbw2.size)
                clear hbw2 ho2
                go_roundw
                case rel => exact ⟨k + 1, P, A2, c2, by omega, rfl, by go_num, hS, hown, hbel⟩
                case measure => simp [intOf]; omega
              · have ky := HHAS.out ry
                rw [decide_eq_false hy] at ky
                have hS : Hid ((l.drop (k + 1)).foldl grpS (P ++ [ry]) = GR) := by show _ = _; rw [← hst.out, HYES.out ⟨h5, hx, hy⟩]
                clear hst HNO HYES HHAS HLE HFE HF0
                go_upto_region 9 with (first | (go_at_call 77; refine (HasK.go (by assumption) (by assumption)).mono ?_; rintro e u ⟨rfl, hb⟩; have hbu : Below wr.heap.size wr u := Below.trans (by assumption) (hb.mono (Below.size (by assumption))); obtain ⟨y3, y4⟩ := HD.out u (hbw2.trans (hbu.mono hbw2.size)); clear hb))
                have hown := Lib.hid (ownsRow_below ho2.out hbu (Nat.le_refl _))
                have hbel : Below w.heap.size w u := hbw2.trans (hbu.mono hbw2.size)
                have hbs := hbel.size
                clear hbw2 ho2
                go_wp2_with (at_builtin; refine wpList_append1g (P := Tryz.prog) rfl (.tmp 47) (.tmp 53) 34 rfl w.heap.size 9 (.string ByteArray.empty) 1 16 Tryz.underlying34 info9 (by decide) (by decide) (.slice A2 P.length c2) P.length (strsC P) rfl (hown.out.alloc _) u.heap.size #[.string ry] 9 rfl (Bk.new _ _ _) rfl ?c1 ?c2 (by decide) ?c3 ?_)
                case c1 => rfl
                case c2 => omega
                case c3 => first | omega | (simp; omega)
                intro v' w4 ho4 hg4
                have hgr : ∀ j, (Value.slice A2 P.length c2).ownBlock = some j → w.heap.size ≤ j := fun j hj => (hown.out.lt j hj).1
                have hbw4 : Below w.heap.size w w4 := (hbel.alloc hbs _).grown hg4 (by simp; omega) hgr
                have hsn : strsC P ++ (#[Value.string ry] : Array Value).toList = strsC (P ++ [ry]) := by simp [strsC]
                rw [hsn] at ho4
                obtain ⟨A4, c4, rfl, _, _⟩ := ownsSlice ho4
                have hll : (P ++ [ry]).length = P.length + 1 := by simp
                have ho5 : Hid (w4.ownsRow w.heap.size 9 1 (.slice A4 (P ++ [ry]).length c4) (P ++ [ry]).length (strsC (P ++ [ry]))) := by rw [hll]; exact Lib.hid ho4
                clear ho4 hg4 hgr hsn hown hbel
                go_wp2
                go_roundw
                case rel => exact ⟨k + 1, P ++ [ry], A4, c4, by omega, by rw [hll], by go_num, hS, ho5, hbw4⟩
                case measure => simp [intOf]; omega
            · have kx := HHAS.out rx
              rw [decide_eq_false hx] at kx
              have hS : Hid ((l.drop (k + 1)).foldl grpS P = GR) := by show _ = _; rw [← hst.out, HNO.out (fun h => hx h.2.1)]
              clear hst HNO HYES HHAS HLE HFE HF0
              go_wp2_with (first | (go_at_call 77; refine (HasK.go (by assumption) (by assumption)).mono ?_; rintro e u ⟨rfl, hb⟩; have hbu : Below wr.heap.size wr u := Below.trans (by assumption) (hb.mono (Below.size (by assumption))); obtain ⟨y3, y4⟩ := HD.out u (hbw2.trans (hbu.mono hbw2.size)); clear hb))
              have hown := Lib.hid (ownsRow_below ho2.out hbu (Nat.le_refl _))
              have hbel := hbw2.trans (hbu.mono hbw2.size)
              clear hbw2 ho2
              go_roundw
              case rel => exact ⟨k + 1, P, A2, c2, by omega, rfl, by go_num, hS, hown, hbel⟩
              case measure => simp [intOf]; omega
          · have h51 : (kd == 5) = false := by rw [beq_eq_false_iff_ne]; exact h5
            have hS : Hid ((l.drop (k + 1)).foldl grpS P = GR) := by show _ = _; rw [← hst.out, HNO.out (fun h => h5 h.1)]
            clear hst HNO HYES HHAS HLE HFE HF0
            go_wp2
            have hown := ho2
            have hbel := hbw2
            clear hbw2 ho2
            go_roundw
            case rel => exact ⟨k + 1, P, A2, c2, by omega, rfl, by go_num, hS, hown, hbel⟩
            case measure => simp [intOf]; omega
        · obtain rfl : k = l.length := by omega
          have hPG := HFE.out P hP.out
          subst hPG
          clear HLE HFE HF0 hP
          go_wp2
          go_roundw
          case rel => exact ⟨n + 1, P, A2, c2, by omega, rfl, by go_num, hG2, ho2, hbw2⟩
          case measure => simp [intOf]; omega
    · obtain rfl : n = l.length + 1 := by omega
      have hOG := HEND.out O hG.out
      subst hOG
      have hLI := Lib.hid (ownsRow_lies ho.out)
      have hcap := ownsSlice ho.out
      have hnl : ¬ (((l.length + 1 : Nat) : Int) ≤ (l.length : Int)) := by omega
      clear ho HN HNL HEND hG HGL
      go_wp2
      go_ret
      obtain ⟨A7, c7, e7, h1, h2⟩ := hcap
      cases e7
      exact ⟨A1, c1, rfl, hLI.out, ⟨h1, h2⟩, hbw⟩
end Go.Proofs.YtkfeagokmcakgaaGreatDoor
