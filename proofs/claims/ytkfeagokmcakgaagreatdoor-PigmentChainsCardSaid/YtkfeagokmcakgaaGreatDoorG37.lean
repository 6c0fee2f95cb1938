/- The reference's forbids, MayBeside, MayOver (fns 80, 30, 32). Printed by gen_n10.py. -/
import Derived.Test.YtkfeagokmcakgaaGreatDoorG02
import Derived.Test.YtkfeagokmcakgaaGreatDoorG07
import Derived.Test.YtkfeagokmcakgaaGreatDoorG08
import Derived.Test.YtkfeagokmcakgaaGreatDoorG13
import Derived.Test.YtkfeagokmcakgaaGreatDoorG17
import Derived.Test.YtkfeagokmcakgaaGreatDoorG26
import Derived.Test.YtkfeagokmcakgaaGreatDoorG36

set_option linter.unusedVariables false
set_option linter.unusedSimpArgs false

namespace Go.Proofs.YtkfeagokmcakgaaGreatDoor
open Go.RowKit

theorem barB_eq (l : List Rul) (kind : Int) (x y : ByteArray) (back : Bool) (r : Rul) : barB l kind x y back r = (decide (r.kind = kind) && ((decide (r.x ∈ grps l x) && decide (r.y ∈ grps l y)) || (back && (decide (r.x ∈ grps l y) && decide (r.y ∈ grps l x))))) := by
  unfold barB inG
  cases decide (r.kind = kind) <;> cases back <;> cases decide (r.x ∈ grps l x) <;> cases decide (r.y ∈ grps l y) <;> cases decide (r.x ∈ grps l y) <;> cases decide (r.y ∈ grps l x) <;> rfl
set_option maxHeartbeats 6000000 in
set_option maxRecDepth 100000 in
theorem rforb_any (l : List Rul) (A : Option Addr) (c : Nat) (kind : Int) (x y : ByteArray) (back : Bool) (w : World) (hl : Lies w w.heap.size A (rulesC l)) (hm : l.length ≤ 1000) :
    Calls Tryz.prog 80 #[.slice A l.length c, .int .u8 kind, .string x, .string y, .bool back] w (fun e w' => e = .returned (.int .i64 (barL l kind x y back).2) ∧ Below w.heap.size w w') := by
  have HG := Lib.hid (fun s V hV => rgroups_any l A c s V (lies_on hl (hV : Below w.heap.size w V)) hm)
  have HLW : Hid (∀ V, Below w.heap.size w V → Lies V V.heap.size A (rulesC l)) := fun V hV => lies_on hl hV
  have hgx := grps_len l x
  have hgy := grps_len l y
  have HBB := Lib.hid (barB_eq l kind x y back)
  have HHIT : Hid (∀ k (hk : k < l.length), (∀ j (h : j < l.length), j < k → barB l kind x y back l[j] = false) → barB l kind x y back l[k] = true → (barL l kind x y back).2 = l[k].id) := fun k hk h0 h1 => by unfold barL; rw [find_hit hk h0 h1]
  have HNO : Hid ((∀ j (h : j < l.length), barB l kind x y back l[j] = false) → (barL l kind x y back).2 = 0) := fun h => by unfold barL; rw [find_none h]
  generalize barL l kind x y back = BL at *
  generalize barB l kind x y back = BB at *
  have hbw : Below w.heap.size w w := Below.refl _ _
  clear hl
  go_enter Tryz.func80, Tryz.ntmps80
  go_upto_region 2 with (first | (go_at_call 76; refine (HG.out x _ hbw).mono ?_; rintro e w1 ⟨A1, c1, rfl, l1, _, hb1⟩))
  have HL1 := Lib.hid l1
  clear l1
  go_upto_region 4 with (first | (go_at_call 76; refine (HG.out y _ hb1).mono ?_; rintro e w2 ⟨A2, c2, rfl, l2, _, hb2⟩))
  have HX : Hid (∀ s, HasK A1 (grps l x).length c1 s (decide (s ∈ grps l x)) w2) := fun s => ⟨fun V hV => rhas_any _ A1 c1 s V (lies_on (lies_on HL1.out hb2) hV) (by unfold maxLen; omega)⟩
  have HZ : Hid (∀ s, HasK A2 (grps l y).length c2 s (decide (s ∈ grps l y)) w2) := fun s => ⟨fun V hV => rhas_any _ A2 c2 s V (lies_on l2 hV) (by unfold maxLen; omega)⟩
  have hB2 : Below w.heap.size w w2 := hb1.trans (hb2.mono hb1.size)
  have hb22 : Below w2.heap.size w2 w2 := Below.refl _ _
  have HQ0 : Hid (∀ j (h : j < l.length), j < 0 → BB l[j] = false) := fun j h h0 => absurd h0 (by omega)
  clear HG HL1 l2 hb1 hb2 hbw hgx hgy
  generalize grps l x = gx at *
  generalize grps l y = gy at *
  go_loopw [13] (fun v wr => ∃ k : Nat, k ≤ l.length ∧ v = .int .i64 k ∧ Hid (∀ j (h : j < l.length), j < k → BB l[j] = false) ∧ Below w2.heap.size w2 wr) (fun v _ => l.length - (intOf v).toNat)
  case atStart => exact ⟨0, by omega, rfl, HQ0, hb22⟩
  case round =>
    obtain ⟨k, hk, rfl, hQ, hbv⟩ := hrel
    clear HQ0 hb22
    have hbz := hB2.trans (hbv.mono hB2.size)
    by_cases hkl : k < l.length
    · obtain ⟨ad, rfl, _, d0, d1, d2, d3, d4, d5⟩ := rule_at (HLW.out wr hbz) hkl
      have HD : Hid (∀ V, Below w2.heap.size w2 V → V.cell? (ad.add (k * 6)) = some (.int .i64 l[k].id) ∧ V.cell? ⟨(ad.add (k * 6)).block, (ad.add (k * 6)).off + 2, none⟩ = some (.int .u8 l[k].kind) ∧ V.cell? ⟨(ad.add (k * 6)).block, (ad.add (k * 6)).off + 3, none⟩ = some (.string l[k].x) ∧ V.cell? ⟨(ad.add (k * 6)).block, (ad.add (k * 6)).off + 4, none⟩ = some (.string l[k].y)) := fun V hV => by
        obtain ⟨ad2, e2, _, e0, e1, e3, e4, e5, e6⟩ := rule_at (HLW.out V (hB2.trans (hV.mono hB2.size))) hkl
        cases e2
        exact ⟨e0, e3, e4, e5⟩
      have HH := Lib.hid (HHIT.out k hkl hQ.out)
      have HQN : Hid (BB l[k] = false → ∀ j (h : j < l.length), j < k + 1 → BB l[j] = false) := fun hb j h hj => by
        by_cases e : j = k
        · subst e; exact hb
        · exact hQ.out j h (by omega)
      have HBR := Lib.hid (HBB.out l[k])
      have q1 := HX.out l[k].x
      have q2 := HZ.out l[k].y
      have q3 := HZ.out l[k].x
      have q4 := HX.out l[k].y
      have hbb : Below w2.heap.size w2 wr := hbv
      generalize BB l[k] = bb at *
      generalize l[k] = r at *
      obtain ⟨id, kn, kd, rx, ry, of⟩ := r
      dsimp only at *
      generalize decide (rx ∈ gx) = b1 at *
      generalize decide (ry ∈ gy) = b2 at *
      generalize decide (rx ∈ gy) = b3 at *
      generalize decide (ry ∈ gx) = b4 at *
      have HBR : Hid (bb = (decide (kd = kind) && ((b1 && b2) || (back && (b3 && b4))))) := HBR.out
      clear hQ HHIT HNO HBB HX HZ d1 d5
      by_cases hkk : kd = kind
      case neg =>
        have hk1 : (kd == kind) = false := by rw [beq_eq_false_iff_ne]; exact hkk
        cases back
        · cases b1
          · cases b3
            · have HN := Lib.hid (HQN.out (by rw [HBR.out]; simp [hkk]))
              clear HQN HH HBR hkk
              go_wp2_with (first | (go_at_call 77; refine (HasK.go (by assumption) (by assumption)).mono ?_; rintro e u ⟨rfl, hb⟩; have hbu : Below w2.heap.size w2 u := Below.trans (by assumption) (hb.mono (Below.size (by assumption))); obtain ⟨s0, s2, s3, s4⟩ := HD.out u hbu; clear hb))
              go_roundw
              case rel => exact ⟨k + 1, by omega, by go_num, HN, hbu⟩
              case measure => simp [intOf]; omega
            · cases b4
              · have HN := Lib.hid (HQN.out (by rw [HBR.out]; simp [hkk]))
                clear HQN HH HBR hkk
                go_wp2_with (first | (go_at_call 77; refine (HasK.go (by assumption) (by assumption)).mono ?_; rintro e u ⟨rfl, hb⟩; have hbu : Below w2.heap.size w2 u := Below.trans (by assumption) (hb.mono (Below.size (by assumption))); obtain ⟨s0, s2, s3, s4⟩ := HD.out u hbu; clear hb))
                go_roundw
                case rel => exact ⟨k + 1, by omega, by go_num, HN, hbu⟩
                case measure => simp [intOf]; omega
              · have HN := Lib.hid (HQN.out (by rw [HBR.out]; simp [hkk]))
                clear HQN HH HBR hkk
                go_wp2_with (first | (go_at_call 77; refine (HasK.go (by assumption) (by assumption)).mono ?_; rintro e u ⟨rfl, hb⟩; have hbu : Below w2.heap.size w2 u := Below.trans (by assumption) (hb.mono (Below.size (by assumption))); obtain ⟨s0, s2, s3, s4⟩ := HD.out u hbu; clear hb))
                go_roundw
                case rel => exact ⟨k + 1, by omega, by go_num, HN, hbu⟩
                case measure => simp [intOf]; omega
          · cases b2
            · cases b3
              · have HN := Lib.hid (HQN.out (by rw [HBR.out]; simp [hkk]))
                clear HQN HH HBR hkk
                go_wp2_with (first | (go_at_call 77; refine (HasK.go (by assumption) (by assumption)).mono ?_; rintro e u ⟨rfl, hb⟩; have hbu : Below w2.heap.size w2 u := Below.trans (by assumption) (hb.mono (Below.size (by assumption))); obtain ⟨s0, s2, s3, s4⟩ := HD.out u hbu; clear hb))
                go_roundw
                case rel => exact ⟨k + 1, by omega, by go_num, HN, hbu⟩
                case measure => simp [intOf]; omega
              · cases b4
                · have HN := Lib.hid (HQN.out (by rw [HBR.out]; simp [hkk]))
                  clear HQN HH HBR hkk
                  go_wp2_with (first | (go_at_call 77; refine (HasK.go (by assumption) (by assumption)).mono ?_; rintro e u ⟨rfl, hb⟩; have hbu : Below w2.heap.size w2 u := Below.trans (by assumption) (hb.mono (Below.size (by assumption))); obtain ⟨s0, s2, s3, s4⟩ := HD.out u hbu; clear hb))
                  go_roundw
                  case rel => exact ⟨k + 1, by omega, by go_num, HN, hbu⟩
                  case measure => simp [intOf]; omega
                · have HN := Lib.hid (HQN.out (by rw [HBR.out]; simp [hkk]))
                  clear HQN HH HBR hkk
                  go_wp2_with (first | (go_at_call 77; refine (HasK.go (by assumption) (by assumption)).mono ?_; rintro e u ⟨rfl, hb⟩; have hbu : Below w2.heap.size w2 u := Below.trans (by assumption) (hb.mono (Below.size (by assumption))); obtain ⟨s0, s2, s3, s4⟩ := HD.out u hbu; clear hb))
                  go_roundw
                  case rel => exact ⟨k + 1, by omega, by go_num, HN, hbu⟩
                  case measure => simp [intOf]; omega
            · cases b3
              · have HN := Lib.hid (HQN.out (by rw [HBR.out]; simp [hkk]))
                clear HQN HH HBR hkk
                go_wp2_with (first | (go_at_call 77; refine (HasK.go (by assumption) (by assumption)).mono ?_; rintro e u ⟨rfl, hb⟩; have hbu : Below w2.heap.size w2 u := Below.trans (by assumption) (hb.mono (Below.size (by assumption))); obtain ⟨s0, s2, s3, s4⟩ := HD.out u hbu; clear hb))
                go_roundw
                case rel => exact ⟨k + 1, by omega, by go_num, HN, hbu⟩
                case measure => simp [intOf]; omega
              · cases b4
                · have HN := Lib.hid (HQN.out (by rw [HBR.out]; simp [hkk]))
                  clear HQN HH HBR hkk
                  go_wp2_with (first | (go_at_call 77; refine (HasK.go (by assumption) (by assumption)).mono ?_; rintro e u ⟨rfl, hb⟩; have hbu : Below w2.heap.size w2 u := Below.trans (by assumption) (hb.mono (Below.size (by assumption))); obtain ⟨s0, s2, s3, s4⟩ := HD.out u hbu; clear hb))
                  go_roundw
                  case rel => exact ⟨k + 1, by omega, by go_num, HN, hbu⟩
                  case measure => simp [intOf]; omega
                · have HN := Lib.hid (HQN.out (by rw [HBR.out]; simp [hkk]))
                  clear HQN HH HBR hkk
                  go_wp2_with (first | (go_at_call 77; refine (HasK.go (by assumption) (by assumption)).mono ?_; rintro e u ⟨rfl, hb⟩; have hbu : Below w2.heap.size w2 u := Below.trans (by assumption) (hb.mono (Below.size (by assumption))); obtain ⟨s0, s2, s3, s4⟩ := HD.out u hbu; clear hb))
                  go_roundw
                  case rel => exact ⟨k + 1, by omega, by go_num, HN, hbu⟩
                  case measure => simp [intOf]; omega
        · cases b1
          · cases b3
            · have HN := Lib.hid (HQN.out (by rw [HBR.out]; simp [hkk]))
              clear HQN HH HBR hkk
              go_wp2_with (first | (go_at_call 77; refine (HasK.go (by assumption) (by assumption)).mono ?_; rintro e u ⟨rfl, hb⟩; have hbu : Below w2.heap.size w2 u := Below.trans (by assumption) (hb.mono (Below.size (by assumption))); obtain ⟨s0, s2, s3, s4⟩ := HD.out u hbu; clear hb))
              go_roundw
              case rel => exact ⟨k + 1, by omega, by go_num, HN, hbu⟩
              case measure => simp [intOf]; omega
            · cases b4
              · have HN := Lib.hid (HQN.out (by rw [HBR.out]; simp [hkk]))
                clear HQN HH HBR hkk
                go_wp2_with (first | (go_at_call 77; refine (HasK.go (by assumption) (by assumption)).mono ?_; rintro e u ⟨rfl, hb⟩; have hbu : Below w2.heap.size w2 u := Below.trans (by assumption) (hb.mono (Below.size (by assumption))); obtain ⟨s0, s2, s3, s4⟩ := HD.out u hbu; clear hb))
                go_roundw
                case rel => exact ⟨k + 1, by omega, by go_num, HN, hbu⟩
                case measure => simp [intOf]; omega
              · have HN := Lib.hid (HQN.out (by rw [HBR.out]; simp [hkk]))
                clear HQN HH HBR hkk
                go_wp2_with (first | (go_at_call 77; refine (HasK.go (by assumption) (by assumption)).mono ?_; rintro e u ⟨rfl, hb⟩; have hbu : Below w2.heap.size w2 u := Below.trans (by assumption) (hb.mono (Below.size (by assumption))); obtain ⟨s0, s2, s3, s4⟩ := HD.out u hbu; clear hb))
                go_roundw
                case rel => exact ⟨k + 1, by omega, by go_num, HN, hbu⟩
                case measure => simp [intOf]; omega
          · cases b2
            · cases b3
              · have HN := Lib.hid (HQN.out (by rw [HBR.out]; simp [hkk]))
                clear HQN HH HBR hkk
                go_wp2_with (first | (go_at_call 77; refine (HasK.go (by assumption) (by assumption)).mono ?_; rintro e u ⟨rfl, hb⟩; have hbu : Below w2.heap.size w2 u := Below.trans (by assumption) (hb.mono (Below.size (by assumption))); obtain ⟨s0, s2, s3, s4⟩ := HD.out u hbu; clear hb))
                go_roundw
                case rel => exact ⟨k + 1, by omega, by go_num, HN, hbu⟩
                case measure => simp [intOf]; omega
              · cases b4
                · have HN := Lib.hid (HQN.out (by rw [HBR.out]; simp [hkk]))
                  clear HQN HH HBR hkk
                  go_wp2_with (first | (go_at_call 77; refine (HasK.go (by assumption) (by assumption)).mono ?_; rintro e u ⟨rfl, hb⟩; have hbu : Below w2.heap.size w2 u := Below.trans (by assumption) (hb.mono (Below.size (by assumption))); obtain ⟨s0, s2, s3, s4⟩ := HD.out u hbu; clear hb))
                  go_roundw
                  case rel => exact ⟨k + 1, by omega, by go_num, HN, hbu⟩
                  case measure => simp [intOf]; omega
                · have HN := Lib.hid (HQN.out (by rw [HBR.out]; simp [hkk]))
                  clear HQN HH HBR hkk
                  go_wp2_with (first | (go_at_call 77; refine (HasK.go (by assumption) (by assumption)).mono ?_; rintro e u ⟨rfl, hb⟩; have hbu : Below w2.heap.size w2 u := Below.trans (by assumption) (hb.mono (Below.size (by assumption))); obtain ⟨s0, s2, s3, s4⟩ := HD.out u hbu; clear hb))
                  go_roundw
                  case rel => exact ⟨k + 1, by omega, by go_num, HN, hbu⟩
                  case measure => simp [intOf]; omega
            · cases b3
              · have HN := Lib.hid (HQN.out (by rw [HBR.out]; simp [hkk]))
                clear HQN HH HBR hkk
                go_wp2_with (first | (go_at_call 77; refine (HasK.go (by assumption) (by assumption)).mono ?_; rintro e u ⟨rfl, hb⟩; have hbu : Below w2.heap.size w2 u := Below.trans (by assumption) (hb.mono (Below.size (by assumption))); obtain ⟨s0, s2, s3, s4⟩ := HD.out u hbu; clear hb))
                go_roundw
                case rel => exact ⟨k + 1, by omega, by go_num, HN, hbu⟩
                case measure => simp [intOf]; omega
              · cases b4
                · have HN := Lib.hid (HQN.out (by rw [HBR.out]; simp [hkk]))
                  clear HQN HH HBR hkk
                  go_wp2_with (first | (go_at_call 77; refine (HasK.go (by assumption) (by assumption)).mono ?_; rintro e u ⟨rfl, hb⟩; have hbu : Below w2.heap.size w2 u := Below.trans (by assumption) (hb.mono (Below.size (by assumption))); obtain ⟨s0, s2, s3, s4⟩ := HD.out u hbu; clear hb))
                  go_roundw
                  case rel => exact ⟨k + 1, by omega, by go_num, HN, hbu⟩
                  case measure => simp [intOf]; omega
                · have HN := Lib.hid (HQN.out (by rw [HBR.out]; simp [hkk]))
                  clear HQN HH HBR hkk
                  go_wp2_with (first | (go_at_call 77; refine (HasK.go (by assumption) (by assumption)).mono ?_; rintro e u ⟨rfl, hb⟩; have hbu : Below w2.heap.size w2 u := Below.trans (by assumption) (hb.mono (Below.size (by assumption))); obtain ⟨s0, s2, s3, s4⟩ := HD.out u hbu; clear hb))
                  go_roundw
                  case rel => exact ⟨k + 1, by omega, by go_num, HN, hbu⟩
                  case measure => simp [intOf]; omega
      have hk1 : (kd == kind) = true := by rw [beq_iff_eq]; exact hkk
      cases back
      · cases b1
        · cases b3
          · have HN := Lib.hid (HQN.out (by rw [HBR.out]; simp [hkk]))
            clear HQN HH HBR hkk
            go_wp2_with (first | (go_at_call 77; refine (HasK.go (by assumption) (by assumption)).mono ?_; rintro e u ⟨rfl, hb⟩; have hbu : Below w2.heap.size w2 u := Below.trans (by assumption) (hb.mono (Below.size (by assumption))); obtain ⟨s0, s2, s3, s4⟩ := HD.out u hbu; clear hb))
            go_roundw
            case rel => exact ⟨k + 1, by omega, by go_num, HN, hbu⟩
            case measure => simp [intOf]; omega
          · cases b4
            · have HN := Lib.hid (HQN.out (by rw [HBR.out]; simp [hkk]))
              clear HQN HH HBR hkk
              go_wp2_with (first | (go_at_call 77; refine (HasK.go (by assumption) (by assumption)).mono ?_; rintro e u ⟨rfl, hb⟩; have hbu : Below w2.heap.size w2 u := Below.trans (by assumption) (hb.mono (Below.size (by assumption))); obtain ⟨s0, s2, s3, s4⟩ := HD.out u hbu; clear hb))
              go_roundw
              case rel => exact ⟨k + 1, by omega, by go_num, HN, hbu⟩
              case measure => simp [intOf]; omega
            · have HN := Lib.hid (HQN.out (by rw [HBR.out]; simp [hkk]))
              clear HQN HH HBR hkk
              go_wp2_with (first | (go_at_call 77; refine (HasK.go (by assumption) (by assumption)).mono ?_; rintro e u ⟨rfl, hb⟩; have hbu : Below w2.heap.size w2 u := Below.trans (by assumption) (hb.mono (Below.size (by assumption))); obtain ⟨s0, s2, s3, s4⟩ := HD.out u hbu; clear hb))
              go_roundw
              case rel => exact ⟨k + 1, by omega, by go_num, HN, hbu⟩
              case measure => simp [intOf]; omega
        · cases b2
          · cases b3
            · have HN := Lib.hid (HQN.out (by rw [HBR.out]; simp [hkk]))
              clear HQN HH HBR hkk
              go_wp2_with (first | (go_at_call 77; refine (HasK.go (by assumption) (by assumption)).mono ?_; rintro e u ⟨rfl, hb⟩; have hbu : Below w2.heap.size w2 u := Below.trans (by assumption) (hb.mono (Below.size (by assumption))); obtain ⟨s0, s2, s3, s4⟩ := HD.out u hbu; clear hb))
              go_roundw
              case rel => exact ⟨k + 1, by omega, by go_num, HN, hbu⟩
              case measure => simp [intOf]; omega
            · cases b4
              · have HN := Lib.hid (HQN.out (by rw [HBR.out]; simp [hkk]))
                clear HQN HH HBR hkk
                go_wp2_with (first | (go_at_call 77; refine (HasK.go (by assumption) (by assumption)).mono ?_; rintro e u ⟨rfl, hb⟩; have hbu : Below w2.heap.size w2 u := Below.trans (by assumption) (hb.mono (Below.size (by assumption))); obtain ⟨s0, s2, s3, s4⟩ := HD.out u hbu; clear hb))
                go_roundw
                case rel => exact ⟨k + 1, by omega, by go_num, HN, hbu⟩
                case measure => simp [intOf]; omega
              · have HN := Lib.hid (HQN.out (by rw [HBR.out]; simp [hkk]))
                clear HQN HH HBR hkk
                go_wp2_with (first | (go_at_call 77; refine (HasK.go (by assumption) (by assumption)).mono ?_; rintro e u ⟨rfl, hb⟩; have hbu : Below w2.heap.size w2 u := Below.trans (by assumption) (hb.mono (Below.size (by assumption))); obtain ⟨s0, s2, s3, s4⟩ := HD.out u hbu; clear hb))
                go_roundw
                case rel => exact ⟨k + 1, by omega, by go_num, HN, hbu⟩
                case measure => simp [intOf]; omega
          · cases b3
            · have HR := Lib.hid (HH.out (by rw [HBR.out]; simp [hkk]))
              clear HQN HH HBR hkk
              go_wp2_with (first | (go_at_call 77; refine (HasK.go (by assumption) (by assumption)).mono ?_; rintro e u ⟨rfl, hb⟩; have hbu : Below w2.heap.size w2 u := Below.trans (by assumption) (hb.mono (Below.size (by assumption))); obtain ⟨s0, s2, s3, s4⟩ := HD.out u hbu; clear hb))
              go_ret
              exact ⟨by rw [HR.out]; rfl, hB2.trans (hbu.mono hB2.size)⟩
            · cases b4
              · have HR := Lib.hid (HH.out (by rw [HBR.out]; simp [hkk]))
                clear HQN HH HBR hkk
                go_wp2_with (first | (go_at_call 77; refine (HasK.go (by assumption) (by assumption)).mono ?_; rintro e u ⟨rfl, hb⟩; have hbu : Below w2.heap.size w2 u := Below.trans (by assumption) (hb.mono (Below.size (by assumption))); obtain ⟨s0, s2, s3, s4⟩ := HD.out u hbu; clear hb))
                go_ret
                exact ⟨by rw [HR.out]; rfl, hB2.trans (hbu.mono hB2.size)⟩
              · have HR := Lib.hid (HH.out (by rw [HBR.out]; simp [hkk]))
                clear HQN HH HBR hkk
                go_wp2_with (first | (go_at_call 77; refine (HasK.go (by assumption) (by assumption)).mono ?_; rintro e u ⟨rfl, hb⟩; have hbu : Below w2.heap.size w2 u := Below.trans (by assumption) (hb.mono (Below.size (by assumption))); obtain ⟨s0, s2, s3, s4⟩ := HD.out u hbu; clear hb))
                go_ret
                exact ⟨by rw [HR.out]; rfl, hB2.trans (hbu.mono hB2.size)⟩
      · cases b1
        · cases b3
          · have HN := Lib.hid (HQN.out (by rw [HBR.out]; simp [hkk]))
            clear HQN HH HBR hkk
            go_wp2_with (first | (go_at_call 77; refine (HasK.go (by assumption) (by assumption)).mono ?_; rintro e u ⟨rfl, hb⟩; have hbu : Below w2.heap.size w2 u := Below.trans (by assumption) (hb.mono (Below.size (by assumption))); obtain ⟨s0, s2, s3, s4⟩ := HD.out u hbu; clear hb))
            go_roundw
            case rel => exact ⟨k + 1, by omega, by go_num, HN, hbu⟩
            case measure => simp [intOf]; omega
          · cases b4
            · have HN := Lib.hid (HQN.out (by rw [HBR.out]; simp [hkk]))
              clear HQN HH HBR hkk
              go_wp2_with (first | (go_at_call 77; refine (HasK.go (by assumption) (by assumption)).mono ?_; rintro e u ⟨rfl, hb⟩; have hbu : Below w2.heap.size w2 u := Below.trans (by assumption) (hb.mono (Below.size (by assumption))); obtain ⟨s0, s2, s3, s4⟩ := HD.out u hbu; clear hb))
              go_roundw
              case rel => exact ⟨k + 1, by omega, by go_num, HN, hbu⟩
              case measure => simp [intOf]; omega
            · have HR := Lib.hid (HH.out (by rw [HBR.out]; simp [hkk]))
              clear HQN HH HBR hkk
              go_wp2_with (first | (go_at_call 77; refine (HasK.go (by assumption) (by assumption)).mono ?_; rintro e u ⟨rfl, hb⟩; have hbu : Below w2.heap.size w2 u := Below.trans (by assumption) (hb.mono (Below.size (by assumption))); obtain ⟨s0, s2, s3, s4⟩ := HD.out u hbu; clear hb))
              go_ret
              exact ⟨by rw [HR.out]; rfl, hB2.trans (hbu.mono hB2.size)⟩
        · cases b2
          · cases b3
            · have HN := Lib.hid (HQN.out (by rw [HBR.out]; simp [hkk]))
              clear HQN HH HBR hkk
              go_wp2_with (first | (go_at_call 77; refine (HasK.go (by assumption) (by assumption)).mono ?_; rintro e u ⟨rfl, hb⟩; have hbu : Below w2.heap.size w2 u := Below.trans (by assumption) (hb.mono (Below.size (by assumption))); obtain ⟨s0, s2, s3, s4⟩ := HD.out u hbu; clear hb))
              go_roundw
              case rel => exact ⟨k + 1, by omega, by go_num, HN, hbu⟩
              case measure => simp [intOf]; omega
            · cases b4
              · have HN := Lib.hid (HQN.out (by rw [HBR.out]; simp [hkk]))
                clear HQN HH HBR hkk
                go_wp2_with (first | (go_at_call 77; refine (HasK.go (by assumption) (by assumption)).mono ?_; rintro e u ⟨rfl, hb⟩; have hbu : Below w2.heap.size w2 u := Below.trans (by assumption) (hb.mono (Below.size (by assumption))); obtain ⟨s0, s2, s3, s4⟩ := HD.out u hbu; clear hb))
                go_roundw
                case rel => exact ⟨k + 1, by omega, by go_num, HN, hbu⟩
                case measure => simp [intOf]; omega
              · have HR := Lib.hid (HH.out (by rw [HBR.out]; simp [hkk]))
                clear HQN HH HBR hkk
                go_wp2_with (first | (go_at_call 77; refine (HasK.go (by assumption) (by assumption)).mono ?_; rintro e u ⟨rfl, hb⟩; have hbu : Below w2.heap.size w2 u := Below.trans (by assumption) (hb.mono (Below.size (by assumption))); obtain ⟨s0, s2, s3, s4⟩ := HD.out u hbu; clear hb))
                go_ret
                exact ⟨by rw [HR.out]; rfl, hB2.trans (hbu.mono hB2.size)⟩
          · cases b3
            · have HR := Lib.hid (HH.out (by rw [HBR.out]; simp [hkk]))
              clear HQN HH HBR hkk
              go_wp2_with (first | (go_at_call 77; refine (HasK.go (by assumption) (by assumption)).mono ?_; rintro e u ⟨rfl, hb⟩; have hbu : Below w2.heap.size w2 u := Below.trans (by assumption) (hb.mono (Below.size (by assumption))); obtain ⟨s0, s2, s3, s4⟩ := HD.out u hbu; clear hb))
              go_ret
              exact ⟨by rw [HR.out]; rfl, hB2.trans (hbu.mono hB2.size)⟩
            · cases b4
              · have HR := Lib.hid (HH.out (by rw [HBR.out]; simp [hkk]))
                clear HQN HH HBR hkk
                go_wp2_with (first | (go_at_call 77; refine (HasK.go (by assumption) (by assumption)).mono ?_; rintro e u ⟨rfl, hb⟩; have hbu : Below w2.heap.size w2 u := Below.trans (by assumption) (hb.mono (Below.size (by assumption))); obtain ⟨s0, s2, s3, s4⟩ := HD.out u hbu; clear hb))
                go_ret
                exact ⟨by rw [HR.out]; rfl, hB2.trans (hbu.mono hB2.size)⟩
              · have HR := Lib.hid (HH.out (by rw [HBR.out]; simp [hkk]))
                clear HQN HH HBR hkk
                go_wp2_with (first | (go_at_call 77; refine (HasK.go (by assumption) (by assumption)).mono ?_; rintro e u ⟨rfl, hb⟩; have hbu : Below w2.heap.size w2 u := Below.trans (by assumption) (hb.mono (Below.size (by assumption))); obtain ⟨s0, s2, s3, s4⟩ := HD.out u hbu; clear hb))
                go_ret
                exact ⟨by rw [HR.out]; rfl, hB2.trans (hbu.mono hB2.size)⟩
    · obtain rfl : k = l.length := by omega
      have HR := Lib.hid (HNO.out (fun j h => hQ.out j h h))
      clear HX HZ HHIT HNO HBB hQ HLW
      go_wp2
      go_ret
      exact ⟨by rw [HR.out]; rfl, hbz⟩
theorem barL_fst {l : List Rul} {known kind : Int} {x y : ByteArray} {back : Bool} : (barL (cntL l known) kind x y back).1 = decide ((barL (cntL l known) kind x y back).2 = 0) := by
  unfold barL
  cases h : (cntL l known).find? (barB (cntL l known) kind x y back) with
  | none => rfl
  | some r =>
    have := (cnt_ids r (List.mem_of_find?_eq_some h)).1
    have h2 : ¬ r.id = 0 := by omega
    show false = decide (r.id = 0)
    rw [decide_eq_false h2]
set_option maxHeartbeats 2000000 in
set_option maxRecDepth 100000 in
theorem rmayBeside_any (l : List Rul) (A : Option Addr) (c : Nat) (known : Int) (x y : ByteArray) (w : World) (hl : Lies w w.heap.size A (rulesC l)) (hok : RulOK l) (hm : l.length ≤ 1000) :
    Calls Tryz.prog 30 #[.agg #[.slice A l.length c], .int .i64 known, .string x, .string y] w (BarE (barL (cntL l known) 3 x y true) w) := by
  have HC : Hid (∀ W, Below w.heap.size w W → Calls Tryz.prog 39 #[.agg #[.slice A l.length c], .int .i64 known] W (SlE (cntL l known) W)) := fun W hb => rcounting_any l A c known W ((hl.below hb (Nat.le_refl _)).more hb.size) hok hm
  have HS := Lib.hid (fun A' c' W hL => rforb_any (cntL l known) A' c' 3 x y true W hL (Nat.le_trans (cnt_len l known) hm))
  have HF := Lib.hid (barL_fst (l := l) (known := known) (kind := 3) (x := x) (y := y) (back := true))
  generalize barL (cntL l known) 3 x y true = P at *
  obtain ⟨p, i⟩ := P
  dsimp only at *
  clear hl hok
  go_enter Tryz.func30, Tryz.ntmps30
  by_cases hi : i = 0
  · have hi1 : (i == 0) = true := by rw [beq_iff_eq]; exact hi
    have HP : Hid (p = true) := by show _ = _; rw [HF.out, decide_eq_true hi]
    clear hi HF
    go_wp2_with (first | (go_at_call 39; refine (HC.out _ (by repeat (first | with_reducible exact Below.refl _ _ | with_reducible assumption | with_reducible refine Below.drew ?_ | with_reducible refine below_drewN ?_ _ | (with_reducible refine Below.alloc ?_ ?_ _; rotate_left; (try simp) <;> omega) | (with_reducible refine Below.setCell ?_ ?_ _; rotate_left; (try simp) <;> omega)))).mono ?_; rintro e w1 ⟨A1, c1, rfl, hl1, _, hb1⟩; have hB1 : Below w.heap.size w w1 := Below.trans (by repeat (first | with_reducible exact Below.refl _ _ | with_reducible assumption | with_reducible refine Below.drew ?_ | with_reducible refine below_drewN ?_ _ | (with_reducible refine Below.alloc ?_ ?_ _; rotate_left; (try simp) <;> omega) | (with_reducible refine Below.setCell ?_ ?_ _; rotate_left; (try simp) <;> omega))) (hb1.mono (by simp))) | (go_at_call 80; refine (HS.out _ _ _ hl1).mono ?_; rintro e w2 ⟨rfl, hb2⟩))
    go_ret2
    exact ⟨by rw [HP.out]; rfl, hB1.trans (hb2.mono hB1.size)⟩
  · have hi1 : (i == 0) = false := by rw [beq_eq_false_iff_ne]; exact hi
    have HP : Hid (p = false) := by show _ = _; rw [HF.out, decide_eq_false hi]
    clear hi HF
    go_wp2_with (first | (go_at_call 39; refine (HC.out _ (by repeat (first | with_reducible exact Below.refl _ _ | with_reducible assumption | with_reducible refine Below.drew ?_ | with_reducible refine below_drewN ?_ _ | (with_reducible refine Below.alloc ?_ ?_ _; rotate_left; (try simp) <;> omega) | (with_reducible refine Below.setCell ?_ ?_ _; rotate_left; (try simp) <;> omega)))).mono ?_; rintro e w1 ⟨A1, c1, rfl, hl1, _, hb1⟩; have hB1 : Below w.heap.size w w1 := Below.trans (by repeat (first | with_reducible exact Below.refl _ _ | with_reducible assumption | with_reducible refine Below.drew ?_ | with_reducible refine below_drewN ?_ _ | (with_reducible refine Below.alloc ?_ ?_ _; rotate_left; (try simp) <;> omega) | (with_reducible refine Below.setCell ?_ ?_ _; rotate_left; (try simp) <;> omega))) (hb1.mono (by simp))) | (go_at_call 80; refine (HS.out _ _ _ hl1).mono ?_; rintro e w2 ⟨rfl, hb2⟩))
    go_ret2
    exact ⟨by rw [HP.out]; rfl, hB1.trans (hb2.mono hB1.size)⟩
set_option maxHeartbeats 2000000 in
set_option maxRecDepth 100000 in
theorem rmayOver_any (l : List Rul) (A : Option Addr) (c : Nat) (known : Int) (x y : ByteArray) (w : World) (hl : Lies w w.heap.size A (rulesC l)) (hok : RulOK l) (hm : l.length ≤ 1000) :
    Calls Tryz.prog 32 #[.agg #[.slice A l.length c], .int .i64 known, .string x, .string y] w (BarE (barL (cntL l known) 4 x y false) w) := by
  have HC : Hid (∀ W, Below w.heap.size w W → Calls Tryz.prog 39 #[.agg #[.slice A l.length c], .int .i64 known] W (SlE (cntL l known) W)) := fun W hb => rcounting_any l A c known W ((hl.below hb (Nat.le_refl _)).more hb.size) hok hm
  have HS := Lib.hid (fun A' c' W hL => rforb_any (cntL l known) A' c' 4 x y false W hL (Nat.le_trans (cnt_len l known) hm))
  have HF := Lib.hid (barL_fst (l := l) (known := known) (kind := 4) (x := x) (y := y) (back := false))
  generalize barL (cntL l known) 4 x y false = P at *
  obtain ⟨p, i⟩ := P
  dsimp only at *
  clear hl hok
  go_enter Tryz.func32, Tryz.ntmps32
  by_cases hi : i = 0
  · have hi1 : (i == 0) = true := by rw [beq_iff_eq]; exact hi
    have HP : Hid (p = true) := by show _ = _; rw [HF.out, decide_eq_true hi]
    clear hi HF
    go_wp2_with (first | (go_at_call 39; refine (HC.out _ (by repeat (first | with_reducible exact Below.refl _ _ | with_reducible assumption | with_reducible refine Below.drew ?_ | with_reducible refine below_drewN ?_ _ | (with_reducible refine Below.alloc ?_ ?_ _; rotate_left; (try simp) <;> omega) | (with_reducible refine Below.setCell ?_ ?_ _; rotate_left; (try simp) <;> omega)))).mono ?_; rintro e w1 ⟨A1, c1, rfl, hl1, _, hb1⟩; have hB1 : Below w.heap.size w w1 := Below.trans (by repeat (first | with_reducible exact Below.refl _ _ | with_reducible assumption | with_reducible refine Below.drew ?_ | with_reducible refine below_drewN ?_ _ | (with_reducible refine Below.alloc ?_ ?_ _; rotate_left; (try simp) <;> omega) | (with_reducible refine Below.setCell ?_ ?_ _; rotate_left; (try simp) <;> omega))) (hb1.mono (by simp))) | (go_at_call 80; refine (HS.out _ _ _ hl1).mono ?_; rintro e w2 ⟨rfl, hb2⟩))
    go_ret2
    exact ⟨by rw [HP.out]; rfl, hB1.trans (hb2.mono hB1.size)⟩
  · have hi1 : (i == 0) = false := by rw [beq_eq_false_iff_ne]; exact hi
    have HP : Hid (p = false) := by show _ = _; rw [HF.out, decide_eq_false hi]
    clear hi HF
    go_wp2_with (first | (go_at_call 39; refine (HC.out _ (by repeat (first | with_reducible exact Below.refl _ _ | with_reducible assumption | with_reducible refine Below.drew ?_ | with_reducible refine below_drewN ?_ _ | (with_reducible refine Below.alloc ?_ ?_ _; rotate_left; (try simp) <;> omega) | (with_reducible refine Below.setCell ?_ ?_ _; rotate_left; (try simp) <;> omega)))).mono ?_; rintro e w1 ⟨A1, c1, rfl, hl1, _, hb1⟩; have hB1 : Below w.heap.size w w1 := Below.trans (by repeat (first | with_reducible exact Below.refl _ _ | with_reducible assumption | with_reducible refine Below.drew ?_ | with_reducible refine below_drewN ?_ _ | (with_reducible refine Below.alloc ?_ ?_ _; rotate_left; (try simp) <;> omega) | (with_reducible refine Below.setCell ?_ ?_ _; rotate_left; (try simp) <;> omega))) (hb1.mono (by simp))) | (go_at_call 80; refine (HS.out _ _ _ hl1).mono ?_; rintro e w2 ⟨rfl, hb2⟩))
    go_ret2
    exact ⟨by rw [HP.out]; rfl, hB1.trans (hb2.mono hB1.size)⟩
end Go.Proofs.YtkfeagokmcakgaaGreatDoor

namespace Go.Proofs.YtkfeagokmcakgaaGreatDoor

theorem least_ex {P : Nat → Prop} : ∀ n, P n → ∃ k, P k ∧ ∀ m, P m → k ≤ m := by
  intro n
  induction n using Nat.strongRecOn with
  | _ n ih =>
    intro hn
    by_cases h : ∃ m, m < n ∧ P m
    · obtain ⟨m, hm, hp⟩ := h
      exact ih m hm hp
    · exact ⟨n, hn, fun m hm => Nat.le_of_not_lt fun hlt => h ⟨m, hlt, hm⟩⟩
open Classical in
theorem dist_ex (l : List Rul) (y : ByteArray) : ∃ g, IsDist l y g := by
  refine ⟨fun s => if h : ∃ k : Nat, Path l k s y ∧ ∀ m, Path l m s y → k ≤ m then some ((Classical.choose h : Nat) : Int) else none, ⟨?_, ?_⟩⟩
  · intro s n e
    split at e
    · rename_i h
      cases e
      exact ⟨_, rfl, Classical.choose_spec h⟩
    · cases e
  · intro s e m hp
    split at e
    · cases e
    · rename_i h
      exact h (least_ex (P := fun k => Path l k s y) m hp)
theorem IsDist.own {l : List Rul} {y : ByteArray} {g : ByteArray → Option Int} (h : IsDist l y g) : g y = some 0 := by
  cases e : g y with
  | none => exact absurd (.zero y) (h.none_ y e 0)
  | some n =>
    obtain ⟨k, rfl, _, hm⟩ := h.some_ y n e
    have := hm 0 (.zero y)
    rw [show k = 0 by omega]; rfl
theorem IsDist.pos {l : List Rul} {y a : ByteArray} {g : ByteArray → Option Int} {n : Int} (h : IsDist l y g) (e : g a = some n) : 0 ≤ n := by
  obtain ⟨k, rfl, _⟩ := h.some_ a n e; omega
theorem IsDist.zero {l : List Rul} {y a : ByteArray} {g : ByteArray → Option Int} (h : IsDist l y g) (e : g a = some 0) : a = y := by
  obtain ⟨k, hk, hp, _⟩ := h.some_ a 0 e
  obtain rfl : k = 0 := by omega
  cases hp; rfl
theorem IsDist.pred {l : List Rul} {y a : ByteArray} {g : ByteArray → Option Int} {q : Nat} (h : IsDist l y g) (e : g a = some ((q + 1 : Nat) : Int)) : ∃ r ∈ l, r.kind = 5 ∧ r.x = a ∧ g r.y = some (q : Int) := by
  obtain ⟨k, hk, hp, hm⟩ := h.some_ a _ e
  obtain rfl : k = q + 1 := by omega
  cases hp with
  | succ ed hp =>
    obtain ⟨r, hr, h5, hx, rfl⟩ := ed
    refine ⟨r, hr, h5, hx, ?_⟩
    cases e2 : g r.y with
    | none => exact absurd hp (h.none_ _ e2 q)
    | some m =>
      obtain ⟨k2, rfl, hp2, hm2⟩ := h.some_ _ m e2
      have h1 := hm2 q hp
      have h2 := hm (k2 + 1) (.succ ⟨r, hr, h5, hx, rfl⟩ hp2)
      rw [show k2 = q by omega]
theorem IsDist.edge {l : List Rul} {y : ByteArray} {g : ByteArray → Option Int} {n : Int} (h : IsDist l y g) {r : Rul} (hr : r ∈ l) (h5 : r.kind = 5) (e : g r.y = some n) : ∃ m, g r.x = some m ∧ m ≤ n + 1 := by
  obtain ⟨k, rfl, hp, _⟩ := h.some_ _ n e
  have hp2 : Path l (k + 1) r.x y := .succ ⟨r, hr, h5, rfl, rfl⟩ hp
  cases e2 : g r.x with
  | none => exact absurd hp2 (h.none_ _ e2 _)
  | some m =>
    obtain ⟨k2, rfl, _, hm2⟩ := h.some_ _ m e2
    have := hm2 _ hp2
    exact ⟨_, rfl, by omega⟩
theorem IsDist.reach {l : List Rul} {y a : ByteArray} {g : ByteArray → Option Int} (h : IsDist l y g) : (∃ n, g a = some n) ↔ Reach l a y := by
  constructor
  · rintro ⟨n, e⟩
    obtain ⟨k, _, hp, _⟩ := h.some_ a n e
    exact hp.reach
  · intro hr
    obtain ⟨n, hp⟩ := hr.path
    cases e : g a with
    | none => exact absurd hp (h.none_ a e n)
    | some m => exact ⟨m, rfl⟩
theorem dist_list {l : List Rul} {y : ByteArray} {g : ByteArray → Option Int} {G : List ByteArray} (h : IsDist l y g) (hG : ∀ r ∈ l, r.kind = 5 → r.x ∈ G → r.y ∈ G) : ∀ (q : Nat) (a : ByteArray), a ∈ G → g a = some (q : Int) → ∃ L : List ByteArray, L.length = q + 1 ∧ L.Nodup ∧ (∀ z ∈ L, z ∈ G) ∧ ∀ z ∈ L, ∃ m : Int, g z = some m ∧ m ≤ (q : Int)
  | 0, a, ha, e => ⟨[a], rfl, by simp, by simpa using ha, by simpa using ⟨0, e, Int.le_refl _⟩⟩
  | q + 1, a, ha, e => by
    obtain ⟨r, hr, h5, hx, e2⟩ := h.pred e
    obtain ⟨L, h1, h2, h3, h4⟩ := dist_list h hG q r.y (hG r hr h5 (by rw [hx]; exact ha)) e2
    refine ⟨a :: L, by simp [h1], List.nodup_cons.2 ⟨fun hm => ?_, h2⟩, ?_, ?_⟩
    · obtain ⟨m, hm1, hm2⟩ := h4 a hm
      rw [e] at hm1; cases hm1; omega
    · intro z hz
      rcases List.mem_cons.1 hz with rfl | hz
      · exact ha
      · exact h3 z hz
    · intro z hz
      rcases List.mem_cons.1 hz with rfl | hz
      · exact ⟨_, e, Int.le_refl _⟩
      · obtain ⟨m, hm1, hm2⟩ := h4 z hz
        exact ⟨m, hm1, by omega⟩
theorem dist_bound {l : List Rul} {y a : ByteArray} {g : ByteArray → Option Int} {G : List ByteArray} (h : IsDist l y g) (hG : ∀ r ∈ l, r.kind = 5 → r.x ∈ G → r.y ∈ G) {n : Int} (ha : a ∈ G) (e : g a = some n) : n + 1 ≤ (G.length : Int) := by
  obtain ⟨k, rfl, _⟩ := h.some_ a n e
  obtain ⟨L, h1, h2, h3, _⟩ := dist_list h hG k a ha e
  have := nodup_len L G h2 h3
  omega
theorem grps_closed (d : List Rul) (x : ByteArray) : ∀ r ∈ d, r.kind = 5 → r.x ∈ grps d x → r.y ∈ grps d x := fun r hr h5 hx => (grps_iff d x _).2 (((grps_iff d x _).1 hx).snoc ⟨r, hr, h5, rfl, rfl⟩)
theorem grps_self (d : List Rul) (x : ByteArray) : x ∈ grps d x := (grps_iff d x x).2 (.refl x)
/-- what the list of numbers holds for a name, in round n, behind j rules -/
def dv (g : ByteArray → Option Int) (d : List Rul) (n j : Nat) (a : ByteArray) : Int :=
  match g a with
  | none => -1
  | some k => if k ≤ (n : Int) then k else if k = (n : Int) + 1 ∧ (d.take j).any (chM g n a) = true then (n : Int) + 1 else -1
theorem dv_zero {l : List Rul} {y : ByteArray} {g : ByteArray → Option Int} (h : IsDist l y g) (a : ByteArray) : dv g l 0 0 a = if a = y then 0 else -1 := by
  unfold dv
  by_cases hy : a = y
  · subst hy; rw [h.own, if_pos rfl]; rfl
  · rw [if_neg hy]
    cases e : g a with
    | none => rfl
    | some k =>
      have h0 := h.pos e
      have h1 : ¬ k ≤ ((0 : Nat) : Int) := fun hk => by
        have : k = 0 := by omega
        subst this; exact hy (h.zero e)
      show (if k ≤ ((0 : Nat) : Int) then k else _) = -1
      rw [if_neg h1, if_neg (by simp)]
theorem dv_eq {l : List Rul} {y a : ByteArray} {g : ByteArray → Option Int} {n j : Nat} (h : IsDist l y g) : dv g l n j a = (n : Int) ↔ g a = some (n : Int) := by
  unfold dv
  cases e : g a with
  | none => constructor
            · intro h; dsimp only at h; omega
            · intro h; cases h
  | some k =>
    dsimp only
    constructor
    · intro hh
      split at hh
      · rw [hh]
      · split at hh <;> omega
    · intro hh; cases hh; rw [if_pos (Int.le_refl _)]
theorem any_take_step {α : Type} {l : List α} {p : α → Bool} {k : Nat} (hk : k < l.length) : (l.take (k + 1)).any p = ((l.take k).any p || p l[k]) := by
  rw [← List.take_append_getElem hk, List.any_append]; simp
theorem dv_step {l : List Rul} {y : ByteArray} {g : ByteArray → Option Int} {n j : Nat} (h : IsDist l y g) (hj : j < l.length) (a : ByteArray) :
    dv g l n (j + 1) a = if l[j].kind = 5 ∧ dv g l n j l[j].y = (n : Int) ∧ dv g l n j l[j].x < 0 ∧ a = l[j].x then (n : Int) + 1 else dv g l n j a := by
  have hmem := List.getElem_mem hj
  by_cases hs : l[j].kind = 5 ∧ g l[j].y = some (n : Int) ∧ a = l[j].x
  · obtain ⟨h5, hy, rfl⟩ := hs
    obtain ⟨m, hm, hle⟩ := h.edge hmem h5 hy
    have hp := h.pos hm
    have hc : chM g n l[j].x l[j] = true := by unfold chM; rw [h5, hy]; simp
    have hd : dv g l n j l[j].y = (n : Int) := (dv_eq h).2 hy
    have e1 : dv g l n (j + 1) l[j].x = m := by
      unfold dv
      rw [hm, any_take_step hj, hc]
      dsimp only
      by_cases hmn : m ≤ (n : Int)
      · rw [if_pos hmn]
      · rw [if_neg hmn, if_pos ⟨by omega, by simp⟩]; omega
    rw [e1]
    by_cases hn : dv g l n j l[j].x < 0
    · rw [if_pos ⟨h5, hd, hn, rfl⟩]
      unfold dv at hn
      rw [hm] at hn
      dsimp only at hn
      by_cases hmn : m ≤ (n : Int)
      · rw [if_pos hmn] at hn; omega
      · omega
    · rw [if_neg (fun hh => hn hh.2.2.1)]
      unfold dv at hn ⊢
      rw [hm] at hn ⊢
      dsimp only at hn ⊢
      by_cases hmn : m ≤ (n : Int)
      · rw [if_pos hmn]
      · rw [if_neg hmn] at hn ⊢
        split
        · omega
        · rename_i hq; rw [if_neg hq] at hn; omega
  · have hc : chM g n a l[j] = false := by
      cases hq : chM g n a l[j] with
      | false => rfl
      | true =>
        unfold chM at hq
        simp at hq
        exact absurd ⟨hq.1.1, hq.2, hq.1.2.symm⟩ hs
    rw [if_neg (fun hh => hs ⟨hh.1, (dv_eq h).1 hh.2.1, hh.2.2.2⟩)]
    unfold dv
    rw [any_take_step hj, hc, Bool.or_false]
theorem dv_round {l : List Rul} {y : ByteArray} {g : ByteArray → Option Int} {n : Nat} (h : IsDist l y g) (a : ByteArray) : dv g l n l.length a = dv g l (n + 1) 0 a := by
  unfold dv
  cases e : g a with
  | none => rfl
  | some k =>
    dsimp only
    by_cases h1 : k ≤ (n : Int)
    · rw [if_pos h1, if_pos (by omega)]
    · rw [if_neg h1]
      by_cases h2 : k = (n : Int) + 1
      · subst h2
        obtain ⟨r, hr, h5, hx, hy⟩ := h.pred (q := n) (a := a) (by rw [e]; rfl)
        rw [if_pos ⟨rfl, by rw [List.take_length]; exact List.any_eq_true.2 ⟨r, hr, by unfold chM; rw [h5, hx, hy]; simp⟩⟩, if_pos (by omega)]
      · rw [if_neg (fun hh => h2 hh.1), if_neg (by omega), if_neg (by simp)]
/-- what it holds at the end -/
def fv (g : ByteArray → Option Int) (a : ByteArray) : Int := (g a).getD (-1)
theorem dv_end {l : List Rul} {y a : ByteArray} {g : ByteArray → Option Int} {G : List ByteArray} (h : IsDist l y g) (hG : ∀ r ∈ l, r.kind = 5 → r.x ∈ G → r.y ∈ G) (ha : a ∈ G) : dv g l G.length 0 a = fv g a := by
  unfold dv fv
  cases e : g a with
  | none => rfl
  | some k =>
    have := dist_bound h hG ha e
    dsimp only
    rw [if_pos (by omega)]; rfl
end Go.Proofs.YtkfeagokmcakgaaGreatDoor

namespace Go.Proofs.YtkfeagokmcakgaaGreatDoor
open Go.RowKit

theorem any_mem (m : List ByteArray) (s : ByteArray) : (m.any fun x => decide (s = x)) = decide (s ∈ m) := by
  rw [Bool.eq_iff_iff, List.any_eq_true, decide_eq_true_iff]
  constructor
  · rintro ⟨x, hx, h⟩
    rw [of_decide_eq_true h]; exact hx
  · intro h
    exact ⟨s, h, decide_eq_true rfl⟩
set_option maxHeartbeats 1000000 in
set_option maxRecDepth 100000 in
theorem rtwice_any (l : List ByteArray) (A : Option Addr) (c : Nat) (w : World) (hl : Lies w w.heap.size A (strsC l)) (hm : l.length ≤ 1000) (hc : l.length ≤ c) (hc2 : c ≤ maxLen) :
    Calls Tryz.prog 98 #[.slice A l.length c] w (ShEnd (twiceB l) w) := by
  unfold maxLen at hc2
  have HLW : Hid (∀ V, Below w.heap.size w V → Lies V V.heap.size A (strsC l)) := fun V hV => lies_on hl hV
  clear hl
  go_enter Tryz.func98, Tryz.ntmps98
  go_wp2
  go_loopw [3] (fun y wr => ∃ k : Nat, k ≤ l.length ∧ y = .int .i64 k ∧ Hid (∀ j (hj : j < k) (h' : j < l.length), (l.take j).any (fun x => decide (l[j] = x)) = false) ∧ Below w.heap.size w wr) (fun y _ => l.length - (intOf y).toNat)
  case atStart => exact ⟨0, by omega, rfl, fun j hj => absurd hj (by omega), Below.refl _ _⟩
  case round =>
    obtain ⟨k, hk, rfl, hg, hbw⟩ := hrel
    by_cases hlt : k < l.length
    · obtain ⟨ad, rfl, _, z0⟩ := str_at (HLW.out wr hbw) hlt
      have HZ : Hid (∀ V, Below w.heap.size w V → V.cell? (ad.add k) = some (.string l[k])) := fun V hV => by
        obtain ⟨a2, e2, _, h2⟩ := str_at (HLW.out V hV) hlt
        cases e2
        exact h2
      have HC : Hid (∀ V, Below w.heap.size w V → Calls Tryz.prog 77 #[.slice (some ad) k c, .string l[k]] V (ShEnd ((l.take k).any fun x => decide (l[k] = x)) V)) := fun V hV => by
        have h := rhas_any (l.take k) (some ad) c l[k] V (by have := (HLW.out V hV).take k; rwa [← show strsC (l.take k) = (strsC l).take k from List.map_take] at this) (by rw [List.length_take]; unfold maxLen; omega)
        rw [any_mem]; rwa [List.length_take, Nat.min_eq_left hk] at h
      have HY := Lib.hid (fun h => twiceB_yes hlt h)
      have HN : Hid ((l.take k).any (fun x => decide (l[k] = x)) = false → ∀ j (hj : j < k + 1) (h' : j < l.length), (l.take j).any (fun x => decide (l[j] = x)) = false) := fun h j hj h' => by
        by_cases e : j = k
        · subst e; exact h
        · exact hg.out j (by omega) h'
      have hkc : (k : Int) ≤ (c : Int) := by omega
      have hkl : (k : Int) < (l.length : Int) := by omega
      clear hg HLW
      generalize ((l.take k).any fun x => decide (l[k] = x)) = b at *
      generalize l[k] = s at *
      go_upto_region 4 with fail
      refine wp_region_held_drew (S := fun V => V.cell? (ad.add k) = some (.string s)) (by kernel_rfl) ?_ (fun hHeld => ?_)
      · exact HZ.out _ hbw.drew
      refine tk 0 10 ?_
      refine tk 1 11 ?_
      refine tk 2 12 ?_
      refine tk 3 13 ?_
      refine tk 4 14 ?_
      refine tk 5 15 ?_
      refine tk 6 16 ?_
      (refine held_call 7 (some 17) 77 _ rfl (by kernel_rfl) (by rfl) ?_ ((HC.out _ hbw.drew)) ?_; rotate_left; rotate_left; (simp only [List.getElem?_toArray, List.getElem?_cons_zero, List.getElem?_cons_succ, Option.map_some]; refine congrArg some ?_; go_simp))
      rintro e u ⟨rfl, hb⟩
      have hbu : Below w.heap.size w u := hbw.drew.trans (hb.mono hbw.drew.size)
      refine ⟨_, rfl, HZ.out _ hbu, fun hHeld => ?_⟩
      (try simp only [Act.put, List.setIfInBounds_toArray, List.set_cons_zero, List.set_cons_succ])
      refine wpAnyH_done (by kernel_rfl) ?_ _
      cases b
      · have H := Lib.hid (HN.out rfl)
        clear HY HN HC hHeld hb
        go_wp2
        go_roundw
        case rel => exact ⟨k + 1, by omega, by go_num, H, hbu⟩
        case measure => simp [intOf]; omega
      · have H := Lib.hid (HY.out rfl)
        clear HY HN HC hHeld hb
        go_wp2
        go_ret
        exact sh_ret H.out.symm hbu
    · obtain rfl : k = l.length := by omega
      have H : Hid (twiceB l = false) := twiceB_no (fun j hj => hg.out j hj hj)
      clear hg HLW
      go_wp2
      go_ret
      exact sh_ret H.out.symm hbw
end Go.Proofs.YtkfeagokmcakgaaGreatDoor

namespace Go.Proofs.YtkfeagokmcakgaaGreatDoor
open Go.RowKit

def atS (l : List ByteArray) (s : ByteArray) : Int := idxL (fun a => decide (a = s)) l
theorem atS_hit {l : List ByteArray} {s : ByteArray} {k : Nat} (hk : k < l.length) (h0 : ∀ j, j < k → ∀ (h : j < l.length), l[j] ≠ s) (h1 : l[k] = s) : atS l s = (k : Int) := by
  have := idxL_drop (fun a => decide (a = s)) l k (Nat.le_of_lt hk) (fun j hj h => decide_eq_false (h0 j hj h)) (.inr ⟨hk, decide_eq_true h1⟩)
  rw [if_pos hk] at this; exact this
theorem atS_no {l : List ByteArray} {s : ByteArray} (h0 : ∀ j, j < l.length → ∀ (h : j < l.length), l[j] ≠ s) : atS l s = -1 := by
  have := idxL_drop (fun a => decide (a = s)) l l.length (Nat.le_refl _) (fun j hj h => decide_eq_false (h0 j hj h)) (.inl rfl)
  rw [if_neg (by omega)] at this; exact this
theorem atS_in {l : List ByteArray} {s : ByteArray} (h : s ∈ l) : ∃ (i : Nat) (hi : i < l.length), l[i] = s ∧ atS l s = (i : Int) := by
  induction l with
  | nil => cases h
  | cons a l ih =>
    by_cases e : a = s
    · exact ⟨0, by simp, e, atS_hit (by simp) (fun j hj => absurd hj (by omega)) e⟩
    · have hm : s ∈ l := by
        rcases List.mem_cons.1 h with rfl | h
        · exact absurd rfl e
        · exact h
      obtain ⟨i, hi, h1, h2⟩ := ih hm
      have h3 : (atS l s) = idxL (fun a => decide (a = s)) l := rfl
      refine ⟨i + 1, by simp; omega, by simpa using h1, ?_⟩
      unfold atS at h2 ⊢
      unfold idxL at h2 ⊢
      rw [List.findIdx?_cons, if_neg (by simpa using e)]
      cases hq : l.findIdx? (fun a => decide (a = s)) with
      | none => rw [hq] at h2; dsimp only at h2; omega
      | some q => rw [hq] at h2; dsimp only at h2; simp; omega
theorem atS_out {l : List ByteArray} {s : ByteArray} (h : s ∉ l) : atS l s = -1 := atS_no fun j _ hj e => h (by rw [← e]; exact List.getElem_mem hj)
theorem map_set {G : List ByteArray} (hn : G.Nodup) (f : ByteArray → Int) {i : Nat} (hi : i < G.length) (v : Int) : (G.map f).set i v = G.map fun a => if a = G[i] then v else f a := by
  apply List.ext_getElem
  · simp
  · intro j h1 h2
    have hj : j < G.length := by simpa using h2
    rw [List.getElem_set]
    simp only [List.getElem_map]
    by_cases e : i = j
    · subst e; simp
    · rw [if_neg e, if_neg]
      intro e2
      have := List.pairwise_iff_getElem.1 hn
      rcases Nat.lt_or_gt_of_ne e with h | h
      · exact this i j hi hj h e2.symm
      · exact this j i hj hi h e2
set_option maxHeartbeats 1000000 in
set_option maxRecDepth 100000 in
theorem at_any (l : List ByteArray) (A : Option Addr) (c : Nat) (s : ByteArray) (w : World) (hl : Lies w w.heap.size A (strsC l)) (hn : l.length ≤ 1001) :
    Calls Tryz.prog 78 #[.slice A l.length c, .string s] w (IntEnd (atS l s) w) := by
  have HS1 : Hid (∀ k (hk : k < l.length), (∀ j, j < k → ∀ (h : j < l.length), l[j] ≠ s) → l[k] = s → atS l s = (k : Int)) := fun k hk h0 h1 => atS_hit hk h0 h1
  have HS2 : Hid ((∀ j, j < l.length → ∀ (h : j < l.length), l[j] ≠ s) → atS l s = -1) := fun h => atS_no h
  have HLW : Hid (∀ V, Below w.heap.size w V → Lies V V.heap.size A (strsC l)) := fun V hV => lies_on hl hV
  generalize atS l s = R at *
  clear hl
  go_enter Tryz.func78, Tryz.ntmps78
  go_wp2
  go_loopw [5] (fun y wr => ∃ k : Nat, k ≤ l.length ∧ y = .int .i64 k ∧ Hid (∀ j, j < k → ∀ (hj : j < l.length), l[j] ≠ s) ∧ Below w.heap.size w wr) (fun y _ => l.length - (intOf y).toNat)
  case atStart => exact ⟨0, by omega, rfl, fun j hj => absurd hj (by omega), Below.refl _ _⟩
  case round =>
    obtain ⟨k, hk, rfl, hf, hbw⟩ := hrel
    by_cases hlt : k < l.length
    · have HB := Lib.hid (HS1.out k hlt hf.out)
      have HT := Lib.hid (fun (h : l[k] ≠ s) => show Hid (∀ j, j < k + 1 → ∀ (hj : j < l.length), l[j] ≠ s) from fun j hj h1 => by
        by_cases e : j = k
        · subst e; exact h
        · exact hf.out j (by omega) h1)
      obtain ⟨ad, rfl, _, c0⟩ := str_at (HLW.out wr hbw) hlt
      clear hf HLW HS1 HS2
      generalize l[k] = x at *
      by_cases hx : x = s
      · have hx1 : (x.toList == s.toList) = true := by rw [str_eq]; exact decide_eq_true hx
        have H := Lib.hid (HB.out hx)
        clear HB HT hx
        go_wp2
        go_ret
        exact ⟨by rw [H.out]; rfl, hbw⟩
      · have hx1 : (x.toList == s.toList) = false := by rw [str_eq]; exact decide_eq_false hx
        have H := Lib.hid (HT.out hx)
        clear HB HT hx
        go_wp2
        go_roundw
        case rel => exact ⟨k + 1, by omega, by go_num, H, hbw⟩
        case measure => simp [intOf]; omega
    · obtain rfl : k = l.length := by omega
      have H := Lib.hid (HS2.out hf.out)
      clear hf HLW HS1 HS2
      go_wp2
      go_ret
      exact ⟨by rw [H.out]; rfl, hbw⟩
end Go.Proofs.YtkfeagokmcakgaaGreatDoor
