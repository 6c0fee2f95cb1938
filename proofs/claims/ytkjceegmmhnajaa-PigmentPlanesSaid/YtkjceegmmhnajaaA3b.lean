import Derived.Test.YtkjceegmmhnajaaA3
namespace Go.Proofs.Ytkjceegmmhnajaa
open Go.RowKit
theorem gcdL_two (a b : Int) : (gcdL [a, b] : Int) = (Int.gcd a b : Int) := by
  simp [gcdL, Int.gcd]

set_option maxRecDepth 100000 in
set_option maxHeartbeats 4000000 in
theorem validRecipe_any (nt : Nat) (l : List Pt) (At A : Option Addr) (ct c : Nat) (w : World) (hl : Lies w w.heap.size A (partsC l)) (hm : l.length ≤ 1000) (hnt : nt ≤ 1000) :
    Calls Try.prog 32 #[.slice At nt ct, .agg #[.slice A l.length c]] w (ShEnd (recB nt l) w) := by
  by_cases h14 : 1 ≤ l.length ∧ l.length ≤ 4
  · obtain ⟨h1, h4⟩ := h14
    have d1 : decide ((l.length : Int) < 1) = false := by simp; omega
    have d4 : decide (4 < (l.length : Int)) = false := by simp; omega
    go_enter Try.func32, Try.ntmps32
    go_wp2
    go_loopw [5, 6] (fun d y wr => ∃ k : Nat, ∃ g : Int, k ≤ l.length ∧ d = .int .i64 g ∧ y = .int .i64 k ∧ Hid (g = gcdL (weightsOf (l.take k))) ∧ (0 ≤ g ∧ g ≤ 1000000000000) ∧ Hid (∀ i (hi : i < k) (h : i < l.length), okPt nt l i h) ∧ Below w.heap.size w wr ∧ Bk wr w.heap.size 25 #[.slice A l.length c]) (fun _ y _ => l.length - (intOf y).toNat)
    case atStart => exact ⟨0, 0, by omega, rfl, rfl, rfl, by omega, fun i hi => absurd hi (by omega), (by repeat (first | with_reducible exact Below.refl _ _ | with_reducible assumption | with_reducible refine Below.drew ?_ | with_reducible refine below_drewN ?_ _ | (with_reducible refine Below.alloc ?_ ?_ _; rotate_left; (try simp) <;> omega) | (with_reducible refine Below.setCell ?_ ?_ _; rotate_left; (try simp) <;> omega))), Bk.new _ _ _⟩
    case round =>
      obtain ⟨k, g, hk, rfl, rfl, hg, ⟨hg1, hg2⟩, hok, hbw, hbk⟩ := hrel
      have hbs := hbw.size
      have hbl := hbk.lt
      have x0 := hbk.cell 0 rfl
      by_cases hlt : k < l.length
      · obtain ⟨ad, rfl, hadb, c0, c1⟩ := part_at (hl.below hbw (Nat.le_refl _)) hlt
        have hadb' : (ad.add (k * 2)).block < wr.heap.size := by rw [add_block]; omega
        cases k with
        | zero =>
          replace c0 : wr.cell? ad = some (.int .i64 l[0].t) := c0
          replace c1 : wr.cell? ⟨ad.block, ad.off + 1, none⟩ = some (.int .i64 l[0].w) := c1
          replace hadb' : ad.block < wr.heap.size := hadb'
          by_cases a1 : l[0].t < 0
          · have e1 : decide (l[0].t < 0) = true := by simpa using a1
            have HB : Hid (¬ recB nt l = true) := fun h => by
              have h' := (of_decide_eq_true h).2.1 (0) hlt
              unfold okPt at h'
              exact absurd h'.1.1 (by omega)
            clear hok hg
            go_wp2
            go_quiet (fail)
            go_wp2
            all_goals
              go_ret
              exact sh_ret (by have := HB.out; simpa using this) (by repeat (first | with_reducible exact Below.refl _ _ | with_reducible assumption | with_reducible refine Below.drew ?_ | with_reducible refine below_drewN ?_ _ | (with_reducible refine Below.alloc ?_ ?_ _; rotate_left; (try simp) <;> omega) | (with_reducible refine Below.setCell ?_ ?_ _; rotate_left; (try simp) <;> omega)))
          have e1 : decide (l[0].t < 0) = false := by simpa using a1
          by_cases a2 : (nt : Int) ≤ l[0].t
          · have e2 : decide ((nt : Int) ≤ l[0].t) = true := by simpa using a2
            have HB : Hid (¬ recB nt l = true) := fun h => by
              have h' := (of_decide_eq_true h).2.1 (0) hlt
              unfold okPt at h'
              exact absurd h'.1.2 (by omega)
            clear hok hg
            go_wp2
            go_quiet (fail)
            go_wp2
            all_goals
              go_ret
              exact sh_ret (by have := HB.out; simpa using this) (by repeat (first | with_reducible exact Below.refl _ _ | with_reducible assumption | with_reducible refine Below.drew ?_ | with_reducible refine below_drewN ?_ _ | (with_reducible refine Below.alloc ?_ ?_ _; rotate_left; (try simp) <;> omega) | (with_reducible refine Below.setCell ?_ ?_ _; rotate_left; (try simp) <;> omega)))
          have e2 : decide ((nt : Int) ≤ l[0].t) = false := by simp; omega
          by_cases a4 : l[0].w < 1
          · have e4 : decide (l[0].w < 1) = true := by simpa using a4
            have HB : Hid (¬ recB nt l = true) := fun h => by
              have h' := (of_decide_eq_true h).2.1 (0) hlt
              unfold okPt at h'
              exact absurd h'.2.2.1 (by omega)
            clear hok hg
            go_wp2
            go_quiet (fail)
            go_wp2
            all_goals
              go_ret
              exact sh_ret (by have := HB.out; simpa using this) (by repeat (first | with_reducible exact Below.refl _ _ | with_reducible assumption | with_reducible refine Below.drew ?_ | with_reducible refine below_drewN ?_ _ | (with_reducible refine Below.alloc ?_ ?_ _; rotate_left; (try simp) <;> omega) | (with_reducible refine Below.setCell ?_ ?_ _; rotate_left; (try simp) <;> omega)))
          have e4 : decide (l[0].w < 1) = false := by simp; omega
          by_cases a5 : (1000000000000 : Int) < l[0].w
          · have e5 : decide ((1000000000000 : Int) < l[0].w) = true := by simpa using a5
            have HB : Hid (¬ recB nt l = true) := fun h => by
              have h' := (of_decide_eq_true h).2.1 (0) hlt
              unfold okPt at h'
              exact absurd h'.2.2.2 (by omega)
            clear hok hg
            go_wp2
            go_quiet (fail)
            go_wp2
            all_goals
              go_ret
              exact sh_ret (by have := HB.out; simpa using this) (by repeat (first | with_reducible exact Below.refl _ _ | with_reducible assumption | with_reducible refine Below.drew ?_ | with_reducible refine below_drewN ?_ _ | (with_reducible refine Below.alloc ?_ ?_ _; rotate_left; (try simp) <;> omega) | (with_reducible refine Below.setCell ?_ ?_ _; rotate_left; (try simp) <;> omega)))
          have e5 : decide ((1000000000000 : Int) < l[0].w) = false := by simp; omega
          have H : Hid (∀ i (hi : i < 0 + 1) (h : i < l.length), okPt nt l i h) := fun i hi h => by
            by_cases e : i = 0
            · subst e; exact ⟨⟨by omega, by omega⟩, fun h => absurd h (by omega), by omega, by omega⟩
            · exact hok.out i (by omega) h
          obtain ⟨g', hg', hgr⟩ : ∃ g' : Int, Hid (g' = gcdL (weightsOf (l.take (0 + 1)))) ∧ Hid (g' = (Int.gcd g l[0].w : Int)) ∧ 0 ≤ g' ∧ g' ≤ 1000000000000 := by
            refine ⟨_, rfl, ?_, by omega, ?_⟩
            · show _ = _; rw [gcd_take hlt hg.out, gcdL_two]
            · rw [gcd_take hlt hg.out]; exact gcd2_le (by omega) (by omega)
          obtain ⟨hg2', hgr1, hgr2⟩ := hgr
          clear hok hg
          go_wp2
          go_quiet (fail)
          go_wp2_with (go_at_call 66; refine (rgcd_any g l[0].w _ (by unfold bigP; omega) (by unfold bigP; omega)).mono ?_; rintro e w1 ⟨rfl, rfl⟩; rw [← hg2'.out])
          go_roundw
          case rel => exact ⟨0 + 1, g', by omega, rfl, by go_num, hg', ⟨hgr1, hgr2⟩, H, (by repeat (first | with_reducible exact Below.refl _ _ | with_reducible assumption | with_reducible refine Below.drew ?_ | with_reducible refine below_drewN ?_ _ | (with_reducible refine Below.alloc ?_ ?_ _; rotate_left; (try simp) <;> omega) | (with_reducible refine Below.setCell ?_ ?_ _; rotate_left; (try simp) <;> omega))), ((hbk.alloc _).drewN _)⟩
          case measure => simp [intOf]; omega
        | succ k =>
          obtain ⟨ad', ead, _, p0, _⟩ := part_at (hl.below hbw (Nat.le_refl _)) (k := k) (by omega)
          cases ead
          have hadb2 : (ad.add (k * 2)).block < wr.heap.size := by rw [add_block]; omega
          by_cases a1 : l[k + 1].t < 0
          · have e1 : decide (l[k + 1].t < 0) = true := by simpa using a1
            have HB : Hid (¬ recB nt l = true) := fun h => by
              have h' := (of_decide_eq_true h).2.1 (k + 1) hlt
              unfold okPt at h'
              exact absurd h'.1.1 (by omega)
            clear hok hg
            go_wp2
            go_quiet (fail)
            go_wp2
            all_goals
              go_ret
              exact sh_ret (by have := HB.out; simpa using this) (by repeat (first | with_reducible exact Below.refl _ _ | with_reducible assumption | with_reducible refine Below.drew ?_ | with_reducible refine below_drewN ?_ _ | (with_reducible refine Below.alloc ?_ ?_ _; rotate_left; (try simp) <;> omega) | (with_reducible refine Below.setCell ?_ ?_ _; rotate_left; (try simp) <;> omega)))
          have e1 : decide (l[k + 1].t < 0) = false := by simpa using a1
          by_cases a2 : (nt : Int) ≤ l[k + 1].t
          · have e2 : decide ((nt : Int) ≤ l[k + 1].t) = true := by simpa using a2
            have HB : Hid (¬ recB nt l = true) := fun h => by
              have h' := (of_decide_eq_true h).2.1 (k + 1) hlt
              unfold okPt at h'
              exact absurd h'.1.2 (by omega)
            clear hok hg
            go_wp2
            go_quiet (fail)
            go_wp2
            all_goals
              go_ret
              exact sh_ret (by have := HB.out; simpa using this) (by repeat (first | with_reducible exact Below.refl _ _ | with_reducible assumption | with_reducible refine Below.drew ?_ | with_reducible refine below_drewN ?_ _ | (with_reducible refine Below.alloc ?_ ?_ _; rotate_left; (try simp) <;> omega) | (with_reducible refine Below.setCell ?_ ?_ _; rotate_left; (try simp) <;> omega)))
          have e2 : decide ((nt : Int) ≤ l[k + 1].t) = false := by simp; omega
          by_cases a4 : l[k + 1].w < 1
          · have e4 : decide (l[k + 1].w < 1) = true := by simpa using a4
            have HB : Hid (¬ recB nt l = true) := fun h => by
              have h' := (of_decide_eq_true h).2.1 (k + 1) hlt
              unfold okPt at h'
              exact absurd h'.2.2.1 (by omega)
            clear hok hg
            go_wp2
            go_quiet (fail)
            go_wp2
            all_goals
              go_ret
              exact sh_ret (by have := HB.out; simpa using this) (by repeat (first | with_reducible exact Below.refl _ _ | with_reducible assumption | with_reducible refine Below.drew ?_ | with_reducible refine below_drewN ?_ _ | (with_reducible refine Below.alloc ?_ ?_ _; rotate_left; (try simp) <;> omega) | (with_reducible refine Below.setCell ?_ ?_ _; rotate_left; (try simp) <;> omega)))
          have e4 : decide (l[k + 1].w < 1) = false := by simp; omega
          by_cases a5 : (1000000000000 : Int) < l[k + 1].w
          · have e5 : decide ((1000000000000 : Int) < l[k + 1].w) = true := by simpa using a5
            have HB : Hid (¬ recB nt l = true) := fun h => by
              have h' := (of_decide_eq_true h).2.1 (k + 1) hlt
              unfold okPt at h'
              exact absurd h'.2.2.2 (by omega)
            clear hok hg
            go_wp2
            go_quiet (fail)
            go_wp2
            all_goals
              go_ret
              exact sh_ret (by have := HB.out; simpa using this) (by repeat (first | with_reducible exact Below.refl _ _ | with_reducible assumption | with_reducible refine Below.drew ?_ | with_reducible refine below_drewN ?_ _ | (with_reducible refine Below.alloc ?_ ?_ _; rotate_left; (try simp) <;> omega) | (with_reducible refine Below.setCell ?_ ?_ _; rotate_left; (try simp) <;> omega)))
          have e5 : decide ((1000000000000 : Int) < l[k + 1].w) = false := by simp; omega
          by_cases a3 : l[k + 1].t ≤ l[k].t
          · have e3 : decide (l[k + 1].t ≤ l[k].t) = true := by simpa using a3
            have HB : Hid (¬ recB nt l = true) := fun h => by
              have h' := (of_decide_eq_true h).2.1 (k + 1) hlt
              unfold okPt at h'
              exact absurd (h'.2.1 (by omega)) (by simp only [Nat.add_sub_cancel]; omega)
            clear hok hg
            go_wp2
            go_quiet (fail)
            go_wp2
            all_goals
              go_ret
              exact sh_ret (by have := HB.out; simpa using this) (by repeat (first | with_reducible exact Below.refl _ _ | with_reducible assumption | with_reducible refine Below.drew ?_ | with_reducible refine below_drewN ?_ _ | (with_reducible refine Below.alloc ?_ ?_ _; rotate_left; (try simp) <;> omega) | (with_reducible refine Below.setCell ?_ ?_ _; rotate_left; (try simp) <;> omega)))
          have e3 : decide (l[k + 1].t ≤ l[k].t) = false := by simp; omega
          have H : Hid (∀ i (hi : i < k + 1 + 1) (h : i < l.length), okPt nt l i h) := fun i hi h => by
            by_cases e : i = k + 1
            · subst e; exact ⟨⟨by omega, by omega⟩, fun _ => by simp only [Nat.add_sub_cancel]; omega, by omega, by omega⟩
            · exact hok.out i (by omega) h
          obtain ⟨g', hg', hgr⟩ : ∃ g' : Int, Hid (g' = gcdL (weightsOf (l.take (k + 1 + 1)))) ∧ Hid (g' = (Int.gcd g l[k + 1].w : Int)) ∧ 0 ≤ g' ∧ g' ≤ 1000000000000 := by
            refine ⟨_, rfl, ?_, by omega, ?_⟩
            · show _ = _; rw [gcd_take hlt hg.out, gcdL_two]
            · rw [gcd_take hlt hg.out]; exact gcd2_le (by omega) (by omega)
          obtain ⟨hg2', hgr1, hgr2⟩ := hgr
          clear hok hg
          go_wp2
          go_quiet (fail)
          go_wp2_with (go_at_call 66; refine (rgcd_any g l[k + 1].w _ (by unfold bigP; omega) (by unfold bigP; omega)).mono ?_; rintro e w1 ⟨rfl, rfl⟩; rw [← hg2'.out])
          go_roundw
          case rel => exact ⟨k + 1 + 1, g', by omega, rfl, by go_num, hg', ⟨hgr1, hgr2⟩, H, (by repeat (first | with_reducible exact Below.refl _ _ | with_reducible assumption | with_reducible refine Below.drew ?_ | with_reducible refine below_drewN ?_ _ | (with_reducible refine Below.alloc ?_ ?_ _; rotate_left; (try simp) <;> omega) | (with_reducible refine Below.setCell ?_ ?_ _; rotate_left; (try simp) <;> omega))), ((hbk.alloc _).drewN _)⟩
          case measure => simp [intOf]; omega
      · obtain rfl : k = l.length := by omega
        rw [List.take_length] at hg
        by_cases hgo : g = 1
        · have HB : Hid (recB nt l = true) := decide_eq_true ⟨⟨h1, h4⟩, fun i h => hok.out i h h, by have := hg.out; omega⟩
          have hgb : (g == 1) = true := by rw [beq_iff_eq]; exact hgo
          have HGO := Lib.hid hgo; clear hgo
          go_wp2
          go_ret
          exact sh_ret (by rw [HB.out]) (by repeat (first | with_reducible exact Below.refl _ _ | with_reducible assumption | with_reducible refine Below.drew ?_ | with_reducible refine below_drewN ?_ _ | (with_reducible refine Below.alloc ?_ ?_ _; rotate_left; (try simp) <;> omega) | (with_reducible refine Below.setCell ?_ ?_ _; rotate_left; (try simp) <;> omega)))
        · have HB : Hid (¬ recB nt l = true) := fun h => by
            have h' := (of_decide_eq_true h).2.2
            have := hg.out; omega
          have hgb : (g == 1) = false := by rw [beq_eq_false_iff_ne]; exact hgo
          have HGO := Lib.hid hgo; clear hgo
          go_wp2
          go_ret
          exact sh_ret (by have := HB.out; simpa using this) (by repeat (first | with_reducible exact Below.refl _ _ | with_reducible assumption | with_reducible refine Below.drew ?_ | with_reducible refine below_drewN ?_ _ | (with_reducible refine Below.alloc ?_ ?_ _; rotate_left; (try simp) <;> omega) | (with_reducible refine Below.setCell ?_ ?_ _; rotate_left; (try simp) <;> omega)))
  · have HB : Hid (¬ recB nt l = true) := fun h => h14 (of_decide_eq_true h).1
    by_cases h1 : 1 ≤ l.length
    · have d1 : decide ((l.length : Int) < 1) = false := by simp; omega
      have d4 : decide (4 < (l.length : Int)) = true := by simp; omega
      go_enter Try.func32, Try.ntmps32
      go_wp2
      go_ret
      exact sh_ret (by have := HB.out; simpa using this) (by repeat (first | with_reducible exact Below.refl _ _ | with_reducible assumption | with_reducible refine Below.drew ?_ | with_reducible refine below_drewN ?_ _ | (with_reducible refine Below.alloc ?_ ?_ _; rotate_left; (try simp) <;> omega) | (with_reducible refine Below.setCell ?_ ?_ _; rotate_left; (try simp) <;> omega)))
    · have d1 : decide ((l.length : Int) < 1) = true := by simp; omega
      go_enter Try.func32, Try.ntmps32
      go_wp2
      go_ret
      exact sh_ret (by have := HB.out; simpa using this) (by repeat (first | with_reducible exact Below.refl _ _ | with_reducible assumption | with_reducible refine Below.drew ?_ | with_reducible refine below_drewN ?_ _ | (with_reducible refine Below.alloc ?_ ?_ _; rotate_left; (try simp) <;> omega) | (with_reducible refine Below.setCell ?_ ?_ _; rotate_left; (try simp) <;> omega)))
end Go.Proofs.Ytkjceegmmhnajaa
