import Derived.Test.YtkjceegmmhnajaaA2f
namespace Go.Proofs.Ytkjceegmmhnajaa
open Go.RowKit

structure Pt where
  t : Int
  w : Int
def Pt.cells (p : Pt) : List Value := [.int .i64 p.t, .int .i64 p.w]
def partsC (l : List Pt) : List Value := l.flatMap Pt.cells
theorem partsC_length (l : List Pt) : (partsC l).length = l.length * 2 := by
  induction l with
  | nil => rfl
  | cons t r ih => simp only [partsC, List.flatMap_cons, List.length_append] at *; rw [ih]; simp [Pt.cells]; omega
theorem partsC_at (l : List Pt) (k : Nat) (hk : k < l.length) (j : Nat) (hj : j < 2) : (partsC l)[k * 2 + j]? = (l[k]).cells[j]? := by
  induction l generalizing k with
  | nil => simp at hk
  | cons t r ih =>
    simp only [partsC, List.flatMap_cons] at *
    cases k with
    | zero => rw [List.getElem?_append_left (by simp [Pt.cells]; omega)]; simp
    | succ k =>
      rw [List.getElem?_append_right (by simp [Pt.cells]; omega)]
      have : (k + 1) * 2 + j - t.cells.length = k * 2 + j := by simp [Pt.cells]; omega
      rw [this, ih k (by simpa using hk)]; simp
theorem part_at {w : World} {B : Nat} {A : Option Addr} {l : List Pt} (h : Lies w B A (partsC l)) {k : Nat} (hk : k < l.length) :
    ∃ ad, A = some ad ∧ ad.block < B ∧ w.cell? (ad.add (k * 2)) = some (.int .i64 l[k].t) ∧ w.cell? ⟨(ad.add (k * 2)).block, (ad.add (k * 2)).off + 1, none⟩ = some (.int .i64 l[k].w) := by
  obtain ⟨ad, e, hb, hc⟩ := h (by intro e; have := partsC_length l; rw [e] at this; simp at this; omega)
  refine ⟨ad, e, hb, hc _ _ (partsC_at l k hk 0 (by omega)), ?_⟩
  rw [← add_rec _ _ _ (by omega)]; exact hc _ _ (partsC_at l k hk 1 (by omega))

/-- part i of a recipe over nt tints -/
def okPt (nt : Nat) (l : List Pt) (i : Nat) (h : i < l.length) : Prop := (0 ≤ l[i].t ∧ l[i].t ≤ (nt : Int) - 1) ∧ (∀ h' : 0 < i, (l[i - 1]'(by omega)).t < l[i].t) ∧ (1 ≤ l[i].w ∧ l[i].w ≤ 1000000000000)
instance (nt : Nat) (l : List Pt) (i : Nat) (h : i < l.length) : Decidable (okPt nt l i h) := by unfold okPt; exact inferInstance
def weightsOf (l : List Pt) : List Int := l.map Pt.w
def recP (nt : Nat) (l : List Pt) : Prop := (1 ≤ l.length ∧ l.length ≤ 4) ∧ (∀ i (h : i < l.length), okPt nt l i h) ∧ gcdL (weightsOf l) = 1
instance (nt : Nat) (l : List Pt) : Decidable (recP nt l) := by unfold recP; exact inferInstance
def recB (nt : Nat) (l : List Pt) : Bool := decide (recP nt l)

theorem among_same (n a b : Int) (w : World) :
    Calls Try.prog 45 #[.int .i64 n, .int .i64 a, .int .i64 b] w fun e w' => e = .returned (.bool (decide (a ≤ n) && decide (n ≤ b))) ∧ w' = w :=
  (among_any n a b w).mono fun _ _ h => ⟨h.1, h.2.symm⟩
theorem among_is (n a b : Int) (r : Bool) (w : World) (h : (decide (a ≤ n) && decide (n ≤ b)) = r) :
    Calls Try.prog 45 #[.int .i64 n, .int .i64 a, .int .i64 b] w fun e w' => e = .returned (.bool r) ∧ w' = w :=
  (among_same n a b w).mono fun _ _ hh => ⟨by rw [hh.1, h], hh.2⟩
theorem divisor2 (d x : Int) (b : Nat) (w X : World) (hX : w.heap = X.heap.push (.cells #[.int .i64 d, .int .i64 x] 3)) (hb : X.heap.size = b) (hd : bigP d) (hx : bigP x) :
    Calls Try.prog 61 #[.slice (some ⟨b, 0, none⟩) 2 2] w fun e w' => e = .returned (.int .i64 (gcdL [d, x])) ∧ ∃ n, w' = w.drewN n := by
  have hl : Lies w w.heap.size (some ⟨b, 0, none⟩) (ints [d, x]) := Lies.fresh hX hb (by rw [hX]; simp; omega) rfl
  exact divisor_aux [d, x] _ 2 w hl (by intro n hn; simp at hn; rcases hn with rfl | rfl <;> assumption) (by simp)

theorem gcd_take {l : List Pt} {k : Nat} {g : Int} (hlt : k < l.length) (hg : g = gcdL (weightsOf (l.take k))) : (gcdL (weightsOf (l.take (k + 1))) : Int) = gcdL [g, l[k].w] := by
  have : weightsOf (l.take (k + 1)) = weightsOf (l.take k) ++ [l[k].w] := by
    rw [List.take_succ_eq_append_getElem hlt]; simp only [weightsOf, List.map_append, List.map_cons, List.map_nil]
  rw [this, gcdL_snoc, hg]
  simp [gcdL]
theorem gcd2_le {g x : Int} (hg : 0 ≤ g) (hx : 1 ≤ x ∧ x ≤ 1000000000000) : (gcdL [g, x] : Int) ≤ 1000000000000 := by
  have h1 : gcdL [g, x] ≤ x.natAbs := by
    simp only [gcdL, List.foldl_cons, List.foldl_nil]
    exact Nat.gcd_le_right _ (by omega)
  omega

set_option maxRecDepth 100000 in
set_option maxHeartbeats 4000000 in
theorem isRecipe_any (nt : Nat) (l : List Pt) (At A : Option Addr) (ct c : Nat) (w : World) (hl : Lies w w.heap.size A (partsC l)) (hm : l.length ≤ 1000) (hnt : nt ≤ 1000) :
    Calls Try.prog 29 #[.slice At nt ct, .agg #[.slice A l.length c]] w (ShEnd (recB nt l) w) := by
  by_cases h14 : 1 ≤ l.length ∧ l.length ≤ 4
  · obtain ⟨h1, h4⟩ := h14
    have d1 : decide (1 ≤ (l.length : Int)) = true := by simp; omega
    have d4 : decide ((l.length : Int) ≤ 4) = true := by simp; omega
    go_enter Try.func29, Try.ntmps29
    go_wp2_with (go_at_call 45; refine (among_any _ _ _ _).mono ?_; rintro e w' ⟨rfl, rfl⟩)
    go_loopw [5, 16] (fun d y wr => ∃ k : Nat, ∃ g : Int, k ≤ l.length ∧ y = .int .i64 k ∧ d = .int .i64 g ∧ Hid (g = gcdL (weightsOf (l.take k))) ∧ (0 ≤ g ∧ g ≤ 1000000000000) ∧ Hid (∀ i (hi : i < k) (h : i < l.length), okPt nt l i h) ∧ Below w.heap.size w wr ∧ Bk wr w.heap.size 25 #[.slice A l.length c]) (fun _ y _ => l.length - (intOf y).toNat)
    case atStart => exact ⟨0, 0, by omega, rfl, rfl, rfl, by omega, fun i hi => absurd hi (by omega), (by repeat (first | with_reducible exact Below.refl _ _ | with_reducible assumption | with_reducible refine Below.drew ?_ | with_reducible refine below_drewN ?_ _ | (with_reducible refine Below.alloc ?_ ?_ _; rotate_left; (try simp) <;> omega) | (with_reducible refine Below.setCell ?_ ?_ _; rotate_left; (try simp) <;> omega))), Bk.new _ _ _⟩
    case round =>
      obtain ⟨k, g, hk, rfl, rfl, hg, ⟨hg1, hg2⟩, hok, hbw, hbk⟩ := hrel
      have hbs := hbw.size
      have hbl := hbk.lt
      by_cases hlt : k < l.length
      · obtain ⟨ad, rfl, hadb, c0, c1⟩ := part_at (hl.below hbw (Nat.le_refl _)) hlt
        have x0 := hbk.cell 0 rfl
        have hadb' : (ad.add (k * 2)).block < wr.heap.size := by rw [add_block]; omega
        cases k with
        | zero =>
          replace c0 : wr.cell? ad = some (.int .i64 l[0].t) := c0
          replace c1 : wr.cell? ⟨ad.block, ad.off + 1, none⟩ = some (.int .i64 l[0].w) := c1
          replace hadb' : ad.block < wr.heap.size := hadb'
          by_cases a1 : 0 ≤ l[0].t ∧ l[0].t ≤ (nt : Int) - 1
          · have R1 : Hid ((decide (0 ≤ l[0].t) && decide (l[0].t ≤ (nt : Int) - 1)) = true) := by show _ = _; simpa using a1
            by_cases a4 : 1 ≤ l[0].w ∧ l[0].w ≤ 1000000000000
            · have R2 : Hid ((decide (1 ≤ l[0].w) && decide (l[0].w ≤ 1000000000000)) = true) := by show _ = _; simpa using a4
              have H : Hid (∀ i (hi : i < 0 + 1) (h : i < l.length), okPt nt l i h) := fun i hi h => by
                by_cases e : i = 0
                · subst e; exact ⟨a1, fun h => absurd h (by omega), a4⟩
                · exact hok.out i (by omega) h
              obtain ⟨g', hg', hgr⟩ : ∃ g' : Int, Hid (g' = gcdL (weightsOf (l.take (0 + 1)))) ∧ Hid (g' = gcdL [g, l[0].w]) ∧ 0 ≤ g' ∧ g' ≤ 1000000000000 := by
                refine ⟨_, rfl, ?_, by omega, ?_⟩
                · show _ = _; exact gcd_take hlt hg.out
                · rw [gcd_take hlt hg.out]; exact gcd2_le (by omega) (by omega)
              obtain ⟨hg2', hgr1, hgr2⟩ := hgr
              obtain ⟨a4, a5⟩ := a4
              clear hok hg
              go_wp2
              go_quiet ((first | (go_at_call 45; with_reducible exact Calls.quiet_of_same (among_is _ _ _ _ _ R1.out)) | (go_at_call 45; with_reducible exact Calls.quiet_of_same (among_is _ _ _ _ _ R2.out))))
              go_wp2_with (go_at_call 61; refine (divisor2 g l[0].w _ _ _ rfl (by simp) (by unfold bigP; omega) (by unfold bigP; omega)).mono ?_; rintro e w1 ⟨rfl, n1, rfl⟩; rw [← hg2'.out])
              go_roundw
              case rel => exact ⟨0 + 1, g', by omega, by go_num, rfl, hg', ⟨hgr1, hgr2⟩, H, (by repeat (first | with_reducible exact Below.refl _ _ | with_reducible assumption | with_reducible refine Below.drew ?_ | with_reducible refine below_drewN ?_ _ | (with_reducible refine Below.alloc ?_ ?_ _; rotate_left; (try simp) <;> omega) | (with_reducible refine Below.setCell ?_ ?_ _; rotate_left; (try simp) <;> omega))), (((hbk.alloc _).drewN _).alloc _).drewN _⟩
              case measure => simp [intOf]; omega
            · have R2 : Hid ((decide (1 ≤ l[0].w) && decide (l[0].w ≤ 1000000000000)) = false) := by show _ = _; simpa using a4
              have HB : Hid (¬ recB nt l = true) := fun h => by
                have h' := (of_decide_eq_true h).2.1 (0) hlt
                unfold okPt at h'
                exact a4 h'.2.2
              clear hok hg
              go_wp2
              go_quiet ((first | (go_at_call 45; with_reducible exact Calls.quiet_of_same (among_is _ _ _ _ _ R1.out)) | (go_at_call 45; with_reducible exact Calls.quiet_of_same (among_is _ _ _ _ _ R2.out))))
              go_wp2
              all_goals
                go_ret
                exact sh_ret (by have := HB.out; simpa using this) (by repeat (first | with_reducible exact Below.refl _ _ | with_reducible assumption | with_reducible refine Below.drew ?_ | with_reducible refine below_drewN ?_ _ | (with_reducible refine Below.alloc ?_ ?_ _; rotate_left; (try simp) <;> omega) | (with_reducible refine Below.setCell ?_ ?_ _; rotate_left; (try simp) <;> omega)))
          · have R1 : Hid ((decide (0 ≤ l[0].t) && decide (l[0].t ≤ (nt : Int) - 1)) = false) := by show _ = _; simpa using a1
            have HB : Hid (¬ recB nt l = true) := fun h => by
              have h' := (of_decide_eq_true h).2.1 (0) hlt
              unfold okPt at h'
              exact a1 h'.1
            clear hok hg
            go_wp2
            go_quiet ((first | (go_at_call 45; with_reducible exact Calls.quiet_of_same (among_is _ _ _ _ _ R1.out))))
            go_wp2
            all_goals
              go_ret
              exact sh_ret (by have := HB.out; simpa using this) (by repeat (first | with_reducible exact Below.refl _ _ | with_reducible assumption | with_reducible refine Below.drew ?_ | with_reducible refine below_drewN ?_ _ | (with_reducible refine Below.alloc ?_ ?_ _; rotate_left; (try simp) <;> omega) | (with_reducible refine Below.setCell ?_ ?_ _; rotate_left; (try simp) <;> omega)))
        | succ k =>
          obtain ⟨ad', ead, _, p0, _⟩ := part_at (hl.below hbw (Nat.le_refl _)) (k := k) (by omega)
          cases ead
          have hadb2 : (ad.add (k * 2)).block < wr.heap.size := by rw [add_block]; omega
          by_cases a1 : 0 ≤ l[k + 1].t ∧ l[k + 1].t ≤ (nt : Int) - 1
          · have R1 : Hid ((decide (0 ≤ l[k + 1].t) && decide (l[k + 1].t ≤ (nt : Int) - 1)) = true) := by show _ = _; simpa using a1
            by_cases a3 : l[k].t < l[k + 1].t
            · have e3 : decide (l[k + 1].t ≤ l[k].t) = false := by simp; omega
              by_cases a4 : 1 ≤ l[k + 1].w ∧ l[k + 1].w ≤ 1000000000000
              · have R2 : Hid ((decide (1 ≤ l[k + 1].w) && decide (l[k + 1].w ≤ 1000000000000)) = true) := by show _ = _; simpa using a4
                have H : Hid (∀ i (hi : i < k + 1 + 1) (h : i < l.length), okPt nt l i h) := fun i hi h => by
                  by_cases e : i = k + 1
                  · subst e; exact ⟨a1, fun _ => a3, a4⟩
                  · exact hok.out i (by omega) h
                obtain ⟨g', hg', hgr⟩ : ∃ g' : Int, Hid (g' = gcdL (weightsOf (l.take (k + 1 + 1)))) ∧ Hid (g' = gcdL [g, l[k + 1].w]) ∧ 0 ≤ g' ∧ g' ≤ 1000000000000 := by
                  refine ⟨_, rfl, ?_, by omega, ?_⟩
                  · show _ = _; exact gcd_take hlt hg.out
                  · rw [gcd_take hlt hg.out]; exact gcd2_le (by omega) (by omega)
                obtain ⟨hg2', hgr1, hgr2⟩ := hgr
                obtain ⟨a4, a5⟩ := a4
                clear hok hg
                go_wp2
                go_quiet ((first | (go_at_call 45; with_reducible exact Calls.quiet_of_same (among_is _ _ _ _ _ R1.out)) | (go_at_call 45; with_reducible exact Calls.quiet_of_same (among_is _ _ _ _ _ R2.out))))
                go_wp2_with (go_at_call 61; refine (divisor2 g l[k + 1].w _ _ _ rfl (by simp) (by unfold bigP; omega) (by unfold bigP; omega)).mono ?_; rintro e w1 ⟨rfl, n1, rfl⟩; rw [← hg2'.out])
                go_roundw
                case rel => exact ⟨k + 1 + 1, g', by omega, by go_num, rfl, hg', ⟨hgr1, hgr2⟩, H, (by repeat (first | with_reducible exact Below.refl _ _ | with_reducible assumption | with_reducible refine Below.drew ?_ | with_reducible refine below_drewN ?_ _ | (with_reducible refine Below.alloc ?_ ?_ _; rotate_left; (try simp) <;> omega) | (with_reducible refine Below.setCell ?_ ?_ _; rotate_left; (try simp) <;> omega))), (((hbk.alloc _).drewN _).alloc _).drewN _⟩
                case measure => simp [intOf]; omega
              · have R2 : Hid ((decide (1 ≤ l[k + 1].w) && decide (l[k + 1].w ≤ 1000000000000)) = false) := by show _ = _; simpa using a4
                have HB : Hid (¬ recB nt l = true) := fun h => by
                  have h' := (of_decide_eq_true h).2.1 (k + 1) hlt
                  unfold okPt at h'
                  exact a4 h'.2.2
                clear hok hg
                go_wp2
                go_quiet ((first | (go_at_call 45; with_reducible exact Calls.quiet_of_same (among_is _ _ _ _ _ R1.out)) | (go_at_call 45; with_reducible exact Calls.quiet_of_same (among_is _ _ _ _ _ R2.out))))
                go_wp2
                all_goals
                  go_ret
                  exact sh_ret (by have := HB.out; simpa using this) (by repeat (first | with_reducible exact Below.refl _ _ | with_reducible assumption | with_reducible refine Below.drew ?_ | with_reducible refine below_drewN ?_ _ | (with_reducible refine Below.alloc ?_ ?_ _; rotate_left; (try simp) <;> omega) | (with_reducible refine Below.setCell ?_ ?_ _; rotate_left; (try simp) <;> omega)))
            · have e3 : decide (l[k + 1].t ≤ l[k].t) = true := by simp; omega
              have HB : Hid (¬ recB nt l = true) := fun h => by
                have h' := (of_decide_eq_true h).2.1 (k + 1) hlt
                unfold okPt at h'
                exact a3 (h'.2.1 (by omega))
              clear hok hg
              go_wp2
              go_quiet ((first | (go_at_call 45; with_reducible exact Calls.quiet_of_same (among_is _ _ _ _ _ R1.out))))
              go_wp2
              all_goals
                go_ret
                exact sh_ret (by have := HB.out; simpa using this) (by repeat (first | with_reducible exact Below.refl _ _ | with_reducible assumption | with_reducible refine Below.drew ?_ | with_reducible refine below_drewN ?_ _ | (with_reducible refine Below.alloc ?_ ?_ _; rotate_left; (try simp) <;> omega) | (with_reducible refine Below.setCell ?_ ?_ _; rotate_left; (try simp) <;> omega)))
          · have R1 : Hid ((decide (0 ≤ l[k + 1].t) && decide (l[k + 1].t ≤ (nt : Int) - 1)) = false) := by show _ = _; simpa using a1
            have HB : Hid (¬ recB nt l = true) := fun h => by
              have h' := (of_decide_eq_true h).2.1 (k + 1) hlt
              unfold okPt at h'
              exact a1 h'.1
            clear hok hg
            go_wp2
            go_quiet ((first | (go_at_call 45; with_reducible exact Calls.quiet_of_same (among_is _ _ _ _ _ R1.out))))
            go_wp2
            all_goals
              go_ret
              exact sh_ret (by have := HB.out; simpa using this) (by repeat (first | with_reducible exact Below.refl _ _ | with_reducible assumption | with_reducible refine Below.drew ?_ | with_reducible refine below_drewN ?_ _ | (with_reducible refine Below.alloc ?_ ?_ _; rotate_left; (try simp) <;> omega) | (with_reducible refine Below.setCell ?_ ?_ _; rotate_left; (try simp) <;> omega)))
      · obtain rfl : k = l.length := by omega
        have x0 := hbk.cell 0 rfl
        rw [List.take_length] at hg
        by_cases hgo : g = 1
        · have HB : Hid (recB nt l = true) := decide_eq_true ⟨⟨h1, h4⟩, fun i h => hok.out i h h, by have := hg.out; omega⟩
          have hgb : (g == 1) = true := by rw [beq_iff_eq]; exact hgo
          have HGO := Lib.hid hgo; clear hgo
          go_wp2
          go_ret
          exact sh_ret (by rw [HB.out]) (by repeat (first | with_reducible exact Below.refl _ _ | with_reducible assumption | with_reducible refine Below.drew ?_ | with_reducible refine below_drewN ?_ _ | (with_reducible refine Below.alloc ?_ ?_ _; rotate_left; (try simp) <;> omega) | (with_reducible refine Below.setCell ?_ ?_ _; rotate_left; (try simp) <;> omega)))
        · have HB : Hid (¬ recB nt l = true) := fun h => by
            have h' := (of_decide_eq_true h).2.2
            have := hg.out; omega
          have hgb : (g == 1) = false := by rw [beq_eq_false_iff_ne]; exact hgo
          have HGO := Lib.hid hgo; clear hgo
          go_wp2
          go_ret
          exact sh_ret (by have := HB.out; simpa using this) (by repeat (first | with_reducible exact Below.refl _ _ | with_reducible assumption | with_reducible refine Below.drew ?_ | with_reducible refine below_drewN ?_ _ | (with_reducible refine Below.alloc ?_ ?_ _; rotate_left; (try simp) <;> omega) | (with_reducible refine Below.setCell ?_ ?_ _; rotate_left; (try simp) <;> omega)))
  · have HB : Hid (¬ recB nt l = true) := fun h => h14 (of_decide_eq_true h).1
    by_cases h1 : 1 ≤ l.length
    · have d1 : decide (1 ≤ (l.length : Int)) = true := by simp; omega
      have d4 : decide ((l.length : Int) ≤ 4) = false := by simp; omega
      go_enter Try.func29, Try.ntmps29
      go_wp2_with (go_at_call 45; refine (among_any _ _ _ _).mono ?_; rintro e w' ⟨rfl, rfl⟩)
      go_ret
      exact sh_ret (by have := HB.out; simpa using this) (by repeat (first | with_reducible exact Below.refl _ _ | with_reducible assumption | with_reducible refine Below.drew ?_ | with_reducible refine below_drewN ?_ _ | (with_reducible refine Below.alloc ?_ ?_ _; rotate_left; (try simp) <;> omega) | (with_reducible refine Below.setCell ?_ ?_ _; rotate_left; (try simp) <;> omega)))
    · have d1 : decide (1 ≤ (l.length : Int)) = false := by simp; omega
      go_enter Try.func29, Try.ntmps29
      go_wp2_with (go_at_call 45; refine (among_any _ _ _ _).mono ?_; rintro e w' ⟨rfl, rfl⟩)
      go_ret
      exact sh_ret (by have := HB.out; simpa using this) (by repeat (first | with_reducible exact Below.refl _ _ | with_reducible assumption | with_reducible refine Below.drew ?_ | with_reducible refine below_drewN ?_ _ | (with_reducible refine Below.alloc ?_ ?_ _; rotate_left; (try simp) <;> omega) | (with_reducible refine Below.setCell ?_ ?_ _; rotate_left; (try simp) <;> omega)))
end Go.Proofs.Ytkjceegmmhnajaa
