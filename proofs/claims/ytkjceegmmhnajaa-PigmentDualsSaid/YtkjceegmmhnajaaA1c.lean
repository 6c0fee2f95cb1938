import Derived.Test.YtkjceegmmhnajaaA1b
namespace Go.Proofs.Ytkjceegmmhnajaa
open Go.RowKit

def swp (sw : Bool) (p q r s : Int) : Prop := if sw then r * q < p * s else p * s < r * q
theorem swp_true (p q r s : Int) : swp true p q r s = (r * q < p * s) := rfl
theorem swp_false (p q r s : Int) : swp false p q r s = (p * s < r * q) := rfl

theorem less_blocks {w : World} {B C : Nat} {t : TypeId} {a b c d : Value} (h1 : Bk w B t #[a, b]) (h2 : Bk w C t #[c, d]) (hn : B ≠ C) (v1 v2 v3 v4 : Value) :
    let W := (((w.setCell ⟨B, 0, none⟩ v1).setCell ⟨B, 1, none⟩ v2).setCell ⟨C, 0, none⟩ v3).setCell ⟨C, 1, none⟩ v4
    Bk W B t #[v1, v2] ∧ Bk W C t #[v3, v4] := by
  have hn' : C ≠ B := fun e => hn e.symm
  exact ⟨((((h1.set 0 v1).set 1 v2).far (p := ⟨C, 0, none⟩) hn v3).far (p := ⟨C, 1, none⟩) hn v4),
    ((((h2.far (p := ⟨B, 0, none⟩) hn' v1).far (p := ⟨B, 1, none⟩) hn' v2).set 0 v3).set 1 v4)⟩

/-- one round, in plain numbers -/
theorem less_step (sw : Bool) (p q r s m n : Int) (hq : 1 ≤ q) (hs : 1 ≤ s) (hm : m = p / q) (hn : n = r / s) :
    (swp sw p q r s ↔ (if sw then n < m else m < n) ∨ (m = n ∧ swp sw (p - m * q) q (r - n * s) s)) := by
  have e1 : p - m * q = p % q := by have := Int.mul_ediv_add_emod p q; rw [hm, Int.mul_comm (p / q)]; omega
  have e2 : r - n * s = r % s := by have := Int.mul_ediv_add_emod r s; rw [hn, Int.mul_comm (r / s)]; omega
  rw [e1, e2, hm, hn]
  cases sw
  · exact cmp_step p q r s hq hs
  · have := cmp_step r s p q hs hq
    rw [swp_true, swp_true]
    simp only [if_true]
    rw [this]
    constructor
    · rintro (h | ⟨h1, h2⟩)
      · exact .inl h
      · exact .inr ⟨h1.symm, h2⟩
    · rintro (h | ⟨h1, h2⟩)
      · exact .inl h
      · exact .inr ⟨h1.symm, h2⟩

theorem less_stop1 (sw : Bool) (m n : Int) (h : m ≠ n) : (decide (m < n) != sw) = decide (if sw then n < m else m < n) := by
  cases sw
  · simp
  · by_cases h1 : m < n
    · have : ¬ n < m := by omega
      simp [h1, this]
    · have : n < m := by omega
      simp [h1, this]

def LessEnd (b : Bool) (w : World) (e : Ending) (w' : World) : Prop := e = .returned (.bool b) ∧ Below w.heap.size w w'
theorem less_ret {p q r s : Int} {b : Bool} {w w' : World} (h : b = true ↔ p * s < r * q) (hb : Below w.heap.size w w') : LessEnd (decide (p * s < r * q)) w (.returned (.bool b)) w' :=
  ⟨by congr 2; rw [Bool.eq_iff_iff]; simpa using h, hb⟩
theorem less_fin2 (sw : Bool) (u v s q : Int) (hu : 0 ≤ u) (hv : 0 ≤ v) (hs : 1 ≤ s) (hq : 1 ≤ q) (h : u = 0 ∨ v = 0) :
    swp sw u q v s ↔ (if sw then v = 0 ∧ 0 < u else u = 0 ∧ 0 < v) := by
  have a1 : 0 < u → 0 < u * s := fun h => Int.mul_pos h (by omega)
  have a2 : 0 < v → 0 < v * q := fun h => Int.mul_pos h (by omega)
  cases sw
  · rw [swp_false]; simp only [Bool.false_eq_true, if_false]
    rcases h with rfl | rfl
    · rw [Int.zero_mul]
      rcases Int.lt_or_eq_of_le hv with h | h
      · exact ⟨fun _ => ⟨rfl, h⟩, fun _ => a2 h⟩
      · subst h; simp
    · rw [Int.zero_mul]
      rcases Int.lt_or_eq_of_le hu with h | h
      · have := a1 h; constructor <;> intro _ <;> omega
      · subst h; simp
  · rw [swp_true]; simp only [if_true]
    rcases h with rfl | rfl
    · rw [Int.zero_mul]
      rcases Int.lt_or_eq_of_le hv with h | h
      · have := a2 h; constructor <;> intro _ <;> omega
      · subst h; simp
    · rw [Int.zero_mul]
      rcases Int.lt_or_eq_of_le hu with h | h
      · exact ⟨fun _ => ⟨rfl, h⟩, fun _ => a1 h⟩
      · subst h; simp

theorem less_start (w : World) (o1 o2 : Obj) (a b c d : Value) : Bk ((((w.alloc o1).alloc o2).alloc (.cells #[a, b] 29)).alloc (.cells #[c, d] 29)) (w.heap.size + 1 + 1) 29 #[a, b] ∧ Bk ((((w.alloc o1).alloc o2).alloc (.cells #[a, b] 29)).alloc (.cells #[c, d] 29)) (w.heap.size + 1 + 1 + 1) 29 #[c, d] := by
  have h1 := Bk.new ((w.alloc o1).alloc o2) 29 #[a, b]
  have h2 := Bk.new (((w.alloc o1).alloc o2).alloc (.cells #[a, b] 29)) 29 #[c, d]
  rw [World.size_alloc, World.size_alloc] at h1
  rw [World.size_alloc, World.size_alloc, World.size_alloc] at h2
  exact ⟨h1.alloc _, h2⟩

set_option maxRecDepth 100000 in
set_option maxHeartbeats 1600000 in
theorem less_any (p q r s : Int) (w : World) (hp : 0 ≤ p) (hp2 : p ≤ 3050000000000000000) (hq : 1 ≤ q) (hq2 : q ≤ 3050000000000000000) (hr : 0 ≤ r) (hr2 : r ≤ 3050000000000000000) (hs : 1 ≤ s) (hs2 : s ≤ 3050000000000000000) :
    Calls Try.prog 18 #[.agg #[.int .i64 p, .int .i64 q], .agg #[.int .i64 r, .int .i64 s]] w (LessEnd (decide (p * s < r * q)) w) := by
  go_enter Try.func18, Try.ntmps18
  go_wp2
  go_loopw [7] (fun x wr => ∃ (p' q' r' s' : Int) (sw : Bool), x = .bool sw ∧ (Bk wr (w.heap.size + 1 + 1) 29 #[.int .i64 p', .int .i64 q'] ∧ Bk wr (w.heap.size + 1 + 1 + 1) 29 #[.int .i64 r', .int .i64 s'])
    ∧ Below w.heap.size w wr ∧ Hid (swp sw p' q' r' s' ↔ p * s < r * q)
    ∧ 0 ≤ p' ∧ p' ≤ 3050000000000000000 ∧ 1 ≤ q' ∧ q' ≤ 3050000000000000000 ∧ 0 ≤ r' ∧ r' ≤ 3050000000000000000 ∧ 1 ≤ s' ∧ s' ≤ 3050000000000000000) (fun _ wr => (intOf ((wr.cell? ⟨w.heap.size + 1 + 1, 1, none⟩).getD undef) + intOf ((wr.cell? ⟨w.heap.size + 1 + 1 + 1, 1, none⟩).getD undef)).toNat)
  case atStart =>
    refine ⟨p, q, r, s, false, rfl, ?_, (by repeat (first | with_reducible exact Below.refl _ _ | with_reducible assumption | with_reducible refine Below.drew ?_ | with_reducible refine below_drewN ?_ _ | (with_reducible refine Below.alloc ?_ ?_ _; rotate_left; (try simp) <;> omega) | (with_reducible refine Below.setCell ?_ ?_ _; rotate_left; (try simp) <;> omega))), Iff.rfl, hp, hp2, hq, hq2, hr, hr2, hs, hs2⟩
    exact less_start w _ _ _ _ _ _
  case round =>
    clear hp hp2 hq hq2 hr hr2 hs hs2
    obtain ⟨p', q', r', s', sw, rfl, ⟨bA, bB⟩, hB, hi, hp, hp2, hq, hq2, hr, hr2, hs, hs2⟩ := hrel
    have hBs := hB.size
    have x1 := bA.cell 0 rfl
    have x2 := bA.cell 1 rfl
    have x3 := bB.cell 0 rfl
    have x4 := bB.cell 1 rfl
    have f1 := bA.fro 0
    have f2 := bA.fro 1
    have f3 := bB.fro 0
    have f4 := bB.fro 1
    have a1 : 0 ≤ p' / q' ∧ p' / q' ≤ 3050000000000000000 := ⟨Int.ediv_nonneg hp (by omega), Int.le_trans (Int.ediv_le_self _ hp) hp2⟩
    have a2 : 0 ≤ r' / s' ∧ r' / s' ≤ 3050000000000000000 := ⟨Int.ediv_nonneg hr (by omega), Int.le_trans (Int.ediv_le_self _ hr) hr2⟩
    have b1 : 0 ≤ p' % q' ∧ p' % q' < q' := ⟨Int.emod_nonneg _ (by omega), Int.emod_lt_of_pos _ (by omega)⟩
    have b2 : 0 ≤ r' % s' ∧ r' % s' < s' := ⟨Int.emod_nonneg _ (by omega), Int.emod_lt_of_pos _ (by omega)⟩
    have e1 := Int.mul_ediv_add_emod p' q'
    have e2 := Int.mul_ediv_add_emod r' s'
    have F1 := Lib.hid (fun w1 : World => floor_any p' q' w1 (by unfold bigP; omega) hq hq2)
    have F2 := Lib.hid (fun w1 : World => floor_any r' s' w1 (by unfold bigP; omega) hs hs2)
    have K := Lib.hid (less_step sw p' q' r' s' _ _ hq hs rfl rfl)
    have e1' : 0 ≤ p' / q' * q' ∧ p' / q' * q' ≤ p' ∧ p' - p' / q' * q' = p' % q' := by rw [Int.mul_comm]; have : 0 ≤ q' * (p' / q') := Int.mul_nonneg (by omega) a1.1; omega
    have e2' : 0 ≤ r' / s' * s' ∧ r' / s' * s' ≤ r' ∧ r' - r' / s' * s' = r' % s' := by rw [Int.mul_comm]; have : 0 ≤ s' * (r' / s') := Int.mul_nonneg (by omega) a2.1; omega
    clear e1 e2
    generalize p' / q' = m at *
    generalize r' / s' = n at *
    generalize p' % q' = u at *
    generalize r' % s' = v at *
    obtain ⟨a1, a1'⟩ := a1
    obtain ⟨a2, a2'⟩ := a2
    obtain ⟨b1, b1'⟩ := b1
    obtain ⟨b2, b2'⟩ := b2
    obtain ⟨d1, d2, d3⟩ := e1'
    obtain ⟨d4, d5, d6⟩ := e2'
    rw [d3, d6] at K
    by_cases hx : m = n
    · subst hx
      have K' : Hid (swp sw u q' v s' ↔ p * s < r * q) := by
        have k := K.out
        rw [hi.out] at k
        simp at k
        exact k.symm
      clear K hi
      have hmm : (m != m) = false := by simp
      by_cases h1 : u = 0
      · have hu : (u == 0) = true := by rw [h1]; rfl
        have hu' : decide (0 < u) = false := by rw [decide_eq_false_iff_not]; omega
        have HF := Lib.hid (less_fin2 sw u v s' q' b1 b2 hs hq (.inl h1))
        have h0 : u ≤ 0 := by omega
        have H1 := Lib.hid h1; clear h1
        by_cases h2 : v = 0
        · have hv : (v == 0) = true := by rw [h2]; rfl
          have h0' : v ≤ 0 := by omega
          have H2 := Lib.hid h2; clear h2
          cases sw
          all_goals
            go_wp2_with (first | (go_at_call 44; with_reducible refine (F1.out _).mono ?_; rintro e w' ⟨rfl, rfl⟩) | (go_at_call 44; with_reducible refine (F2.out _).mono ?_; rintro e w' ⟨rfl, rfl⟩))
            go_ret
            refine less_ret ?_ (by repeat (first | with_reducible exact Below.refl _ _ | with_reducible assumption | with_reducible refine Below.drew ?_ | with_reducible refine below_drewN ?_ _ | (with_reducible refine Below.alloc ?_ ?_ _; rotate_left; (try simp) <;> omega) | (with_reducible refine Below.setCell ?_ ?_ _; rotate_left; (try simp) <;> omega)))
            rw [← K'.out, HF.out]
            simp [H1.out, H2.out]
        · have hv : (v == 0) = false := by rw [beq_eq_false_iff_ne]; exact h2
          have h0' : 0 < v := by omega
          have H2 := Lib.hid h2; clear h2
          cases sw
          all_goals
            go_wp2_with (first | (go_at_call 44; with_reducible refine (F1.out _).mono ?_; rintro e w' ⟨rfl, rfl⟩) | (go_at_call 44; with_reducible refine (F2.out _).mono ?_; rintro e w' ⟨rfl, rfl⟩))
            go_ret
            refine less_ret ?_ (by repeat (first | with_reducible exact Below.refl _ _ | with_reducible assumption | with_reducible refine Below.drew ?_ | with_reducible refine below_drewN ?_ _ | (with_reducible refine Below.alloc ?_ ?_ _; rotate_left; (try simp) <;> omega) | (with_reducible refine Below.setCell ?_ ?_ _; rotate_left; (try simp) <;> omega)))
            rw [← K'.out, HF.out]
            simp [H1.out, H2.out, h0']
      · have hu : (u == 0) = false := by rw [beq_eq_false_iff_ne]; exact h1
        have h0 : 0 < u := by omega
        by_cases h2 : v = 0
        · have hv : (v == 0) = true := by rw [h2]; rfl
          have HF := Lib.hid (less_fin2 sw u v s' q' b1 b2 hs hq (.inr h2))
          have h0' : v ≤ 0 := by omega
          have H1 := Lib.hid h1; clear h1
          have H2 := Lib.hid h2; clear h2
          cases sw
          all_goals
            go_wp2_with (first | (go_at_call 44; with_reducible refine (F1.out _).mono ?_; rintro e w' ⟨rfl, rfl⟩) | (go_at_call 44; with_reducible refine (F2.out _).mono ?_; rintro e w' ⟨rfl, rfl⟩))
            go_ret
            refine less_ret ?_ (by repeat (first | with_reducible exact Below.refl _ _ | with_reducible assumption | with_reducible refine Below.drew ?_ | with_reducible refine below_drewN ?_ _ | (with_reducible refine Below.alloc ?_ ?_ _; rotate_left; (try simp) <;> omega) | (with_reducible refine Below.setCell ?_ ?_ _; rotate_left; (try simp) <;> omega)))
            rw [← K'.out, HF.out]
            simp [H1.out, H2.out, h0]
        · have hv : (v == 0) = false := by rw [beq_eq_false_iff_ne]; exact h2
          have h0' : 0 < v := by omega
          have H1 := Lib.hid h1; clear h1
          have H2 := Lib.hid h2; clear h2
          have HN : Hid (swp (!sw) q' u s' v ↔ p * s < r * q) := by
            refine Iff.trans ?_ K'.out
            cases sw
            · simp only [swp_true, swp_false, Bool.not_false]; rw [Int.mul_comm s', Int.mul_comm q']
            · simp only [swp_true, swp_false, Bool.not_true]; rw [Int.mul_comm s', Int.mul_comm q']
          go_wp2_with (first | (go_at_call 44; with_reducible refine (F1.out _).mono ?_; rintro e w' ⟨rfl, rfl⟩) | (go_at_call 44; with_reducible refine (F2.out _).mono ?_; rintro e w' ⟨rfl, rfl⟩))
          go_roundw
          case rel => exact ⟨q', u, s', v, !sw, rfl, less_blocks bA bB (by omega) _ _ _ _, (by repeat (first | with_reducible exact Below.refl _ _ | with_reducible assumption | with_reducible refine Below.drew ?_ | with_reducible refine below_drewN ?_ _ | (with_reducible refine Below.alloc ?_ ?_ _; rotate_left; (try simp) <;> omega) | (with_reducible refine Below.setCell ?_ ?_ _; rotate_left; (try simp) <;> omega))), HN, by omega, by omega, by omega, by omega, by omega, by omega, by omega, by omega⟩
          case measure =>
            have hb := less_blocks bA bB (by omega) (.int .i64 q') (.int .i64 u) (.int .i64 s') (.int .i64 v)
            rw [hb.1.cell 1 rfl, hb.2.cell 1 rfl, x2, x4]; simp [intOf]; omega
    · have hx1 : (m != n) = true := by rw [bne_iff_ne]; exact hx
      have HS := Lib.hid (less_stop1 sw m n hx)
      have Hx := Lib.hid hx; clear hx
      have D3 := Lib.hid d3; clear d3
      have D6 := Lib.hid d6; clear d6
      go_wp2_with (first | (go_at_call 44; with_reducible refine (F1.out _).mono ?_; rintro e w' ⟨rfl, rfl⟩) | (go_at_call 44; with_reducible refine (F2.out _).mono ?_; rintro e w' ⟨rfl, rfl⟩))
      go_ret
      refine less_ret ?_ (by repeat (first | with_reducible exact Below.refl _ _ | with_reducible assumption | with_reducible refine Below.drew ?_ | with_reducible refine below_drewN ?_ _ | (with_reducible refine Below.alloc ?_ ?_ _; rotate_left; (try simp) <;> omega) | (with_reducible refine Below.setCell ?_ ?_ _; rotate_left; (try simp) <;> omega)))
      rw [← hi.out, K.out]
      have e := HS.out
      simp only [bne] at e
      rw [e]
      simp [Hx.out]
end Go.Proofs.Ytkjceegmmhnajaa
