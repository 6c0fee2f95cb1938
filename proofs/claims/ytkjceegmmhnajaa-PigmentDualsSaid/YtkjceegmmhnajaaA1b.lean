import Derived.Test.YtkjceegmmhnajaaA1
import Derived.Deep.RegionWith
import Derived.StillTailTactics
namespace Go.Proofs.Ytkjceegmmhnajaa
open Go.RowKit

def orL (l : List Int) : Int := (l.find? (· != 0)).getD 0
set_option maxHeartbeats 400000 in
theorem or_any (l : List Int) (A : Option Addr) (c : Nat) (w : World) (hl : Lies w w.heap.size A (ints l)) (hm : l.length ≤ 1000) :
    Calls Try.prog 70 #[.slice A l.length c] w fun e w' => e = .returned (.int .i64 (orL l)) ∧ w = w' := by
  go_enter Try.func70, Try.ntmps70
  go_wp2
  go_loop [8] (fun y => ∃ k : Nat, k ≤ l.length ∧ y = .int .i64 k ∧ Hid (orL (l.drop k) = orL l)) (fun y => l.length - (intOf y).toNat)
  case atStart => exact ⟨0, by omega, rfl, rfl⟩
  case round =>
    obtain ⟨k, hk, rfl, hg⟩ := hrel
    by_cases hlt : k < l.length
    · obtain ⟨ad, u, rfl, _, hu, hcell⟩ := hl.at_ (k := k) (by simpa [ints] using hlt)
      obtain ⟨v, hv⟩ : ∃ v, l[k]? = some v := ⟨_, List.getElem?_eq_getElem hlt⟩
      obtain rfl : u = .int .i64 v := by simp [ints, hv] at hu; exact hu.symm
      have H0 : Hid (l.drop k = v :: l.drop (k + 1)) := by
        rw [List.drop_eq_getElem_cons hlt]; rw [List.getElem?_eq_getElem hlt] at hv; cases hv; rfl
      clear hu hl hv
      by_cases h0 : v = 0
      · subst h0
        have H : Hid (orL (l.drop (k + 1)) = orL l) := by
          have e := hg.out; rw [H0.out] at e; exact e
        go_wp2
        go_round
        case rel => exact ⟨k + 1, by omega, by go_num, H⟩
        case measure => simp [intOf]; omega
      · have hb : (v != 0) = true := by rw [bne_iff_ne]; exact h0
        go_wp2
        go_ret
        exact ⟨ret_int (by rw [← hg.out, H0.out]; simp [orL, h0]), rfl⟩
    · obtain rfl : k = l.length := by omega
      go_wp2
      go_ret
      exact ⟨ret_int (by rw [← hg.out]; simp [orL]), rfl⟩

theorem cmp_step (p q r s : Int) (hq : 1 ≤ q) (hs : 1 ≤ s) :
    (p * s < r * q ↔ p / q < r / s ∨ (p / q = r / s ∧ (p % q) * s < (r % s) * q)) := by
  have e1 := Int.mul_ediv_add_emod p q
  have e2 := Int.mul_ediv_add_emod r s
  have m1 := Int.emod_nonneg p (show q ≠ 0 by omega)
  have m2 := Int.emod_nonneg r (show s ≠ 0 by omega)
  have l1 := Int.emod_lt_of_pos p (show 0 < q by omega)
  have l2 := Int.emod_lt_of_pos r (show 0 < s by omega)
  generalize p / q = x at *
  generalize r / s = y at *
  generalize p % q = u at *
  generalize r % s = v at *
  subst e1 e2
  have k1 : (q * x + u) * s = q * s * x + u * s := by rw [Int.add_mul, Int.mul_right_comm]
  have k2 : (s * y + v) * q = q * s * y + v * q := by rw [Int.add_mul, Int.mul_right_comm, Int.mul_comm s q]
  have k3 : 0 ≤ u * s := Int.mul_nonneg m1 (by omega)
  have k4 : 0 ≤ v * q := Int.mul_nonneg m2 (by omega)
  have k5 : u * s < q * s := Int.mul_lt_mul_of_pos_right l1 (by omega)
  have k6 : v * q < q * s := by rw [Int.mul_comm q s]; exact Int.mul_lt_mul_of_pos_right l2 (by omega)
  rw [k1, k2]
  rcases Int.lt_trichotomy x y with h | h | h
  · have : q * s * (x + 1) ≤ q * s * y := Int.mul_le_mul_of_nonneg_left (by omega) (Int.mul_nonneg (by omega) (by omega))
    rw [Int.mul_add, Int.mul_one] at this
    constructor
    · intro _; exact .inl h
    · intro _; omega
  · subst h
    constructor
    · intro _; exact .inr ⟨rfl, by omega⟩
    · rintro (h | ⟨_, h⟩) <;> omega
  · have : q * s * (y + 1) ≤ q * s * x := Int.mul_le_mul_of_nonneg_left (by omega) (Int.mul_nonneg (by omega) (by omega))
    rw [Int.mul_add, Int.mul_one] at this
    constructor
    · intro _; omega
    · rintro (h' | ⟨h', _⟩) <;> omega

theorem or_less (x y u v s q : Int) (hu : 0 ≤ u) (hv : 0 ≤ v) (hs : 1 ≤ s) (hq : 1 ≤ q) (h : x ≠ y ∨ u = 0 ∨ v = 0) :
    orL [cmpI x y, cmpI u v] < 0 ↔ x < y ∨ (x = y ∧ u * s < v * q) := by
  by_cases h1 : x < y
  · simp [orL, cmpI, h1]
  · by_cases h2 : y < x
    · simp [orL, cmpI, h1, h2]; omega
    · obtain rfl : x = y := by omega
      have e1 : cmpI x x = 0 := by simp [cmpI]
      have e2 : orL [cmpI x x, cmpI u v] = cmpI u v := by
        rw [e1]; by_cases hc : cmpI u v = 0 <;> simp [orL, hc]
      rw [e2]
      simp only [Int.lt_irrefl, false_or, true_and]
      rcases h with h | rfl | rfl
      · exact absurd rfl h
      · rw [Int.zero_mul]
        by_cases h3 : 0 < v
        · have : 0 < v * q := Int.mul_pos h3 (by omega)
          simp [cmpI, h3, this]
        · obtain rfl : v = 0 := by omega
          simp [cmpI]
      · rw [Int.zero_mul]
        have : 0 ≤ u * s := Int.mul_nonneg hu (by omega)
        have h3 : ¬ u < 0 := by omega
        simp only [cmpI, h3, if_false]
        split <;> omega

theorem cmp_blocks {w : World} {B : Nat} {t : TypeId} {a b c d : Value} (h1 : Bk w B t #[a, b]) (h2 : Bk w (B + 1) t #[c, d]) (u1 u2 v1 v2 v3 v4 : Value) :
    let W := (((((w.setCell ⟨B, 0, none⟩ u1).setCell ⟨B + 1, 0, none⟩ u2).setCell ⟨B, 0, none⟩ v1).setCell ⟨B, 1, none⟩ v2).setCell ⟨B + 1, 0, none⟩ v3).setCell ⟨B + 1, 1, none⟩ v4
    Bk W B t #[v1, v2] ∧ Bk W (B + 1) t #[v3, v4] := by
  have n1 : B ≠ B + 1 := by omega
  have n2 : B + 1 ≠ B := by omega
  exact ⟨((((((h1.set 0 u1).far (p := ⟨B + 1, 0, none⟩) n1 u2).set 0 v1).set 1 v2).far (p := ⟨B + 1, 0, none⟩) n1 v3).far (p := ⟨B + 1, 1, none⟩) n1 v4),
    ((((((h2.far (p := ⟨B, 0, none⟩) n2 u1).set 0 u2).far (p := ⟨B, 0, none⟩) n2 v1).far (p := ⟨B, 1, none⟩) n2 v2).set 0 v3).set 1 v4)⟩

def LessPost (p q r s : Int) (w : World) (e : Ending) (w' : World) : Prop := ∃ c : Int, e = .returned (.int .i64 c) ∧ (c < 0 ↔ p * s < r * q) ∧ Below w.heap.size w w'
set_option maxRecDepth 100000 in
set_option maxHeartbeats 1600000 in
theorem cmpfrac_any (p q r s : Int) (w : World) (hp : 0 ≤ p) (hp2 : p ≤ 3050000000000000000) (hq : 1 ≤ q) (hq2 : q ≤ 3050000000000000000) (hr : 0 ≤ r) (hr2 : r ≤ 3050000000000000000) (hs : 1 ≤ s) (hs2 : s ≤ 3050000000000000000) :
    Calls Try.prog 38 #[.agg #[.int .i64 p, .int .i64 q], .agg #[.int .i64 r, .int .i64 s]] w (LessPost p q r s w) := by
  go_enter Try.func38, Try.ntmps38
  go_wp2
  go_loopw [5, 6] (fun x y wr => ∃ p' q' r' s' : Int, (Bk wr w.heap.size 29 #[.int .i64 p', .int .i64 q'] ∧ Bk wr (w.heap.size + 1) 29 #[.int .i64 r', .int .i64 s'])
    ∧ Below w.heap.size w wr ∧ Hid (p' * s' < r' * q' ↔ p * s < r * q)
    ∧ 0 ≤ p' ∧ p' ≤ 3050000000000000000 ∧ 1 ≤ q' ∧ q' ≤ 3050000000000000000 ∧ 0 ≤ r' ∧ r' ≤ 3050000000000000000 ∧ 1 ≤ s' ∧ s' ≤ 3050000000000000000) (fun _ _ wr => (intOf ((wr.cell? ⟨w.heap.size, 1, none⟩).getD undef) + intOf ((wr.cell? ⟨w.heap.size + 1, 1, none⟩).getD undef)).toNat)
  case atStart => exact ⟨p, q, r, s, ⟨(Bk.new w _ _).alloc _, by simpa using Bk.new (w.alloc (.cells #[.int .i64 p, .int .i64 q] 29)) 29 #[.int .i64 r, .int .i64 s]⟩, (by repeat (first | with_reducible exact Below.refl _ _ | with_reducible assumption | with_reducible refine Below.drew ?_ | with_reducible refine below_drewN ?_ _ | (with_reducible refine Below.alloc ?_ ?_ _; rotate_left; (try simp) <;> omega) | (with_reducible refine Below.setCell ?_ ?_ _; rotate_left; (try simp) <;> omega))), Iff.rfl, hp, hp2, hq, hq2, hr, hr2, hs, hs2⟩
  case round =>
    clear hp hp2 hq hq2 hr hr2 hs hs2
    obtain ⟨p', q', r', s', ⟨bA, bB⟩, hB, hi, hp, hp2, hq, hq2, hr, hr2, hs, hs2⟩ := hrel
    have hBs := hB.size
    have x1 := bA.cell 0 rfl
    have x2 := bA.cell 1 rfl
    have x3 := bB.cell 0 rfl
    have x4 := bB.cell 1 rfl
    have f1 := bA.fro 0
    have f2 := bA.fro 1
    have f3 := bB.fro 0
    have f4 := bB.fro 1
    have a1 : 0 ≤ p' / q' ∧ p' / q' ≤ 3050000000000000000 := ⟨Int.ediv_nonneg hp (by omega), Int.le_trans (Int.ediv_le_self _ hp) hp2⟩
    have a2 : 0 ≤ r' / s' ∧ r' / s' ≤ 3050000000000000000 := ⟨Int.ediv_nonneg hr (by omega), Int.le_trans (Int.ediv_le_self _ hr) hr2⟩
    have b1 : 0 ≤ p' % q' ∧ p' % q' < q' := ⟨Int.emod_nonneg _ (by omega), Int.emod_lt_of_pos _ (by omega)⟩
    have b2 : 0 ≤ r' % s' ∧ r' % s' < s' := ⟨Int.emod_nonneg _ (by omega), Int.emod_lt_of_pos _ (by omega)⟩
    have K := Lib.hid (cmp_step p' q' r' s' hq hs)
    have c1 : (q' == 0) = false := by rw [beq_eq_false_iff_ne]; omega
    have c2 : (s' == 0) = false := by rw [beq_eq_false_iff_ne]; omega
    obtain ⟨a1, a1'⟩ := a1
    obtain ⟨a2, a2'⟩ := a2
    obtain ⟨b1, b1'⟩ := b1
    obtain ⟨b2, b2'⟩ := b2
    by_cases hx : p' / q' = r' / s'
    · have hx1 : (p' / q' != r' / s') = false := by rw [hx]; simp
      have Hx := Lib.hid hx; clear hx
      by_cases h1 : p' % q' = 0
      · have h1' : (p' % q' == 0) = true := by rw [h1]; rfl
        have H1 := Lib.hid h1; clear h1
        go_wp2
        go_region
        all_goals
          go_wp2
          go_region
          go_wp2
          refine wp_region_still_tail 8 (by kernel_rfl) (by kernel_rfl) ?_
          simp only [List.take_succ_cons, List.take_zero, List.drop_succ_cons, List.drop_zero]
          change wpStill _ _ (World.drew _) (fun a' => wpList _ _ _ _ a' (World.drew _)) _ _
          iterate 2 still_step
          still_call ((compare_any _ _ _).mono fun e w' h => ⟨h.1, h.2.symm⟩)
          iterate 4 still_step
          still_call ((compare_any _ _ _).mono fun e w' h => ⟨h.1, h.2.symm⟩)
          refine wpStill_nil ?_
          go_wp2_with (go_at_call 70; refine (or_any [cmpI (p' / q') (r' / s'), cmpI (p' % q') (r' % s')] _ _ _ (Lies.fresh rfl (by simp) (by simp) rfl) (by simp)).mono ?_; rintro e w' ⟨rfl, rfl⟩)
          go_ret
          exact ⟨_, rfl, (or_less _ _ _ _ s' q' b1 b2 hs hq (.inr (.inl H1.out))).trans (K.out.symm.trans hi.out), (by repeat (first | with_reducible exact Below.refl _ _ | with_reducible assumption | with_reducible refine Below.drew ?_ | with_reducible refine below_drewN ?_ _ | (with_reducible refine Below.alloc ?_ ?_ _; rotate_left; (try simp) <;> omega) | (with_reducible refine Below.setCell ?_ ?_ _; rotate_left; (try simp) <;> omega)))⟩
      · have h1' : (p' % q' == 0) = false := by rw [beq_eq_false_iff_ne]; exact h1
        have g1 : 1 ≤ p' % q' := by omega
        have H1 := Lib.hid h1; clear h1
        by_cases h2 : r' % s' = 0
        · have h2' : (r' % s' == 0) = true := by rw [h2]; rfl
          have H2 := Lib.hid h2; clear h2
          go_wp2
          go_region
          all_goals
            go_wp2
            go_region
            go_wp2
            refine wp_region_still_tail 8 (by kernel_rfl) (by kernel_rfl) ?_
            simp only [List.take_succ_cons, List.take_zero, List.drop_succ_cons, List.drop_zero]
            change wpStill _ _ (World.drew _) (fun a' => wpList _ _ _ _ a' (World.drew _)) _ _
            iterate 2 still_step
            still_call ((compare_any _ _ _).mono fun e w' h => ⟨h.1, h.2.symm⟩)
            iterate 4 still_step
            still_call ((compare_any _ _ _).mono fun e w' h => ⟨h.1, h.2.symm⟩)
            refine wpStill_nil ?_
            go_wp2_with (go_at_call 70; refine (or_any [cmpI (p' / q') (r' / s'), cmpI (p' % q') (r' % s')] _ _ _ (Lies.fresh rfl (by simp) (by simp) rfl) (by simp)).mono ?_; rintro e w' ⟨rfl, rfl⟩)
            go_ret
            exact ⟨_, rfl, (or_less _ _ _ _ s' q' b1 b2 hs hq (.inr (.inr H2.out))).trans (K.out.symm.trans hi.out), (by repeat (first | with_reducible exact Below.refl _ _ | with_reducible assumption | with_reducible refine Below.drew ?_ | with_reducible refine below_drewN ?_ _ | (with_reducible refine Below.alloc ?_ ?_ _; rotate_left; (try simp) <;> omega) | (with_reducible refine Below.setCell ?_ ?_ _; rotate_left; (try simp) <;> omega)))⟩
        · have h2' : (r' % s' == 0) = false := by rw [beq_eq_false_iff_ne]; exact h2
          have g2 : 1 ≤ r' % s' := by omega
          have H2 := Lib.hid h2; clear h2
          have HN : Hid (s' * (p' % q') < q' * (r' % s') ↔ p * s < r * q) := by
            have k := K.out
            rw [Hx.out] at k
            have k' := hi.out
            rw [k] at k'
            show _ ↔ _
            rw [← k', Int.mul_comm s', Int.mul_comm q']
            simp
          clear K hi
          go_wp2
          go_region
          all_goals
            go_wp2
            go_region
            all_goals
              go_wp2
              go_roundw
              case rel => exact ⟨s', r' % s', q', p' % q', ⟨(cmp_blocks bA bB _ _ _ _ _ _).1.drew.drew, (cmp_blocks bA bB _ _ _ _ _ _).2.drew.drew⟩, (by repeat (first | with_reducible exact Below.refl _ _ | with_reducible assumption | with_reducible refine Below.drew ?_ | with_reducible refine below_drewN ?_ _ | (with_reducible refine Below.alloc ?_ ?_ _; rotate_left; (try simp) <;> omega) | (with_reducible refine Below.setCell ?_ ?_ _; rotate_left; (try simp) <;> omega))), HN, by omega, by omega, by omega, by omega, by omega, by omega, by omega, by omega⟩
              case measure => rw [(cmp_blocks bA bB _ _ _ _ _ _).1.drew.drew.cell 1 rfl, (cmp_blocks bA bB _ _ _ _ _ _).2.drew.drew.cell 1 rfl, x2, x4]; simp [intOf]; omega
    · have hx1 : (p' / q' != r' / s') = true := by rw [bne_iff_ne]; exact hx
      have Hx := Lib.hid hx; clear hx
      go_wp2
      go_region
      all_goals
        go_wp2
        go_region
        go_wp2
        refine wp_region_still_tail 8 (by kernel_rfl) (by kernel_rfl) ?_
        simp only [List.take_succ_cons, List.take_zero, List.drop_succ_cons, List.drop_zero]
        change wpStill _ _ (World.drew _) (fun a' => wpList _ _ _ _ a' (World.drew _)) _ _
        iterate 2 still_step
        still_call ((compare_any _ _ _).mono fun e w' h => ⟨h.1, h.2.symm⟩)
        iterate 4 still_step
        still_call ((compare_any _ _ _).mono fun e w' h => ⟨h.1, h.2.symm⟩)
        refine wpStill_nil ?_
        go_wp2_with (go_at_call 70; refine (or_any [cmpI (p' / q') (r' / s'), cmpI (p' % q') (r' % s')] _ _ _ (Lies.fresh rfl (by simp) (by simp) rfl) (by simp)).mono ?_; rintro e w' ⟨rfl, rfl⟩)
        go_ret
        exact ⟨_, rfl, (or_less _ _ _ _ s' q' b1 b2 hs hq (.inl Hx.out)).trans (K.out.symm.trans hi.out), (by repeat (first | with_reducible exact Below.refl _ _ | with_reducible assumption | with_reducible refine Below.drew ?_ | with_reducible refine below_drewN ?_ _ | (with_reducible refine Below.alloc ?_ ?_ _; rotate_left; (try simp) <;> omega) | (with_reducible refine Below.setCell ?_ ?_ _; rotate_left; (try simp) <;> omega)))⟩
end Go.Proofs.Ytkjceegmmhnajaa
