/- Seasons, open days, minutes, batches, skilled masters of a yard that is right. -/
import Derived.Test.YtjgnikmnadmheaaQ6
import Derived.Test.YtjgnikmnadmheaaQL
import Derived.WalkSmall
namespace Go.Proofs.Ytjgnikmnadmheaa
open Go.RowKit

theorem plain_of {w : World} {ad : Addr} {v : Value} (h : w.cell? ad = some v) : ad = ⟨ad.block, ad.off, none⟩ := by
  unfold World.cell? at h
  split at h
  · split at h
    · cases h
    · rename_i hs
      obtain ⟨b, o, s⟩ := ad
      cases s with
      | none => rfl
      | some _ => simp at hs
  · cases h
def cntLt (l : List Int) (x : Int) : Nat := l.countP (· < x)
theorem rising_sorted {l : List Int} (h : risingB l = true) : l.Pairwise (· < ·) := by
  have h1 := (risingB_iff l).1 h
  have hlt : ∀ d i (hi : i + d + 1 < l.length), l[i]'(by omega) < l[i + d + 1] := fun d => by
    induction d with
    | zero => intro i hi; exact h1 i (by omega)
    | succ d ih =>
      intro i hi
      have := ih i (by omega)
      have := h1 (i + d + 1) (by omega)
      exact Int.lt_trans ‹_› this
  rw [List.pairwise_iff_getElem]
  intro i j hi hj hij
  have := hlt (j - i - 1) i (by omega)
  have e : l[i + (j - i - 1) + 1]'(by omega) = l[j] := by congr 1; omega
  rw [e] at this; exact this
set_option maxHeartbeats 400000 in
theorem bsearch_any (l : List Int) (x : Int) (A : Option Addr) (c : Nat) (w : World) (hl : Lies w w.heap.size A (ints l)) (hr : risingB l = true) (hm : l.length ≤ 1000) :
    Calls Try.prog 76 #[.slice A l.length c, .int .i64 x] w fun e w' => e = .returned (.tuple #[.int .i64 (cntLt l x : Nat), .bool (l.contains x)]) ∧ Below w.heap.size w w' := by
  cases hl0 : l with
  | nil => exact (Any.slices_BinarySearch_int_empty Lay25 A c x w).mono fun e w' ⟨h1, h2⟩ => ⟨h1, by rw [h2]; exact Below.refl _ _⟩
  | cons y r =>
    have hpos : 0 < l.length := by rw [hl0]; simp
    obtain ⟨ad, rfl, hadb, c0⟩ := int_at hl hpos
    have hp := plain_of c0
    have hoff : ∀ j (hj : j < l.length), w.cell? ⟨ad.block, ad.off + j, none⟩ = some (.int .i64 (l.getD j 0)) := fun j hj => by
      obtain ⟨ad2, e2, _, c2⟩ := int_at hl hj
      cases e2
      have e0 : ad.add 0 = ad := by unfold Addr.add; simp
      rw [e0] at hp
      rw [List.getD_eq_getElem?_getD, List.getElem?_eq_getElem hj]
      rw [hp] at c2
      unfold Addr.add at c2
      by_cases hj0 : j = 0
      · subst hj0; simpa using c2
      · rw [if_neg hj0] at c2; exact c2
    have e0 : ad.add 0 = ad := by unfold Addr.add; simp
    rw [e0] at hp
    rw [← hl0, hp]
    have := Any.slices_BinarySearch_int (P := Try.prog) Lay25 ad.block ad.off l.length c l x w (Nat.le_refl _) (by omega) hoff (by rw [List.take_length]; exact (rising_sorted hr).imp (fun h => Int.le_of_lt h))
    rw [List.take_length] at this
    exact this.mono fun e w' ⟨h1, q, h2⟩ => ⟨h1, by rw [h2]; exact below_drewN (Below.refl _ _) q⟩

/-- a yard that CheckYard lets through -/
structure Valid (Y : Yd) : Prop where
  n1 : Y.cl.length ≤ 200
  n2 : Y.pi.length ≤ 8
  n3 : Y.ma.length ≤ 12
  dry : 0 ≤ Y.dry ∧ Y.dry ≤ 30
  ris : risingB Y.cl = true
  se : ∀ k, k < 24 → 0 ≤ Y.se k ∧ Y.se k ≤ 1440
  cl : ∀ d ∈ Y.cl, 0 ≤ d ∧ d ≤ 100000
  pi : ∀ p ∈ Y.pi, (0 ≤ p.s ∧ p.s ≤ 100000) ∧ (0 ≤ p.a ∧ p.a ≤ 10000) ∧ (1 ≤ p.b ∧ p.b ≤ 100)
  ma : ∀ m ∈ Y.ma, nameB m.name = true ∧ 0 ≤ m.f ∧ m.f < m.u ∧ m.u ≤ 100001 ∧ (1 ≤ m.k ∧ m.k ≤ 9)
theorem inB_iff {x a b : Int} : inB x a b = true ↔ a ≤ x ∧ x ≤ b := by unfold inB; simp
theorem valid_of {Y : Yd} (h : chkY Y = 0) : Valid Y := by
  unfold chkY at h
  split at h
  · cases h
  · rename_i hn
    split at h
    · cases h
    · rename_i hb
      split at h
      · rename_i hf
        unfold fineY at hf
        simp only [Bool.and_eq_true, List.all_eq_true, List.mem_range] at hf
        obtain ⟨⟨⟨⟨⟨f1, f2⟩, f3⟩, f4⟩, f5⟩, f6⟩ := hf
        refine ⟨by omega, by omega, by omega, inB_iff.1 f1, f2, fun k hk => ?_, fun d hd => inB_iff.1 (f4 d hd), fun p hp => ?_, fun m hm => ?_⟩
        · have := f3 (k / 2) (by omega)
          unfold seasB at this
          rw [Bool.and_eq_true, inB_iff, inB_iff] at this
          rcases Nat.mod_two_eq_zero_or_one k with e | e
          · rw [show 2 * (k / 2) = k by omega] at this; exact this.1
          · rw [show 2 * (k / 2) + 1 = k by omega] at this; exact this.2
        · have := f5 p hp
          unfold pitB at this
          simp only [Bool.and_eq_true, inB_iff] at this
          exact ⟨this.1.1, this.1.2, this.2⟩
        · have := f6 m hm
          unfold masB at this
          simp only [Bool.and_eq_true, inB_iff, decide_eq_true_eq] at this
          refine ⟨?_, this.1.1.1, this.1.1.2, this.1.2, this.2⟩
          rw [Bool.not_eq_true, List.any_eq_false] at hb
          have := hb m hm
          unfold badName at this
          simpa using this
      · cases h

/-- a day that is open -/
def openB (Y : Yd) (d : Int) : Bool := inB d 0 100000 && !Y.cl.contains d
set_option maxHeartbeats 400000 in
theorem open_any (C : Array Value) (Y : Yd) (d : Int) (w : World) (hY : YardAt w w.heap.size C Y) (hv : Valid Y) : Calls Try.prog 106 #[.agg C, .int .i64 d] w (ShEnd (openB Y d) w) := by
  obtain ⟨A1, k1, e1, L1⟩ := hY.cl
  have HB := Lib.hid (fun W (hb : Below w.heap.size w W) => bsearch_any Y.cl d A1 k1 W ((L1.below hb (Nat.le_refl _)).more hb.size) hv.ris (by have := hv.n1; omega))
  have HO : Hid (openB Y d = (inB d 0 100000 && !Y.cl.contains d)) := rfl
  generalize openB Y d = q at *
  clear hY hv L1
  generalize cntLt Y.cl d = n at *
  generalize Y.cl.contains d = bb at *
  cases h1 : inB d 0 100000 with
  | false =>
    have H1 := Lib.hid h1
    have HE : Hid (q = false) := by show _ = _; rw [HO.out, h1]; rfl
    clear h1 HO
    go_enter Try.func106, Try.ntmps106
    go_wp2_with (first | (go_at_call 76; refine (HB.out _ (by exact (by repeat (first | with_reducible exact Below.refl _ _ | with_reducible assumption | with_reducible refine Below.drew ?_ | with_reducible refine below_drewN ?_ _ | (with_reducible refine Below.alloc ?_ ?_ _; rotate_left; (try simp) <;> omega) | (with_reducible refine Below.setCell ?_ ?_ _; rotate_left; (try simp) <;> omega))))).mono ?_; rintro e w1 ⟨rfl, hb⟩; have hB1 : Below w.heap.size w w1 := Below.trans (by exact (by repeat (first | with_reducible exact Below.refl _ _ | with_reducible assumption | with_reducible refine Below.drew ?_ | with_reducible refine below_drewN ?_ _ | (with_reducible refine Below.alloc ?_ ?_ _; rotate_left; (try simp) <;> omega) | (with_reducible refine Below.setCell ?_ ?_ _; rotate_left; (try simp) <;> omega)))) (hb.mono (by simp))) | (go_at_call 66; refine (in_any _ _ _ _).mono ?_; rintro e w' ⟨rfl, rfl⟩; rw [H1.out]))
    go_ret
    exact sh_ret HE.out.symm hB1
  | true =>
    have H1 := Lib.hid h1
    have HE : Hid ((!bb) = q) := by show _ = _; rw [HO.out, h1]; rfl
    clear h1 HO
    go_enter Try.func106, Try.ntmps106
    go_wp2_with (first | (go_at_call 76; refine (HB.out _ (by exact (by repeat (first | with_reducible exact Below.refl _ _ | with_reducible assumption | with_reducible refine Below.drew ?_ | with_reducible refine below_drewN ?_ _ | (with_reducible refine Below.alloc ?_ ?_ _; rotate_left; (try simp) <;> omega) | (with_reducible refine Below.setCell ?_ ?_ _; rotate_left; (try simp) <;> omega))))).mono ?_; rintro e w1 ⟨rfl, hb⟩; have hB1 : Below w.heap.size w w1 := Below.trans (by exact (by repeat (first | with_reducible exact Below.refl _ _ | with_reducible assumption | with_reducible refine Below.drew ?_ | with_reducible refine below_drewN ?_ _ | (with_reducible refine Below.alloc ?_ ?_ _; rotate_left; (try simp) <;> omega) | (with_reducible refine Below.setCell ?_ ?_ _; rotate_left; (try simp) <;> omega)))) (hb.mono (by simp))) | (go_at_call 66; refine (in_any _ _ _ _).mono ?_; rintro e w' ⟨rfl, rfl⟩; rw [H1.out]))
    go_ret
    exact sh_ret HE.out hB1
end Go.Proofs.Ytjgnikmnadmheaa
