/- The yards and the tasks of the examples are right; what suits there. -/
import Derived.Test.YtjgnikmnadmheaaK3
namespace Go.Proofs.Ytjgnikmnadmheaa
open Go.RowKit

theorem exY_small (two : Bool) : Small (exY two) := by
  cases two <;> exact ⟨by decide, by decide, by decide, by decide⟩
theorem exY_chk (two : Bool) : chkY (exY two) = 0 := by
  cases two <;> decide +kernel
theorem exY_ok (two : Bool) : okY (exY two) = true := by unfold okY; rw [exY_chk]; rfl
theorem exT_tame (A : Addr) (c : Nat) : tame (exT A c) := by
  refine ⟨by show 3 ≤ 1000; omega, fun t ht => ?_⟩
  simp only [exT, List.mem_cons, List.not_mem_nil, or_false] at ht
  rcases ht with rfl | rfl | rfl
  · exact ⟨by simp, by simp, by simp⟩
  · exact ⟨by simp, by simp, by simp⟩
  · exact ⟨by simp, by simp, by simp⟩
theorem exT_chk (A : Addr) (c : Nat) : chkL (exT A c) = 0 := by
  show chkL [⟨400, 3, none, 0, [], none, 0, []⟩, ⟨400, 3, none, 0, [], none, 0, []⟩, ⟨400, 3, some A, c, [0, 1], none, 0, []⟩] = 0
  rfl
theorem exT_at (A : Addr) (c : Nat) (i : Nat) (h : i < (exT A c).length) : ((exT A c)[i]).work = 400 ∧ ((exT A c)[i]).need = 3 := by
  match i, h with
  | 0, _ => exact ⟨rfl, rfl⟩
  | 1, _ => exact ⟨rfl, rfl⟩
  | 2, _ => exact ⟨rfl, rfl⟩
theorem min_ex (two : Bool) (i : Nat) (h : i < 12) : decide ((400 : Int) ≤ min ((exY two).se (2 * i)) ((exY two).se (2 * i + 1))) = Nat.beq i 0 := by
  match i, h with
  | 0, _ => cases two <;> decide
  | 1, _ => cases two <;> decide
  | 2, _ => cases two <;> decide
  | 3, _ => cases two <;> decide
  | 4, _ => cases two <;> decide
  | 5, _ => cases two <;> decide
  | 6, _ => cases two <;> decide
  | 7, _ => cases two <;> decide
  | 8, _ => cases two <;> decide
  | 9, _ => cases two <;> decide
  | 10, _ => cases two <;> decide
  | 11, _ => cases two <;> decide
theorem sk_ex (two : Bool) (d : Int) : decide (0 < (skL (exY two).ma d 3).length) = (decide (0 ≤ d) && decide (d < 100)) := by
  have e : (exY two).ma = [⟨annB, 0, 100, 4⟩] := rfl
  rw [e]
  unfold skL skK
  rw [List.length_map]
  have e2 : List.range [(⟨annB, 0, 100, 4⟩ : Mas)].length = [0] := rfl
  rw [e2]
  have e3 : skAt [(⟨annB, 0, 100, 4⟩ : Mas)] d 3 0 = (decide (0 ≤ d) && decide (d < 100)) := by
    show skB ⟨annB, 0, 100, 4⟩ d 3 = _
    unfold skB; simp
  cases h : (decide (0 ≤ d) && decide (d < 100)) with
  | true => rw [h] at e3; rw [List.filter_cons, if_pos e3]; rfl
  | false => rw [h] at e3; rw [List.filter_cons, if_neg (by rw [e3]; simp)]; rfl
theorem bat_ex (two : Bool) (d : Int) : batOf (exY two).pi d = (if 2 ≤ d then 2 else 0) + (if 5 ≤ d then 9 else 0) := by
  have e : (exY two).pi = [⟨0, 2, 2⟩, ⟨0, 5, 9⟩] := rfl
  rw [e]
  unfold batOf batAt agedB
  simp
theorem nble (a b : Nat) : Nat.ble a b = decide (a ≤ b) := by rw [Bool.eq_iff_iff, Nat.ble_eq]; simp
theorem nbeq (a b : Nat) : Nat.beq a b = decide (a = b) := by rw [Bool.eq_iff_iff, Nat.beq_eq]; simp
theorem nblt (a b : Nat) : Nat.blt a b = decide (a < b) := by unfold Nat.blt; rw [nble]; rfl
theorem open_ex (two : Bool) (m : Nat) : openB (exY two) m = (Nat.ble m 100000 && (!(Nat.beq m 3) && !(two && Nat.beq m 2))) := by
  unfold openB inB
  rw [nble, nbeq, nbeq, Bool.eq_iff_iff]
  cases two
  · have e : (exY false).cl = [3] := rfl
    rw [e]; simp; omega
  · have e : (exY true).cl = [2, 3] := rfl
    rw [e]; simp; omega
theorem suitC2_eq (two : Bool) (t : Tk) (i : Nat) (d : Int) (hw : t.work = 400) (hn : t.need = 3) : suitB (exY two) t i d = suitC2 two i d := by
  unfold suitB
  rw [hw, hn]
  cases d with
  | negSucc m =>
    have : openB (exY two) (Int.negSucc m) = false := by unfold openB inB; simp
    rw [this]; rfl
  | ofNat m =>
    show _ = suitN two i m
    rw [show Int.ofNat m = (m : Int) from rfl]
    unfold suitN
    rw [sk_ex, bat_ex]
    have hs : seaI (m : Int) = m % 360 / 30 := by unfold seaI; omega
    have h4 := min_ex two (seaI (m : Int)) (seaI_lt _)
    have hc : decide ((i : Int) + 1 ≤ (if (2 : Int) ≤ m then 2 else 0) + (if (5 : Int) ≤ m then 9 else 0)) = Nat.ble (i + 1) (cond (Nat.ble 2 m) 2 0 + cond (Nat.ble 5 m) 9 0) := by
      rw [nble, nble, nble, Bool.eq_iff_iff]
      by_cases h2 : 2 ≤ m <;> by_cases h5 : 5 ≤ m <;> simp [h2, h5] <;> omega
    have hd : (decide ((0 : Int) ≤ m) && decide ((m : Int) < 100)) = Nat.blt m 100 := by
      rw [nblt, Bool.eq_iff_iff]; simp; omega
    rw [hc, hd]
    unfold minOf
    cases ho : openB (exY two) (m : Int) with
    | false =>
      rw [open_ex] at ho
      rw [← Bool.and_assoc (!(Nat.beq m 3)), ← Bool.and_assoc (Nat.ble m 100000), ho]; rfl
    | true =>
      rw [open_ex] at ho
      rw [← Bool.and_assoc (!(Nat.beq m 3)), ← Bool.and_assoc (Nat.ble m 100000), ho]
      rw [if_pos rfl, h4, hs]
end Go.Proofs.Ytjgnikmnadmheaa
