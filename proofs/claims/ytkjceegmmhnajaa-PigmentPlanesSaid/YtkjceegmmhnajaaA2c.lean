import Derived.Test.YtkjceegmmhnajaaA2b
namespace Go.Proofs.Ytkjceegmmhnajaa
open Go.RowKit

theorem str_eq (s v : ByteArray) : (s.toList == v.toList) = decide (s = v) := by
  rw [Bool.eq_iff_iff, beq_iff_eq, decide_eq_true_iff, ByteArray.toList_eq, ByteArray.toList_eq]
  constructor
  · intro h
    have h' := Array.toList_inj.1 h
    cases s; cases v; simpa using h'
  · rintro rfl; rfl
def strsC (l : List ByteArray) : List Value := l.map Value.string
set_option maxHeartbeats 400000 in
theorem indexS_any (l : List ByteArray) (s : ByteArray) (A : Option Addr) (c : Nat) (w : World) (hl : Lies w w.heap.size A (strsC l)) (hm : l.length ≤ 1000) :
    Calls Try.prog 93 #[.slice A l.length c, .string s] w fun e w' => e = .returned (.int .i64 (idxL (fun x => decide (s = x)) l)) ∧ w = w' := by
  go_enter Try.func93, Try.ntmps93
  go_wp2
  go_loop [8] (fun y => ∃ k : Nat, k ≤ l.length ∧ y = .int .i64 k ∧ Hid (∀ j (hj : j < k) (h' : j < l.length), decide (s = l[j]) = false)) (fun y => l.length - (intOf y).toNat)
  case atStart => exact ⟨0, by omega, rfl, fun j hj => absurd hj (by omega)⟩
  case round =>
    obtain ⟨k, hk, rfl, hg⟩ := hrel
    by_cases hlt : k < l.length
    · obtain ⟨ad, u, rfl, _, hu, hcell⟩ := hl.at_ (k := k) (by simpa [strsC] using hlt)
      obtain ⟨v, hv⟩ : ∃ v, v = l[k] := ⟨_, rfl⟩
      obtain rfl : u = .string v := by simp [strsC, List.getElem?_eq_getElem hlt] at hu; rw [hv]; exact hu.symm
      have HV := Lib.hid hv; clear hu hl hv
      by_cases h0 : s = v
      · have H : Hid (idxL (fun x => decide (s = x)) l = (k : Int)) := by
          have := idxL_drop (fun x => decide (s = x)) l k hk hg.out (.inr ⟨hlt, by rw [← HV.out]; exact decide_eq_true h0⟩)
          rw [if_pos hlt] at this; exact this
        have hb : (s.toList == v.toList) = true := by rw [str_eq]; simpa using h0
        have H0 := Lib.hid h0; clear h0
        go_wp2
        go_ret
        exact ⟨ret_int H.out.symm, rfl⟩
      · have H : Hid (∀ j (hj : j < k + 1) (h' : j < l.length), decide (s = l[j]) = false) := fun j hj h' => by
          by_cases e : j = k
          · subst e; rw [← HV.out]; exact decide_eq_false h0
          · exact hg.out j (by omega) h'
        have hb : (s.toList == v.toList) = false := by rw [str_eq]; simpa using h0
        have H0 := Lib.hid h0; clear h0
        go_wp2
        go_round
        case rel => exact ⟨k + 1, by omega, by go_num, H⟩
        case measure => simp [intOf]; omega
    · obtain rfl : k = l.length := by omega
      have H : Hid (idxL (fun x => decide (s = x)) l = -1) := by
        have := idxL_drop (fun x => decide (s = x)) l _ hk hg.out (.inl rfl)
        rw [if_neg (by omega)] at this; exact this
      go_wp2
      go_ret
      exact ⟨ret_int H.out.symm, rfl⟩
set_option maxHeartbeats 400000 in
theorem contains_any (l : List ByteArray) (s : ByteArray) (A : Option Addr) (c : Nat) (w : World) (hl : Lies w w.heap.size A (strsC l)) (hm : l.length ≤ 1000) :
    Calls Try.prog 85 #[.slice A l.length c, .string s] w fun e w' => e = .returned (.bool (l.any (fun x => decide (s = x)))) ∧ w = w' := by
  go_enter Try.func85, Try.ntmps85
  go_wp2_with (go_at_call 93; refine (indexS_any l _ _ _ _ hl hm).mono ?_; rintro e w' ⟨rfl, rfl⟩)
  go_ret
  exact ⟨congrArg (fun b => Ending.returned (.bool b)) (idxL_dec _ _), rfl⟩

def twiceB : List ByteArray → Bool := fun l => (List.range l.length).any fun k => match l[k]? with | some s => (l.take k).any (fun x => decide (s = x)) | none => false
theorem twiceB_no {l : List ByteArray} (h : ∀ j (_ : j < l.length), (l.take j).any (fun x => decide (l[j]'‹_› = x)) = false) : twiceB l = false := by
  unfold twiceB
  rw [List.any_eq_false]
  intro k hk
  have hk' : k < l.length := by simpa using hk
  simp only [List.getElem?_eq_getElem hk']
  rw [h k hk']; exact Bool.false_ne_true
theorem twiceB_yes {l : List ByteArray} {j : Nat} (hj : j < l.length) (h : (l.take j).any (fun x => decide (l[j] = x)) = true) : twiceB l = true := by
  unfold twiceB
  rw [List.any_eq_true]
  exact ⟨j, by simpa using hj, by simp only [List.getElem?_eq_getElem hj]; exact h⟩

theorem Lies.take {w : World} {B : Nat} {A : Option Addr} {cs : List Value} (h : Lies w B A cs) (k : Nat) : Lies w B A (cs.take k) := fun hn => by
  obtain ⟨ad, e, hb, hc⟩ := h (by rintro rfl; simp at hn)
  refine ⟨ad, e, hb, fun j u hu => hc j u ?_⟩
  rw [List.getElem?_take] at hu
  split at hu
  · exact hu
  · cases hu

set_option maxHeartbeats 400000 in
theorem twice_any (l : List ByteArray) (A : Option Addr) (c : Nat) (w : World) (hl : Lies w w.heap.size A (strsC l)) (hm : l.length ≤ 1000) (hc : l.length ≤ c) (hc2 : c ≤ maxLen) :
    Calls Try.prog 60 #[.slice A l.length c] w (BoolEnd (twiceB l) w) := by
  unfold maxLen at hc2
  go_enter Try.func60, Try.ntmps60
  go_wp2
  go_loop [7] (fun y => ∃ k : Nat, k ≤ l.length ∧ y = .int .i64 k ∧ Hid (∀ j (hj : j < k) (h' : j < l.length), (l.take j).any (fun x => decide (l[j] = x)) = false)) (fun y => l.length - (intOf y).toNat)
  case atStart => exact ⟨0, by omega, rfl, fun j hj => absurd hj (by omega)⟩
  case round =>
    obtain ⟨k, hk, rfl, hg⟩ := hrel
    by_cases hlt : k < l.length
    · obtain ⟨ad, u, rfl, _, hu, hcell⟩ := hl.at_ (k := k) (by simpa [strsC] using hlt)
      obtain ⟨v, hv⟩ : ∃ v, v = l[k] := ⟨_, rfl⟩
      obtain rfl : u = .string v := by simp [strsC, List.getElem?_eq_getElem hlt] at hu; rw [hv]; exact hu.symm
      have HV := Lib.hid hv
      have hC := contains_any (l.take k) v (some ad) c w (by have := hl.take k; rwa [← show strsC (l.take k) = (strsC l).take k from List.map_take] at this) (by simp; omega)
      rw [List.length_take, Nat.min_eq_left hk] at hC
      have HC := Lib.hid hC; clear hu hl hv hC
      by_cases h0 : (l.take k).any (fun x => decide (v = x)) = true
      · have H : Hid (twiceB l = true) := twiceB_yes hlt (by rw [← HV.out]; exact h0)
        have H0 := Lib.hid h0; clear h0
        go_wp2_with (go_at_call 85; refine HC.out.mono ?_; rintro e w' ⟨rfl, rfl⟩; rw [H0.out])
        go_ret
        exact bool_ret (by simpa using H.out)
      · have h0' : (l.take k).any (fun x => decide (v = x)) = false := by rw [← Bool.not_eq_true]; exact h0
        have H : Hid (∀ j (hj : j < k + 1) (h' : j < l.length), (l.take j).any (fun x => decide (l[j] = x)) = false) := fun j hj h' => by
          by_cases e : j = k
          · subst e; rw [← HV.out]; exact h0'
          · exact hg.out j (by omega) h'
        have H0 := Lib.hid h0'; clear h0 h0'
        go_wp2_with (go_at_call 85; refine HC.out.mono ?_; rintro e w' ⟨rfl, rfl⟩; rw [H0.out])
        go_round
        case rel => exact ⟨k + 1, by omega, by go_num, H⟩
        case measure => simp [intOf]; omega
    · obtain rfl : k = l.length := by omega
      have H : Hid (twiceB l = false) := twiceB_no (fun j hj => hg.out j hj hj)
      go_wp2
      go_ret
      exact bool_ret (by rw [H.out])
end Go.Proofs.Ytkjceegmmhnajaa
