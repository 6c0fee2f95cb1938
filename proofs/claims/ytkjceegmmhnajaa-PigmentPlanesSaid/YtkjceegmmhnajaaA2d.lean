import Derived.Test.YtkjceegmmhnajaaA2c
namespace Go.Proofs.Ytkjceegmmhnajaa
open Go.RowKit

abbrev Tn.agg (t : Tn) : Value := .agg #[.string t.name, .int .i64 t.a, .int .i64 t.b, .int .i64 t.c, .int .i64 t.price]
def priceB (p : Int) : Bool := decide (0 ≤ p) && decide (p ≤ 10000)
def offTint (t : Tn) : Bool := !nameB t.name || !shadeB t.a t.b t.c || !priceB t.price

set_option maxHeartbeats 1000000 in
theorem checkTints1_any (t : Tn) (w : World) (hs : t.name.size ≤ 100) :
    Calls Try.prog 57 #[t.agg] w (ShEnd (offTint t) w) := by
  have h57 : offTint t = (!nameB t.name || !shadeB t.a t.b t.c || !priceB t.price) := rfl
  have H57 := Lib.hid h57; clear h57
  obtain ⟨nm, a, b, c, p⟩ := t
  have HP : Hid (priceB p = (decide (0 ≤ p) && decide (p ≤ 10000))) := rfl
  dsimp only at *
  by_cases h1 : nameB nm = true
  · have H1 := Lib.hid h1; clear h1
    by_cases h2 : shadeB a b c = true
    · have H2 := Lib.hid h2; clear h2
      go_enter Try.func57, Try.ntmps57
      go_wp2_with (first | (go_at_call 58; refine (isName_any _ _ hs).mono ?_; rintro e w' ⟨rfl, rfl⟩; rw [H1.out]) | (go_at_call 59; refine (isShade_any _ _ _ _).mono ?_; rintro e w1 ⟨rfl, hb⟩; rw [H2.out]; obtain ⟨hc, hf⟩ := bcell hb; have hz := hb.size; simp at hz) | (go_at_call 45; refine (among_any _ _ _ _).mono ?_; rintro e w' ⟨rfl, rfl⟩))
      go_ret
      refine sh_ret ?_ ?_
      · rw [H57.out, H1.out, H2.out, HP.out]; simp
      · exact ((Below.refl w.heap.size w).alloc (Nat.le_refl _) _).trans (hb.mono (by simp))
    · have h2' : shadeB a b c = false := by simpa using h2
      have H2 := Lib.hid h2'; clear h2 h2'
      go_enter Try.func57, Try.ntmps57
      go_wp2_with (first | (go_at_call 58; refine (isName_any _ _ hs).mono ?_; rintro e w' ⟨rfl, rfl⟩; rw [H1.out]) | (go_at_call 59; refine (isShade_any _ _ _ _).mono ?_; rintro e w1 ⟨rfl, hb⟩; rw [H2.out]; obtain ⟨hc, hf⟩ := bcell hb; have hz := hb.size; simp at hz))
      go_ret
      refine sh_ret ?_ ?_
      · rw [H57.out, H1.out, H2.out]; simp
      · exact ((Below.refl w.heap.size w).alloc (Nat.le_refl _) _).trans (hb.mono (by simp))
  · have h1' : nameB nm = false := by simpa using h1
    have H1 := Lib.hid h1'; clear h1 h1'
    go_enter Try.func57, Try.ntmps57
    go_wp2_with (first | (go_at_call 58; refine (isName_any _ _ hs).mono ?_; rintro e w' ⟨rfl, rfl⟩; rw [H1.out]))
    go_ret
    exact sh_ret (by rw [H57.out, H1.out]; simp) (by repeat (first | with_reducible exact Below.refl _ _ | with_reducible assumption | with_reducible refine Below.drew ?_ | with_reducible refine below_drewN ?_ _ | (with_reducible refine Below.alloc ?_ ?_ _; rotate_left; (try simp) <;> omega) | (with_reducible refine Below.setCell ?_ ?_ _; rotate_left; (try simp) <;> omega)))

set_option maxHeartbeats 400000 in
theorem idxT57 (p : Tn → Bool) (l : List Tn) (A : Option Addr) (c : Nat) (w : World)  (hl : Lies w w.heap.size A (tintsC l)) (hm : l.length ≤ 1000)
    (hp : Hid (∀ t ∈ l, ∀ W : World, Below w.heap.size w W → Calls Try.prog 57 (#[t.agg] ++ #[]) W (ShEnd (p t) W))) :
    Calls Try.prog 79 #[.slice A l.length c, .func (.func 57) #[] #[]] w fun e w' => e = .returned (.int .i64 (idxL p l)) ∧ Below w.heap.size w w' := by
  go_enter Try.func79, Try.ntmps79
  go_wp2
  go_loopw [8] (fun y wr => ∃ k : Nat, k ≤ l.length ∧ y = .int .i64 k ∧ Hid (∀ j (hj : j < k) (h' : j < l.length), p l[j] = false) ∧ Below w.heap.size w wr) (fun y _ => l.length - (intOf y).toNat)
  case atStart => exact ⟨0, by omega, rfl, fun j hj => absurd hj (by omega), Below.refl _ _⟩
  case round =>
    obtain ⟨k, hk, rfl, hg, hbw⟩ := hrel
    have hbs := hbw.size
    by_cases hlt : k < l.length
    · obtain ⟨ad, rfl, _, c0, c1, c2, c3, c4⟩ := tint_at (hl.below hbw (Nat.le_refl _)) hlt
      have HC := Lib.hid (hp.out l[k] (List.getElem_mem hlt))
      clear hl
      by_cases h0 : p l[k] = true
      · have H : Hid (idxL p l = (k : Int)) := by
          have := idxL_drop p l k hk hg.out (.inr ⟨hlt, h0⟩)
          rw [if_pos hlt] at this; exact this
        have H0 := Lib.hid h0; clear h0
        go_wp2_with (go_at_call 57; refine (HC.out _ (by exact (by repeat (first | with_reducible exact Below.refl _ _ | with_reducible assumption | with_reducible refine Below.drew ?_ | with_reducible refine below_drewN ?_ _ | (with_reducible refine Below.alloc ?_ ?_ _; rotate_left; (try simp) <;> omega) | (with_reducible refine Below.setCell ?_ ?_ _; rotate_left; (try simp) <;> omega))))).mono ?_; rintro e w1 ⟨rfl, hb⟩; rw [H0.out])
        go_ret
        exact ⟨ret_int H.out.symm, hbw.trans (hb.mono (by omega))⟩
      · have h0' : p l[k] = false := by simpa using h0
        have H : Hid (∀ j (hj : j < k + 1) (h' : j < l.length), p l[j] = false) := fun j hj h' => by
          by_cases e : j = k
          · subst e; exact h0'
          · exact hg.out j (by omega) h'
        have H0 := Lib.hid h0'; clear h0 h0'
        go_wp2_with (go_at_call 57; refine (HC.out _ (by exact (by repeat (first | with_reducible exact Below.refl _ _ | with_reducible assumption | with_reducible refine Below.drew ?_ | with_reducible refine below_drewN ?_ _ | (with_reducible refine Below.alloc ?_ ?_ _; rotate_left; (try simp) <;> omega) | (with_reducible refine Below.setCell ?_ ?_ _; rotate_left; (try simp) <;> omega))))).mono ?_; rintro e w1 ⟨rfl, hb⟩; rw [H0.out])
        go_roundw
        case rel => exact ⟨k + 1, by omega, by go_num, H, hbw.trans (hb.mono (by omega))⟩
        case measure => simp [intOf]; omega
    · obtain rfl : k = l.length := by omega
      have H : Hid (idxL p l = -1) := by
        have := idxL_drop p l _ hk hg.out (.inl rfl)
        rw [if_neg (by omega)] at this; exact this
      go_wp2
      go_ret
      exact ⟨ret_int H.out.symm, hbw⟩
set_option maxHeartbeats 400000 in
theorem anyT57 (p : Tn → Bool) (l : List Tn) (A : Option Addr) (c : Nat) (w : World)  (hl : Lies w w.heap.size A (tintsC l)) (hm : l.length ≤ 1000)
    (hp : Hid (∀ t ∈ l, ∀ W : World, Below w.heap.size w W → Calls Try.prog 57 (#[t.agg] ++ #[]) W (ShEnd (p t) W))) :
    Calls Try.prog 47 #[.slice A l.length c, .func (.func 57) #[] #[]] w (ShEnd (l.any p) w) := by
  have HE := Lib.hid (idxL_dec p l)
  go_enter Try.func47, Try.ntmps47
  go_wp2_with (go_at_call 79; refine (idxT57 p l _ _ _  hl hm hp).mono ?_; rintro e w1 ⟨rfl, hb⟩)
  go_ret
  exact sh_ret HE.out hb

end Go.Proofs.Ytkjceegmmhnajaa
