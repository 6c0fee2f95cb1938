import Derived.Test.YtkjceegmmhnajaaA3e
namespace Go.Proofs.Ytkjceegmmhnajaa
open Go.RowKit

theorem chkT_ok {l : List Tn} (h : chkT l = 0) : l.length ≤ 12 ∧ 1 ≤ l.length ∧ (∀ t ∈ l, offTint t = false) ∧ twiceB (names l) = false := by
  unfold chkT at h
  by_cases h1 : 12 < l.length
  · rw [if_pos h1] at h; omega
  rw [if_neg h1] at h
  by_cases h2 : l.length = 0 ∨ l.any offTint = true
  · rw [if_pos h2] at h; omega
  rw [if_neg h2] at h
  by_cases h3 : twiceB (names l) = true
  · rw [if_pos h3] at h; omega
  refine ⟨by omega, by omega, fun t ht => ?_, by simpa using h3⟩
  have h4 : ¬ l.any offTint = true := fun h => h2 (.inr h)
  rw [List.any_eq_true] at h4
  by_cases h5 : offTint t = true
  · exact absurd ⟨t, ht, h5⟩ h4
  · simpa using h5
theorem offTint_no {t : Tn} (h : offTint t = false) : nameB t.name = true ∧ (0 ≤ t.a ∧ t.a ≤ 1000) ∧ (0 ≤ t.b ∧ t.b ≤ 1000) ∧ (0 ≤ t.c ∧ t.c ≤ 1000) ∧ 0 ≤ t.price ∧ t.price ≤ 10000 := by
  unfold offTint at h
  simp only [Bool.or_eq_false_iff, Bool.not_eq_false', shadeB, inShade, priceB, Bool.and_eq_true, decide_eq_true_eq] at h
  obtain ⟨⟨h1, ⟨h2, h3⟩, h4⟩, h5⟩ := h
  exact ⟨h1, h2, h3, h4, h5⟩
theorem sel_in {t : Tn} (h : offTint t = false) (j : Nat) : 0 ≤ sel j t ∧ sel j t ≤ 1000 := by
  obtain ⟨_, h1, h2, h3, _⟩ := offTint_no h
  unfold sel
  split
  · exact h1
  · split
    · exact h2
    · exact h3
theorem sel_in' {t : Tn} (h : offTint t = false) (j : Nat) : 0 ≤ sel j t ∧ sel j t ≤ 10000 := by have := sel_in h j; omega
theorem price_in {t : Tn} (h : offTint t = false) : 0 ≤ t.price ∧ t.price ≤ 10000 := (offTint_no h).2.2.2.2

def mixE (l : List Tn) (ps : List Pt) : Int := if chkT l = 0 then (if recB l.length ps = true then 0 else 1) else chkT l
def mixF (l : List Tn) (ps : List Pt) (j : Nat) : Int × Int := if mixE l ps = 0 then shF l ps j else (0, 0)
def priF (l : List Tn) (ps : List Pt) : Int × Int := if mixE l ps = 0 then lowest (wsum Tn.price l ps) (wall ps) else (0, 0)
def MixEnd (F : Nat → Int × Int) (n : Int) (w : World) (e : Ending) (w' : World) : Prop := e = .returned (.tuple #[.agg #[.int .i64 (F 0).1, .int .i64 (F 0).2, .int .i64 (F 1).1, .int .i64 (F 1).2, .int .i64 (F 2).1, .int .i64 (F 2).2], .int .i64 n]) ∧ Below w.heap.size w w'
theorem mix_end {F G : Nat → Int × Int} {n m : Int} {w w' : World} (h1 : ∀ j, F j = G j) (h2 : n = m) (hb : Below w.heap.size w w') :
    MixEnd F n w (.returned (.tuple #[.agg #[.int .i64 (G 0).1, .int .i64 (G 0).2, .int .i64 (G 1).1, .int .i64 (G 1).2, .int .i64 (G 2).1, .int .i64 (G 2).2], .int .i64 m])) w' := by
  subst h2; exact ⟨by rw [h1, h1, h1], hb⟩
def PriEnd (f : Int × Int) (n : Int) (w : World) (e : Ending) (w' : World) : Prop := e = .returned (.tuple #[.agg #[.int .i64 f.1, .int .i64 f.2], .int .i64 n]) ∧ Below w.heap.size w w'
theorem pri_end {f : Int × Int} {a b : Int} {n m : Int} {w w' : World} (h1 : f = (a, b)) (h2 : n = m) (hb : Below w.heap.size w w') :
    PriEnd f n w (.returned (.tuple #[.agg #[.int .i64 a, .int .i64 b], .int .i64 m])) w' := by
  subst h2; subst h1; exact ⟨rfl, hb⟩

set_option maxRecDepth 100000 in
set_option maxHeartbeats 2000000 in
theorem mix_any (l : List Tn) (ps : List Pt) (At A : Option Addr) (ct c : Nat) (w : World) (hlt : Lies w w.heap.size At (tintsC l)) (hl : Lies w w.heap.size A (partsC ps)) (hm : ps.length ≤ 1000) (hm2 : l.length ≤ 1000)
    (hs : ∀ t ∈ l, t.name.size ≤ 100) :
    Calls Try.prog 11 #[.slice At l.length ct, .agg #[.slice A ps.length c]] w (MixEnd (mixF l ps) (mixE l ps) w) := by
  have HT := Lib.hid (fun W (hb : Below w.heap.size w W) => checkTints_any l At ct W ((hlt.below hb (Nat.le_refl _)).more hb.size) hm2 hs)
  have HR := Lib.hid (fun W (hb : Below w.heap.size w W) => isRecipe_any l.length ps At A ct c W ((hl.below hb (Nat.le_refl _)).more hb.size) hm hm2)
  have HE : Hid (mixE l ps = if chkT l = 0 then (if recB l.length ps = true then 0 else 1) else chkT l) := rfl
  have HF : Hid (∀ j, mixF l ps j = if mixE l ps = 0 then shF l ps j else (0, 0)) := fun _ => rfl
  by_cases h0 : chkT l = 0
  · by_cases h1 : recB l.length ps = true
    · have hr := of_decide_eq_true h1
      obtain ⟨_, _, hoff, _⟩ := chkT_ok h0
      have HS := Lib.hid (fun W (hb : Below w.heap.size w W) => shade_any l ps At A ct c W ((hlt.below hb (Nat.le_refl _)).more hb.size) ((hl.below hb (Nat.le_refl _)).more hb.size) hr.1.2 hm2 hr.1.1 (goodP_of hr) (fun j t ht => sel_in' (hoff t ht) j))
      have E0 : Hid (mixE l ps = 0) := by show _ = _; rw [HE.out, if_pos h0, if_pos h1]
      have EF : Hid (∀ j, mixF l ps j = shF l ps j) := fun j => by rw [HF.out, if_pos E0.out]
      obtain ⟨F, hF⟩ : ∃ F, F = shF l ps := ⟨_, rfl⟩
      rw [← hF] at HS EF
      have H0 := Lib.hid h0
      have H1 := Lib.hid h1
      clear h0 h1 hF hr hoff hlt hl hs HE HF
      go_enter Try.func11, Try.ntmps11
      go_wp2_with (first | (go_at_call 28; refine (HT.out _ (by repeat (first | with_reducible exact Below.refl _ _ | with_reducible assumption | with_reducible refine Below.drew ?_ | with_reducible refine below_drewN ?_ _ | (with_reducible refine Below.alloc ?_ ?_ _; rotate_left; (try simp) <;> omega) | (with_reducible refine Below.setCell ?_ ?_ _; rotate_left; (try simp) <;> omega)))).mono ?_; rintro e w1 ⟨rfl, hb⟩; rw [H0.out]; have hB1 : Below w.heap.size w w1 := (Below.trans (by repeat (first | with_reducible exact Below.refl _ _ | with_reducible assumption | with_reducible refine Below.drew ?_ | with_reducible refine below_drewN ?_ _ | (with_reducible refine Below.alloc ?_ ?_ _; rotate_left; (try simp) <;> omega) | (with_reducible refine Below.setCell ?_ ?_ _; rotate_left; (try simp) <;> omega))) (hb.mono (by first | omega | (simp; omega) | simp))); obtain ⟨hc, hf⟩ := bcell hb; have hz := hb.size; (try simp at hz); have g0 : w.heap.size < w1.heap.size := (by omega); have g1 : w.heap.size + 1 < w1.heap.size := (by omega)) | (go_at_call 29; refine (HR.out _ (by repeat (first | with_reducible exact Below.refl _ _ | with_reducible assumption | with_reducible refine Below.drew ?_ | with_reducible refine below_drewN ?_ _ | (with_reducible refine Below.alloc ?_ ?_ _; rotate_left; (try simp) <;> omega) | (with_reducible refine Below.setCell ?_ ?_ _; rotate_left; (try simp) <;> omega)))).mono ?_; rintro e w2 ⟨rfl, hb2⟩; rw [H1.out]; have hB2 : Below w.heap.size w w2 := (Below.trans (by repeat (first | with_reducible exact Below.refl _ _ | with_reducible assumption | with_reducible refine Below.drew ?_ | with_reducible refine below_drewN ?_ _ | (with_reducible refine Below.alloc ?_ ?_ _; rotate_left; (try simp) <;> omega) | (with_reducible refine Below.setCell ?_ ?_ _; rotate_left; (try simp) <;> omega))) (hb2.mono (by first | omega | (simp; omega) | simp))); obtain ⟨hc2, hf2⟩ := bcell hb2; have hz2 := hb2.size; have g2 : w.heap.size < w2.heap.size := (by omega); have g3 : w.heap.size + 1 < w2.heap.size := (by omega)) | (go_at_call 30; refine (HS.out _ (by repeat (first | with_reducible exact Below.refl _ _ | with_reducible assumption | with_reducible refine Below.drew ?_ | with_reducible refine below_drewN ?_ _ | (with_reducible refine Below.alloc ?_ ?_ _; rotate_left; (try simp) <;> omega) | (with_reducible refine Below.setCell ?_ ?_ _; rotate_left; (try simp) <;> omega)))).mono ?_; rintro e w3 ⟨rfl, hb3⟩; have hB3 : Below w.heap.size w w3 := (Below.trans (by repeat (first | with_reducible exact Below.refl _ _ | with_reducible assumption | with_reducible refine Below.drew ?_ | with_reducible refine below_drewN ?_ _ | (with_reducible refine Below.alloc ?_ ?_ _; rotate_left; (try simp) <;> omega) | (with_reducible refine Below.setCell ?_ ?_ _; rotate_left; (try simp) <;> omega))) (hb3.mono (by first | omega | (simp; omega) | simp))); obtain ⟨hc3, hf3⟩ := bcell hb3; have hz3 := hb3.size; have g4 : w.heap.size < w3.heap.size := (by omega); have g5 : w.heap.size + 1 < w3.heap.size := (by omega)))
      refine bodyPost_ret (v := .tuple #[.agg #[.int .i64 (F 0).1, .int .i64 (F 0).2, .int .i64 (F 1).1, .int .i64 (F 1).2, .int .i64 (F 2).1, .int .i64 (F 2).2], .int .i64 0]) ?_ rfl (mix_end EF.out E0.out ?_)
      · simp [results, Try.results11, go_sem, hc3, hc2, hc, g0, g1, g2, g3]
      · exact (by repeat (first | with_reducible exact Below.refl _ _ | with_reducible assumption | with_reducible refine Below.drew ?_ | with_reducible refine below_drewN ?_ _ | (with_reducible refine Below.alloc ?_ ?_ _; rotate_left; (try simp) <;> omega) | (with_reducible refine Below.setCell ?_ ?_ _; rotate_left; (try simp) <;> omega)))
    · have h1' : recB l.length ps = false := by simpa using h1
      have E0 : Hid (mixE l ps = 1) := by show _ = _; rw [HE.out, if_pos h0, if_neg h1]
      have EF : Hid (∀ j, mixF l ps j = (0, 0)) := fun j => by rw [HF.out, if_neg (by rw [E0.out]; decide)]
      have H0 := Lib.hid h0
      have H1 := Lib.hid h1'
      clear h0 h1 h1' hlt hl hs HE HF
      go_enter Try.func11, Try.ntmps11
      go_wp2_with (first | (go_at_call 28; refine (HT.out _ (by repeat (first | with_reducible exact Below.refl _ _ | with_reducible assumption | with_reducible refine Below.drew ?_ | with_reducible refine below_drewN ?_ _ | (with_reducible refine Below.alloc ?_ ?_ _; rotate_left; (try simp) <;> omega) | (with_reducible refine Below.setCell ?_ ?_ _; rotate_left; (try simp) <;> omega)))).mono ?_; rintro e w1 ⟨rfl, hb⟩; rw [H0.out]; have hB1 : Below w.heap.size w w1 := (Below.trans (by repeat (first | with_reducible exact Below.refl _ _ | with_reducible assumption | with_reducible refine Below.drew ?_ | with_reducible refine below_drewN ?_ _ | (with_reducible refine Below.alloc ?_ ?_ _; rotate_left; (try simp) <;> omega) | (with_reducible refine Below.setCell ?_ ?_ _; rotate_left; (try simp) <;> omega))) (hb.mono (by first | omega | (simp; omega) | simp))); obtain ⟨hc, hf⟩ := bcell hb; have hz := hb.size; (try simp at hz); have g0 : w.heap.size < w1.heap.size := (by omega); have g1 : w.heap.size + 1 < w1.heap.size := (by omega)) | (go_at_call 29; refine (HR.out _ (by repeat (first | with_reducible exact Below.refl _ _ | with_reducible assumption | with_reducible refine Below.drew ?_ | with_reducible refine below_drewN ?_ _ | (with_reducible refine Below.alloc ?_ ?_ _; rotate_left; (try simp) <;> omega) | (with_reducible refine Below.setCell ?_ ?_ _; rotate_left; (try simp) <;> omega)))).mono ?_; rintro e w2 ⟨rfl, hb2⟩; rw [H1.out]; have hB2 : Below w.heap.size w w2 := (Below.trans (by repeat (first | with_reducible exact Below.refl _ _ | with_reducible assumption | with_reducible refine Below.drew ?_ | with_reducible refine below_drewN ?_ _ | (with_reducible refine Below.alloc ?_ ?_ _; rotate_left; (try simp) <;> omega) | (with_reducible refine Below.setCell ?_ ?_ _; rotate_left; (try simp) <;> omega))) (hb2.mono (by first | omega | (simp; omega) | simp))); obtain ⟨hc2, hf2⟩ := bcell hb2; have hz2 := hb2.size; have g2 : w.heap.size < w2.heap.size := (by omega); have g3 : w.heap.size + 1 < w2.heap.size := (by omega)))
      refine bodyPost_ret (v := .tuple #[.agg #[.int .i64 0, .int .i64 0, .int .i64 0, .int .i64 0, .int .i64 0, .int .i64 0], .int .i64 1]) ?_ rfl (mix_end (G := fun _ => (0, 0)) EF.out E0.out ?_)
      · simp [results, Try.results11, go_sem, hc2, hc, g0, g1]
      · exact (by repeat (first | with_reducible exact Below.refl _ _ | with_reducible assumption | with_reducible refine Below.drew ?_ | with_reducible refine below_drewN ?_ _ | (with_reducible refine Below.alloc ?_ ?_ _; rotate_left; (try simp) <;> omega) | (with_reducible refine Below.setCell ?_ ?_ _; rotate_left; (try simp) <;> omega)))
  · have E0 : Hid (mixE l ps = chkT l) := by show _ = _; rw [HE.out, if_neg h0]
    have EF : Hid (∀ j, mixF l ps j = (0, 0)) := fun j => by rw [HF.out, if_neg (by rw [E0.out]; exact h0)]
    have hb1 : (chkT l != 0) = true := by rw [bne_iff_ne]; exact h0
    clear h0 hlt hl hs HE HF
    generalize chkT l = q at *
    go_enter Try.func11, Try.ntmps11
    go_wp2_with (first | (go_at_call 28; refine (HT.out _ (by repeat (first | with_reducible exact Below.refl _ _ | with_reducible assumption | with_reducible refine Below.drew ?_ | with_reducible refine below_drewN ?_ _ | (with_reducible refine Below.alloc ?_ ?_ _; rotate_left; (try simp) <;> omega) | (with_reducible refine Below.setCell ?_ ?_ _; rotate_left; (try simp) <;> omega)))).mono ?_; rintro e w1 ⟨rfl, hb⟩;  have hB1 : Below w.heap.size w w1 := (Below.trans (by repeat (first | with_reducible exact Below.refl _ _ | with_reducible assumption | with_reducible refine Below.drew ?_ | with_reducible refine below_drewN ?_ _ | (with_reducible refine Below.alloc ?_ ?_ _; rotate_left; (try simp) <;> omega) | (with_reducible refine Below.setCell ?_ ?_ _; rotate_left; (try simp) <;> omega))) (hb.mono (by first | omega | (simp; omega) | simp))); obtain ⟨hc, hf⟩ := bcell hb; have hz := hb.size; (try simp at hz); have g0 : w.heap.size < w1.heap.size := (by omega); have g1 : w.heap.size + 1 < w1.heap.size := (by omega)))
    refine bodyPost_ret (v := .tuple #[.agg #[.int .i64 0, .int .i64 0, .int .i64 0, .int .i64 0, .int .i64 0, .int .i64 0], .int .i64 q]) ?_ rfl (mix_end (G := fun _ => (0, 0)) EF.out E0.out ?_)
    · simp [results, Try.results11, go_sem, hc]
    · exact (by repeat (first | with_reducible exact Below.refl _ _ | with_reducible assumption | with_reducible refine Below.drew ?_ | with_reducible refine below_drewN ?_ _ | (with_reducible refine Below.alloc ?_ ?_ _; rotate_left; (try simp) <;> omega) | (with_reducible refine Below.setCell ?_ ?_ _; rotate_left; (try simp) <;> omega)))
set_option maxRecDepth 100000 in
set_option maxHeartbeats 2000000 in
theorem prices_any (l : List Tn) (ps : List Pt) (At A : Option Addr) (ct c : Nat) (w : World) (hlt : Lies w w.heap.size At (tintsC l)) (hl : Lies w w.heap.size A (partsC ps)) (hm : ps.length ≤ 1000) (hm2 : l.length ≤ 1000)
    (hs : ∀ t ∈ l, t.name.size ≤ 100) :
    Calls Try.prog 13 #[.slice At l.length ct, .agg #[.slice A ps.length c]] w (PriEnd (priF l ps) (mixE l ps) w) := by
  have HT := Lib.hid (fun W (hb : Below w.heap.size w W) => checkTints_any l At ct W ((hlt.below hb (Nat.le_refl _)).more hb.size) hm2 hs)
  have HR := Lib.hid (fun W (hb : Below w.heap.size w W) => isRecipe_any l.length ps At A ct c W ((hl.below hb (Nat.le_refl _)).more hb.size) hm hm2)
  have HE : Hid (mixE l ps = if chkT l = 0 then (if recB l.length ps = true then 0 else 1) else chkT l) := rfl
  have HF : Hid (priF l ps = if mixE l ps = 0 then lowest (wsum Tn.price l ps) (wall ps) else (0, 0)) := rfl
  by_cases h0 : chkT l = 0
  · by_cases h1 : recB l.length ps = true
    · have hr := of_decide_eq_true h1
      obtain ⟨_, _, hoff, _⟩ := chkT_ok h0
      have HS := Lib.hid (fun W (hb : Below w.heap.size w W) => price_any l ps At A ct c W ((hlt.below hb (Nat.le_refl _)).more hb.size) ((hl.below hb (Nat.le_refl _)).more hb.size) hr.1.2 hm2 hr.1.1 (goodP_of hr) (fun t ht => price_in (hoff t ht)))
      have E0 : Hid (mixE l ps = 0) := by show _ = _; rw [HE.out, if_pos h0, if_pos h1]
      have EF : Hid (priF l ps = lowest (wsum Tn.price l ps) (wall ps)) := by show _ = _; rw [HF.out, if_pos E0.out]
      generalize lowest (wsum Tn.price l ps) (wall ps) = fr at *
      obtain ⟨fa, fb⟩ := fr
      have H0 := Lib.hid h0
      have H1 := Lib.hid h1
      clear h0 h1 hr hoff hlt hl hs HE HF
      go_enter Try.func13, Try.ntmps13
      go_wp2_with (first | (go_at_call 28; refine (HT.out _ (by repeat (first | with_reducible exact Below.refl _ _ | with_reducible assumption | with_reducible refine Below.drew ?_ | with_reducible refine below_drewN ?_ _ | (with_reducible refine Below.alloc ?_ ?_ _; rotate_left; (try simp) <;> omega) | (with_reducible refine Below.setCell ?_ ?_ _; rotate_left; (try simp) <;> omega)))).mono ?_; rintro e w1 ⟨rfl, hb⟩; rw [H0.out]; have hB1 : Below w.heap.size w w1 := (Below.trans (by repeat (first | with_reducible exact Below.refl _ _ | with_reducible assumption | with_reducible refine Below.drew ?_ | with_reducible refine below_drewN ?_ _ | (with_reducible refine Below.alloc ?_ ?_ _; rotate_left; (try simp) <;> omega) | (with_reducible refine Below.setCell ?_ ?_ _; rotate_left; (try simp) <;> omega))) (hb.mono (by first | omega | (simp; omega) | simp))); obtain ⟨hc, hf⟩ := bcell hb; have hz := hb.size; (try simp at hz); have g0 : w.heap.size < w1.heap.size := (by omega); have g1 : w.heap.size + 1 < w1.heap.size := (by omega)) | (go_at_call 29; refine (HR.out _ (by repeat (first | with_reducible exact Below.refl _ _ | with_reducible assumption | with_reducible refine Below.drew ?_ | with_reducible refine below_drewN ?_ _ | (with_reducible refine Below.alloc ?_ ?_ _; rotate_left; (try simp) <;> omega) | (with_reducible refine Below.setCell ?_ ?_ _; rotate_left; (try simp) <;> omega)))).mono ?_; rintro e w2 ⟨rfl, hb2⟩; rw [H1.out]; have hB2 : Below w.heap.size w w2 := (Below.trans (by repeat (first | with_reducible exact Below.refl _ _ | with_reducible assumption | with_reducible refine Below.drew ?_ | with_reducible refine below_drewN ?_ _ | (with_reducible refine Below.alloc ?_ ?_ _; rotate_left; (try simp) <;> omega) | (with_reducible refine Below.setCell ?_ ?_ _; rotate_left; (try simp) <;> omega))) (hb2.mono (by first | omega | (simp; omega) | simp))); obtain ⟨hc2, hf2⟩ := bcell hb2; have hz2 := hb2.size; have g2 : w.heap.size < w2.heap.size := (by omega); have g3 : w.heap.size + 1 < w2.heap.size := (by omega)) | (go_at_call 35; refine (HS.out _ (by repeat (first | with_reducible exact Below.refl _ _ | with_reducible assumption | with_reducible refine Below.drew ?_ | with_reducible refine below_drewN ?_ _ | (with_reducible refine Below.alloc ?_ ?_ _; rotate_left; (try simp) <;> omega) | (with_reducible refine Below.setCell ?_ ?_ _; rotate_left; (try simp) <;> omega)))).mono ?_; rintro e w3 ⟨rfl, hb3⟩; have hB3 : Below w.heap.size w w3 := (Below.trans (by repeat (first | with_reducible exact Below.refl _ _ | with_reducible assumption | with_reducible refine Below.drew ?_ | with_reducible refine below_drewN ?_ _ | (with_reducible refine Below.alloc ?_ ?_ _; rotate_left; (try simp) <;> omega) | (with_reducible refine Below.setCell ?_ ?_ _; rotate_left; (try simp) <;> omega))) (hb3.mono (by first | omega | (simp; omega) | simp))); obtain ⟨hc3, hf3⟩ := bcell hb3; have hz3 := hb3.size; have g4 : w.heap.size < w3.heap.size := (by omega); have g5 : w.heap.size + 1 < w3.heap.size := (by omega)))
      refine bodyPost_ret (v := .tuple #[.agg #[.int .i64 fa, .int .i64 fb], .int .i64 0]) ?_ rfl (pri_end EF.out E0.out ?_)
      · simp [results, Try.results13, go_sem, hc3, hc2, hc, g0, g1, g2, g3]
      · exact (by repeat (first | with_reducible exact Below.refl _ _ | with_reducible assumption | with_reducible refine Below.drew ?_ | with_reducible refine below_drewN ?_ _ | (with_reducible refine Below.alloc ?_ ?_ _; rotate_left; (try simp) <;> omega) | (with_reducible refine Below.setCell ?_ ?_ _; rotate_left; (try simp) <;> omega)))
    · have h1' : recB l.length ps = false := by simpa using h1
      have E0 : Hid (mixE l ps = 1) := by show _ = _; rw [HE.out, if_pos h0, if_neg h1]
      have EF : Hid (priF l ps = (0, 0)) := by show _ = _; rw [HF.out, if_neg (by rw [E0.out]; decide)]
      have H0 := Lib.hid h0
      have H1 := Lib.hid h1'
      clear h0 h1 h1' hlt hl hs HE HF
      go_enter Try.func13, Try.ntmps13
      go_wp2_with (first | (go_at_call 28; refine (HT.out _ (by repeat (first | with_reducible exact Below.refl _ _ | with_reducible assumption | with_reducible refine Below.drew ?_ | with_reducible refine below_drewN ?_ _ | (with_reducible refine Below.alloc ?_ ?_ _; rotate_left; (try simp) <;> omega) | (with_reducible refine Below.setCell ?_ ?_ _; rotate_left; (try simp) <;> omega)))).mono ?_; rintro e w1 ⟨rfl, hb⟩; rw [H0.out]; have hB1 : Below w.heap.size w w1 := (Below.trans (by repeat (first | with_reducible exact Below.refl _ _ | with_reducible assumption | with_reducible refine Below.drew ?_ | with_reducible refine below_drewN ?_ _ | (with_reducible refine Below.alloc ?_ ?_ _; rotate_left; (try simp) <;> omega) | (with_reducible refine Below.setCell ?_ ?_ _; rotate_left; (try simp) <;> omega))) (hb.mono (by first | omega | (simp; omega) | simp))); obtain ⟨hc, hf⟩ := bcell hb; have hz := hb.size; (try simp at hz); have g0 : w.heap.size < w1.heap.size := (by omega); have g1 : w.heap.size + 1 < w1.heap.size := (by omega)) | (go_at_call 29; refine (HR.out _ (by repeat (first | with_reducible exact Below.refl _ _ | with_reducible assumption | with_reducible refine Below.drew ?_ | with_reducible refine below_drewN ?_ _ | (with_reducible refine Below.alloc ?_ ?_ _; rotate_left; (try simp) <;> omega) | (with_reducible refine Below.setCell ?_ ?_ _; rotate_left; (try simp) <;> omega)))).mono ?_; rintro e w2 ⟨rfl, hb2⟩; rw [H1.out]; have hB2 : Below w.heap.size w w2 := (Below.trans (by repeat (first | with_reducible exact Below.refl _ _ | with_reducible assumption | with_reducible refine Below.drew ?_ | with_reducible refine below_drewN ?_ _ | (with_reducible refine Below.alloc ?_ ?_ _; rotate_left; (try simp) <;> omega) | (with_reducible refine Below.setCell ?_ ?_ _; rotate_left; (try simp) <;> omega))) (hb2.mono (by first | omega | (simp; omega) | simp))); obtain ⟨hc2, hf2⟩ := bcell hb2; have hz2 := hb2.size; have g2 : w.heap.size < w2.heap.size := (by omega); have g3 : w.heap.size + 1 < w2.heap.size := (by omega)))
      refine bodyPost_ret (v := .tuple #[.agg #[.int .i64 0, .int .i64 0], .int .i64 1]) ?_ rfl (pri_end EF.out E0.out ?_)
      · simp [results, Try.results13, go_sem, hc2, hc, g0, g1]
      · exact (by repeat (first | with_reducible exact Below.refl _ _ | with_reducible assumption | with_reducible refine Below.drew ?_ | with_reducible refine below_drewN ?_ _ | (with_reducible refine Below.alloc ?_ ?_ _; rotate_left; (try simp) <;> omega) | (with_reducible refine Below.setCell ?_ ?_ _; rotate_left; (try simp) <;> omega)))
  · have E0 : Hid (mixE l ps = chkT l) := by show _ = _; rw [HE.out, if_neg h0]
    have EF : Hid (priF l ps = (0, 0)) := by show _ = _; rw [HF.out, if_neg (by rw [E0.out]; exact h0)]
    have hb1 : (chkT l != 0) = true := by rw [bne_iff_ne]; exact h0
    clear h0 hlt hl hs HE HF
    generalize chkT l = q at *
    go_enter Try.func13, Try.ntmps13
    go_wp2_with (first | (go_at_call 28; refine (HT.out _ (by repeat (first | with_reducible exact Below.refl _ _ | with_reducible assumption | with_reducible refine Below.drew ?_ | with_reducible refine below_drewN ?_ _ | (with_reducible refine Below.alloc ?_ ?_ _; rotate_left; (try simp) <;> omega) | (with_reducible refine Below.setCell ?_ ?_ _; rotate_left; (try simp) <;> omega)))).mono ?_; rintro e w1 ⟨rfl, hb⟩;  have hB1 : Below w.heap.size w w1 := (Below.trans (by repeat (first | with_reducible exact Below.refl _ _ | with_reducible assumption | with_reducible refine Below.drew ?_ | with_reducible refine below_drewN ?_ _ | (with_reducible refine Below.alloc ?_ ?_ _; rotate_left; (try simp) <;> omega) | (with_reducible refine Below.setCell ?_ ?_ _; rotate_left; (try simp) <;> omega))) (hb.mono (by first | omega | (simp; omega) | simp))); obtain ⟨hc, hf⟩ := bcell hb; have hz := hb.size; (try simp at hz); have g0 : w.heap.size < w1.heap.size := (by omega); have g1 : w.heap.size + 1 < w1.heap.size := (by omega)))
    refine bodyPost_ret (v := .tuple #[.agg #[.int .i64 0, .int .i64 0], .int .i64 q]) ?_ rfl (pri_end EF.out E0.out ?_)
    · simp [results, Try.results13, go_sem, hc]
    · exact (by repeat (first | with_reducible exact Below.refl _ _ | with_reducible assumption | with_reducible refine Below.drew ?_ | with_reducible refine below_drewN ?_ _ | (with_reducible refine Below.alloc ?_ ?_ _; rotate_left; (try simp) <;> omega) | (with_reducible refine Below.setCell ?_ ?_ _; rotate_left; (try simp) <;> omega)))
end Go.Proofs.Ytkjceegmmhnajaa
