import Derived.Test.YtkjceegmmhnajaaA3f
namespace Go.Proofs.Ytkjceegmmhnajaa
open Go.RowKit

theorem wsum_bound_aux (f : Tn → Int) (l : List Tn) (hf : ∀ t ∈ l, 0 ≤ f t ∧ f t ≤ 10000) (ps : List Pt) (h : goodP l.length ps) : ∀ k, k ≤ ps.length → 0 ≤ wsum f l (ps.take k) ∧ wsum f l (ps.take k) ≤ 10000000000000000 * k := by
  intro k
  induction k with
  | zero => intro _; simp [wsum]
  | succ k ih =>
    intro hk
    have := ih (by omega)
    obtain ⟨⟨h1, h2⟩, h3, h4⟩ := h k (by omega)
    rw [wsum_take f l ps k (by omega), tv_in f l _ h2]
    have hb := hf _ (List.getElem_mem h2)
    have := mul_bound _ _ h3 h4 hb.1 hb.2
    omega
theorem wsum_bound (f : Tn → Int) (l : List Tn) (ps : List Pt) (h : goodP l.length ps) (hf : ∀ t ∈ l, 0 ≤ f t ∧ f t ≤ 10000) : 0 ≤ wsum f l ps ∧ wsum f l ps ≤ 10000000000000000 * ps.length := by
  have := wsum_bound_aux f l hf ps h ps.length (Nat.le_refl _)
  rwa [List.take_length] at this
theorem wall_bound_aux (ps : List Pt) (n : Nat) (h : goodP n ps) : ∀ k : Nat, k ≤ ps.length → (k : Int) ≤ wall (ps.take k) ∧ wall (ps.take k) ≤ 1000000000000 * k := by
  intro k
  induction k with
  | zero => intro _; simp [wall]
  | succ k ih =>
    intro hk
    have := ih (by omega)
    obtain ⟨⟨h1, h2⟩, h3, h4⟩ := h k (by omega)
    rw [wall_take ps k (by omega)]
    omega
theorem wall_bound (ps : List Pt) (n : Nat) (h : goodP n ps) : (ps.length : Int) ≤ wall ps ∧ wall ps ≤ 1000000000000 * ps.length := by
  have := wall_bound_aux ps n h ps.length (Nat.le_refl _)
  rwa [List.take_length] at this

set_option maxRecDepth 100000 in
set_option maxHeartbeats 2000000 in
theorem rprices_any (l : List Tn) (ps : List Pt) (At A : Option Addr) (ct c : Nat) (w : World) (hlt : Lies w w.heap.size At (tintsC l)) (hl : Lies w w.heap.size A (partsC ps)) (hm : ps.length ≤ 1000) (hm2 : l.length ≤ 1000)
    (hs : ∀ t ∈ l, t.name.size ≤ 100) :
    Calls Try.prog 14 #[.slice At l.length ct, .agg #[.slice A ps.length c]] w (PriEnd (priF l ps) (mixE l ps) w) := by
  have HT := Lib.hid (fun W (hb : Below w.heap.size w W) => rtints_any l At ct W ((hlt.below hb (Nat.le_refl _)).more hb.size) hm2 hs)
  have HR := Lib.hid (fun W (hb : Below w.heap.size w W) => validRecipe_any l.length ps At A ct c W ((hl.below hb (Nat.le_refl _)).more hb.size) hm hm2)
  have HE : Hid (mixE l ps = if chkT l = 0 then (if recB l.length ps = true then 0 else 1) else chkT l) := rfl
  have HF : Hid (priF l ps = if mixE l ps = 0 then lowest (wsum Tn.price l ps) (wall ps) else (0, 0)) := rfl
  by_cases h0 : chkT l = 0
  · by_cases h1 : recB l.length ps = true
    · have hr := of_decide_eq_true h1
      obtain ⟨_, _, hoff, _⟩ := chkT_ok h0
      have HS := Lib.hid (fun W (hb : Below w.heap.size w W) => sums_any l ps At A ct c W ((hlt.below hb (Nat.le_refl _)).more hb.size) ((hl.below hb (Nat.le_refl _)).more hb.size) hr.1.2 hm2 (goodP_of hr) (fun j t ht => sel_in' (hoff t ht) j) (fun t ht => price_in (hoff t ht)))
      have hb1 := wsum_bound Tn.price l ps (goodP_of hr) (fun t ht => price_in (hoff t ht))
      have hb2 := wall_bound ps l.length (goodP_of hr)
      have hn1 := hr.1.1
      have hn4 := hr.1.2
      have HRT := Lib.hid (fun W => ratio_end (wsum Tn.price l ps) (wall ps) W (by unfold bigP; omega) (by unfold bigP; omega) (by omega))
      generalize hS : (fun j => wsum (sel j) l ps) = S at *
      clear hb1 hb2 hS hn1 hn4
      have E0 : Hid (mixE l ps = 0) := by show _ = _; rw [HE.out, if_pos h0, if_pos h1]
      have EF : Hid (priF l ps = lowest (wsum Tn.price l ps) (wall ps)) := by show _ = _; rw [HF.out, if_pos E0.out]
      generalize lowest (wsum Tn.price l ps) (wall ps) = fr at *
      obtain ⟨fa, fb⟩ := fr
      generalize wsum Tn.price l ps = pw at *
      generalize wall ps = aw at *
      have H0 := Lib.hid h0
      have H1 := Lib.hid h1
      clear h0 h1 hr hoff hlt hl hs HE HF
      go_enter Try.func14, Try.ntmps14
      go_wp2_with (first | (go_at_call 31; refine (HT.out _ (by repeat (first | with_reducible exact Below.refl _ _ | with_reducible assumption | with_reducible refine Below.drew ?_ | with_reducible refine below_drewN ?_ _ | (with_reducible refine Below.alloc ?_ ?_ _; rotate_left; (try simp) <;> omega) | (with_reducible refine Below.setCell ?_ ?_ _; rotate_left; (try simp) <;> omega)))).mono ?_; rintro e w1 ⟨rfl, hb⟩; rw [H0.out]; have hB1 : Below w.heap.size w w1 := (Below.trans (by repeat (first | with_reducible exact Below.refl _ _ | with_reducible assumption | with_reducible refine Below.drew ?_ | with_reducible refine below_drewN ?_ _ | (with_reducible refine Below.alloc ?_ ?_ _; rotate_left; (try simp) <;> omega) | (with_reducible refine Below.setCell ?_ ?_ _; rotate_left; (try simp) <;> omega))) (hb.mono (by first | omega | (simp; omega) | simp))); obtain ⟨hc, hf⟩ := bcell hb; have hz := hb.size; (try simp at hz); have g0 : w.heap.size < w1.heap.size := (by omega); have g1 : w.heap.size + 1 < w1.heap.size := (by omega)) | (go_at_call 32; refine (HR.out _ (by repeat (first | with_reducible exact Below.refl _ _ | with_reducible assumption | with_reducible refine Below.drew ?_ | with_reducible refine below_drewN ?_ _ | (with_reducible refine Below.alloc ?_ ?_ _; rotate_left; (try simp) <;> omega) | (with_reducible refine Below.setCell ?_ ?_ _; rotate_left; (try simp) <;> omega)))).mono ?_; rintro e w2 ⟨rfl, hb2⟩; rw [H1.out]; have hB2 : Below w.heap.size w w2 := (Below.trans (by repeat (first | with_reducible exact Below.refl _ _ | with_reducible assumption | with_reducible refine Below.drew ?_ | with_reducible refine below_drewN ?_ _ | (with_reducible refine Below.alloc ?_ ?_ _; rotate_left; (try simp) <;> omega) | (with_reducible refine Below.setCell ?_ ?_ _; rotate_left; (try simp) <;> omega))) (hb2.mono (by first | omega | (simp; omega) | simp))); obtain ⟨hc2, hf2⟩ := bcell hb2; have hz2 := hb2.size; have g2 : w.heap.size < w2.heap.size := (by omega); have g3 : w.heap.size + 1 < w2.heap.size := (by omega)) | (go_at_call 33; refine (HS.out _ (by repeat (first | with_reducible exact Below.refl _ _ | with_reducible assumption | with_reducible refine Below.drew ?_ | with_reducible refine below_drewN ?_ _ | (with_reducible refine Below.alloc ?_ ?_ _; rotate_left; (try simp) <;> omega) | (with_reducible refine Below.setCell ?_ ?_ _; rotate_left; (try simp) <;> omega)))).mono ?_; rintro e w3 ⟨rfl, hb3⟩; have hB3 : Below w.heap.size w w3 := (Below.trans (by repeat (first | with_reducible exact Below.refl _ _ | with_reducible assumption | with_reducible refine Below.drew ?_ | with_reducible refine below_drewN ?_ _ | (with_reducible refine Below.alloc ?_ ?_ _; rotate_left; (try simp) <;> omega) | (with_reducible refine Below.setCell ?_ ?_ _; rotate_left; (try simp) <;> omega))) (hb3.mono (by first | omega | (simp; omega) | simp))); obtain ⟨hc3, hf3⟩ := bcell hb3; have hz3 := hb3.size; have g4 : w.heap.size < w3.heap.size := (by omega); have g5 : w.heap.size + 1 < w3.heap.size := (by omega)) | (go_at_call 34; refine (HRT.out _).mono ?_; rintro e w4 ⟨rfl, hb4⟩; have hB4 : Below w.heap.size w w4 := (Below.trans (by repeat (first | with_reducible exact Below.refl _ _ | with_reducible assumption | with_reducible refine Below.drew ?_ | with_reducible refine below_drewN ?_ _ | (with_reducible refine Below.alloc ?_ ?_ _; rotate_left; (try simp) <;> omega) | (with_reducible refine Below.setCell ?_ ?_ _; rotate_left; (try simp) <;> omega))) (hb4.mono (by first | omega | (simp; omega) | simp))); obtain ⟨hc4, hf4⟩ := bcell hb4; have hz4 := hb4.size; (try simp at hz4); have g6 : w.heap.size < w4.heap.size := (by omega); have g7 : w.heap.size + 1 < w4.heap.size := (by omega)))
      refine bodyPost_ret (v := .tuple #[.agg #[.int .i64 fa, .int .i64 fb], .int .i64 0]) ?_ rfl (pri_end EF.out E0.out ?_)
      · simp [results, Try.results14, go_sem, hc4, hc3, hc2, hc, g0, g1, g2, g3, g4, g5, g6, g7]
      · exact (by repeat (first | with_reducible exact Below.refl _ _ | with_reducible assumption | with_reducible refine Below.drew ?_ | with_reducible refine below_drewN ?_ _ | (with_reducible refine Below.alloc ?_ ?_ _; rotate_left; (try simp) <;> omega) | (with_reducible refine Below.setCell ?_ ?_ _; rotate_left; (try simp) <;> omega)))
    · have h1' : recB l.length ps = false := by simpa using h1
      have E0 : Hid (mixE l ps = 1) := by show _ = _; rw [HE.out, if_pos h0, if_neg h1]
      have EF : Hid (priF l ps = (0, 0)) := by show _ = _; rw [HF.out, if_neg (by rw [E0.out]; decide)]
      have H0 := Lib.hid h0
      have H1 := Lib.hid h1'
      clear h0 h1 h1' hlt hl hs HE HF
      go_enter Try.func14, Try.ntmps14
      go_wp2_with (first | (go_at_call 31; refine (HT.out _ (by repeat (first | with_reducible exact Below.refl _ _ | with_reducible assumption | with_reducible refine Below.drew ?_ | with_reducible refine below_drewN ?_ _ | (with_reducible refine Below.alloc ?_ ?_ _; rotate_left; (try simp) <;> omega) | (with_reducible refine Below.setCell ?_ ?_ _; rotate_left; (try simp) <;> omega)))).mono ?_; rintro e w1 ⟨rfl, hb⟩; rw [H0.out]; have hB1 : Below w.heap.size w w1 := (Below.trans (by repeat (first | with_reducible exact Below.refl _ _ | with_reducible assumption | with_reducible refine Below.drew ?_ | with_reducible refine below_drewN ?_ _ | (with_reducible refine Below.alloc ?_ ?_ _; rotate_left; (try simp) <;> omega) | (with_reducible refine Below.setCell ?_ ?_ _; rotate_left; (try simp) <;> omega))) (hb.mono (by first | omega | (simp; omega) | simp))); obtain ⟨hc, hf⟩ := bcell hb; have hz := hb.size; (try simp at hz); have g0 : w.heap.size < w1.heap.size := (by omega); have g1 : w.heap.size + 1 < w1.heap.size := (by omega)) | (go_at_call 32; refine (HR.out _ (by repeat (first | with_reducible exact Below.refl _ _ | with_reducible assumption | with_reducible refine Below.drew ?_ | with_reducible refine below_drewN ?_ _ | (with_reducible refine Below.alloc ?_ ?_ _; rotate_left; (try simp) <;> omega) | (with_reducible refine Below.setCell ?_ ?_ _; rotate_left; (try simp) <;> omega)))).mono ?_; rintro e w2 ⟨rfl, hb2⟩; rw [H1.out]; have hB2 : Below w.heap.size w w2 := (Below.trans (by repeat (first | with_reducible exact Below.refl _ _ | with_reducible assumption | with_reducible refine Below.drew ?_ | with_reducible refine below_drewN ?_ _ | (with_reducible refine Below.alloc ?_ ?_ _; rotate_left; (try simp) <;> omega) | (with_reducible refine Below.setCell ?_ ?_ _; rotate_left; (try simp) <;> omega))) (hb2.mono (by first | omega | (simp; omega) | simp))); obtain ⟨hc2, hf2⟩ := bcell hb2; have hz2 := hb2.size; have g2 : w.heap.size < w2.heap.size := (by omega); have g3 : w.heap.size + 1 < w2.heap.size := (by omega)))
      refine bodyPost_ret (v := .tuple #[.agg #[.int .i64 0, .int .i64 0], .int .i64 1]) ?_ rfl (pri_end EF.out E0.out ?_)
      · simp [results, Try.results14, go_sem, hc2, hc, g0, g1]
      · exact (by repeat (first | with_reducible exact Below.refl _ _ | with_reducible assumption | with_reducible refine Below.drew ?_ | with_reducible refine below_drewN ?_ _ | (with_reducible refine Below.alloc ?_ ?_ _; rotate_left; (try simp) <;> omega) | (with_reducible refine Below.setCell ?_ ?_ _; rotate_left; (try simp) <;> omega)))
  · have E0 : Hid (mixE l ps = chkT l) := by show _ = _; rw [HE.out, if_neg h0]
    have EF : Hid (priF l ps = (0, 0)) := by show _ = _; rw [HF.out, if_neg (by rw [E0.out]; exact h0)]
    have hb1 : (chkT l != 0) = true := by rw [bne_iff_ne]; exact h0
    clear h0 hlt hl hs HE HF
    generalize chkT l = q at *
    go_enter Try.func14, Try.ntmps14
    go_wp2_with (first | (go_at_call 31; refine (HT.out _ (by repeat (first | with_reducible exact Below.refl _ _ | with_reducible assumption | with_reducible refine Below.drew ?_ | with_reducible refine below_drewN ?_ _ | (with_reducible refine Below.alloc ?_ ?_ _; rotate_left; (try simp) <;> omega) | (with_reducible refine Below.setCell ?_ ?_ _; rotate_left; (try simp) <;> omega)))).mono ?_; rintro e w1 ⟨rfl, hb⟩;  have hB1 : Below w.heap.size w w1 := (Below.trans (by repeat (first | with_reducible exact Below.refl _ _ | with_reducible assumption | with_reducible refine Below.drew ?_ | with_reducible refine below_drewN ?_ _ | (with_reducible refine Below.alloc ?_ ?_ _; rotate_left; (try simp) <;> omega) | (with_reducible refine Below.setCell ?_ ?_ _; rotate_left; (try simp) <;> omega))) (hb.mono (by first | omega | (simp; omega) | simp))); obtain ⟨hc, hf⟩ := bcell hb; have hz := hb.size; (try simp at hz); have g0 : w.heap.size < w1.heap.size := (by omega); have g1 : w.heap.size + 1 < w1.heap.size := (by omega)))
    refine bodyPost_ret (v := .tuple #[.agg #[.int .i64 0, .int .i64 0], .int .i64 q]) ?_ rfl (pri_end EF.out E0.out ?_)
    · simp [results, Try.results14, go_sem, hc]
    · exact (by repeat (first | with_reducible exact Below.refl _ _ | with_reducible assumption | with_reducible refine Below.drew ?_ | with_reducible refine below_drewN ?_ _ | (with_reducible refine Below.alloc ?_ ?_ _; rotate_left; (try simp) <;> omega) | (with_reducible refine Below.setCell ?_ ?_ _; rotate_left; (try simp) <;> omega)))
end Go.Proofs.Ytkjceegmmhnajaa
