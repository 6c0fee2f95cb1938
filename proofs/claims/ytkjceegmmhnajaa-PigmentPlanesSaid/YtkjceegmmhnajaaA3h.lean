import Derived.Test.YtkjceegmmhnajaaA3g
namespace Go.Proofs.Ytkjceegmmhnajaa
open Go.RowKit

theorem mix_blocks (w : World) (o : Obj) : let W := (((w.alloc o).alloc (.cells #[.int .i64 0, .int .i64 0, .int .i64 0, .int .i64 0, .int .i64 0, .int .i64 0] 30)).alloc (.cells #[.int .i64 0, .int .i64 0, .int .i64 0, .int .i64 0, .int .i64 0, .int .i64 0] 30)); Bk W (w.heap.size + 1) 30 #[.int .i64 0, .int .i64 0, .int .i64 0, .int .i64 0, .int .i64 0, .int .i64 0] ∧ Bk W (w.heap.size + 1 + 1) 30 #[.int .i64 0, .int .i64 0, .int .i64 0, .int .i64 0, .int .i64 0, .int .i64 0] := by
  have h1 := (Bk.new (w.alloc o) 30 #[.int .i64 0, .int .i64 0, .int .i64 0, .int .i64 0, .int .i64 0, .int .i64 0]).alloc (.cells #[.int .i64 0, .int .i64 0, .int .i64 0, .int .i64 0, .int .i64 0, .int .i64 0] 30)
  have h2 := Bk.new ((w.alloc o).alloc (.cells #[.int .i64 0, .int .i64 0, .int .i64 0, .int .i64 0, .int .i64 0, .int .i64 0] 30)) 30 #[.int .i64 0, .int .i64 0, .int .i64 0, .int .i64 0, .int .i64 0, .int .i64 0]
  rw [World.size_alloc] at h1
  rw [World.size_alloc, World.size_alloc] at h2
  exact ⟨h1, h2⟩

set_option maxRecDepth 100000 in
set_option maxHeartbeats 2000000 in
theorem rmix_any (l : List Tn) (ps : List Pt) (At A : Option Addr) (ct c : Nat) (w : World) (hlt : Lies w w.heap.size At (tintsC l)) (hl : Lies w w.heap.size A (partsC ps)) (hm : ps.length ≤ 1000) (hm2 : l.length ≤ 1000)
    (hs : ∀ t ∈ l, t.name.size ≤ 100) :
    Calls Try.prog 12 #[.slice At l.length ct, .agg #[.slice A ps.length c]] w (MixEnd (mixF l ps) (mixE l ps) w) := by
  have HT := Lib.hid (fun W (hb : Below w.heap.size w W) => rtints_any l At ct W ((hlt.below hb (Nat.le_refl _)).more hb.size) hm2 hs)
  have HR := Lib.hid (fun W (hb : Below w.heap.size w W) => validRecipe_any l.length ps At A ct c W ((hl.below hb (Nat.le_refl _)).more hb.size) hm hm2)
  have HE : Hid (mixE l ps = if chkT l = 0 then (if recB l.length ps = true then 0 else 1) else chkT l) := rfl
  have HF : Hid (∀ j, mixF l ps j = if mixE l ps = 0 then shF l ps j else (0, 0)) := fun _ => rfl
  by_cases h0 : chkT l = 0
  · by_cases h1 : recB l.length ps = true
    · have hr := of_decide_eq_true h1
      obtain ⟨_, _, hoff, _⟩ := chkT_ok h0
      have HS := Lib.hid (fun W (hb : Below w.heap.size w W) => sums_any l ps At A ct c W ((hlt.below hb (Nat.le_refl _)).more hb.size) ((hl.below hb (Nat.le_refl _)).more hb.size) hr.1.2 hm2 (goodP_of hr) (fun j t ht => sel_in' (hoff t ht) j) (fun t ht => price_in (hoff t ht)))
      have hn1 := hr.1.1
      have hn4 := hr.1.2
      have hbw := wall_bound ps l.length (goodP_of hr)
      have HRT := Lib.hid (fun (j : Nat) (W : World) => ratio_end (wsum (sel j) l ps) (wall ps) W (by have := wsum_bound (sel j) l ps (goodP_of hr) (fun t ht => sel_in' (hoff t ht) j); unfold bigP; omega) (by unfold bigP; omega) (by omega))
      have E0 : Hid (mixE l ps = 0) := by show _ = _; rw [HE.out, if_pos h0, if_pos h1]
      have EF : Hid (∀ j, mixF l ps j = lowest (wsum (sel j) l ps) (wall ps)) := fun j => by rw [HF.out, if_pos E0.out]; rfl
      obtain ⟨F, hF⟩ : ∃ F : Nat → Int × Int, F = fun j => lowest (wsum (sel j) l ps) (wall ps) := ⟨_, rfl⟩
      obtain ⟨S, hS⟩ : ∃ S : Nat → Int, S = fun j => wsum (sel j) l ps := ⟨_, rfl⟩
      rw [← hS] at HS
      have EF' : Hid (∀ j, mixF l ps j = F j) := fun j => by rw [EF.out, hF]
      have HRT' : Hid (∀ (j : Nat) (W : World), Calls Try.prog 34 #[.int .i64 (S j), .int .i64 (wall ps)] W (FracEnd (F j) W)) := fun j W => by rw [hS, hF]; exact HRT.out j W
      clear HRT EF hF hS
      have HRT := HRT'; clear HRT'
      generalize wall ps = aw at *
      generalize wsum Tn.price l ps = pw at *
      have H0 := Lib.hid h0
      have H1 := Lib.hid h1
      clear h0 h1 hr hoff hlt hl hs HE HF hbw hn1 hn4
      go_enter Try.func12, Try.ntmps12
      go_wp2_with (first | (go_at_call 31; refine (HT.out _ (by repeat (first | with_reducible exact Below.refl _ _ | with_reducible assumption | with_reducible refine Below.drew ?_ | with_reducible refine below_drewN ?_ _ | (with_reducible refine Below.alloc ?_ ?_ _; rotate_left; (try simp) <;> omega) | (with_reducible refine Below.setCell ?_ ?_ _; rotate_left; (try simp) <;> omega)))).mono ?_; rintro e w1 ⟨rfl, hb⟩; rw [H0.out]; have hB1 : Below w.heap.size w w1 := (Below.trans (by repeat (first | with_reducible exact Below.refl _ _ | with_reducible assumption | with_reducible refine Below.drew ?_ | with_reducible refine below_drewN ?_ _ | (with_reducible refine Below.alloc ?_ ?_ _; rotate_left; (try simp) <;> omega) | (with_reducible refine Below.setCell ?_ ?_ _; rotate_left; (try simp) <;> omega))) (hb.mono (by first | omega | (simp; omega) | simp))); have z1 : Bk w1 (w.heap.size + 1) 30 #[.int .i64 0, .int .i64 0, .int .i64 0, .int .i64 0, .int .i64 0, .int .i64 0] := ((mix_blocks w _).1.below hb (by simp)); have y1 : Bk w1 (w.heap.size + 1 + 1) 30 #[.int .i64 0, .int .i64 0, .int .i64 0, .int .i64 0, .int .i64 0, .int .i64 0] := ((mix_blocks w _).2.below hb (by simp)); obtain ⟨hc, hf⟩ := bcell hb; have hz := hb.size; (try simp at hz); have g0 : w.heap.size < w1.heap.size := (by omega); have g1 : w.heap.size + 1 < w1.heap.size := (by omega); have g12 : w.heap.size + 1 + 1 < w1.heap.size := (by omega)) | (go_at_call 32; refine (HR.out _ (by repeat (first | with_reducible exact Below.refl _ _ | with_reducible assumption | with_reducible refine Below.drew ?_ | with_reducible refine below_drewN ?_ _ | (with_reducible refine Below.alloc ?_ ?_ _; rotate_left; (try simp) <;> omega) | (with_reducible refine Below.setCell ?_ ?_ _; rotate_left; (try simp) <;> omega)))).mono ?_; rintro e w2 ⟨rfl, hb2⟩; rw [H1.out]; have hB2 : Below w.heap.size w w2 := (Below.trans (by repeat (first | with_reducible exact Below.refl _ _ | with_reducible assumption | with_reducible refine Below.drew ?_ | with_reducible refine below_drewN ?_ _ | (with_reducible refine Below.alloc ?_ ?_ _; rotate_left; (try simp) <;> omega) | (with_reducible refine Below.setCell ?_ ?_ _; rotate_left; (try simp) <;> omega))) (hb2.mono (by first | omega | (simp; omega) | simp))); have z2 := z1.below hb2 (by omega); have y2 := y1.below hb2 (by omega); obtain ⟨hc2, hf2⟩ := bcell hb2; have hz2 := hb2.size; have g2 : w.heap.size < w2.heap.size := (by omega); have g3 : w.heap.size + 1 < w2.heap.size := (by omega); have g23 : w.heap.size + 1 + 1 < w2.heap.size := (by omega)) | (go_at_call 33; refine (HS.out _ (by repeat (first | with_reducible exact Below.refl _ _ | with_reducible assumption | with_reducible refine Below.drew ?_ | with_reducible refine below_drewN ?_ _ | (with_reducible refine Below.alloc ?_ ?_ _; rotate_left; (try simp) <;> omega) | (with_reducible refine Below.setCell ?_ ?_ _; rotate_left; (try simp) <;> omega)))).mono ?_; rintro e w3 ⟨rfl, hb3⟩; have hB3 : Below w.heap.size w w3 := (Below.trans (by repeat (first | with_reducible exact Below.refl _ _ | with_reducible assumption | with_reducible refine Below.drew ?_ | with_reducible refine below_drewN ?_ _ | (with_reducible refine Below.alloc ?_ ?_ _; rotate_left; (try simp) <;> omega) | (with_reducible refine Below.setCell ?_ ?_ _; rotate_left; (try simp) <;> omega))) (hb3.mono (by first | omega | (simp; omega) | simp))); have z3 := z2.below hb3 (by omega); have y3 := y2.below hb3 (by omega); have hz3 := hb3.size; have g4 : w.heap.size < w3.heap.size := (by omega); have g5 : w.heap.size + 1 < w3.heap.size := (by omega); have g53 : w.heap.size + 1 + 1 < w3.heap.size := (by omega)))
      have N3 : Hid (w3.heap.size ≠ w.heap.size + 1 + 1) := by show _ ≠ _; omega
      go_loopw [12] (fun y wr => ∃ k : Nat, k ≤ 3 ∧ y = .int .i64 k ∧ Below w.heap.size w wr ∧ (Bk wr (w.heap.size + 1) 30 #[.int .i64 0, .int .i64 0, .int .i64 0, .int .i64 0, .int .i64 0, .int .i64 0] ∧ Bk wr (w.heap.size + 1 + 1) 30 (shArr F k) ∧ Bk wr w3.heap.size 37 #[.int .i64 (S 0), .int .i64 (S 1), .int .i64 (S 2)])) (fun y _ => 3 - (intOf y).toNat)
      case atStart => exact ⟨0, by omega, rfl, (by repeat (first | with_reducible exact Below.refl _ _ | with_reducible assumption | with_reducible refine Below.drew ?_ | with_reducible refine below_drewN ?_ _ | (with_reducible refine Below.alloc ?_ ?_ _; rotate_left; (try simp) <;> omega) | (with_reducible refine Below.setCell ?_ ?_ _; rotate_left; (try simp) <;> omega))), z3.alloc _, y3.alloc _, Bk.new _ _ _⟩
      case round =>
        clear hc hc2 hf hf2 z1 z2 z3 y1 y2 y3 hb hb2 hb3 hB1 hB2 hB3 hz hz2 hz3 g0 g1 g12 g2 g3 g23 g4 g5 g53
        obtain ⟨k, hk, rfl, hbw, hbz, hbo, hbs⟩ := hrel
        have l2 := hbo.lt
        have l3 := hbs.lt
        by_cases hlt : k < 3
        · match k, hlt with
        | 0, _ =>
          have s0 : wr.cell? ⟨w3.heap.size, 0, none⟩ = some (.int .i64 (S 0)) := hbs.cell 0 rfl
          have t0 := hbo.cell 0 rfl
          have t1 := hbo.cell 1 rfl
          have f0 := hbo.fro 0
          have f1 := hbo.fro 1
          have c0 : w.heap.size + 1 + 1 < wr.heap.size := hbo.lt
          go_wp2_with (go_at_call 34; refine (HRT.out 0 _).mono ?_; rintro e w4 ⟨rfl, hb4⟩; have hB4 : Below w.heap.size w w4 := (Below.trans (by repeat (first | with_reducible exact Below.refl _ _ | with_reducible assumption | with_reducible refine Below.drew ?_ | with_reducible refine below_drewN ?_ _ | (with_reducible refine Below.alloc ?_ ?_ _; rotate_left; (try simp) <;> omega) | (with_reducible refine Below.setCell ?_ ?_ _; rotate_left; (try simp) <;> omega))) (hb4.mono (by first | omega | (simp; omega) | simp))); have z4 := hbz.below hb4 hbz.lt; have y4 := hbo.below hb4 hbo.lt; have s4 := hbs.below hb4 hbs.lt; obtain ⟨hc4, hf4⟩ := bcell hb4; have hz4 := hb4.size)
          go_roundw
          case rel => exact ⟨1, by omega, by go_num, (by repeat (first | with_reducible exact Below.refl _ _ | with_reducible assumption | with_reducible refine Below.drew ?_ | with_reducible refine below_drewN ?_ _ | (with_reducible refine Below.alloc ?_ ?_ _; rotate_left; (try simp) <;> omega) | (with_reducible refine Below.setCell ?_ ?_ _; rotate_left; (try simp) <;> omega))), (z4.far (p := ⟨_, 0, none⟩) (by simp <;> omega) _).far (p := ⟨_, 1, none⟩) (by simp <;> omega) _, (y4.set 0 _).set 1 _, (s4.far (p := ⟨_, 0, none⟩) N3.out _).far (p := ⟨_, 1, none⟩) N3.out _⟩
          case measure => simp [intOf]
        | 1, _ =>
          have s0 : wr.cell? ⟨w3.heap.size, 1, none⟩ = some (.int .i64 (S 1)) := hbs.cell 1 rfl
          have t0 := hbo.cell 2 rfl
          have t1 := hbo.cell 3 rfl
          have f0 := hbo.fro 2
          have f1 := hbo.fro 3
          have c0 : w.heap.size + 1 + 1 < wr.heap.size := hbo.lt
          go_wp2_with (go_at_call 34; refine (HRT.out 1 _).mono ?_; rintro e w4 ⟨rfl, hb4⟩; have hB4 : Below w.heap.size w w4 := (Below.trans (by repeat (first | with_reducible exact Below.refl _ _ | with_reducible assumption | with_reducible refine Below.drew ?_ | with_reducible refine below_drewN ?_ _ | (with_reducible refine Below.alloc ?_ ?_ _; rotate_left; (try simp) <;> omega) | (with_reducible refine Below.setCell ?_ ?_ _; rotate_left; (try simp) <;> omega))) (hb4.mono (by first | omega | (simp; omega) | simp))); have z4 := hbz.below hb4 hbz.lt; have y4 := hbo.below hb4 hbo.lt; have s4 := hbs.below hb4 hbs.lt; obtain ⟨hc4, hf4⟩ := bcell hb4; have hz4 := hb4.size)
          go_roundw
          case rel => exact ⟨2, by omega, by go_num, (by repeat (first | with_reducible exact Below.refl _ _ | with_reducible assumption | with_reducible refine Below.drew ?_ | with_reducible refine below_drewN ?_ _ | (with_reducible refine Below.alloc ?_ ?_ _; rotate_left; (try simp) <;> omega) | (with_reducible refine Below.setCell ?_ ?_ _; rotate_left; (try simp) <;> omega))), (z4.far (p := ⟨_, 2, none⟩) (by simp <;> omega) _).far (p := ⟨_, 3, none⟩) (by simp <;> omega) _, (y4.set 2 _).set 3 _, (s4.far (p := ⟨_, 2, none⟩) N3.out _).far (p := ⟨_, 3, none⟩) N3.out _⟩
          case measure => simp [intOf]
        | 2, _ =>
          have s0 : wr.cell? ⟨w3.heap.size, 2, none⟩ = some (.int .i64 (S 2)) := hbs.cell 2 rfl
          have t0 := hbo.cell 4 rfl
          have t1 := hbo.cell 5 rfl
          have f0 := hbo.fro 4
          have f1 := hbo.fro 5
          have c0 : w.heap.size + 1 + 1 < wr.heap.size := hbo.lt
          go_wp2_with (go_at_call 34; refine (HRT.out 2 _).mono ?_; rintro e w4 ⟨rfl, hb4⟩; have hB4 : Below w.heap.size w w4 := (Below.trans (by repeat (first | with_reducible exact Below.refl _ _ | with_reducible assumption | with_reducible refine Below.drew ?_ | with_reducible refine below_drewN ?_ _ | (with_reducible refine Below.alloc ?_ ?_ _; rotate_left; (try simp) <;> omega) | (with_reducible refine Below.setCell ?_ ?_ _; rotate_left; (try simp) <;> omega))) (hb4.mono (by first | omega | (simp; omega) | simp))); have z4 := hbz.below hb4 hbz.lt; have y4 := hbo.below hb4 hbo.lt; have s4 := hbs.below hb4 hbs.lt; obtain ⟨hc4, hf4⟩ := bcell hb4; have hz4 := hb4.size)
          go_roundw
          case rel => exact ⟨3, by omega, by go_num, (by repeat (first | with_reducible exact Below.refl _ _ | with_reducible assumption | with_reducible refine Below.drew ?_ | with_reducible refine below_drewN ?_ _ | (with_reducible refine Below.alloc ?_ ?_ _; rotate_left; (try simp) <;> omega) | (with_reducible refine Below.setCell ?_ ?_ _; rotate_left; (try simp) <;> omega))), (z4.far (p := ⟨_, 4, none⟩) (by simp <;> omega) _).far (p := ⟨_, 5, none⟩) (by simp <;> omega) _, (y4.set 4 _).set 5 _, (s4.far (p := ⟨_, 4, none⟩) N3.out _).far (p := ⟨_, 5, none⟩) N3.out _⟩
          case measure => simp [intOf]
        · obtain rfl : k = 3 := by omega
          have y0 : wr.cell? ⟨w.heap.size + 1 + 1, 0, none⟩ = some (.int .i64 (F 0).1) := hbo.cell 0 rfl
          have y1 : wr.cell? ⟨w.heap.size + 1 + 1, 1, none⟩ = some (.int .i64 (F 0).2) := hbo.cell 1 rfl
          have y2 : wr.cell? ⟨w.heap.size + 1 + 1, 2, none⟩ = some (.int .i64 (F 1).1) := hbo.cell 2 rfl
          have y3 : wr.cell? ⟨w.heap.size + 1 + 1, 3, none⟩ = some (.int .i64 (F 1).2) := hbo.cell 3 rfl
          have y4 : wr.cell? ⟨w.heap.size + 1 + 1, 4, none⟩ = some (.int .i64 (F 2).1) := hbo.cell 4 rfl
          have y5 : wr.cell? ⟨w.heap.size + 1 + 1, 5, none⟩ = some (.int .i64 (F 2).2) := hbo.cell 5 rfl
          have z0 := hbz.cell 0 rfl
          have z1 := hbz.cell 1 rfl
          have z2 := hbz.cell 2 rfl
          have z3 := hbz.cell 3 rfl
          have z4 := hbz.cell 4 rfl
          have z5 := hbz.cell 5 rfl
          have f0 := hbz.fro 0
          have f1 := hbz.fro 1
          have f2 := hbz.fro 2
          have f3 := hbz.fro 3
          have f4 := hbz.fro 4
          have f5 := hbz.fro 5
          go_wp2
          have q : Bk _ _ _ #[.int .i64 (F 0).1, .int .i64 (F 0).2, .int .i64 (F 1).1, .int .i64 (F 1).2, .int .i64 (F 2).1, .int .i64 (F 2).2] := ((((((hbz.set 0 (.int .i64 (F 0).1)).set 1 (.int .i64 (F 0).2)).set 2 (.int .i64 (F 1).1)).set 3 (.int .i64 (F 1).2)).set 4 (.int .i64 (F 2).1)).set 5 (.int .i64 (F 2).2))
          have q0 := q.cell 0 rfl
          have q1 := q.cell 1 rfl
          have q2 := q.cell 2 rfl
          have q3 := q.cell 3 rfl
          have q4 := q.cell 4 rfl
          have q5 := q.cell 5 rfl
          refine bodyPost_ret (v := .tuple #[.agg #[.int .i64 (F 0).1, .int .i64 (F 0).2, .int .i64 (F 1).1, .int .i64 (F 1).2, .int .i64 (F 2).1, .int .i64 (F 2).2], .int .i64 0]) ?_ rfl (mix_end EF'.out E0.out ?_)
          · simp [results, Try.results12, go_sem, q0, q1, q2, q3, q4, q5]
          · exact (by repeat (first | with_reducible exact Below.refl _ _ | with_reducible assumption | with_reducible refine Below.drew ?_ | with_reducible refine below_drewN ?_ _ | (with_reducible refine Below.alloc ?_ ?_ _; rotate_left; (try simp) <;> omega) | (with_reducible refine Below.setCell ?_ ?_ _; rotate_left; (try simp) <;> omega)))
    · have h1' : recB l.length ps = false := by simpa using h1
      have E0 : Hid (mixE l ps = 1) := by show _ = _; rw [HE.out, if_pos h0, if_neg h1]
      have EF : Hid (∀ j, mixF l ps j = (0, 0)) := fun j => by rw [HF.out, if_neg (by rw [E0.out]; decide)]
      have H0 := Lib.hid h0
      have H1 := Lib.hid h1'
      clear h0 h1 h1' hlt hl hs HE HF
      go_enter Try.func12, Try.ntmps12
      go_wp2_with (first | (go_at_call 31; refine (HT.out _ (by repeat (first | with_reducible exact Below.refl _ _ | with_reducible assumption | with_reducible refine Below.drew ?_ | with_reducible refine below_drewN ?_ _ | (with_reducible refine Below.alloc ?_ ?_ _; rotate_left; (try simp) <;> omega) | (with_reducible refine Below.setCell ?_ ?_ _; rotate_left; (try simp) <;> omega)))).mono ?_; rintro e w1 ⟨rfl, hb⟩; rw [H0.out]; have hB1 : Below w.heap.size w w1 := (Below.trans (by repeat (first | with_reducible exact Below.refl _ _ | with_reducible assumption | with_reducible refine Below.drew ?_ | with_reducible refine below_drewN ?_ _ | (with_reducible refine Below.alloc ?_ ?_ _; rotate_left; (try simp) <;> omega) | (with_reducible refine Below.setCell ?_ ?_ _; rotate_left; (try simp) <;> omega))) (hb.mono (by first | omega | (simp; omega) | simp))); obtain ⟨hc, hf⟩ := bcell hb; have hz := hb.size; (try simp at hz); have g0 : w.heap.size < w1.heap.size := (by omega); have g1 : w.heap.size + 1 < w1.heap.size := (by omega); have g12 : w.heap.size + 1 + 1 < w1.heap.size := (by omega)) | (go_at_call 32; refine (HR.out _ (by repeat (first | with_reducible exact Below.refl _ _ | with_reducible assumption | with_reducible refine Below.drew ?_ | with_reducible refine below_drewN ?_ _ | (with_reducible refine Below.alloc ?_ ?_ _; rotate_left; (try simp) <;> omega) | (with_reducible refine Below.setCell ?_ ?_ _; rotate_left; (try simp) <;> omega)))).mono ?_; rintro e w2 ⟨rfl, hb2⟩; rw [H1.out]; have hB2 : Below w.heap.size w w2 := (Below.trans (by repeat (first | with_reducible exact Below.refl _ _ | with_reducible assumption | with_reducible refine Below.drew ?_ | with_reducible refine below_drewN ?_ _ | (with_reducible refine Below.alloc ?_ ?_ _; rotate_left; (try simp) <;> omega) | (with_reducible refine Below.setCell ?_ ?_ _; rotate_left; (try simp) <;> omega))) (hb2.mono (by first | omega | (simp; omega) | simp))); obtain ⟨hc2, hf2⟩ := bcell hb2; have hz2 := hb2.size; have g2 : w.heap.size < w2.heap.size := (by omega); have g3 : w.heap.size + 1 < w2.heap.size := (by omega)))
      refine bodyPost_ret (v := .tuple #[.agg #[.int .i64 0, .int .i64 0, .int .i64 0, .int .i64 0, .int .i64 0, .int .i64 0], .int .i64 1]) ?_ rfl (mix_end (G := fun _ => (0, 0)) EF.out E0.out ?_)
      · simp [results, Try.results12, go_sem, hc2, hc, g0, g1, g12]
      · exact (by repeat (first | with_reducible exact Below.refl _ _ | with_reducible assumption | with_reducible refine Below.drew ?_ | with_reducible refine below_drewN ?_ _ | (with_reducible refine Below.alloc ?_ ?_ _; rotate_left; (try simp) <;> omega) | (with_reducible refine Below.setCell ?_ ?_ _; rotate_left; (try simp) <;> omega)))
  · have E0 : Hid (mixE l ps = chkT l) := by show _ = _; rw [HE.out, if_neg h0]
    have EF : Hid (∀ j, mixF l ps j = (0, 0)) := fun j => by rw [HF.out, if_neg (by rw [E0.out]; exact h0)]
    have hb1 : (chkT l != 0) = true := by rw [bne_iff_ne]; exact h0
    clear h0 hlt hl hs HE HF
    generalize chkT l = q at *
    go_enter Try.func12, Try.ntmps12
    go_wp2_with (first | (go_at_call 31; refine (HT.out _ (by repeat (first | with_reducible exact Below.refl _ _ | with_reducible assumption | with_reducible refine Below.drew ?_ | with_reducible refine below_drewN ?_ _ | (with_reducible refine Below.alloc ?_ ?_ _; rotate_left; (try simp) <;> omega) | (with_reducible refine Below.setCell ?_ ?_ _; rotate_left; (try simp) <;> omega)))).mono ?_; rintro e w1 ⟨rfl, hb⟩;  have hB1 : Below w.heap.size w w1 := (Below.trans (by repeat (first | with_reducible exact Below.refl _ _ | with_reducible assumption | with_reducible refine Below.drew ?_ | with_reducible refine below_drewN ?_ _ | (with_reducible refine Below.alloc ?_ ?_ _; rotate_left; (try simp) <;> omega) | (with_reducible refine Below.setCell ?_ ?_ _; rotate_left; (try simp) <;> omega))) (hb.mono (by first | omega | (simp; omega) | simp))); obtain ⟨hc, hf⟩ := bcell hb; have hz := hb.size; (try simp at hz); have g0 : w.heap.size < w1.heap.size := (by omega); have g1 : w.heap.size + 1 < w1.heap.size := (by omega); have g12 : w.heap.size + 1 + 1 < w1.heap.size := (by omega)))
    refine bodyPost_ret (v := .tuple #[.agg #[.int .i64 0, .int .i64 0, .int .i64 0, .int .i64 0, .int .i64 0, .int .i64 0], .int .i64 q]) ?_ rfl (mix_end (G := fun _ => (0, 0)) EF.out E0.out ?_)
    · simp [results, Try.results12, go_sem, hc, g0, g1, g12]
    · exact (by repeat (first | with_reducible exact Below.refl _ _ | with_reducible assumption | with_reducible refine Below.drew ?_ | with_reducible refine below_drewN ?_ _ | (with_reducible refine Below.alloc ?_ ?_ _; rotate_left; (try simp) <;> omega) | (with_reducible refine Below.setCell ?_ ?_ _; rotate_left; (try simp) <;> omega)))
end Go.Proofs.Ytkjceegmmhnajaa
