/- CheckCheapest of the program. -/
import Derived.Test.YtkjceegmmhnajaaD2a
import Derived.Test.YtkjceegmmhnajaaD2b
namespace Go.Proofs.Ytkjceegmmhnajaa
open Go.RowKit

theorem size3 (h : 3 < Try.prog.types.size) : (Try.prog.types[3]'h).size = 1 := by kernel_rfl
theorem idx42_0 (a b c d : Int) (w : World) : (Instr.index 42 (.agg #[.int .i64 a, .int .i64 b, .int .i64 c, .int .i64 d]) (.int .i64 0)).run Try.prog w = .ok (.int .i64 a) w := by
  simp [Instr.index, go_sem, Try.underlying42, size3]
theorem idx42_1 (a b c d : Int) (w : World) : (Instr.index 42 (.agg #[.int .i64 a, .int .i64 b, .int .i64 c, .int .i64 d]) (.int .i64 1)).run Try.prog w = .ok (.int .i64 b) w := by
  simp [Instr.index, go_sem, Try.underlying42, size3]
theorem idx42_2 (a b c d : Int) (w : World) : (Instr.index 42 (.agg #[.int .i64 a, .int .i64 b, .int .i64 c, .int .i64 d]) (.int .i64 2)).run Try.prog w = .ok (.int .i64 c) w := by
  simp [Instr.index, go_sem, Try.underlying42, size3]
theorem idx42_3 (a b c d : Int) (w : World) : (Instr.index 42 (.agg #[.int .i64 a, .int .i64 b, .int .i64 c, .int .i64 d]) (.int .i64 3)).run Try.prog w = .ok (.int .i64 d) w := by
  simp [Instr.index, go_sem, Try.underlying42, size3]
set_option maxRecDepth 100000 in
set_option maxHeartbeats 4000000 in
theorem checkCheapest_any (l : List Tn) (ps : List Pt) (d : Du) (x y z : Int) (At A : Option Addr) (ct c : Nat) (w : World) (hlt : Lies w w.heap.size At (tintsC l)) (hl : Lies w w.heap.size A (partsC ps)) (hm : ps.length ≤ 1000) (hm2 : l.length ≤ 1000)
    (hs : ∀ t ∈ l, t.name.size ≤ 100) :
    Calls Try.prog 23 #[.slice At l.length ct, .agg #[.int .i64 x, .int .i64 y, .int .i64 z], .agg #[.slice A ps.length c], d.agg] w (CcEnd (ccB l x y z ps d) (chkW l x y z) w) := by
  have HW := Lib.hid (fun W (hb : Below w.heap.size w W) => checkWant_any l At ct x y z W ((hlt.below hb (Nat.le_refl _)).more hb.size) hm2 hs)
  have HR := Lib.hid (fun W (hb : Below w.heap.size w W) => isRecipe_any l.length ps At A ct c W ((hl.below hb (Nat.le_refl _)).more hb.size) hm hm2)
  have HC : Hid (ccB l x y z ps d = (decide (chkW l x y z = 0) && (recB l.length ps && (rgiveB l ps x y z && (dualB d && (belowB d l && sameF (lowest (atD d x y z) d.den) (lowest (wsum Tn.price l ps) (wall ps)))))))) := rfl
  obtain ⟨⟨n0, n1, n2, n3, den⟩, hd⟩ : ∃ d', d' = d := ⟨d, rfl⟩
  subst hd
  by_cases h0 : chkW l x y z = 0
  · by_cases h1 : recB l.length ps = true
    · have hr := of_decide_eq_true h1
      have hoff : ∀ t ∈ l, offTint t = false := by
        unfold chkW at h0
        split at h0
        · rename_i hc; exact (chkT_ok hc).2.2.1
        · rename_i hc; exact absurd h0 hc
      have hsh : shadeB x y z = true := by
        unfold chkW at h0
        split at h0
        · split at h0
          · assumption
          · cases h0
        · rename_i hc; exact absurd h0 hc
      have hbw := wall_bound ps l.length (goodP_of hr)
      have hn1 := hr.1.1
      have HG := Lib.hid (fun W (hb : Below w.heap.size w W) => gives_any l ps x y z At A ct c W ((hlt.below hb (Nat.le_refl _)).more hb.size) ((hl.below hb (Nat.le_refl _)).more hb.size) hr.1.2 hm2 hr.1.1 (goodP_of hr) (fun j t ht => sel_in' (hoff t ht) j))
      rw [give_same (by omega)] at HG
      have HC2 : Hid (ccB l x y z ps ⟨n0, n1, n2, n3, den⟩ = (rgiveB l ps x y z && (dualB ⟨n0, n1, n2, n3, den⟩ && (belowB ⟨n0, n1, n2, n3, den⟩ l && sameF (lowest (atD ⟨n0, n1, n2, n3, den⟩ x y z) den) (lowest (wsum Tn.price l ps) (wall ps)))))) := by
        show _ = _
        rw [HC.out, h0, h1]; rfl
      rw [h0]
      by_cases h2 : rgiveB l ps x y z = true
      · by_cases h3 : denB den = true
        · have E2 := h2
          have HC3 : Hid (ccB l x y z ps ⟨n0, n1, n2, n3, den⟩ = (dualB ⟨n0, n1, n2, n3, den⟩ && (belowB ⟨n0, n1, n2, n3, den⟩ l && sameF (lowest (atD ⟨n0, n1, n2, n3, den⟩ x y z) den) (lowest (wsum Tn.price l ps) (wall ps))))) := by
            show _ = _
            rw [HC2.out, h2]; rfl
          obtain ⟨N, hN⟩ : ∃ N : Nat → Int, N 0 = n0 ∧ N 1 = n1 ∧ N 2 = n2 ∧ N 3 = n3 := ⟨fun k => if k = 0 then n0 else if k = 1 then n1 else if k = 2 then n2 else n3, rfl, rfl, rfl, rfl⟩
          have HNN := Lib.hid hN; clear hN
          have HBl := Lib.hid (fun (ho : okDu ⟨n0, n1, n2, n3, den⟩) W (hb : Below w.heap.size w W) => below_any ⟨n0, n1, n2, n3, den⟩ l At ct W ((hlt.below hb (Nat.le_refl _)).more hb.size) hm2 ho hoff)
          have HPr := Lib.hid (fun W (hb : Below w.heap.size w W) => price_any l ps At A ct c W ((hlt.below hb (Nat.le_refl _)).more hb.size) ((hl.below hb (Nat.le_refl _)).more hb.size) hr.1.2 hm2 hr.1.1 (goodP_of hr) (fun t ht => price_in (hoff t ht)))
          have HAt := Lib.hid (fun (ho : okDu ⟨n0, n1, n2, n3, den⟩) W => at_any ⟨n0, n1, n2, n3, den⟩ x y z W ho (shIn_of hsh))
          have HFr := Lib.hid (fun (ho : okDu ⟨n0, n1, n2, n3, den⟩) W => fraction_any (atD ⟨n0, n1, n2, n3, den⟩ x y z) den W (by have := atD_bound ho (shIn_of hsh); unfold bigP; omega) (by have := ho.2.2.2.2; unfold bigP; dsimp only at this; omega) ho.2.2.2.2.1)
          have H0 := Lib.hid h0
          have H1 := Lib.hid h1
          have H2 := Lib.hid h2
          have HD := Lib.hid h3
          have H3 : Hid ((decide (1 ≤ den) && decide (den ≤ 1000000000000)) = true) := h3
          clear h0 h1 h2 h3 E2 hr hoff hsh hbw hn1 hlt hl hs HC HC2
          generalize lowest (wsum Tn.price l ps) (wall ps) = gp at *
          generalize atD ⟨n0, n1, n2, n3, den⟩ x y z = av at *
          generalize lowest av den = ga at *
          obtain ⟨ga1, ga2⟩ := ga
          obtain ⟨gp1, gp2⟩ := gp
          go_enter Try.func23, Try.ntmps23
          go_wp2_with (first | (go_at_call 36; refine (HW.out _ (by repeat (first | with_reducible exact Below.refl _ _ | with_reducible assumption | with_reducible refine Below.drew ?_ | with_reducible refine below_drewN ?_ _ | (with_reducible refine Below.alloc ?_ ?_ _; rotate_left; (try simp) <;> omega) | (with_reducible refine Below.setCell ?_ ?_ _; rotate_left; (try simp) <;> omega)))).mono ?_; rintro e w1 ⟨rfl, hb1⟩; rw [H0.out]; have X1 := (Bx.new w).below hb1 (by simp); obtain ⟨⟨g0, g1, g2⟩, ⟨x0, x1, x2⟩, r0, y0, y1, y2, y3, y4⟩ := X1.facts; have hB1 : Below w.heap.size w w1 := (Below.trans (by repeat (first | with_reducible exact Below.refl _ _ | with_reducible assumption | with_reducible refine Below.drew ?_ | with_reducible refine below_drewN ?_ _ | (with_reducible refine Below.alloc ?_ ?_ _; rotate_left; (try simp) <;> omega) | (with_reducible refine Below.setCell ?_ ?_ _; rotate_left; (try simp) <;> omega))) (hb1.mono (by first | omega | (simp; omega) | simp)))) | (go_at_call 29; refine (HR.out _ (by repeat (first | with_reducible exact Below.refl _ _ | with_reducible assumption | with_reducible refine Below.drew ?_ | with_reducible refine below_drewN ?_ _ | (with_reducible refine Below.alloc ?_ ?_ _; rotate_left; (try simp) <;> omega) | (with_reducible refine Below.setCell ?_ ?_ _; rotate_left; (try simp) <;> omega)))).mono ?_; rintro e w2 ⟨rfl, hb2⟩; rw [H1.out]; have X2 := X1.below hb2 X1.lt; obtain ⟨⟨g0, g1, g2⟩, ⟨x0, x1, x2⟩, r0, y0, y1, y2, y3, y4⟩ := X2.facts; have hB2 : Below w.heap.size w w2 := (Below.trans (by repeat (first | with_reducible exact Below.refl _ _ | with_reducible assumption | with_reducible refine Below.drew ?_ | with_reducible refine below_drewN ?_ _ | (with_reducible refine Below.alloc ?_ ?_ _; rotate_left; (try simp) <;> omega) | (with_reducible refine Below.setCell ?_ ?_ _; rotate_left; (try simp) <;> omega))) (hb2.mono (by first | omega | (simp; omega) | simp)))) | (go_at_call 53; refine (HG.out _ (by repeat (first | with_reducible exact Below.refl _ _ | with_reducible assumption | with_reducible refine Below.drew ?_ | with_reducible refine below_drewN ?_ _ | (with_reducible refine Below.alloc ?_ ?_ _; rotate_left; (try simp) <;> omega) | (with_reducible refine Below.setCell ?_ ?_ _; rotate_left; (try simp) <;> omega)))).mono ?_; rintro e w3 ⟨rfl, hb3⟩; rw [H2.out]; have X3 := X2.below hb3 X2.lt; obtain ⟨⟨g0, g1, g2⟩, ⟨x0, x1, x2⟩, r0, y0, y1, y2, y3, y4⟩ := X3.facts; have hB3 : Below w.heap.size w w3 := (Below.trans (by repeat (first | with_reducible exact Below.refl _ _ | with_reducible assumption | with_reducible refine Below.drew ?_ | with_reducible refine below_drewN ?_ _ | (with_reducible refine Below.alloc ?_ ?_ _; rotate_left; (try simp) <;> omega) | (with_reducible refine Below.setCell ?_ ?_ _; rotate_left; (try simp) <;> omega))) (hb3.mono (by first | omega | (simp; omega) | simp)))) | (go_at_call 45; refine (among_is _ _ _ true _ H3.out).mono ?_; rintro e w4 ⟨rfl, rfl⟩))
          go_loopw [38] (fun s wr => ∃ k : Nat, k ≤ 4 ∧ s = .int .i64 k ∧ Hid (∀ j, j < k → numB (N j) = true) ∧ Below w.heap.size w wr ∧ Bx wr w.heap.size x y z A ps.length c ⟨n0, n1, n2, n3, den⟩) (fun s _ => 4 - (intOf s).toNat)
          case atStart => exact ⟨0, by omega, rfl, fun j hj => absurd hj (by omega), (by repeat (first | with_reducible exact Below.refl _ _ | with_reducible assumption | with_reducible refine Below.drew ?_ | with_reducible refine below_drewN ?_ _ | (with_reducible refine Below.alloc ?_ ?_ _; rotate_left; (try simp) <;> omega) | (with_reducible refine Below.setCell ?_ ?_ _; rotate_left; (try simp) <;> omega))), X3⟩
          case round =>
            clear X1 X2 X3 hb1 hb2 hb3 hB1 hB2 hB3
            obtain ⟨k, hk, rfl, hg, hbw, hX⟩ := hrel
            by_cases hk4 : k < 4
            · match k, hk4 with
              | 0, _ =>
                by_cases hn : numB n0 = true
                · have HN : Hid ((decide (-1000000000000000 ≤ n0) && decide (n0 ≤ 1000000000000000)) = true) := hn
                  have H : Hid (∀ j, j < 0 + 1 → numB (N j) = true) := fun j hj => by
                    by_cases e : j = 0
                    · subst e; rw [HNN.out.1]; exact hn
                    · exact hg.out j (by omega)
                  clear hn hg
                  go_wp2
                  rw [idx42_0]
                  go_wp2_with (go_at_call 45; refine (among_is _ _ _ true _ HN.out).mono ?_; rintro e w4 ⟨rfl, rfl⟩)
                  go_roundw
                  case rel => exact ⟨0 + 1, by omega, by go_num, H, (by repeat (first | with_reducible exact Below.refl _ _ | with_reducible assumption | with_reducible refine Below.drew ?_ | with_reducible refine below_drewN ?_ _ | (with_reducible refine Below.alloc ?_ ?_ _; rotate_left; (try simp) <;> omega) | (with_reducible refine Below.setCell ?_ ?_ _; rotate_left; (try simp) <;> omega))), hX⟩
                  case measure => simp [intOf]
                · have hn' : numB n0 = false := by simpa using hn
                  have HN : Hid ((decide (-1000000000000000 ≤ n0) && decide (n0 ≤ 1000000000000000)) = false) := hn'
                  have E : Hid (ccB l x y z ps ⟨n0, n1, n2, n3, den⟩ = false) := by show _ = _; rw [HC3.out]; unfold dualB; dsimp only; rw [hn']; simp
                  clear hn hn' hg
                  go_wp2
                  rw [idx42_0]
                  go_wp2_with (go_at_call 45; refine (among_is _ _ _ false _ HN.out).mono ?_; rintro e w4 ⟨rfl, rfl⟩)
                  refine bodyPost_ret (v := .tuple #[.bool false, .int .i64 0]) (by simp [results, Try.results23, go_sem]) rfl (cc_ret E.out.symm rfl (by repeat (first | with_reducible exact Below.refl _ _ | with_reducible assumption | with_reducible refine Below.drew ?_ | with_reducible refine below_drewN ?_ _ | (with_reducible refine Below.alloc ?_ ?_ _; rotate_left; (try simp) <;> omega) | (with_reducible refine Below.setCell ?_ ?_ _; rotate_left; (try simp) <;> omega))))
              | 1, _ =>
                by_cases hn : numB n1 = true
                · have HN : Hid ((decide (-1000000000000000 ≤ n1) && decide (n1 ≤ 1000000000000000)) = true) := hn
                  have H : Hid (∀ j, j < 1 + 1 → numB (N j) = true) := fun j hj => by
                    by_cases e : j = 1
                    · subst e; rw [HNN.out.2.1]; exact hn
                    · exact hg.out j (by omega)
                  clear hn hg
                  go_wp2
                  rw [idx42_1]
                  go_wp2_with (go_at_call 45; refine (among_is _ _ _ true _ HN.out).mono ?_; rintro e w4 ⟨rfl, rfl⟩)
                  go_roundw
                  case rel => exact ⟨1 + 1, by omega, by go_num, H, (by repeat (first | with_reducible exact Below.refl _ _ | with_reducible assumption | with_reducible refine Below.drew ?_ | with_reducible refine below_drewN ?_ _ | (with_reducible refine Below.alloc ?_ ?_ _; rotate_left; (try simp) <;> omega) | (with_reducible refine Below.setCell ?_ ?_ _; rotate_left; (try simp) <;> omega))), hX⟩
                  case measure => simp [intOf]
                · have hn' : numB n1 = false := by simpa using hn
                  have HN : Hid ((decide (-1000000000000000 ≤ n1) && decide (n1 ≤ 1000000000000000)) = false) := hn'
                  have E : Hid (ccB l x y z ps ⟨n0, n1, n2, n3, den⟩ = false) := by show _ = _; rw [HC3.out]; unfold dualB; dsimp only; rw [hn']; simp
                  clear hn hn' hg
                  go_wp2
                  rw [idx42_1]
                  go_wp2_with (go_at_call 45; refine (among_is _ _ _ false _ HN.out).mono ?_; rintro e w4 ⟨rfl, rfl⟩)
                  refine bodyPost_ret (v := .tuple #[.bool false, .int .i64 0]) (by simp [results, Try.results23, go_sem]) rfl (cc_ret E.out.symm rfl (by repeat (first | with_reducible exact Below.refl _ _ | with_reducible assumption | with_reducible refine Below.drew ?_ | with_reducible refine below_drewN ?_ _ | (with_reducible refine Below.alloc ?_ ?_ _; rotate_left; (try simp) <;> omega) | (with_reducible refine Below.setCell ?_ ?_ _; rotate_left; (try simp) <;> omega))))
              | 2, _ =>
                by_cases hn : numB n2 = true
                · have HN : Hid ((decide (-1000000000000000 ≤ n2) && decide (n2 ≤ 1000000000000000)) = true) := hn
                  have H : Hid (∀ j, j < 2 + 1 → numB (N j) = true) := fun j hj => by
                    by_cases e : j = 2
                    · subst e; rw [HNN.out.2.2.1]; exact hn
                    · exact hg.out j (by omega)
                  clear hn hg
                  go_wp2
                  rw [idx42_2]
                  go_wp2_with (go_at_call 45; refine (among_is _ _ _ true _ HN.out).mono ?_; rintro e w4 ⟨rfl, rfl⟩)
                  go_roundw
                  case rel => exact ⟨2 + 1, by omega, by go_num, H, (by repeat (first | with_reducible exact Below.refl _ _ | with_reducible assumption | with_reducible refine Below.drew ?_ | with_reducible refine below_drewN ?_ _ | (with_reducible refine Below.alloc ?_ ?_ _; rotate_left; (try simp) <;> omega) | (with_reducible refine Below.setCell ?_ ?_ _; rotate_left; (try simp) <;> omega))), hX⟩
                  case measure => simp [intOf]
                · have hn' : numB n2 = false := by simpa using hn
                  have HN : Hid ((decide (-1000000000000000 ≤ n2) && decide (n2 ≤ 1000000000000000)) = false) := hn'
                  have E : Hid (ccB l x y z ps ⟨n0, n1, n2, n3, den⟩ = false) := by show _ = _; rw [HC3.out]; unfold dualB; dsimp only; rw [hn']; simp
                  clear hn hn' hg
                  go_wp2
                  rw [idx42_2]
                  go_wp2_with (go_at_call 45; refine (among_is _ _ _ false _ HN.out).mono ?_; rintro e w4 ⟨rfl, rfl⟩)
                  refine bodyPost_ret (v := .tuple #[.bool false, .int .i64 0]) (by simp [results, Try.results23, go_sem]) rfl (cc_ret E.out.symm rfl (by repeat (first | with_reducible exact Below.refl _ _ | with_reducible assumption | with_reducible refine Below.drew ?_ | with_reducible refine below_drewN ?_ _ | (with_reducible refine Below.alloc ?_ ?_ _; rotate_left; (try simp) <;> omega) | (with_reducible refine Below.setCell ?_ ?_ _; rotate_left; (try simp) <;> omega))))
              | 3, _ =>
                by_cases hn : numB n3 = true
                · have HN : Hid ((decide (-1000000000000000 ≤ n3) && decide (n3 ≤ 1000000000000000)) = true) := hn
                  have H : Hid (∀ j, j < 3 + 1 → numB (N j) = true) := fun j hj => by
                    by_cases e : j = 3
                    · subst e; rw [HNN.out.2.2.2]; exact hn
                    · exact hg.out j (by omega)
                  clear hn hg
                  go_wp2
                  rw [idx42_3]
                  go_wp2_with (go_at_call 45; refine (among_is _ _ _ true _ HN.out).mono ?_; rintro e w4 ⟨rfl, rfl⟩)
                  go_roundw
                  case rel => exact ⟨3 + 1, by omega, by go_num, H, (by repeat (first | with_reducible exact Below.refl _ _ | with_reducible assumption | with_reducible refine Below.drew ?_ | with_reducible refine below_drewN ?_ _ | (with_reducible refine Below.alloc ?_ ?_ _; rotate_left; (try simp) <;> omega) | (with_reducible refine Below.setCell ?_ ?_ _; rotate_left; (try simp) <;> omega))), hX⟩
                  case measure => simp [intOf]
                · have hn' : numB n3 = false := by simpa using hn
                  have HN : Hid ((decide (-1000000000000000 ≤ n3) && decide (n3 ≤ 1000000000000000)) = false) := hn'
                  have E : Hid (ccB l x y z ps ⟨n0, n1, n2, n3, den⟩ = false) := by show _ = _; rw [HC3.out]; unfold dualB; dsimp only; rw [hn']; simp
                  clear hn hn' hg
                  go_wp2
                  rw [idx42_3]
                  go_wp2_with (go_at_call 45; refine (among_is _ _ _ false _ HN.out).mono ?_; rintro e w4 ⟨rfl, rfl⟩)
                  refine bodyPost_ret (v := .tuple #[.bool false, .int .i64 0]) (by simp [results, Try.results23, go_sem]) rfl (cc_ret E.out.symm rfl (by repeat (first | with_reducible exact Below.refl _ _ | with_reducible assumption | with_reducible refine Below.drew ?_ | with_reducible refine below_drewN ?_ _ | (with_reducible refine Below.alloc ?_ ?_ _; rotate_left; (try simp) <;> omega) | (with_reducible refine Below.setCell ?_ ?_ _; rotate_left; (try simp) <;> omega))))
            · obtain rfl : k = 4 := by omega
              have hnn := HNN.out
              have hd4 : dualB ⟨n0, n1, n2, n3, den⟩ = true := by
                unfold dualB
                dsimp only
                rw [HD.out, ← hnn.1, ← hnn.2.1, ← hnn.2.2.1, ← hnn.2.2.2, hg.out 0 (by omega), hg.out 1 (by omega), hg.out 2 (by omega), hg.out 3 (by omega)]; rfl
              have HBl' := Lib.hid (HBl.out (dualB_ok hd4))
              have HAt' := Lib.hid (HAt.out (dualB_ok hd4))
              have HFr' := Lib.hid (HFr.out (dualB_ok hd4))
              have HC4 : Hid (ccB l x y z ps ⟨n0, n1, n2, n3, den⟩ = (belowB ⟨n0, n1, n2, n3, den⟩ l && (ga1 == gp1 && ga2 == gp2))) := by
                show _ = _
                rw [HC3.out, hd4]; rfl
              have E29 := fun w => eq29 9998 ga1 ga2 gp1 gp2 w
              have HK : Hid (∀ W, Below wr.heap.size wr W → Bx W w.heap.size x y z A ps.length c ⟨n0, n1, n2, n3, den⟩) := fun W hW => hX.below hW hX.lt
              obtain ⟨⟨g0, g1, g2⟩, ⟨x0, x1, x2⟩, r0, y0, y1, y2, y3, y4⟩ := hX.facts
              clear hnn hd4 hg HNN HBl HAt HFr HC3 HD
              by_cases hbl : belowB ⟨n0, n1, n2, n3, den⟩ l = true
              · have HB4 := Lib.hid hbl
                have E : Hid (ccB l x y z ps ⟨n0, n1, n2, n3, den⟩ = (ga1 == gp1 && ga2 == gp2)) := by show _ = _; rw [HC4.out, hbl]; rfl
                clear hbl HC4
                go_wp2
                go_region_held3 (fun w' => w'.cell? ⟨w.heap.size, 0, none⟩ = some (.int .i64 x) ∧ w'.cell? ⟨w.heap.size, 1, none⟩ = some (.int .i64 y) ∧ w'.cell? ⟨w.heap.size, 2, none⟩ = some (.int .i64 z) ∧ w'.cell? ⟨w.heap.size + 1, 0, none⟩ = some (.slice A ps.length c) ∧ w'.cell? ⟨w.heap.size + 1 + 1, 0, none⟩ = some (.int .i64 n0) ∧ w'.cell? ⟨w.heap.size + 1 + 1, 1, none⟩ = some (.int .i64 n1) ∧ w'.cell? ⟨w.heap.size + 1 + 1, 2, none⟩ = some (.int .i64 n2) ∧ w'.cell? ⟨w.heap.size + 1 + 1, 3, none⟩ = some (.int .i64 n3) ∧ w'.cell? ⟨w.heap.size + 1 + 1, 4, none⟩ = some (.int .i64 den))
                  (first | go_keep | (refine ⟨?_, ?_, ?_, ?_, ?_, ?_, ?_, ?_, ?_⟩ <;> first | assumption | go_keep))
                  (first | (go_at_call 41; refine (HBl'.out _ (by repeat (first | with_reducible exact Below.refl _ _ | with_reducible assumption | with_reducible refine Below.drew ?_ | with_reducible refine below_drewN ?_ _ | (with_reducible refine Below.alloc ?_ ?_ _; rotate_left; (try simp) <;> omega) | (with_reducible refine Below.setCell ?_ ?_ _; rotate_left; (try simp) <;> omega)))).mono ?_; rintro e w5 ⟨rfl, hb5⟩; rw [HB4.out]; have hR5 : Below wr.heap.size wr w5 := (Below.trans (by repeat (first | with_reducible exact Below.refl _ _ | with_reducible assumption | with_reducible refine Below.drew ?_ | with_reducible refine below_drewN ?_ _ | (with_reducible refine Below.alloc ?_ ?_ _; rotate_left; (try simp) <;> omega) | (with_reducible refine Below.setCell ?_ ?_ _; rotate_left; (try simp) <;> omega))) (hb5.mono (by first | omega | (simp; omega) | simp))); have hB5 : Below w.heap.size w w5 := (Below.trans (by repeat (first | with_reducible exact Below.refl _ _ | with_reducible assumption | with_reducible refine Below.drew ?_ | with_reducible refine below_drewN ?_ _ | (with_reducible refine Below.alloc ?_ ?_ _; rotate_left; (try simp) <;> omega) | (with_reducible refine Below.setCell ?_ ?_ _; rotate_left; (try simp) <;> omega))) (hb5.mono (by first | omega | (simp; omega) | simp))); have hz5 := hR5.size; have hy5 := hB5.size; obtain ⟨⟨g0, g1, g2⟩, ⟨x0, x1, x2⟩, r0, y0, y1, y2, y3, y4⟩ := (HK.out w5 hR5).facts) | (go_at_call 43; refine (HAt'.out _).mono ?_; rintro e w6 ⟨rfl, hb6⟩; have hR6 : Below wr.heap.size wr w6 := (Below.trans (by repeat (first | with_reducible exact Below.refl _ _ | with_reducible assumption | with_reducible refine Below.drew ?_ | with_reducible refine below_drewN ?_ _ | (with_reducible refine Below.alloc ?_ ?_ _; rotate_left; (try simp) <;> omega) | (with_reducible refine Below.setCell ?_ ?_ _; rotate_left; (try simp) <;> omega))) (hb6.mono (by first | omega | (simp; omega) | simp))); have hB6 : Below w.heap.size w w6 := (Below.trans (by repeat (first | with_reducible exact Below.refl _ _ | with_reducible assumption | with_reducible refine Below.drew ?_ | with_reducible refine below_drewN ?_ _ | (with_reducible refine Below.alloc ?_ ?_ _; rotate_left; (try simp) <;> omega) | (with_reducible refine Below.setCell ?_ ?_ _; rotate_left; (try simp) <;> omega))) (hb6.mono (by first | omega | (simp; omega) | simp))); have hz6 := hR6.size; have hy6 := hB6.size; obtain ⟨⟨g0, g1, g2⟩, ⟨x0, x1, x2⟩, r0, y0, y1, y2, y3, y4⟩ := (HK.out w6 hR6).facts) | (go_at_call 42; refine (HFr'.out _).mono ?_; rintro e w7 ⟨rfl, hb7⟩; have hR7 : Below wr.heap.size wr w7 := (Below.trans (by repeat (first | with_reducible exact Below.refl _ _ | with_reducible assumption | with_reducible refine Below.drew ?_ | with_reducible refine below_drewN ?_ _ | (with_reducible refine Below.alloc ?_ ?_ _; rotate_left; (try simp) <;> omega) | (with_reducible refine Below.setCell ?_ ?_ _; rotate_left; (try simp) <;> omega))) (hb7.mono (by first | omega | (simp; omega) | simp))); have hB7 : Below w.heap.size w w7 := (Below.trans (by repeat (first | with_reducible exact Below.refl _ _ | with_reducible assumption | with_reducible refine Below.drew ?_ | with_reducible refine below_drewN ?_ _ | (with_reducible refine Below.alloc ?_ ?_ _; rotate_left; (try simp) <;> omega) | (with_reducible refine Below.setCell ?_ ?_ _; rotate_left; (try simp) <;> omega))) (hb7.mono (by first | omega | (simp; omega) | simp))); have hz7 := hR7.size; have hy7 := hB7.size; obtain ⟨⟨g0, g1, g2⟩, ⟨x0, x1, x2⟩, r0, y0, y1, y2, y3, y4⟩ := (HK.out w7 hR7).facts) | (go_at_call 35; refine (HPr.out _ (by repeat (first | with_reducible exact Below.refl _ _ | with_reducible assumption | with_reducible refine Below.drew ?_ | with_reducible refine below_drewN ?_ _ | (with_reducible refine Below.alloc ?_ ?_ _; rotate_left; (try simp) <;> omega) | (with_reducible refine Below.setCell ?_ ?_ _; rotate_left; (try simp) <;> omega)))).mono ?_; rintro e w8 ⟨rfl, hb8⟩; have hR8 : Below wr.heap.size wr w8 := (Below.trans (by repeat (first | with_reducible exact Below.refl _ _ | with_reducible assumption | with_reducible refine Below.drew ?_ | with_reducible refine below_drewN ?_ _ | (with_reducible refine Below.alloc ?_ ?_ _; rotate_left; (try simp) <;> omega) | (with_reducible refine Below.setCell ?_ ?_ _; rotate_left; (try simp) <;> omega))) (hb8.mono (by first | omega | (simp; omega) | simp))); have hB8 : Below w.heap.size w w8 := (Below.trans (by repeat (first | with_reducible exact Below.refl _ _ | with_reducible assumption | with_reducible refine Below.drew ?_ | with_reducible refine below_drewN ?_ _ | (with_reducible refine Below.alloc ?_ ?_ _; rotate_left; (try simp) <;> omega) | (with_reducible refine Below.setCell ?_ ?_ _; rotate_left; (try simp) <;> omega))) (hb8.mono (by first | omega | (simp; omega) | simp))); have hz8 := hR8.size; have hy8 := hB8.size; obtain ⟨⟨g0, g1, g2⟩, ⟨x0, x1, x2⟩, r0, y0, y1, y2, y3, y4⟩ := (HK.out w8 hR8).facts))
                all_goals
                  go_wp2
                  refine bodyPost_ret (v := .tuple #[.bool (ga1 == gp1 && ga2 == gp2), .int .i64 0]) (by simp [results, Try.results23, go_sem]) rfl (cc_ret E.out.symm rfl (by repeat (first | with_reducible exact Below.refl _ _ | with_reducible assumption | with_reducible refine Below.drew ?_ | with_reducible refine below_drewN ?_ _ | (with_reducible refine Below.alloc ?_ ?_ _; rotate_left; (try simp) <;> omega) | (with_reducible refine Below.setCell ?_ ?_ _; rotate_left; (try simp) <;> omega))))
              · have hbl' : belowB ⟨n0, n1, n2, n3, den⟩ l = false := by simpa using hbl
                have HB4 := Lib.hid hbl'
                have E : Hid (ccB l x y z ps ⟨n0, n1, n2, n3, den⟩ = false) := by show _ = _; rw [HC4.out, hbl']; rfl
                clear hbl hbl' HC4 E29
                go_wp2
                refine wp_region_held_drew (S := (fun w' => w'.cell? ⟨w.heap.size, 0, none⟩ = some (.int .i64 x) ∧ w'.cell? ⟨w.heap.size, 1, none⟩ = some (.int .i64 y) ∧ w'.cell? ⟨w.heap.size, 2, none⟩ = some (.int .i64 z) ∧ w'.cell? ⟨w.heap.size + 1, 0, none⟩ = some (.slice A ps.length c) ∧ w'.cell? ⟨w.heap.size + 1 + 1, 0, none⟩ = some (.int .i64 n0) ∧ w'.cell? ⟨w.heap.size + 1 + 1, 1, none⟩ = some (.int .i64 n1) ∧ w'.cell? ⟨w.heap.size + 1 + 1, 2, none⟩ = some (.int .i64 n2) ∧ w'.cell? ⟨w.heap.size + 1 + 1, 3, none⟩ = some (.int .i64 n3) ∧ w'.cell? ⟨w.heap.size + 1 + 1, 4, none⟩ = some (.int .i64 den))) (by kernel_rfl) ?_ (fun hHeld => ?_)
                · (refine ⟨?_, ?_, ?_, ?_, ?_, ?_, ?_, ?_, ?_⟩ <;> first | assumption | go_keep)
                (refine held_take 0 (some 45) ?_ rfl (by kernel_rfl) (by kernel_rfl) (by kernel_rfl) (by rfl) (fun _ _ _ h => h) (by assumption) (fun w hSw => ?_) ?_; rotate_left; ((try dsimp only at hSw); simp only [List.getElem?_toArray, List.getElem?_cons_zero, List.getElem?_cons_succ, Option.map_some]; refine congrArg some ?_; go_simp; (try with_reducible rfl)); (try simp only [Act.put, List.setIfInBounds_toArray, List.set_cons_zero, List.set_cons_succ]))
                (refine held_take 1 (some 46) ?_ rfl (by kernel_rfl) (by kernel_rfl) (by kernel_rfl) (by rfl) (fun _ _ _ h => h) (by assumption) (fun w hSw => ?_) ?_; rotate_left; ((try dsimp only at hSw); simp only [List.getElem?_toArray, List.getElem?_cons_zero, List.getElem?_cons_succ, Option.map_some]; refine congrArg some ?_; go_simp; (try with_reducible rfl)); (try simp only [Act.put, List.setIfInBounds_toArray, List.set_cons_zero, List.set_cons_succ]))
                refine held_call 2 (some 47) 41 _ rfl (by kernel_rfl) (by rfl) ?_ (HBl'.out _ (by repeat (first | with_reducible exact Below.refl _ _ | with_reducible assumption | with_reducible refine Below.drew ?_ | with_reducible refine below_drewN ?_ _ | (with_reducible refine Below.alloc ?_ ?_ _; rotate_left; (try simp) <;> omega) | (with_reducible refine Below.setCell ?_ ?_ _; rotate_left; (try simp) <;> omega)))) ?_
                · simp only [List.getElem?_toArray, List.getElem?_cons_zero, List.getElem?_cons_succ, Option.map_some]
                  refine congrArg some ?_
                  go_simp
                rintro e w5 ⟨rfl, hb5⟩
                rw [HB4.out]
                have hR5 : Below wr.heap.size wr w5 := (Below.trans (by repeat (first | with_reducible exact Below.refl _ _ | with_reducible assumption | with_reducible refine Below.drew ?_ | with_reducible refine below_drewN ?_ _ | (with_reducible refine Below.alloc ?_ ?_ _; rotate_left; (try simp) <;> omega) | (with_reducible refine Below.setCell ?_ ?_ _; rotate_left; (try simp) <;> omega))) (hb5.mono (by first | omega | (simp; omega) | simp)))
                have hB5 : Below w.heap.size w w5 := (Below.trans (by repeat (first | with_reducible exact Below.refl _ _ | with_reducible assumption | with_reducible refine Below.drew ?_ | with_reducible refine below_drewN ?_ _ | (with_reducible refine Below.alloc ?_ ?_ _; rotate_left; (try simp) <;> omega) | (with_reducible refine Below.setCell ?_ ?_ _; rotate_left; (try simp) <;> omega))) (hb5.mono (by first | omega | (simp; omega) | simp)))
                have hz5 := hR5.size
                have hy5 := hB5.size
                obtain ⟨⟨g0, g1, g2⟩, ⟨x0, x1, x2⟩, r0, y0, y1, y2, y3, y4⟩ := (HK.out w5 hR5).facts
                refine ⟨_, rfl, ⟨x0, x1, x2, r0, y0, y1, y2, y3, y4⟩, fun hHeld => ?_⟩
                (try simp only [Act.put, List.setIfInBounds_toArray, List.set_cons_zero, List.set_cons_succ])
                (refine held_take 3 (some 48) ?_ rfl (by kernel_rfl) (by kernel_rfl) (by kernel_rfl) (by rfl) (fun _ _ _ h => h) (by assumption) (fun w hSw => ?_) ?_; rotate_left; ((try dsimp only at hSw); simp only [List.getElem?_toArray, List.getElem?_cons_zero, List.getElem?_cons_succ, Option.map_some]; refine congrArg some ?_; go_simp; (try with_reducible rfl)); (try simp only [Act.put, List.setIfInBounds_toArray, List.set_cons_zero, List.set_cons_succ]))
                (refine held_skip 4 (some 49) rfl (by kernel_rfl) (by kernel_rfl) (by kernel_rfl) (by rfl) (fun _ _ _ h => h) (by assumption) ?_; (try simp only [Act.put, List.setIfInBounds_toArray, List.set_cons_zero, List.set_cons_succ]))
                (refine held_skip 5 (some 50) rfl (by kernel_rfl) (by kernel_rfl) (by kernel_rfl) (by rfl) (fun _ _ _ h => h) (by assumption) ?_; (try simp only [Act.put, List.setIfInBounds_toArray, List.set_cons_zero, List.set_cons_succ]))
                (refine held_skip 6 (some 51) rfl (by kernel_rfl) (by kernel_rfl) (by kernel_rfl) (by rfl) (fun _ _ _ h => h) (by assumption) ?_; (try simp only [Act.put, List.setIfInBounds_toArray, List.set_cons_zero, List.set_cons_succ]))
                (refine held_skip 7 (some 52) rfl (by kernel_rfl) (by kernel_rfl) (by kernel_rfl) (by rfl) (fun _ _ _ h => h) (by assumption) ?_; (try simp only [Act.put, List.setIfInBounds_toArray, List.set_cons_zero, List.set_cons_succ]))
                (refine held_skip 8 (some 53) rfl (by kernel_rfl) (by kernel_rfl) (by kernel_rfl) (by rfl) (fun _ _ _ h => h) (by assumption) ?_; (try simp only [Act.put, List.setIfInBounds_toArray, List.set_cons_zero, List.set_cons_succ]))
                (refine held_skip 9 (some 54) rfl (by kernel_rfl) (by kernel_rfl) (by kernel_rfl) (by rfl) (fun _ _ _ h => h) (by assumption) ?_; (try simp only [Act.put, List.setIfInBounds_toArray, List.set_cons_zero, List.set_cons_succ]))
                (refine held_skip 10 (some 55) rfl (by kernel_rfl) (by kernel_rfl) (by kernel_rfl) (by rfl) (fun _ _ _ h => h) (by assumption) ?_; (try simp only [Act.put, List.setIfInBounds_toArray, List.set_cons_zero, List.set_cons_succ]))
                (refine held_skip 11 (some 56) rfl (by kernel_rfl) (by kernel_rfl) (by kernel_rfl) (by rfl) (fun _ _ _ h => h) (by assumption) ?_; (try simp only [Act.put, List.setIfInBounds_toArray, List.set_cons_zero, List.set_cons_succ]))
                (refine held_skip 12 (some 57) rfl (by kernel_rfl) (by kernel_rfl) (by kernel_rfl) (by rfl) (fun _ _ _ h => h) (by assumption) ?_; (try simp only [Act.put, List.setIfInBounds_toArray, List.set_cons_zero, List.set_cons_succ]))
                (refine held_skip 13 (some 58) rfl (by kernel_rfl) (by kernel_rfl) (by kernel_rfl) (by rfl) (fun _ _ _ h => h) (by assumption) ?_; (try simp only [Act.put, List.setIfInBounds_toArray, List.set_cons_zero, List.set_cons_succ]))
                (refine held_take 14 (some 59) ?_ rfl (by kernel_rfl) (by kernel_rfl) (by kernel_rfl) (by rfl) (fun _ _ _ h => h) (by assumption) (fun w hSw => ?_) ?_; rotate_left; ((try dsimp only at hSw); simp only [List.getElem?_toArray, List.getElem?_cons_zero, List.getElem?_cons_succ, Option.map_some]; refine congrArg some ?_; go_simp; (try with_reducible rfl)); (try simp only [Act.put, List.setIfInBounds_toArray, List.set_cons_zero, List.set_cons_succ]))
                (refine held_take 15 (some 8) ?_ rfl (by kernel_rfl) (by kernel_rfl) (by kernel_rfl) (by rfl) (fun _ _ _ h => h) (by assumption) (fun w hSw => ?_) ?_; rotate_left; ((try dsimp only at hSw); simp only [List.getElem?_toArray, List.getElem?_cons_zero, List.getElem?_cons_succ, Option.map_some]; refine congrArg some ?_; go_simp; (try with_reducible rfl)); (try simp only [Act.put, List.setIfInBounds_toArray, List.set_cons_zero, List.set_cons_succ]))
                (refine held_take 16 (some 9) ?_ rfl (by kernel_rfl) (by kernel_rfl) (by kernel_rfl) (by rfl) (fun _ _ _ h => h) (by assumption) (fun w hSw => ?_) ?_; rotate_left; ((try dsimp only at hSw); simp only [List.getElem?_toArray, List.getElem?_cons_zero, List.getElem?_cons_succ, Option.map_some]; refine congrArg some ?_; go_simp; (try with_reducible rfl)); (try simp only [Act.put, List.setIfInBounds_toArray, List.set_cons_zero, List.set_cons_succ]))
                refine wpAnyH_done (by kernel_rfl) ?_ _
                all_goals
                  go_wp2
                  refine bodyPost_ret (v := .tuple #[.bool false, .int .i64 0]) (by simp [results, Try.results23, go_sem]) rfl (cc_ret E.out.symm rfl (by repeat (first | with_reducible exact Below.refl _ _ | with_reducible assumption | with_reducible refine Below.drew ?_ | with_reducible refine below_drewN ?_ _ | (with_reducible refine Below.alloc ?_ ?_ _; rotate_left; (try simp) <;> omega) | (with_reducible refine Below.setCell ?_ ?_ _; rotate_left; (try simp) <;> omega))))
        · have h3' : denB den = false := by simpa using h3
          have E : Hid (ccB l x y z ps ⟨n0, n1, n2, n3, den⟩ = false) := by show _ = _; rw [HC2.out, h2]; unfold dualB; dsimp only; rw [h3']; rfl
          have H0 := Lib.hid h0
          have H1 := Lib.hid h1
          have H2 := Lib.hid h2
          have H3 : Hid ((decide (1 ≤ den) && decide (den ≤ 1000000000000)) = false) := h3'
          clear h0 h1 h2 h3 h3' hr hoff hsh hbw hn1 hlt hl hs HC HC2
          go_enter Try.func23, Try.ntmps23
          go_wp2_with (first | (go_at_call 36; refine (HW.out _ (by repeat (first | with_reducible exact Below.refl _ _ | with_reducible assumption | with_reducible refine Below.drew ?_ | with_reducible refine below_drewN ?_ _ | (with_reducible refine Below.alloc ?_ ?_ _; rotate_left; (try simp) <;> omega) | (with_reducible refine Below.setCell ?_ ?_ _; rotate_left; (try simp) <;> omega)))).mono ?_; rintro e w1 ⟨rfl, hb1⟩; rw [H0.out]; have X1 := (Bx.new w).below hb1 (by simp); obtain ⟨⟨g0, g1, g2⟩, ⟨x0, x1, x2⟩, r0, y0, y1, y2, y3, y4⟩ := X1.facts; have hB1 : Below w.heap.size w w1 := (Below.trans (by repeat (first | with_reducible exact Below.refl _ _ | with_reducible assumption | with_reducible refine Below.drew ?_ | with_reducible refine below_drewN ?_ _ | (with_reducible refine Below.alloc ?_ ?_ _; rotate_left; (try simp) <;> omega) | (with_reducible refine Below.setCell ?_ ?_ _; rotate_left; (try simp) <;> omega))) (hb1.mono (by first | omega | (simp; omega) | simp)))) | (go_at_call 29; refine (HR.out _ (by repeat (first | with_reducible exact Below.refl _ _ | with_reducible assumption | with_reducible refine Below.drew ?_ | with_reducible refine below_drewN ?_ _ | (with_reducible refine Below.alloc ?_ ?_ _; rotate_left; (try simp) <;> omega) | (with_reducible refine Below.setCell ?_ ?_ _; rotate_left; (try simp) <;> omega)))).mono ?_; rintro e w2 ⟨rfl, hb2⟩; rw [H1.out]; have X2 := X1.below hb2 X1.lt; obtain ⟨⟨g0, g1, g2⟩, ⟨x0, x1, x2⟩, r0, y0, y1, y2, y3, y4⟩ := X2.facts; have hB2 : Below w.heap.size w w2 := (Below.trans (by repeat (first | with_reducible exact Below.refl _ _ | with_reducible assumption | with_reducible refine Below.drew ?_ | with_reducible refine below_drewN ?_ _ | (with_reducible refine Below.alloc ?_ ?_ _; rotate_left; (try simp) <;> omega) | (with_reducible refine Below.setCell ?_ ?_ _; rotate_left; (try simp) <;> omega))) (hb2.mono (by first | omega | (simp; omega) | simp)))) | (go_at_call 53; refine (HG.out _ (by repeat (first | with_reducible exact Below.refl _ _ | with_reducible assumption | with_reducible refine Below.drew ?_ | with_reducible refine below_drewN ?_ _ | (with_reducible refine Below.alloc ?_ ?_ _; rotate_left; (try simp) <;> omega) | (with_reducible refine Below.setCell ?_ ?_ _; rotate_left; (try simp) <;> omega)))).mono ?_; rintro e w3 ⟨rfl, hb3⟩; rw [H2.out]; have X3 := X2.below hb3 X2.lt; obtain ⟨⟨g0, g1, g2⟩, ⟨x0, x1, x2⟩, r0, y0, y1, y2, y3, y4⟩ := X3.facts; have hB3 : Below w.heap.size w w3 := (Below.trans (by repeat (first | with_reducible exact Below.refl _ _ | with_reducible assumption | with_reducible refine Below.drew ?_ | with_reducible refine below_drewN ?_ _ | (with_reducible refine Below.alloc ?_ ?_ _; rotate_left; (try simp) <;> omega) | (with_reducible refine Below.setCell ?_ ?_ _; rotate_left; (try simp) <;> omega))) (hb3.mono (by first | omega | (simp; omega) | simp)))) | (go_at_call 45; refine (among_is _ _ _ false _ H3.out).mono ?_; rintro e w4 ⟨rfl, rfl⟩))
          refine bodyPost_ret (v := .tuple #[.bool false, .int .i64 0]) (by simp [results, Try.results23, go_sem]) rfl (cc_ret E.out.symm rfl (by repeat (first | with_reducible exact Below.refl _ _ | with_reducible assumption | with_reducible refine Below.drew ?_ | with_reducible refine below_drewN ?_ _ | (with_reducible refine Below.alloc ?_ ?_ _; rotate_left; (try simp) <;> omega) | (with_reducible refine Below.setCell ?_ ?_ _; rotate_left; (try simp) <;> omega))))
      · have h2' : rgiveB l ps x y z = false := by simpa using h2
        have E : Hid (ccB l x y z ps ⟨n0, n1, n2, n3, den⟩ = false) := by show _ = _; rw [HC2.out, h2']; rfl
        have H0 := Lib.hid h0
        have H1 := Lib.hid h1
        have H2 := Lib.hid h2'
        clear h0 h1 h2 h2' hr hoff hsh hbw hn1 hlt hl hs HC HC2
        go_enter Try.func23, Try.ntmps23
        go_wp2_with (first | (go_at_call 36; refine (HW.out _ (by repeat (first | with_reducible exact Below.refl _ _ | with_reducible assumption | with_reducible refine Below.drew ?_ | with_reducible refine below_drewN ?_ _ | (with_reducible refine Below.alloc ?_ ?_ _; rotate_left; (try simp) <;> omega) | (with_reducible refine Below.setCell ?_ ?_ _; rotate_left; (try simp) <;> omega)))).mono ?_; rintro e w1 ⟨rfl, hb1⟩; rw [H0.out]; have X1 := (Bx.new w).below hb1 (by simp); obtain ⟨⟨g0, g1, g2⟩, ⟨x0, x1, x2⟩, r0, y0, y1, y2, y3, y4⟩ := X1.facts; have hB1 : Below w.heap.size w w1 := (Below.trans (by repeat (first | with_reducible exact Below.refl _ _ | with_reducible assumption | with_reducible refine Below.drew ?_ | with_reducible refine below_drewN ?_ _ | (with_reducible refine Below.alloc ?_ ?_ _; rotate_left; (try simp) <;> omega) | (with_reducible refine Below.setCell ?_ ?_ _; rotate_left; (try simp) <;> omega))) (hb1.mono (by first | omega | (simp; omega) | simp)))) | (go_at_call 29; refine (HR.out _ (by repeat (first | with_reducible exact Below.refl _ _ | with_reducible assumption | with_reducible refine Below.drew ?_ | with_reducible refine below_drewN ?_ _ | (with_reducible refine Below.alloc ?_ ?_ _; rotate_left; (try simp) <;> omega) | (with_reducible refine Below.setCell ?_ ?_ _; rotate_left; (try simp) <;> omega)))).mono ?_; rintro e w2 ⟨rfl, hb2⟩; rw [H1.out]; have X2 := X1.below hb2 X1.lt; obtain ⟨⟨g0, g1, g2⟩, ⟨x0, x1, x2⟩, r0, y0, y1, y2, y3, y4⟩ := X2.facts; have hB2 : Below w.heap.size w w2 := (Below.trans (by repeat (first | with_reducible exact Below.refl _ _ | with_reducible assumption | with_reducible refine Below.drew ?_ | with_reducible refine below_drewN ?_ _ | (with_reducible refine Below.alloc ?_ ?_ _; rotate_left; (try simp) <;> omega) | (with_reducible refine Below.setCell ?_ ?_ _; rotate_left; (try simp) <;> omega))) (hb2.mono (by first | omega | (simp; omega) | simp)))) | (go_at_call 53; refine (HG.out _ (by repeat (first | with_reducible exact Below.refl _ _ | with_reducible assumption | with_reducible refine Below.drew ?_ | with_reducible refine below_drewN ?_ _ | (with_reducible refine Below.alloc ?_ ?_ _; rotate_left; (try simp) <;> omega) | (with_reducible refine Below.setCell ?_ ?_ _; rotate_left; (try simp) <;> omega)))).mono ?_; rintro e w3 ⟨rfl, hb3⟩; rw [H2.out]; have X3 := X2.below hb3 X2.lt; obtain ⟨⟨g0, g1, g2⟩, ⟨x0, x1, x2⟩, r0, y0, y1, y2, y3, y4⟩ := X3.facts; have hB3 : Below w.heap.size w w3 := (Below.trans (by repeat (first | with_reducible exact Below.refl _ _ | with_reducible assumption | with_reducible refine Below.drew ?_ | with_reducible refine below_drewN ?_ _ | (with_reducible refine Below.alloc ?_ ?_ _; rotate_left; (try simp) <;> omega) | (with_reducible refine Below.setCell ?_ ?_ _; rotate_left; (try simp) <;> omega))) (hb3.mono (by first | omega | (simp; omega) | simp)))))
        refine bodyPost_ret (v := .tuple #[.bool false, .int .i64 0]) (by simp [results, Try.results23, go_sem]) rfl (cc_ret E.out.symm rfl (by repeat (first | with_reducible exact Below.refl _ _ | with_reducible assumption | with_reducible refine Below.drew ?_ | with_reducible refine below_drewN ?_ _ | (with_reducible refine Below.alloc ?_ ?_ _; rotate_left; (try simp) <;> omega) | (with_reducible refine Below.setCell ?_ ?_ _; rotate_left; (try simp) <;> omega))))
    · have h1' : recB l.length ps = false := by simpa using h1
      have E : Hid (ccB l x y z ps ⟨n0, n1, n2, n3, den⟩ = false) := by show _ = _; rw [HC.out, h1']; simp
      have H0 := Lib.hid h0
      have H1 := Lib.hid h1'
      rw [h0]
      clear h0 h1 h1' hlt hl hs HC
      go_enter Try.func23, Try.ntmps23
      go_wp2_with (first | (go_at_call 36; refine (HW.out _ (by repeat (first | with_reducible exact Below.refl _ _ | with_reducible assumption | with_reducible refine Below.drew ?_ | with_reducible refine below_drewN ?_ _ | (with_reducible refine Below.alloc ?_ ?_ _; rotate_left; (try simp) <;> omega) | (with_reducible refine Below.setCell ?_ ?_ _; rotate_left; (try simp) <;> omega)))).mono ?_; rintro e w1 ⟨rfl, hb1⟩; rw [H0.out]; have X1 := (Bx.new w).below hb1 (by simp); obtain ⟨⟨g0, g1, g2⟩, ⟨x0, x1, x2⟩, r0, y0, y1, y2, y3, y4⟩ := X1.facts; have hB1 : Below w.heap.size w w1 := (Below.trans (by repeat (first | with_reducible exact Below.refl _ _ | with_reducible assumption | with_reducible refine Below.drew ?_ | with_reducible refine below_drewN ?_ _ | (with_reducible refine Below.alloc ?_ ?_ _; rotate_left; (try simp) <;> omega) | (with_reducible refine Below.setCell ?_ ?_ _; rotate_left; (try simp) <;> omega))) (hb1.mono (by first | omega | (simp; omega) | simp)))) | (go_at_call 29; refine (HR.out _ (by repeat (first | with_reducible exact Below.refl _ _ | with_reducible assumption | with_reducible refine Below.drew ?_ | with_reducible refine below_drewN ?_ _ | (with_reducible refine Below.alloc ?_ ?_ _; rotate_left; (try simp) <;> omega) | (with_reducible refine Below.setCell ?_ ?_ _; rotate_left; (try simp) <;> omega)))).mono ?_; rintro e w2 ⟨rfl, hb2⟩; rw [H1.out]; have X2 := X1.below hb2 X1.lt; obtain ⟨⟨g0, g1, g2⟩, ⟨x0, x1, x2⟩, r0, y0, y1, y2, y3, y4⟩ := X2.facts; have hB2 : Below w.heap.size w w2 := (Below.trans (by repeat (first | with_reducible exact Below.refl _ _ | with_reducible assumption | with_reducible refine Below.drew ?_ | with_reducible refine below_drewN ?_ _ | (with_reducible refine Below.alloc ?_ ?_ _; rotate_left; (try simp) <;> omega) | (with_reducible refine Below.setCell ?_ ?_ _; rotate_left; (try simp) <;> omega))) (hb2.mono (by first | omega | (simp; omega) | simp)))))
      refine bodyPost_ret (v := .tuple #[.bool false, .int .i64 0]) (by simp [results, Try.results23, go_sem]) rfl (cc_ret E.out.symm rfl (by repeat (first | with_reducible exact Below.refl _ _ | with_reducible assumption | with_reducible refine Below.drew ?_ | with_reducible refine below_drewN ?_ _ | (with_reducible refine Below.alloc ?_ ?_ _; rotate_left; (try simp) <;> omega) | (with_reducible refine Below.setCell ?_ ?_ _; rotate_left; (try simp) <;> omega))))
  · have E : Hid (ccB l x y z ps ⟨n0, n1, n2, n3, den⟩ = false) := by show _ = _; rw [HC.out, decide_eq_false h0]; rfl
    generalize chkW l x y z = q at *
    have hq1 : (q != 0) = true := by rw [bne_iff_ne]; exact h0
    clear h0 hlt hl hs HC
    go_enter Try.func23, Try.ntmps23
    go_wp2_with (go_at_call 36; refine (HW.out _ (by repeat (first | with_reducible exact Below.refl _ _ | with_reducible assumption | with_reducible refine Below.drew ?_ | with_reducible refine below_drewN ?_ _ | (with_reducible refine Below.alloc ?_ ?_ _; rotate_left; (try simp) <;> omega) | (with_reducible refine Below.setCell ?_ ?_ _; rotate_left; (try simp) <;> omega)))).mono ?_; rintro e w1 ⟨rfl, hb1⟩)
    refine bodyPost_ret (v := .tuple #[.bool false, .int .i64 q]) (by simp [results, Try.results23, go_sem]) rfl (cc_ret E.out.symm rfl (Below.trans (by repeat (first | with_reducible exact Below.refl _ _ | with_reducible assumption | with_reducible refine Below.drew ?_ | with_reducible refine below_drewN ?_ _ | (with_reducible refine Below.alloc ?_ ?_ _; rotate_left; (try simp) <;> omega) | (with_reducible refine Below.setCell ?_ ?_ _; rotate_left; (try simp) <;> omega))) (hb1.mono (by first | omega | (simp; omega) | simp))))
end Go.Proofs.Ytkjceegmmhnajaa
