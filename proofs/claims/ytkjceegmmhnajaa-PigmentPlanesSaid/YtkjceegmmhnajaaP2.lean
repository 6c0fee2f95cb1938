/- CheckPlane of the program. -/
import Derived.Test.YtkjceegmmhnajaaP1
import Derived.Test.YtkjceegmmhnajaaD2a
namespace Go.Proofs.Ytkjceegmmhnajaa
open Go.RowKit

theorem size3' (h : 3 < Try.prog.types.size) : (Try.prog.types[3]'h).size = 1 := by kernel_rfl
theorem idx37_0 (a b c : Int) (w : World) : (Instr.index 37 (.agg #[.int .i64 a, .int .i64 b, .int .i64 c]) (.int .i64 0)).run Try.prog w = .ok (.int .i64 a) w := by
  simp [Instr.index, go_sem, Try.underlying37, size3']
theorem idx37_1 (a b c : Int) (w : World) : (Instr.index 37 (.agg #[.int .i64 a, .int .i64 b, .int .i64 c]) (.int .i64 1)).run Try.prog w = .ok (.int .i64 b) w := by
  simp [Instr.index, go_sem, Try.underlying37, size3']
theorem idx37_2 (a b c : Int) (w : World) : (Instr.index 37 (.agg #[.int .i64 a, .int .i64 b, .int .i64 c]) (.int .i64 2)).run Try.prog w = .ok (.int .i64 c) w := by
  simp [Instr.index, go_sem, Try.underlying37, size3']

set_option maxRecDepth 100000 in
set_option maxHeartbeats 4000000 in
theorem checkPlane_any (l : List Tn) (p : Pl) (x y z : Int) (At : Option Addr) (ct : Nat) (w : World) (hlt : Lies w w.heap.size At (tintsC l)) (hm2 : l.length ≤ 1000) (hs : ∀ t ∈ l, t.name.size ≤ 100) :
    Calls Try.prog 19 #[.slice At l.length ct, .agg #[.int .i64 x, .int .i64 y, .int .i64 z], p.agg] w (ShEnd (cpB l x y z p) w) := by
  have HW := Lib.hid (fun W (hb : Below w.heap.size w W) => checkWant_any l At ct x y z W ((hlt.below hb (Nat.le_refl _)).more hb.size) hm2 hs)
  have HC : Hid (cpB l x y z p = (decide (chkW l x y z = 0) && (planeB p && (decide (p.c < onP p x y z) && !(l.any (beyP p)))))) := rfl
  obtain ⟨⟨n1, n2, n3, pc⟩, hp⟩ : ∃ p', p' = p := ⟨p, rfl⟩
  subst hp
  by_cases h0 : chkW l x y z = 0
  · have hoff : ∀ t ∈ l, offTint t = false := by
      unfold chkW at h0
      split at h0
      · rename_i hc; exact (chkT_ok hc).2.2.1
      · rename_i hc; exact absurd h0 hc
    have hsh : shadeB x y z = true := by
      unfold chkW at h0
      split at h0
      · split at h0
        · assumption
        · cases h0
      · rename_i hc; exact absurd h0 hc
    have H0 := Lib.hid h0
    by_cases h3 : asideB pc = true
    · have H3 : Hid ((decide (-10000000000000000 ≤ pc) && decide (pc ≤ 10000000000000000)) = true) := h3
      have HC2 : Hid (cpB l x y z ⟨n1, n2, n3, pc⟩ = ((norB n1 && (norB n2 && norB n3)) && (decide (pc < onP ⟨n1, n2, n3, pc⟩ x y z) && !(l.any (beyP ⟨n1, n2, n3, pc⟩))))) := by
        show _ = _
        rw [HC.out, h0]; unfold planeB; dsimp only; rw [h3]; rfl
      obtain ⟨N, hN⟩ : ∃ N : Nat → Int, N 0 = n1 ∧ N 1 = n2 ∧ N 2 = n3 := ⟨fun k => if k = 0 then n1 else if k = 1 then n2 else n3, rfl, rfl, rfl⟩
      have HNN := Lib.hid hN; clear hN
      have HOn := Lib.hid (fun (ho : okPl ⟨n1, n2, n3, pc⟩) W => onP_any (a := x) (b := y) (c := z) ho (shIn_of hsh) W)
      have HAn := Lib.hid (fun (ho : okPl ⟨n1, n2, n3, pc⟩) W g h (hb : Below w.heap.size w W) (hg : Bk W g 84 #[.int .i64 n1, .int .i64 n2, .int .i64 n3]) (hh : Bk W h 51 #[.int .i64 n1, .int .i64 n2, .int .i64 n3, .int .i64 pc]) => anyT48 (beyP ⟨n1, n2, n3, pc⟩) l At ct W g h ((hlt.below hb (Nat.le_refl _)).more hb.size) hm2 (show Hid _ from fun t hmem W' hb' => by
        obtain ⟨_, ha, hb2, hc, _⟩ := offTint_no (hoff t hmem)
        exact bey1_any t ⟨n1, n2, n3, pc⟩ g h W' (hg.below hb' hg.lt) (hh.below hb' hh.lt) ho ⟨ha, hb2, hc⟩))
      have HB3 := Lib.hid h3
      clear h0 h3 hoff hsh hlt hs HC
      generalize onP ⟨n1, n2, n3, pc⟩ x y z = v at *
      go_enter Try.func19, Try.ntmps19
      rw [H0.out] at HW
      go_wp2_with (first | (go_at_call 36; refine (HW.out _ (by repeat (first | with_reducible exact Below.refl _ _ | with_reducible assumption | with_reducible refine Below.drew ?_ | with_reducible refine below_drewN ?_ _ | (with_reducible refine Below.alloc ?_ ?_ _; rotate_left; (try simp) <;> omega) | (with_reducible refine Below.setCell ?_ ?_ _; rotate_left; (try simp) <;> omega)))).mono ?_; rintro e w1 ⟨rfl, hb1⟩; have X1 := (B2.new (x := x) (y := y) (z := z) (p := ⟨n1, n2, n3, pc⟩) w).below hb1 (by simp); obtain ⟨⟨g0, g1⟩, ⟨x0, x1, x2⟩, y0, y1, y2, y3⟩ := X1.facts; have hB1 : Below w.heap.size w w1 := (Below.trans (by repeat (first | with_reducible exact Below.refl _ _ | with_reducible assumption | with_reducible refine Below.drew ?_ | with_reducible refine below_drewN ?_ _ | (with_reducible refine Below.alloc ?_ ?_ _; rotate_left; (try simp) <;> omega) | (with_reducible refine Below.setCell ?_ ?_ _; rotate_left; (try simp) <;> omega))) (hb1.mono (by first | omega | (simp; omega) | simp)))) | (go_at_call 45; refine (among_is _ _ _ true _ H3.out).mono ?_; rintro e w2 ⟨rfl, rfl⟩))
      go_loopw [22] (fun s wr => ∃ k : Nat, k ≤ 3 ∧ s = .int .i64 k ∧ Hid (∀ j, j < k → norB (N j) = true) ∧ Below w.heap.size w wr ∧ B2 wr w.heap.size x y z ⟨n1, n2, n3, pc⟩) (fun s _ => 3 - (intOf s).toNat)
      case atStart => exact ⟨0, by omega, rfl, fun j hj => absurd hj (by omega), (by repeat (first | with_reducible exact Below.refl _ _ | with_reducible assumption | with_reducible refine Below.drew ?_ | with_reducible refine below_drewN ?_ _ | (with_reducible refine Below.alloc ?_ ?_ _; rotate_left; (try simp) <;> omega) | (with_reducible refine Below.setCell ?_ ?_ _; rotate_left; (try simp) <;> omega))), X1⟩
      case round =>
        clear X1 hb1 hB1 g0 g1 x0 x1 x2 y0 y1 y2 y3
        obtain ⟨k, hk, rfl, hg, hbw, hX⟩ := hrel
        by_cases hk3 : k < 3
        · match k, hk3 with
          | 0, _ =>
            by_cases hn : norB n1 = true
            · have HN : Hid ((decide (-1000000000000 ≤ n1) && decide (n1 ≤ 1000000000000)) = true) := hn
              have H : Hid (∀ j, j < 0 + 1 → norB (N j) = true) := fun j hj => by
                by_cases e : j = 0
                · subst e; rw [HNN.out.1]; exact hn
                · exact hg.out j (by omega)
              clear hn hg
              go_wp2
              rw [idx37_0]
              go_wp2_with (go_at_call 45; refine (among_is _ _ _ true _ HN.out).mono ?_; rintro e w4 ⟨rfl, rfl⟩)
              go_roundw
              case rel => exact ⟨0 + 1, by omega, by go_num, H, (by repeat (first | with_reducible exact Below.refl _ _ | with_reducible assumption | with_reducible refine Below.drew ?_ | with_reducible refine below_drewN ?_ _ | (with_reducible refine Below.alloc ?_ ?_ _; rotate_left; (try simp) <;> omega) | (with_reducible refine Below.setCell ?_ ?_ _; rotate_left; (try simp) <;> omega))), hX⟩
              case measure => simp [intOf]
            · have hn' : norB n1 = false := by simpa using hn
              have HN : Hid ((decide (-1000000000000 ≤ n1) && decide (n1 ≤ 1000000000000)) = false) := hn'
              have E : Hid (cpB l x y z ⟨n1, n2, n3, pc⟩ = false) := by show _ = _; rw [HC2.out]; rw [hn']; simp
              clear hn hn' hg
              go_wp2
              rw [idx37_0]
              go_wp2_with (go_at_call 45; refine (among_is _ _ _ false _ HN.out).mono ?_; rintro e w4 ⟨rfl, rfl⟩)
              go_ret
              exact sh_ret E.out.symm (by repeat (first | with_reducible exact Below.refl _ _ | with_reducible assumption | with_reducible refine Below.drew ?_ | with_reducible refine below_drewN ?_ _ | (with_reducible refine Below.alloc ?_ ?_ _; rotate_left; (try simp) <;> omega) | (with_reducible refine Below.setCell ?_ ?_ _; rotate_left; (try simp) <;> omega)))
          | 1, _ =>
            by_cases hn : norB n2 = true
            · have HN : Hid ((decide (-1000000000000 ≤ n2) && decide (n2 ≤ 1000000000000)) = true) := hn
              have H : Hid (∀ j, j < 1 + 1 → norB (N j) = true) := fun j hj => by
                by_cases e : j = 1
                · subst e; rw [HNN.out.2.1]; exact hn
                · exact hg.out j (by omega)
              clear hn hg
              go_wp2
              rw [idx37_1]
              go_wp2_with (go_at_call 45; refine (among_is _ _ _ true _ HN.out).mono ?_; rintro e w4 ⟨rfl, rfl⟩)
              go_roundw
              case rel => exact ⟨1 + 1, by omega, by go_num, H, (by repeat (first | with_reducible exact Below.refl _ _ | with_reducible assumption | with_reducible refine Below.drew ?_ | with_reducible refine below_drewN ?_ _ | (with_reducible refine Below.alloc ?_ ?_ _; rotate_left; (try simp) <;> omega) | (with_reducible refine Below.setCell ?_ ?_ _; rotate_left; (try simp) <;> omega))), hX⟩
              case measure => simp [intOf]
            · have hn' : norB n2 = false := by simpa using hn
              have HN : Hid ((decide (-1000000000000 ≤ n2) && decide (n2 ≤ 1000000000000)) = false) := hn'
              have E : Hid (cpB l x y z ⟨n1, n2, n3, pc⟩ = false) := by show _ = _; rw [HC2.out]; rw [hn']; simp
              clear hn hn' hg
              go_wp2
              rw [idx37_1]
              go_wp2_with (go_at_call 45; refine (among_is _ _ _ false _ HN.out).mono ?_; rintro e w4 ⟨rfl, rfl⟩)
              go_ret
              exact sh_ret E.out.symm (by repeat (first | with_reducible exact Below.refl _ _ | with_reducible assumption | with_reducible refine Below.drew ?_ | with_reducible refine below_drewN ?_ _ | (with_reducible refine Below.alloc ?_ ?_ _; rotate_left; (try simp) <;> omega) | (with_reducible refine Below.setCell ?_ ?_ _; rotate_left; (try simp) <;> omega)))
          | 2, _ =>
            by_cases hn : norB n3 = true
            · have HN : Hid ((decide (-1000000000000 ≤ n3) && decide (n3 ≤ 1000000000000)) = true) := hn
              have H : Hid (∀ j, j < 2 + 1 → norB (N j) = true) := fun j hj => by
                by_cases e : j = 2
                · subst e; rw [HNN.out.2.2]; exact hn
                · exact hg.out j (by omega)
              clear hn hg
              go_wp2
              rw [idx37_2]
              go_wp2_with (go_at_call 45; refine (among_is _ _ _ true _ HN.out).mono ?_; rintro e w4 ⟨rfl, rfl⟩)
              go_roundw
              case rel => exact ⟨2 + 1, by omega, by go_num, H, (by repeat (first | with_reducible exact Below.refl _ _ | with_reducible assumption | with_reducible refine Below.drew ?_ | with_reducible refine below_drewN ?_ _ | (with_reducible refine Below.alloc ?_ ?_ _; rotate_left; (try simp) <;> omega) | (with_reducible refine Below.setCell ?_ ?_ _; rotate_left; (try simp) <;> omega))), hX⟩
              case measure => simp [intOf]
            · have hn' : norB n3 = false := by simpa using hn
              have HN : Hid ((decide (-1000000000000 ≤ n3) && decide (n3 ≤ 1000000000000)) = false) := hn'
              have E : Hid (cpB l x y z ⟨n1, n2, n3, pc⟩ = false) := by show _ = _; rw [HC2.out]; rw [hn']; simp
              clear hn hn' hg
              go_wp2
              rw [idx37_2]
              go_wp2_with (go_at_call 45; refine (among_is _ _ _ false _ HN.out).mono ?_; rintro e w4 ⟨rfl, rfl⟩)
              go_ret
              exact sh_ret E.out.symm (by repeat (first | with_reducible exact Below.refl _ _ | with_reducible assumption | with_reducible refine Below.drew ?_ | with_reducible refine below_drewN ?_ _ | (with_reducible refine Below.alloc ?_ ?_ _; rotate_left; (try simp) <;> omega) | (with_reducible refine Below.setCell ?_ ?_ _; rotate_left; (try simp) <;> omega)))
        · obtain rfl : k = 3 := by omega
          have hnn := HNN.out
          have hpl : planeB ⟨n1, n2, n3, pc⟩ = true := by
            unfold planeB
            dsimp only
            rw [HB3.out, ← hnn.1, ← hnn.2.1, ← hnn.2.2, hg.out 0 (by omega), hg.out 1 (by omega), hg.out 2 (by omega)]; rfl
          have HOn' := Lib.hid (HOn.out (planeB_ok hpl))
          have HAn' := Lib.hid (HAn.out (planeB_ok hpl))
          have HC3 : Hid (cpB l x y z ⟨n1, n2, n3, pc⟩ = (decide (pc < v) && !(l.any (beyP ⟨n1, n2, n3, pc⟩)))) := by
            show _ = _
            rw [HC2.out, ← hnn.1, ← hnn.2.1, ← hnn.2.2, hg.out 0 (by omega), hg.out 1 (by omega), hg.out 2 (by omega)]; rfl
          clear hnn hpl hg HNN HOn HAn HC2 HB3
          obtain ⟨⟨g0, g1⟩, ⟨x0, x1, x2⟩, y0, y1, y2, y3⟩ := hX.facts
          go_wp2
          have hV := Bk.new wr 84 #[.int .i64 n1, .int .i64 n2, .int .i64 n3]
          have hXa := hX.alloc (.cells #[.int .i64 n1, .int .i64 n2, .int .i64 n3] 84)
          have hBa : Below w.heap.size w (wr.alloc (.cells #[.int .i64 n1, .int .i64 n2, .int .i64 n3] 84)) := hbw.alloc hbw.size _
          obtain ⟨wa, hwa⟩ : ∃ wa, wa = wr.alloc (.cells #[.int .i64 n1, .int .i64 n2, .int .i64 n3] 84) := ⟨_, rfl⟩
          rw [← hwa] at hV hXa hBa ⊢
          clear hwa g0 g1 x0 x1 x2 y0 y1 y2 y3 hX
          obtain ⟨⟨g0, g1⟩, ⟨x0, x1, x2⟩, y0, y1, y2, y3⟩ := hXa.facts
          have lv := hV.lt
          have m0 := hV.cell 0 rfl
          have m1 := hV.cell 1 rfl
          have m2 := hV.cell 2 rfl
          have HK : Hid (∀ w', Below wa.heap.size wa w' → (w'.cell? ⟨w.heap.size, 0, none⟩ = some (.int .i64 x) ∧ w'.cell? ⟨w.heap.size, 1, none⟩ = some (.int .i64 y) ∧ w'.cell? ⟨w.heap.size, 2, none⟩ = some (.int .i64 z)) ∧ w'.cell? ⟨w.heap.size + 1, 3, none⟩ = some (.int .i64 pc) ∧ (w'.cell? ⟨wr.heap.size, 0, none⟩ = some (.int .i64 n1) ∧ w'.cell? ⟨wr.heap.size, 1, none⟩ = some (.int .i64 n2) ∧ w'.cell? ⟨wr.heap.size, 2, none⟩ = some (.int .i64 n3))) := fun W hW =>
            ⟨⟨(hW.cell g0).trans x0, (hW.cell g0).trans x1, (hW.cell g0).trans x2⟩, (hW.cell g1).trans y3, ⟨(hW.cell lv).trans m0, (hW.cell lv).trans m1, (hW.cell lv).trans m2⟩⟩
          by_cases hlt : pc < v
          · have HCt : Hid (cpB l x y z ⟨n1, n2, n3, pc⟩ = !(l.any (beyP ⟨n1, n2, n3, pc⟩))) := by show _ = _; rw [HC3.out, decide_eq_true hlt]; rfl
            clear HC3
            refine wp_region_held_drew (S := fun w' => (w'.cell? ⟨w.heap.size, 0, none⟩ = some (.int .i64 x) ∧ w'.cell? ⟨w.heap.size, 1, none⟩ = some (.int .i64 y) ∧ w'.cell? ⟨w.heap.size, 2, none⟩ = some (.int .i64 z)) ∧ w'.cell? ⟨w.heap.size + 1, 3, none⟩ = some (.int .i64 pc) ∧ (w'.cell? ⟨wr.heap.size, 0, none⟩ = some (.int .i64 n1) ∧ w'.cell? ⟨wr.heap.size, 1, none⟩ = some (.int .i64 n2) ∧ w'.cell? ⟨wr.heap.size, 2, none⟩ = some (.int .i64 n3))) (by kernel_rfl) ?_ (fun hHeld => ?_)
            · exact ⟨⟨x0, x1, x2⟩, y3, ⟨m0, m1, m2⟩⟩
            (refine held_take 0 (some 31) ?_ rfl (by kernel_rfl) (by kernel_rfl) (by kernel_rfl) (by rfl) (fun _ _ _ h => h) (by assumption) (fun w hSw => ?_) ?_; rotate_left; ((try dsimp only at hSw); simp only [List.getElem?_toArray, List.getElem?_cons_zero, List.getElem?_cons_succ, Option.map_some]; refine congrArg some ?_; go_simp; (try with_reducible rfl)); (try simp only [Act.put, List.setIfInBounds_toArray, List.set_cons_zero, List.set_cons_succ]))
            (refine held_take 1 (some 32) ?_ rfl (by kernel_rfl) (by kernel_rfl) (by kernel_rfl) (by rfl) (fun _ _ _ h => h) (by assumption) (fun w hSw => ?_) ?_; rotate_left; ((try dsimp only at hSw); simp only [List.getElem?_toArray, List.getElem?_cons_zero, List.getElem?_cons_succ, Option.map_some]; refine congrArg some ?_; go_simp; (try with_reducible rfl)); (try simp only [Act.put, List.setIfInBounds_toArray, List.set_cons_zero, List.set_cons_succ]))
            (refine held_take 3 (some 34) ?_ rfl (by kernel_rfl) (by kernel_rfl) (by kernel_rfl) (by rfl) (fun _ _ _ h => h) (by assumption) (fun w hSw => ?_) ?_; rotate_left; ((try dsimp only at hSw); simp only [List.getElem?_toArray, List.getElem?_cons_zero, List.getElem?_cons_succ, Option.map_some]; refine congrArg some ?_; go_simp; (try with_reducible rfl)); (try simp only [Act.put, List.setIfInBounds_toArray, List.set_cons_zero, List.set_cons_succ]))
            (refine held_take 4 (some 35) ?_ rfl (by kernel_rfl) (by kernel_rfl) (by kernel_rfl) (by rfl) (fun _ _ _ h => h) (by assumption) (fun w hSw => ?_) ?_; rotate_left; ((try dsimp only at hSw); simp only [List.getElem?_toArray, List.getElem?_cons_zero, List.getElem?_cons_succ, Option.map_some]; refine congrArg some ?_; go_simp; (try with_reducible rfl)); (try simp only [Act.put, List.setIfInBounds_toArray, List.set_cons_zero, List.set_cons_succ]))
            refine held_call 2 (some 33) 46 _ rfl (by kernel_rfl) (by rfl) ?_ (HOn'.out _) ?_
            · simp only [List.getElem?_toArray, List.getElem?_cons_zero, List.getElem?_cons_succ, Option.map_some]
              refine congrArg some ?_
              go_simp
            rintro e w5 ⟨rfl, hb5⟩
            have hR5 : Below wa.heap.size wa w5 := (Below.drew (Below.refl _ _)).trans hb5
            refine ⟨_, rfl, HK.out w5 hR5, fun hHeld => ?_⟩
            (try simp only [Act.put, List.setIfInBounds_toArray, List.set_cons_zero, List.set_cons_succ])
            (refine held_take 5 (some 36) ?_ rfl (by kernel_rfl) (by kernel_rfl) (by kernel_rfl) (by rfl) (fun _ _ _ h => h) (by assumption) (fun w hSw => ?_) ?_; rotate_left; ((try dsimp only at hSw); simp only [List.getElem?_toArray, List.getElem?_cons_zero, List.getElem?_cons_succ, Option.map_some]; refine congrArg some ?_; go_simp; (try with_reducible rfl)); (try simp only [Act.put, List.setIfInBounds_toArray, List.set_cons_zero, List.set_cons_succ]))
            (refine held_take 6 (some 37) ?_ rfl (by kernel_rfl) (by kernel_rfl) (by kernel_rfl) (by rfl) (fun _ _ _ h => h) (by assumption) (fun w hSw => ?_) ?_; rotate_left; ((try dsimp only at hSw); simp only [List.getElem?_toArray, List.getElem?_cons_zero, List.getElem?_cons_succ, Option.map_some]; refine congrArg some ?_; go_simp; (try with_reducible rfl)); (try simp only [Act.put, List.setIfInBounds_toArray, List.set_cons_zero, List.set_cons_succ]))
            (refine held_take 7 (some 38) ?_ rfl (by kernel_rfl) (by kernel_rfl) (by kernel_rfl) (by rfl) (fun _ _ _ h => h) (by assumption) (fun w hSw => ?_) ?_; rotate_left; ((try dsimp only at hSw); simp only [List.getElem?_toArray, List.getElem?_cons_zero, List.getElem?_cons_succ, Option.map_some]; refine congrArg some ?_; go_simp; (try with_reducible rfl)); (try simp only [Act.put, List.setIfInBounds_toArray, List.set_cons_zero, List.set_cons_succ]))
            (refine held_take 8 (some 39) ?_ rfl (by kernel_rfl) (by kernel_rfl) (by kernel_rfl) (by rfl) (fun _ _ _ h => h) (by assumption) (fun w hSw => ?_) ?_; rotate_left; ((try dsimp only at hSw); simp only [List.getElem?_toArray, List.getElem?_cons_zero, List.getElem?_cons_succ, Option.map_some]; refine congrArg some ?_; go_simp; (try with_reducible rfl)); (try simp only [Act.put, List.setIfInBounds_toArray, List.set_cons_zero, List.set_cons_succ]))
            refine held_call 9 (some 40) 47 _ rfl (by kernel_rfl) (by simp [Region.wanted, yielded, hlt]) ?_ (HAn'.out _ wr.heap.size (w.heap.size + 1) (hBa.trans (hR5.mono hBa.size)) (hV.below hR5 lv) (hXa.2.below hR5 g1)) ?_
            · simp only [List.getElem?_toArray, List.getElem?_cons_zero, List.getElem?_cons_succ, Option.map_some]
              refine congrArg some ?_
              go_simp
            rintro e w6 ⟨rfl, hb6⟩
            have hR6 : Below wa.heap.size wa w6 := hR5.trans (hb6.mono hR5.size)
            have hB6 : Below w.heap.size w w6 := hBa.trans (hR6.mono hBa.size)
            refine ⟨_, rfl, HK.out w6 hR6, fun hHeld => ?_⟩
            (try simp only [Act.put, List.setIfInBounds_toArray, List.set_cons_zero, List.set_cons_succ])
            (refine held_take 10 (some 41) ?_ rfl (by kernel_rfl) (by kernel_rfl) (by kernel_rfl) (by rfl) (fun _ _ _ h => h) (by assumption) (fun w hSw => ?_) ?_; rotate_left; ((try dsimp only at hSw); simp only [List.getElem?_toArray, List.getElem?_cons_zero, List.getElem?_cons_succ, Option.map_some]; refine congrArg some ?_; go_simp; (try with_reducible rfl)); (try simp only [Act.put, List.setIfInBounds_toArray, List.set_cons_zero, List.set_cons_succ]))
            (refine held_take 11 (some 42) ?_ rfl (by kernel_rfl) (by kernel_rfl) (by kernel_rfl) (by rfl) (fun _ _ _ h => h) (by assumption) (fun w hSw => ?_) ?_; rotate_left; ((try dsimp only at hSw); simp only [List.getElem?_toArray, List.getElem?_cons_zero, List.getElem?_cons_succ, Option.map_some]; refine congrArg some ?_; go_simp; (try with_reducible rfl)); (try simp only [Act.put, List.setIfInBounds_toArray, List.set_cons_zero, List.set_cons_succ]))
            (refine held_take 12 (some 6) ?_ rfl (by kernel_rfl) (by kernel_rfl) (by kernel_rfl) (by rfl) (fun _ _ _ h => h) (by assumption) (fun w hSw => ?_) ?_; rotate_left; ((try dsimp only at hSw); simp only [List.getElem?_toArray, List.getElem?_cons_zero, List.getElem?_cons_succ, Option.map_some]; refine congrArg some ?_; go_simp; (try with_reducible rfl)); (try simp only [Act.put, List.setIfInBounds_toArray, List.set_cons_zero, List.set_cons_succ]))
            refine wpAnyH_done (by kernel_rfl) ?_ _
            go_wp2
            go_ret
            exact sh_ret HCt.out.symm (by repeat (first | with_reducible exact Below.refl _ _ | with_reducible assumption | with_reducible refine Below.drew ?_ | with_reducible refine below_drewN ?_ _ | (with_reducible refine Below.alloc ?_ ?_ _; rotate_left; (try simp) <;> omega) | (with_reducible refine Below.setCell ?_ ?_ _; rotate_left; (try simp) <;> omega)))
          · have HCf : Hid (cpB l x y z ⟨n1, n2, n3, pc⟩ = false) := by show _ = _; rw [HC3.out, decide_eq_false hlt]; rfl
            clear HC3
            refine wp_region_held_drew (S := fun w' => (w'.cell? ⟨w.heap.size, 0, none⟩ = some (.int .i64 x) ∧ w'.cell? ⟨w.heap.size, 1, none⟩ = some (.int .i64 y) ∧ w'.cell? ⟨w.heap.size, 2, none⟩ = some (.int .i64 z)) ∧ w'.cell? ⟨w.heap.size + 1, 3, none⟩ = some (.int .i64 pc) ∧ (w'.cell? ⟨wr.heap.size, 0, none⟩ = some (.int .i64 n1) ∧ w'.cell? ⟨wr.heap.size, 1, none⟩ = some (.int .i64 n2) ∧ w'.cell? ⟨wr.heap.size, 2, none⟩ = some (.int .i64 n3))) (by kernel_rfl) ?_ (fun hHeld => ?_)
            · exact ⟨⟨x0, x1, x2⟩, y3, ⟨m0, m1, m2⟩⟩
            (refine held_take 0 (some 31) ?_ rfl (by kernel_rfl) (by kernel_rfl) (by kernel_rfl) (by rfl) (fun _ _ _ h => h) (by assumption) (fun w hSw => ?_) ?_; rotate_left; ((try dsimp only at hSw); simp only [List.getElem?_toArray, List.getElem?_cons_zero, List.getElem?_cons_succ, Option.map_some]; refine congrArg some ?_; go_simp; (try with_reducible rfl)); (try simp only [Act.put, List.setIfInBounds_toArray, List.set_cons_zero, List.set_cons_succ]))
            (refine held_take 1 (some 32) ?_ rfl (by kernel_rfl) (by kernel_rfl) (by kernel_rfl) (by rfl) (fun _ _ _ h => h) (by assumption) (fun w hSw => ?_) ?_; rotate_left; ((try dsimp only at hSw); simp only [List.getElem?_toArray, List.getElem?_cons_zero, List.getElem?_cons_succ, Option.map_some]; refine congrArg some ?_; go_simp; (try with_reducible rfl)); (try simp only [Act.put, List.setIfInBounds_toArray, List.set_cons_zero, List.set_cons_succ]))
            (refine held_take 3 (some 34) ?_ rfl (by kernel_rfl) (by kernel_rfl) (by kernel_rfl) (by rfl) (fun _ _ _ h => h) (by assumption) (fun w hSw => ?_) ?_; rotate_left; ((try dsimp only at hSw); simp only [List.getElem?_toArray, List.getElem?_cons_zero, List.getElem?_cons_succ, Option.map_some]; refine congrArg some ?_; go_simp; (try with_reducible rfl)); (try simp only [Act.put, List.setIfInBounds_toArray, List.set_cons_zero, List.set_cons_succ]))
            (refine held_take 4 (some 35) ?_ rfl (by kernel_rfl) (by kernel_rfl) (by kernel_rfl) (by rfl) (fun _ _ _ h => h) (by assumption) (fun w hSw => ?_) ?_; rotate_left; ((try dsimp only at hSw); simp only [List.getElem?_toArray, List.getElem?_cons_zero, List.getElem?_cons_succ, Option.map_some]; refine congrArg some ?_; go_simp; (try with_reducible rfl)); (try simp only [Act.put, List.setIfInBounds_toArray, List.set_cons_zero, List.set_cons_succ]))
            refine held_call 2 (some 33) 46 _ rfl (by kernel_rfl) (by rfl) ?_ (HOn'.out _) ?_
            · simp only [List.getElem?_toArray, List.getElem?_cons_zero, List.getElem?_cons_succ, Option.map_some]
              refine congrArg some ?_
              go_simp
            rintro e w5 ⟨rfl, hb5⟩
            have hR5 : Below wa.heap.size wa w5 := (Below.drew (Below.refl _ _)).trans hb5
            refine ⟨_, rfl, HK.out w5 hR5, fun hHeld => ?_⟩
            (try simp only [Act.put, List.setIfInBounds_toArray, List.set_cons_zero, List.set_cons_succ])
            (refine held_take 5 (some 36) ?_ rfl (by kernel_rfl) (by kernel_rfl) (by kernel_rfl) (by rfl) (fun _ _ _ h => h) (by assumption) (fun w hSw => ?_) ?_; rotate_left; ((try dsimp only at hSw); simp only [List.getElem?_toArray, List.getElem?_cons_zero, List.getElem?_cons_succ, Option.map_some]; refine congrArg some ?_; go_simp; (try with_reducible rfl)); (try simp only [Act.put, List.setIfInBounds_toArray, List.set_cons_zero, List.set_cons_succ]))
            (refine held_take 6 (some 37) ?_ rfl (by kernel_rfl) (by kernel_rfl) (by kernel_rfl) (by rfl) (fun _ _ _ h => h) (by assumption) (fun w hSw => ?_) ?_; rotate_left; ((try dsimp only at hSw); simp only [List.getElem?_toArray, List.getElem?_cons_zero, List.getElem?_cons_succ, Option.map_some]; refine congrArg some ?_; go_simp; (try with_reducible rfl)); (try simp only [Act.put, List.setIfInBounds_toArray, List.set_cons_zero, List.set_cons_succ]))
            (refine held_skip 7 (some 38) rfl (by kernel_rfl) (by kernel_rfl) (by kernel_rfl) (by rfl) (fun _ _ _ h => h) (by assumption) ?_; (try simp only [Act.put, List.setIfInBounds_toArray, List.set_cons_zero, List.set_cons_succ]))
            (refine held_skip 8 (some 39) rfl (by kernel_rfl) (by kernel_rfl) (by kernel_rfl) (by rfl) (fun _ _ _ h => h) (by assumption) ?_; (try simp only [Act.put, List.setIfInBounds_toArray, List.set_cons_zero, List.set_cons_succ]))
            (refine held_skip 9 (some 40) rfl (by kernel_rfl) (by kernel_rfl) (by kernel_rfl) (by rfl) (fun _ _ _ h => h) (by assumption) ?_; (try simp only [Act.put, List.setIfInBounds_toArray, List.set_cons_zero, List.set_cons_succ]))
            (refine held_skip 10 (some 41) rfl (by kernel_rfl) (by kernel_rfl) (by kernel_rfl) (by rfl) (fun _ _ _ h => h) (by assumption) ?_; (try simp only [Act.put, List.setIfInBounds_toArray, List.set_cons_zero, List.set_cons_succ]))
            (refine held_take 11 (some 42) ?_ rfl (by kernel_rfl) (by kernel_rfl) (by kernel_rfl) (by rfl) (fun _ _ _ h => h) (by assumption) (fun w hSw => ?_) ?_; rotate_left; ((try dsimp only at hSw); simp only [List.getElem?_toArray, List.getElem?_cons_zero, List.getElem?_cons_succ, Option.map_some]; refine congrArg some ?_; go_simp; (try with_reducible rfl)); (try simp only [Act.put, List.setIfInBounds_toArray, List.set_cons_zero, List.set_cons_succ]))
            (refine held_take 12 (some 6) ?_ rfl (by kernel_rfl) (by kernel_rfl) (by kernel_rfl) (by rfl) (fun _ _ _ h => h) (by assumption) (fun w hSw => ?_) ?_; rotate_left; ((try dsimp only at hSw); simp only [List.getElem?_toArray, List.getElem?_cons_zero, List.getElem?_cons_succ, Option.map_some]; refine congrArg some ?_; go_simp; (try with_reducible rfl)); (try simp only [Act.put, List.setIfInBounds_toArray, List.set_cons_zero, List.set_cons_succ]))
            refine wpAnyH_done (by kernel_rfl) ?_ _
            have hB5 : Below w.heap.size w w5 := hBa.trans (hR5.mono hBa.size)
            go_wp2
            go_ret
            exact sh_ret HCf.out.symm (by repeat (first | with_reducible exact Below.refl _ _ | with_reducible assumption | with_reducible refine Below.drew ?_ | with_reducible refine below_drewN ?_ _ | (with_reducible refine Below.alloc ?_ ?_ _; rotate_left; (try simp) <;> omega) | (with_reducible refine Below.setCell ?_ ?_ _; rotate_left; (try simp) <;> omega)))
    · have h3' : asideB pc = false := by simpa using h3
      have H3 : Hid ((decide (-10000000000000000 ≤ pc) && decide (pc ≤ 10000000000000000)) = false) := h3'
      have E : Hid (cpB l x y z ⟨n1, n2, n3, pc⟩ = false) := by show _ = _; rw [HC.out]; unfold planeB; dsimp only; rw [h3']; simp
      rw [h0] at HW
      clear h0 h3 h3' hoff hsh hlt hs HC
      go_enter Try.func19, Try.ntmps19
      go_wp2_with (first | (go_at_call 36; refine (HW.out _ (by repeat (first | with_reducible exact Below.refl _ _ | with_reducible assumption | with_reducible refine Below.drew ?_ | with_reducible refine below_drewN ?_ _ | (with_reducible refine Below.alloc ?_ ?_ _; rotate_left; (try simp) <;> omega) | (with_reducible refine Below.setCell ?_ ?_ _; rotate_left; (try simp) <;> omega)))).mono ?_; rintro e w1 ⟨rfl, hb1⟩; have X1 := (B2.new (x := x) (y := y) (z := z) (p := ⟨n1, n2, n3, pc⟩) w).below hb1 (by simp); obtain ⟨⟨g0, g1⟩, ⟨x0, x1, x2⟩, y0, y1, y2, y3⟩ := X1.facts; have hB1 : Below w.heap.size w w1 := (Below.trans (by repeat (first | with_reducible exact Below.refl _ _ | with_reducible assumption | with_reducible refine Below.drew ?_ | with_reducible refine below_drewN ?_ _ | (with_reducible refine Below.alloc ?_ ?_ _; rotate_left; (try simp) <;> omega) | (with_reducible refine Below.setCell ?_ ?_ _; rotate_left; (try simp) <;> omega))) (hb1.mono (by first | omega | (simp; omega) | simp)))) | (go_at_call 45; refine (among_is _ _ _ false _ H3.out).mono ?_; rintro e w2 ⟨rfl, rfl⟩))
      go_ret
      exact sh_ret E.out.symm (by repeat (first | with_reducible exact Below.refl _ _ | with_reducible assumption | with_reducible refine Below.drew ?_ | with_reducible refine below_drewN ?_ _ | (with_reducible refine Below.alloc ?_ ?_ _; rotate_left; (try simp) <;> omega) | (with_reducible refine Below.setCell ?_ ?_ _; rotate_left; (try simp) <;> omega)))
  · have E : Hid (cpB l x y z ⟨n1, n2, n3, pc⟩ = false) := by show _ = _; rw [HC.out, decide_eq_false h0]; rfl
    generalize chkW l x y z = q at *
    have hq1 : (q != 0) = true := by rw [bne_iff_ne]; exact h0
    clear h0 hlt hs HC
    go_enter Try.func19, Try.ntmps19
    go_wp2_with (go_at_call 36; refine (HW.out _ (by repeat (first | with_reducible exact Below.refl _ _ | with_reducible assumption | with_reducible refine Below.drew ?_ | with_reducible refine below_drewN ?_ _ | (with_reducible refine Below.alloc ?_ ?_ _; rotate_left; (try simp) <;> omega) | (with_reducible refine Below.setCell ?_ ?_ _; rotate_left; (try simp) <;> omega)))).mono ?_; rintro e w1 ⟨rfl, hb1⟩)
    go_ret
    exact sh_ret E.out.symm (Below.trans (by repeat (first | with_reducible exact Below.refl _ _ | with_reducible assumption | with_reducible refine Below.drew ?_ | with_reducible refine below_drewN ?_ _ | (with_reducible refine Below.alloc ?_ ?_ _; rotate_left; (try simp) <;> omega) | (with_reducible refine Below.setCell ?_ ?_ _; rotate_left; (try simp) <;> omega))) (hb1.mono (by first | omega | (simp; omega) | simp)))
end Go.Proofs.Ytkjceegmmhnajaa
