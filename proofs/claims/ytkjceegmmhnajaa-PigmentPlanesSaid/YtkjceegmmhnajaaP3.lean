/- CheckPlane of the reference. -/
import Derived.Test.YtkjceegmmhnajaaP1
namespace Go.Proofs.Ytkjceegmmhnajaa
open Go.RowKit

theorem any_none {p : Pl} {l : List Tn} (h : ∀ j (hj : j < l.length), beyP p l[j] = false) : l.any (beyP p) = false := by
  rw [List.any_eq_false]
  intro t ht
  obtain ⟨i, hi, rfl⟩ := List.mem_iff_getElem.1 ht
  rw [h i hi]; simp
theorem any_some {p : Pl} {l : List Tn} {j : Nat} (hj : j < l.length) (h : beyP p l[j] = true) : l.any (beyP p) = true := List.any_eq_true.2 ⟨_, List.getElem_mem hj, h⟩

set_option maxRecDepth 100000 in
set_option maxHeartbeats 4000000 in
theorem rcheckPlane_any (l : List Tn) (p : Pl) (x y z : Int) (At : Option Addr) (ct : Nat) (w : World) (hlt : Lies w w.heap.size At (tintsC l)) (hm2 : l.length ≤ 1000) (hs : ∀ t ∈ l, t.name.size ≤ 100) :
    Calls Try.prog 20 #[.slice At l.length ct, .agg #[.int .i64 x, .int .i64 y, .int .i64 z], p.agg] w (ShEnd (cpB l x y z p) w) := by
  have HW := Lib.hid (fun W (hb : Below w.heap.size w W) => rwanted_any l At ct x y z W ((hlt.below hb (Nat.le_refl _)).more hb.size) hm2 hs)
  have HC : Hid (cpB l x y z p = (decide (chkW l x y z = 0) && (planeB p && (decide (p.c < onP p x y z) && !(l.any (beyP p)))))) := rfl
  obtain ⟨⟨n1, n2, n3, pc⟩, hp⟩ : ∃ p', p' = p := ⟨p, rfl⟩
  subst hp
  by_cases h0 : chkW l x y z = 0
  · have hoff : ∀ t ∈ l, offTint t = false := by
      unfold chkW at h0
      split at h0
      · rename_i hc; exact (chkT_ok hc).2.2.1
      · rename_i hc; exact absurd h0 hc
    have hsh : shadeB x y z = true := by
      unfold chkW at h0
      split at h0
      · split at h0
        · assumption
        · cases h0
      · rename_i hc; exact absurd h0 hc
    by_cases h3 : asideB pc = true
    · obtain ⟨b1, b2⟩ := asideB_iff.1 h3
      have b1' : ¬ pc < (-10000000000000000 : Int) := by omega
      have b2' : ¬ (10000000000000000 : Int) < pc := by omega
      have HC2 : Hid (cpB l x y z ⟨n1, n2, n3, pc⟩ = ((norB n1 && (norB n2 && norB n3)) && (decide (pc < onP ⟨n1, n2, n3, pc⟩ x y z) && !(l.any (beyP ⟨n1, n2, n3, pc⟩))))) := by
        show _ = _
        rw [HC.out, h0]; unfold planeB; dsimp only; rw [h3]; rfl
      obtain ⟨N, hN⟩ : ∃ N : Nat → Int, N 0 = n1 ∧ N 1 = n2 ∧ N 2 = n3 := ⟨fun k => if k = 0 then n1 else if k = 1 then n2 else n3, rfl, rfl, rfl⟩
      have HNN := Lib.hid hN; clear hN
      have HOn := Lib.hid (fun (ho : okPl ⟨n1, n2, n3, pc⟩) W => ronP_any (a := x) (b := y) (c := z) ho (shIn_of hsh) W)
      have HLi : Hid (∀ W : World, Below w.heap.size w W → Lies W w.heap.size At (tintsC l)) := fun W hb => hlt.below hb (Nat.le_refl _)
      have HOf := Lib.hid hoff
      have HB3 := Lib.hid h3
      rw [h0] at HW
      clear h0 h3 hoff hsh hlt hs HC b1 b2
      generalize hv : onP ⟨n1, n2, n3, pc⟩ x y z = v at *
      clear hv
      go_enter Try.func20, Try.ntmps20
      go_wp2_with (go_at_call 49; refine (HW.out _ (by repeat (first | with_reducible exact Below.refl _ _ | with_reducible assumption | with_reducible refine Below.drew ?_ | with_reducible refine below_drewN ?_ _ | (with_reducible refine Below.alloc ?_ ?_ _; rotate_left; (try simp) <;> omega) | (with_reducible refine Below.setCell ?_ ?_ _; rotate_left; (try simp) <;> omega)))).mono ?_; rintro e w1 ⟨rfl, hb1⟩; have X1 := (B2.new (x := x) (y := y) (z := z) (p := ⟨n1, n2, n3, pc⟩) w).below hb1 (by simp); obtain ⟨⟨g0, g1⟩, ⟨x0, x1, x2⟩, y0, y1, y2, y3⟩ := X1.facts; have hB1 : Below w.heap.size w w1 := (Below.trans (by repeat (first | with_reducible exact Below.refl _ _ | with_reducible assumption | with_reducible refine Below.drew ?_ | with_reducible refine below_drewN ?_ _ | (with_reducible refine Below.alloc ?_ ?_ _; rotate_left; (try simp) <;> omega) | (with_reducible refine Below.setCell ?_ ?_ _; rotate_left; (try simp) <;> omega))) (hb1.mono (by first | omega | (simp; omega) | simp))))
      go_loopw [8] (fun s wr => ∃ k : Nat, k ≤ 3 ∧ s = .int .i64 k ∧ Hid (∀ j, j < k → norB (N j) = true) ∧ Below w.heap.size w wr ∧ B2 wr w.heap.size x y z ⟨n1, n2, n3, pc⟩) (fun s _ => 3 - (intOf s).toNat)
      case atStart => exact ⟨0, by omega, rfl, fun j hj => absurd hj (by omega), (by repeat (first | with_reducible exact Below.refl _ _ | with_reducible assumption | with_reducible refine Below.drew ?_ | with_reducible refine below_drewN ?_ _ | (with_reducible refine Below.alloc ?_ ?_ _; rotate_left; (try simp) <;> omega) | (with_reducible refine Below.setCell ?_ ?_ _; rotate_left; (try simp) <;> omega))), X1⟩
      case round =>
        clear X1 hb1 hB1 g0 g1 x0 x1 x2 y0 y1 y2 y3
        obtain ⟨k, hk, rfl, hg, hbw, hX⟩ := hrel
        obtain ⟨⟨g0, g1⟩, ⟨x0, x1, x2⟩, y0, y1, y2, y3⟩ := hX.facts
        by_cases hk3 : k < 3
        · have ck : wr.cell? ⟨w.heap.size + 1, k, none⟩ = some (.int .i64 (N k)) := hX.2.cell k (by
            match k, hk3 with
            | 0, _ => rw [HNN.out.1]; rfl
            | 1, _ => rw [HNN.out.2.1]; rfl
            | 2, _ => rw [HNN.out.2.2]; rfl)
          have hlt' : (k : Int) < 3 := by omega
          have hkn : 0 ≤ (k : Int) := by omega
          by_cases hn : norB (N k) = true
          · have H : Hid (∀ j, j < k + 1 → norB (N j) = true) := fun j hj => by
              by_cases e : j = k
              · subst e; exact hn
              · exact hg.out j (by omega)
            obtain ⟨a1, a2⟩ := norB_iff.1 hn
            have a1' : ¬ N k < (-1000000000000 : Int) := by omega
            have a2' : ¬ (1000000000000 : Int) < N k := by omega
            clear hn hg a1 a2
            go_wp2
            go_roundw
            case rel => exact ⟨k + 1, by omega, by go_num, H, (by repeat (first | with_reducible exact Below.refl _ _ | with_reducible assumption | with_reducible refine Below.drew ?_ | with_reducible refine below_drewN ?_ _ | (with_reducible refine Below.alloc ?_ ?_ _; rotate_left; (try simp) <;> omega) | (with_reducible refine Below.setCell ?_ ?_ _; rotate_left; (try simp) <;> omega))), hX⟩
            case measure => simp [intOf]; omega
          · have hn' : norB (N k) = false := by simpa using hn
            have E : Hid (cpB l x y z ⟨n1, n2, n3, pc⟩ = false) := by
              show _ = _
              rw [HC2.out]
              match k, hk3 with
              | 0, _ => rw [HNN.out.1] at hn'; rw [hn']; simp
              | 1, _ => rw [HNN.out.2.1] at hn'; rw [hn']; simp
              | 2, _ => rw [HNN.out.2.2] at hn'; rw [hn']; simp
            by_cases a1 : N k < (-1000000000000 : Int)
            · clear hn hn' hg
              go_wp2
              go_ret
              exact sh_ret E.out.symm (by repeat (first | with_reducible exact Below.refl _ _ | with_reducible assumption | with_reducible refine Below.drew ?_ | with_reducible refine below_drewN ?_ _ | (with_reducible refine Below.alloc ?_ ?_ _; rotate_left; (try simp) <;> omega) | (with_reducible refine Below.setCell ?_ ?_ _; rotate_left; (try simp) <;> omega)))
            · have a2 : (1000000000000 : Int) < N k := by
                rcases Int.lt_or_le 1000000000000 (N k) with h | h
                · exact h
                · exact absurd (norB_iff.2 ⟨by omega, h⟩) hn
              clear hn hn' hg
              go_wp2
              go_ret
              exact sh_ret E.out.symm (by repeat (first | with_reducible exact Below.refl _ _ | with_reducible assumption | with_reducible refine Below.drew ?_ | with_reducible refine below_drewN ?_ _ | (with_reducible refine Below.alloc ?_ ?_ _; rotate_left; (try simp) <;> omega) | (with_reducible refine Below.setCell ?_ ?_ _; rotate_left; (try simp) <;> omega)))
        · obtain rfl : k = 3 := by omega
          have hnn := HNN.out
          have hpl : planeB ⟨n1, n2, n3, pc⟩ = true := by
            unfold planeB
            dsimp only
            rw [HB3.out, ← hnn.1, ← hnn.2.1, ← hnn.2.2, hg.out 0 (by omega), hg.out 1 (by omega), hg.out 2 (by omega)]; rfl
          have hok := planeB_ok hpl
          have HOn' := Lib.hid (HOn.out hok)
          have HOk := Lib.hid hok
          have HC3 : Hid (cpB l x y z ⟨n1, n2, n3, pc⟩ = (decide (pc < v) && !(l.any (beyP ⟨n1, n2, n3, pc⟩)))) := by
            show _ = _
            rw [HC2.out, ← hnn.1, ← hnn.2.1, ← hnn.2.2, hg.out 0 (by omega), hg.out 1 (by omega), hg.out 2 (by omega)]; rfl
          clear hnn hpl hok hg HNN HOn HC2 HB3
          go_wp2
          obtain ⟨wv, hwv⟩ : ∃ wv, wv = wr := ⟨_, rfl⟩
          subst hwv
          go_loopw [9] (fun s wr => ∃ k : Nat, k ≤ l.length ∧ s = .int .i64 k ∧ Hid (∀ j (hj : j < k) (h' : j < l.length), beyP ⟨n1, n2, n3, pc⟩ l[j] = false) ∧ Below w.heap.size w wr ∧ B2 wr w.heap.size x y z ⟨n1, n2, n3, pc⟩) (fun s _ => l.length - (intOf s).toNat)
          case atStart => exact ⟨0, by omega, rfl, fun j hj => absurd hj (by omega), (by repeat (first | with_reducible exact Below.refl _ _ | with_reducible assumption | with_reducible refine Below.drew ?_ | with_reducible refine below_drewN ?_ _ | (with_reducible refine Below.alloc ?_ ?_ _; rotate_left; (try simp) <;> omega) | (with_reducible refine Below.setCell ?_ ?_ _; rotate_left; (try simp) <;> omega))), hX⟩
          case round =>
            clear g0 g1 x0 x1 x2 y0 y1 y2 y3 hX hbw
            obtain ⟨k, hk, rfl, hg, hbw, hX⟩ := hrel
            obtain ⟨⟨g0, g1⟩, ⟨x0, x1, x2⟩, y0, y1, y2, y3⟩ := hX.facts
            by_cases hlk : k < l.length
            · obtain ⟨ad, rfl, hab, c0, c1, c2, c3, c4⟩ := tint_at (HLi.out wr hbw) hlk
              have hab' : (ad.add (k * 5)).block < wr.heap.size := by rw [add_block]; have := hbw.size; omega
              obtain ⟨_, t1, t2, t3, _⟩ := offTint_no (HOf.out _ (List.getElem_mem hlk))
              have hkI : (k : Int) < (l.length : Int) := by omega
              have hkN : 0 ≤ (k : Int) := by omega
              have hOv : beyP ⟨n1, n2, n3, pc⟩ l[k] = decide (pc < onP ⟨n1, n2, n3, pc⟩ l[k].a l[k].b l[k].c) := rfl
              have HgS : Hid (beyP ⟨n1, n2, n3, pc⟩ l[k] = false → ∀ j (hj : j < k + 1) (h' : j < l.length), beyP ⟨n1, n2, n3, pc⟩ l[j] = false) := fun h j hj h' => by
                by_cases e : j = k
                · subst e; exact h
                · exact hg.out j (by omega) h'
              have HgF : Hid (beyP ⟨n1, n2, n3, pc⟩ l[k] = true → cpB l x y z ⟨n1, n2, n3, pc⟩ = false) := fun h => by
                rw [HC3.out, any_some hlk h]; simp
              have HDot := Lib.hid (fun W => ronP_any (a := l[k].a) (b := l[k].b) (c := l[k].c) HOk.out ⟨t1, t2, t3⟩ W)
              clear hg
              generalize beyP ⟨n1, n2, n3, pc⟩ l[k] = ov at *
              generalize onP ⟨n1, n2, n3, pc⟩ l[k].a l[k].b l[k].c = u at *
              generalize l[k].name = nm at *
              generalize l[k].a = ta at *
              generalize l[k].b = tb at *
              generalize l[k].c = tc at *
              generalize l[k].price = tp at *
              have HK : Hid (∀ w', Below wr.heap.size wr w' → (w'.cell? ⟨w.heap.size + 1, 0, none⟩ = some (.int .i64 n1) ∧ w'.cell? ⟨w.heap.size + 1, 1, none⟩ = some (.int .i64 n2) ∧ w'.cell? ⟨w.heap.size + 1, 2, none⟩ = some (.int .i64 n3) ∧ w'.cell? ⟨w.heap.size + 1, 3, none⟩ = some (.int .i64 pc)) ∧ (w'.cell? ⟨(ad.add (k * 5)).block, (ad.add (k * 5)).off + 1, none⟩ = some (.int .i64 ta) ∧ w'.cell? ⟨(ad.add (k * 5)).block, (ad.add (k * 5)).off + 2, none⟩ = some (.int .i64 tb) ∧ w'.cell? ⟨(ad.add (k * 5)).block, (ad.add (k * 5)).off + 3, none⟩ = some (.int .i64 tc))) := fun W hW =>
                ⟨⟨(hW.cell g1).trans y0, (hW.cell g1).trans y1, (hW.cell g1).trans y2, (hW.cell g1).trans y3⟩, ⟨(hW.cell (p := ⟨(ad.add (k * 5)).block, (ad.add (k * 5)).off + 1, none⟩) hab').trans c1, (hW.cell (p := ⟨(ad.add (k * 5)).block, (ad.add (k * 5)).off + 2, none⟩) hab').trans c2, (hW.cell (p := ⟨(ad.add (k * 5)).block, (ad.add (k * 5)).off + 3, none⟩) hab').trans c3⟩⟩
              have HX5 : Hid (∀ W, Below wr.heap.size wr W → B2 W w.heap.size x y z ⟨n1, n2, n3, pc⟩) := fun W hW => hX.below hW hX.lt
              clear hX t1 t2 t3
              by_cases hov : pc < u
              · have E := Lib.hid (HgF.out (by rw [hOv, decide_eq_true hov]))
                clear HgF HgS hOv
                go_wp2
                go_region_held3 (fun w' => (w'.cell? ⟨w.heap.size + 1, 0, none⟩ = some (.int .i64 n1) ∧ w'.cell? ⟨w.heap.size + 1, 1, none⟩ = some (.int .i64 n2) ∧ w'.cell? ⟨w.heap.size + 1, 2, none⟩ = some (.int .i64 n3) ∧ w'.cell? ⟨w.heap.size + 1, 3, none⟩ = some (.int .i64 pc)) ∧ (w'.cell? ⟨(ad.add (k * 5)).block, (ad.add (k * 5)).off + 1, none⟩ = some (.int .i64 ta) ∧ w'.cell? ⟨(ad.add (k * 5)).block, (ad.add (k * 5)).off + 2, none⟩ = some (.int .i64 tb) ∧ w'.cell? ⟨(ad.add (k * 5)).block, (ad.add (k * 5)).off + 3, none⟩ = some (.int .i64 tc)))
                  (first | go_keep | (refine ⟨⟨?_, ?_, ?_, ?_⟩, ⟨?_, ?_, ?_⟩⟩ <;> first | assumption | go_keep))
                  (first | (go_at_call 50; refine (HDot.out _).mono ?_; rintro e w3 ⟨rfl, hb3⟩; have hR3 : Below wr.heap.size wr w3 := (Below.trans (by repeat (first | with_reducible exact Below.refl _ _ | with_reducible assumption | with_reducible refine Below.drew ?_ | with_reducible refine below_drewN ?_ _ | (with_reducible refine Below.alloc ?_ ?_ _; rotate_left; (try simp) <;> omega) | (with_reducible refine Below.setCell ?_ ?_ _; rotate_left; (try simp) <;> omega))) (hb3.mono (by first | omega | (simp; omega) | simp))); obtain ⟨⟨q0, q1, q2, q3⟩, ⟨q4, q5, q6⟩⟩ := HK.out w3 hR3))
                all_goals
                  have hB3 : Below w.heap.size w w3 := hbw.trans (hR3.mono hbw.size)
                  go_wp2
                  go_ret
                  exact sh_ret E.out.symm (by repeat (first | with_reducible exact Below.refl _ _ | with_reducible assumption | with_reducible refine Below.drew ?_ | with_reducible refine below_drewN ?_ _ | (with_reducible refine Below.alloc ?_ ?_ _; rotate_left; (try simp) <;> omega) | (with_reducible refine Below.setCell ?_ ?_ _; rotate_left; (try simp) <;> omega)))
              · have H := Lib.hid (HgS.out (by rw [hOv, decide_eq_false hov]))
                clear HgF HgS hOv
                go_wp2
                go_region_held3 (fun w' => (w'.cell? ⟨w.heap.size + 1, 0, none⟩ = some (.int .i64 n1) ∧ w'.cell? ⟨w.heap.size + 1, 1, none⟩ = some (.int .i64 n2) ∧ w'.cell? ⟨w.heap.size + 1, 2, none⟩ = some (.int .i64 n3) ∧ w'.cell? ⟨w.heap.size + 1, 3, none⟩ = some (.int .i64 pc)) ∧ (w'.cell? ⟨(ad.add (k * 5)).block, (ad.add (k * 5)).off + 1, none⟩ = some (.int .i64 ta) ∧ w'.cell? ⟨(ad.add (k * 5)).block, (ad.add (k * 5)).off + 2, none⟩ = some (.int .i64 tb) ∧ w'.cell? ⟨(ad.add (k * 5)).block, (ad.add (k * 5)).off + 3, none⟩ = some (.int .i64 tc)))
                  (first | go_keep | (refine ⟨⟨?_, ?_, ?_, ?_⟩, ⟨?_, ?_, ?_⟩⟩ <;> first | assumption | go_keep))
                  (first | (go_at_call 50; refine (HDot.out _).mono ?_; rintro e w3 ⟨rfl, hb3⟩; have hR3 : Below wr.heap.size wr w3 := (Below.trans (by repeat (first | with_reducible exact Below.refl _ _ | with_reducible assumption | with_reducible refine Below.drew ?_ | with_reducible refine below_drewN ?_ _ | (with_reducible refine Below.alloc ?_ ?_ _; rotate_left; (try simp) <;> omega) | (with_reducible refine Below.setCell ?_ ?_ _; rotate_left; (try simp) <;> omega))) (hb3.mono (by first | omega | (simp; omega) | simp))); obtain ⟨⟨q0, q1, q2, q3⟩, ⟨q4, q5, q6⟩⟩ := HK.out w3 hR3))
                all_goals
                  have hB3 : Below w.heap.size w w3 := hbw.trans (hR3.mono hbw.size)
                  go_wp2
                  go_roundw
                case rel => exact ⟨k + 1, by omega, by go_num, H, (by repeat (first | with_reducible exact Below.refl _ _ | with_reducible assumption | with_reducible refine Below.drew ?_ | with_reducible refine below_drewN ?_ _ | (with_reducible refine Below.alloc ?_ ?_ _; rotate_left; (try simp) <;> omega) | (with_reducible refine Below.setCell ?_ ?_ _; rotate_left; (try simp) <;> omega))), HX5.out w3 hR3⟩
                case measure => simp [intOf]; omega
            · obtain rfl : k = l.length := by omega
              have hany : l.any (beyP ⟨n1, n2, n3, pc⟩) = false := any_none (fun j hj => hg.out j hj hj)
              have E : Hid (cpB l x y z ⟨n1, n2, n3, pc⟩ = decide (pc < v)) := by show _ = _; rw [HC3.out, hany]; simp
              have HK : Hid (∀ w', Below wr.heap.size wr w' → (w'.cell? ⟨w.heap.size + 1, 0, none⟩ = some (.int .i64 n1) ∧ w'.cell? ⟨w.heap.size + 1, 1, none⟩ = some (.int .i64 n2) ∧ w'.cell? ⟨w.heap.size + 1, 2, none⟩ = some (.int .i64 n3) ∧ w'.cell? ⟨w.heap.size + 1, 3, none⟩ = some (.int .i64 pc)) ∧ (w'.cell? ⟨w.heap.size, 0, none⟩ = some (.int .i64 x) ∧ w'.cell? ⟨w.heap.size, 1, none⟩ = some (.int .i64 y) ∧ w'.cell? ⟨w.heap.size, 2, none⟩ = some (.int .i64 z))) := fun W hW =>
                ⟨⟨(hW.cell g1).trans y0, (hW.cell g1).trans y1, (hW.cell g1).trans y2, (hW.cell g1).trans y3⟩, ⟨(hW.cell g0).trans x0, (hW.cell g0).trans x1, (hW.cell g0).trans x2⟩⟩
              clear hg hany HC3 HOk HOf HLi hX
              go_wp2
              go_region_held3 (fun w' => (w'.cell? ⟨w.heap.size + 1, 0, none⟩ = some (.int .i64 n1) ∧ w'.cell? ⟨w.heap.size + 1, 1, none⟩ = some (.int .i64 n2) ∧ w'.cell? ⟨w.heap.size + 1, 2, none⟩ = some (.int .i64 n3) ∧ w'.cell? ⟨w.heap.size + 1, 3, none⟩ = some (.int .i64 pc)) ∧ (w'.cell? ⟨w.heap.size, 0, none⟩ = some (.int .i64 x) ∧ w'.cell? ⟨w.heap.size, 1, none⟩ = some (.int .i64 y) ∧ w'.cell? ⟨w.heap.size, 2, none⟩ = some (.int .i64 z)))
                (first | go_keep | (refine ⟨⟨?_, ?_, ?_, ?_⟩, ⟨?_, ?_, ?_⟩⟩ <;> first | assumption | go_keep))
                (first | (go_at_call 50; refine (HOn'.out _).mono ?_; rintro e w3 ⟨rfl, hb3⟩; have hR3 : Below wr.heap.size wr w3 := (Below.trans (by repeat (first | with_reducible exact Below.refl _ _ | with_reducible assumption | with_reducible refine Below.drew ?_ | with_reducible refine below_drewN ?_ _ | (with_reducible refine Below.alloc ?_ ?_ _; rotate_left; (try simp) <;> omega) | (with_reducible refine Below.setCell ?_ ?_ _; rotate_left; (try simp) <;> omega))) (hb3.mono (by first | omega | (simp; omega) | simp))); obtain ⟨⟨q0, q1, q2, q3⟩, ⟨q4, q5, q6⟩⟩ := HK.out w3 hR3))
              all_goals
                have hB3 : Below w.heap.size w w3 := hbw.trans (hR3.mono hbw.size)
                go_wp2
                go_ret
                exact sh_ret E.out.symm (by repeat (first | with_reducible exact Below.refl _ _ | with_reducible assumption | with_reducible refine Below.drew ?_ | with_reducible refine below_drewN ?_ _ | (with_reducible refine Below.alloc ?_ ?_ _; rotate_left; (try simp) <;> omega) | (with_reducible refine Below.setCell ?_ ?_ _; rotate_left; (try simp) <;> omega)))
    · have h3' : asideB pc = false := by simpa using h3
      have E : Hid (cpB l x y z ⟨n1, n2, n3, pc⟩ = false) := by show _ = _; rw [HC.out]; unfold planeB; dsimp only; rw [h3']; simp
      have hdd : pc < (-10000000000000000 : Int) ∨ (10000000000000000 : Int) < pc := by
        rcases Int.lt_or_le pc (-10000000000000000) with h | h
        · exact .inl h
        · rcases Int.lt_or_le 10000000000000000 pc with h' | h'
          · exact .inr h'
          · exact absurd (asideB_iff.2 ⟨h, h'⟩) h3
      rw [h0] at HW
      clear h0 h3 h3' hoff hsh hlt hs HC
      by_cases b1 : pc < (-10000000000000000 : Int)
      · clear hdd
        go_enter Try.func20, Try.ntmps20
        go_wp2_with (go_at_call 49; refine (HW.out _ (by repeat (first | with_reducible exact Below.refl _ _ | with_reducible assumption | with_reducible refine Below.drew ?_ | with_reducible refine below_drewN ?_ _ | (with_reducible refine Below.alloc ?_ ?_ _; rotate_left; (try simp) <;> omega) | (with_reducible refine Below.setCell ?_ ?_ _; rotate_left; (try simp) <;> omega)))).mono ?_; rintro e w1 ⟨rfl, hb1⟩; have X1 := (B2.new (x := x) (y := y) (z := z) (p := ⟨n1, n2, n3, pc⟩) w).below hb1 (by simp); obtain ⟨⟨g0, g1⟩, ⟨x0, x1, x2⟩, y0, y1, y2, y3⟩ := X1.facts; have hB1 : Below w.heap.size w w1 := (Below.trans (by repeat (first | with_reducible exact Below.refl _ _ | with_reducible assumption | with_reducible refine Below.drew ?_ | with_reducible refine below_drewN ?_ _ | (with_reducible refine Below.alloc ?_ ?_ _; rotate_left; (try simp) <;> omega) | (with_reducible refine Below.setCell ?_ ?_ _; rotate_left; (try simp) <;> omega))) (hb1.mono (by first | omega | (simp; omega) | simp))))
        go_ret
        exact sh_ret E.out.symm (by repeat (first | with_reducible exact Below.refl _ _ | with_reducible assumption | with_reducible refine Below.drew ?_ | with_reducible refine below_drewN ?_ _ | (with_reducible refine Below.alloc ?_ ?_ _; rotate_left; (try simp) <;> omega) | (with_reducible refine Below.setCell ?_ ?_ _; rotate_left; (try simp) <;> omega)))
      · have b2 : (10000000000000000 : Int) < pc := hdd.resolve_left b1
        clear hdd
        go_enter Try.func20, Try.ntmps20
        go_wp2_with (go_at_call 49; refine (HW.out _ (by repeat (first | with_reducible exact Below.refl _ _ | with_reducible assumption | with_reducible refine Below.drew ?_ | with_reducible refine below_drewN ?_ _ | (with_reducible refine Below.alloc ?_ ?_ _; rotate_left; (try simp) <;> omega) | (with_reducible refine Below.setCell ?_ ?_ _; rotate_left; (try simp) <;> omega)))).mono ?_; rintro e w1 ⟨rfl, hb1⟩; have X1 := (B2.new (x := x) (y := y) (z := z) (p := ⟨n1, n2, n3, pc⟩) w).below hb1 (by simp); obtain ⟨⟨g0, g1⟩, ⟨x0, x1, x2⟩, y0, y1, y2, y3⟩ := X1.facts; have hB1 : Below w.heap.size w w1 := (Below.trans (by repeat (first | with_reducible exact Below.refl _ _ | with_reducible assumption | with_reducible refine Below.drew ?_ | with_reducible refine below_drewN ?_ _ | (with_reducible refine Below.alloc ?_ ?_ _; rotate_left; (try simp) <;> omega) | (with_reducible refine Below.setCell ?_ ?_ _; rotate_left; (try simp) <;> omega))) (hb1.mono (by first | omega | (simp; omega) | simp))))
        go_ret
        exact sh_ret E.out.symm (by repeat (first | with_reducible exact Below.refl _ _ | with_reducible assumption | with_reducible refine Below.drew ?_ | with_reducible refine below_drewN ?_ _ | (with_reducible refine Below.alloc ?_ ?_ _; rotate_left; (try simp) <;> omega) | (with_reducible refine Below.setCell ?_ ?_ _; rotate_left; (try simp) <;> omega)))
  · have E : Hid (cpB l x y z ⟨n1, n2, n3, pc⟩ = false) := by show _ = _; rw [HC.out, decide_eq_false h0]; rfl
    generalize chkW l x y z = q at *
    have hq1 : (q != 0) = true := by rw [bne_iff_ne]; exact h0
    clear h0 hlt hs HC
    go_enter Try.func20, Try.ntmps20
    go_wp2_with (go_at_call 49; refine (HW.out _ (by repeat (first | with_reducible exact Below.refl _ _ | with_reducible assumption | with_reducible refine Below.drew ?_ | with_reducible refine below_drewN ?_ _ | (with_reducible refine Below.alloc ?_ ?_ _; rotate_left; (try simp) <;> omega) | (with_reducible refine Below.setCell ?_ ?_ _; rotate_left; (try simp) <;> omega)))).mono ?_; rintro e w1 ⟨rfl, hb1⟩)
    go_ret
    exact sh_ret E.out.symm (Below.trans (by repeat (first | with_reducible exact Below.refl _ _ | with_reducible assumption | with_reducible refine Below.drew ?_ | with_reducible refine below_drewN ?_ _ | (with_reducible refine Below.alloc ?_ ?_ _; rotate_left; (try simp) <;> omega) | (with_reducible refine Below.setCell ?_ ?_ _; rotate_left; (try simp) <;> omega))) (hb1.mono (by first | omega | (simp; omega) | simp)))
end Go.Proofs.Ytkjceegmmhnajaa
