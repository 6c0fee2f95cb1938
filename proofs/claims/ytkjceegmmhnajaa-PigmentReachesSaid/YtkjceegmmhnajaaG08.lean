/- CheckPlane of the reference. -/
import Derived.Deep.RegionHeld3
import Derived.Deep.DeepCutAuto
import Derived.Deep.RegionHeld
import Derived.Orders
import Derived.Test.YtkjceegmmhnajaaG05
import Derived.Test.YtkjceegmmhnajaaG06
import Derived.Test.YtkjceegmmhnajaaG07

set_option linter.unusedVariables false
set_option linter.unusedSimpArgs false

namespace Go.Proofs.Ytkjceegmmhnajaa
open Go.RowKit

theorem any_none {p : Pl} {l : List Tn} (h : ∀ j (hj : j < l.length), beyP p l[j] = false) : l.any (beyP p) = false := by
  rw [List.any_eq_false]
  intro t ht
  obtain ⟨i, hi, rfl⟩ := List.mem_iff_getElem.1 ht
  rw [h i hi]; simp
theorem any_some {p : Pl} {l : List Tn} {j : Nat} (hj : j < l.length) (h : beyP p l[j] = true) : l.any (beyP p) = true := List.any_eq_true.2 ⟨_, List.getElem_mem hj, h⟩

set_option maxRecDepth 100000 in
set_option maxHeartbeats 4000000 in
theorem rcheckPlane_any (l : List Tn) (p : Pl) (x y z : Int) (At : Option Addr) (ct : Nat) (w : World) (hlt : Lies w w.heap.size At (tintsC l)) (hm2 : l.length ≤ 1000) (hs : ∀ t ∈ l, t.name.size ≤ 100) :
    Calls Try.prog 20 #[.slice At l.length ct, .agg #[.int .i64 x, .int .i64 y, .int .i64 z], p.agg] w (ShEnd (cpB l x y z p) w) := by
  have HW := Lib.hid (fun W (hb : Below w.heap.size w W) => rwanted_any l At ct x y z W ((hlt.below hb (Nat.le_refl _)).more hb.size) hm2 hs)
  have HC : Hid (cpB l x y z p = (decide (chkW l x y z = 0) && (planeB p && (decide (p.c < onP p x y z) && !(l.any (beyP p)))))) := rfl
  obtain ⟨⟨n1, n2, n3, pc⟩, hp⟩ : ∃ p', p' = p := ⟨p, rfl⟩
  subst hp
  by_cases h0 : chkW l x y z = 0
  · have hoff : ∀ t ∈ l, offTint t = false := by
      unfold chkW at h0
      split at h0
      · rename_i hc; exact (chkT_ok hc).2.2.1
      · rename_i hc; exact absurd h0 hc
    have hsh : shadeB x y z = true := by
      unfold chkW at h0
      split at h0
      · split at h0
        · assumption
        · cases h0
      · rename_i hc; exact absurd h0 hc
    by_cases h3 : asideB pc = true
    · obtain ⟨b1, b2⟩ := asideB_iff.1 h3
      have b1' : ¬ pc < (-10000000000000000 : Int) := by omega
      have b2' : ¬ (10000000000000000 : Int) < pc := by omega
      have HC2 : Hid (cpB l x y z ⟨n1, n2, n3, pc⟩ = ((norB n1 && (norB n2 && norB n3)) && (decide (pc < onP ⟨n1, n2, n3, pc⟩ x y z) && !(l.any (beyP ⟨n1, n2, n3, pc⟩))))) := by
        show _ = _
        rw [HC.out, h0]; unfold planeB; dsimp only; rw [h3]; rfl
      obtain ⟨N, hN⟩ : ∃ N : Nat → Int, N 0 = n1 ∧ N 1 = n2 ∧ N 2 = n3 := ⟨fun k => if k = 0 then n1 else if k = 1 then n2 else n3, rfl, rfl, rfl⟩
      have HNN := Lib.hid hN; clear hN
      have HOn := Lib.hid (fun (ho : okPl ⟨n1, n2, n3, pc⟩) W => ronP_any (a := x) (b := y) (c := z) ho (shIn_of hsh) W)
      have HLi : Hid (∀ W : World, Below w.heap.size w W → Lies W w.heap.size At (tintsC l)) := fun W hb => hlt.below hb (Nat.le_refl _)
      have HOf := Lib.hid hoff
      have HB3 := Lib.hid h3
      rw [h0] at HW
      clear h0 h3 hoff hsh hlt hs HC b1 b2
      generalize hv : onP ⟨n1, n2, n3, pc⟩ x y z = v at *
      clear hv
      go_enter Try.func20, Try.ntmps20
      go_wp2_with (go_at_call 49; refine (HW.out _ (by repeat (first | with_reducible exact Below.refl _ _ | with_reducible assumption | with_reducible refine Below.drew ?_ | with_reducible refine below_drewN ?_ _ | (with_reducible refine Below.alloc ?_ ?_ _; rotate_left; (try simp) <;> omega) | (with_reducible refine Below.setCell ?_ ?_ _; rotate_left; (try simp) <;> omega)))).mono ?_; rintro e w1 ⟨rfl, hb1⟩; have X1 := (B2.new (x := x) (y := y) (z := z) (p := ⟨n1, n2, n3, pc⟩) w).below hb1 (by simp); obtain ⟨⟨g0, g1⟩, ⟨x0, x1, x2⟩, y0, y1, y2, y3⟩ := X1.facts; have hB1 : Below w.heap.size w w1 := (Below.trans (by repeat (first | with_reducible exact Below.refl _ _ | with_reducible assumption | with_reducible refine Below.drew ?_ | with_reducible refine below_drewN ?_ _ | (with_reducible refine Below.alloc ?_ ?_ _; rotate_left; (try simp) <;> omega) | (with_reducible refine Below.setCell ?_ ?_ _; rotate_left; (try simp) <;> omega))) (hb1.mono (by first | omega | (simp; omega) | simp))))
      go_loopw [8] (fun s wr => ∃ k : Nat, k ≤ 3 ∧ s = .int .i64 k ∧ Hid (∀ j, j < k → norB (N j) = true) ∧ Below w.heap.size w wr ∧ B2 wr w.heap.size x y z ⟨n1, n2, n3, pc⟩) (fun s _ => 3 - (intOf s).toNat)
      case atStart => exact ⟨0, by omega, rfl, fun j hj => absurd hj (by omega), (by repeat (first | with_reducible exact Below.refl _ _ | with_reducible assumption | with_reducible refine Below.drew ?_ | with_reducible refine below_drewN ?_ _ | (with_reducible refine Below.alloc ?_ ?_ _; rotate_left; (try simp) <;> omega) | (with_reducible refine Below.setCell ?_ ?_ _; rotate_left; (try simp) <;> omega))), X1⟩
      case round =>
        clear X1 hb1 hB1 g0 g1 x0 x1 x2 y0 y1 y2 y3
        obtain ⟨k, hk, rfl, hg, hbw, hX⟩ := hrel
        obtain ⟨⟨g0, g1⟩, ⟨x0, x1, x2⟩, y0, y1, y2, y3⟩ := hX.facts
        by_cases hk3 : k < 3
        · have ck : wr.cell? ⟨w.heap.size + 1, k, none⟩ = some (.int .i64 (N k)) := hX.2.cell k (by
            match k, hk3 with
            | 0, _ => rw [HNN.out.1]; rfl
            | 1, _ => rw [HNN.out.2.1]; rfl
            | 2, _ => rw [HNN.out.2.2]; rfl)
          have hlt' : (k : Int) < 3 := by omega
          have hkn : 0 ≤ (k : Int) := by omega
          by_cases hn : norB (N k) = true
          · have H : Hid (∀ j, j < k + 1 → norB (N j) = true) := fun j hj => by
              by_cases e : j = k
              · subst e; exact hn
              · exact hg.out j (by omega)
            obtain ⟨a1, a2⟩ := norB_iff.1 hn
            have a1' : ¬ N k < (-1000000000000 : Int) := by omega
            have a2' : ¬ (1000000000000 : Int) < N k := by omega
            clear hn hg a1 a2
            go_wp2
            go_roundw
            case rel => exact ⟨k + 1, by omega, by go_num, H, (by repeat (first | with_reducible exact Below.refl _ _ | with_reducible assumption | with_reducible refine Below.drew ?_ | with_reducible refine below_drewN ?_ _ | (with_reducible refine Below.alloc ?_ ?_ _; rotate_left; (try simp) <;> omega) | (with_reducible refine Below.setCell ?_ ?_ _; rotate_left; (try simp) <;> omega))), hX⟩
            case measure => simp [intOf]; omega
          · have hn' : norB (N k) = false := by simpa using hn
            have E : Hid (cpB l x y z ⟨n1, n2, n3, pc⟩ = false) := by
              show _ = _
              rw [HC2.out]
              match k, hk3 with
              | 0, _ => rw [HNN.out.1] at hn'; rw [hn']; simp
              | 1, _ => rw [HNN.out.2.1] at hn'; rw [hn']; simp
              | 2, _ => rw [HNN.out.2.2] at hn'; rw [hn']; simp
            by_cases a1 : N k < (-1000000000000 : Int)
            · clear hn hn' hg
              go_wp2
              go_ret
              exact sh_ret E.out.symm (by repeat (first | with_reducible exact Below.refl _ _ | with_reducible assumption | with_reducible refine Below.drew ?_ | with_reducible refine below_drewN ?_ _ | (with_reducible refine Below.alloc ?_ ?_ _; rotate_left; (try simp) <;> omega) | (with_reducible refine Below.setCell ?_ ?_ _; rotate_left; (try simp) <;> omega)))
            · have a2 : (1000000000000 : Int) < N k := by
                rcases Int.lt_or_le 1000000000000 (N k) with h | h
                · exact h
                · exact absurd (norB_iff.2 ⟨by omega, h⟩) hn
              clear hn hn' hg
              go_wp2
              go_ret
              exact sh_ret E.out.symm (by repeat (first | with_reducible exact Below.refl _ _ | with_reducible assumption | with_reducible refine Below.drew ?_ | with_reducible refine below_drewN ?_ _ | (with_reducible refine Below.alloc ?_ ?_ _; rotate_left; (try simp) <;> omega) | (with_reducible refine Below.setCell ?_ ?_ _; rotate_left; (try simp) <;> omega)))
        · obtain rfl : k = 3 := by omega
          have hnn := HNN.out
          have hpl : planeB ⟨n1, n2, n3, pc⟩ = true := by
            unfold planeB
            dsimp only
            rw [HB3.out, ← hnn.1, ← hnn.2.1, ← hnn.2.2, hg.out 0 (by omega), hg.out 1 (by omega), hg.out 2 (by omega)]; rfl
          have hok := planeB_ok hpl
          have HOn' := Lib.hid (HOn.out hok)
          have HOk := Lib.hid hok
          have HC3 : Hid (cpB l x y z ⟨n1, n2, n3, pc⟩ = (decide (pc < v) && !(l.any (beyP ⟨n1, n2, n3, pc⟩)))) := by
            show _ = _
            rw [HC2.out, ← hnn.1, ← hnn.2.1, ← hnn.2.2, hg.out 0 (by omega), hg.out 1 (by omega), hg.out 2 (by omega)]; rfl
          clear hnn hpl hok hg HNN HOn HC2 HB3
          go_wp2
          obtain ⟨wv, hwv⟩ : ∃ wv, wv = wr := ⟨_, rfl⟩
          subst hwv
          go_loopw [9] (fun s wr => ∃ k : Nat, k ≤ l.length ∧ s = .int .i64 k ∧ Hid (∀ j (hj : j < k) (h' : j < l.length), beyP ⟨n1, n2, n3, pc⟩ l[j] = false) ∧ Below w.heap.size w wr ∧ B2 wr w.heap.size x y z ⟨n1, n2, n3, pc⟩) (fun s _ => l.length - (intOf s).toNat)
          case atStart => exact ⟨0, by omega, rfl, fun j hj => absurd hj (by omega), (by repeat (first | with_reducible exact Below.refl _ _ | with_reducible assumption | with_reducible refine Below.drew ?_ | with_reducible refine below_drewN ?_ _ | (with_reducible refine Below.alloc ?_ ?_ _; rotate_left; (try simp) <;> omega) | (with_reducible refine Below.setCell ?_ ?_ _; rotate_left; (try simp) <;> omega))), hX⟩
          case round =>
            clear g0 g1 x0 x1 x2 y0 y1 y2 y3 hX hbw
            obtain ⟨k, hk, rfl, hg, hbw, hX⟩ := hrel
            obtain ⟨⟨g0, g1⟩, ⟨x0, x1, x2⟩, y0, y1, y2, y3⟩ := hX.facts
            by_cases hlk : k < l.length
            · obtain ⟨ad, rfl, hab, c0, c1, c2, c3, c4⟩ := tint_at (HLi.out wr hbw) hlk
              have hab' : (ad.add (k * 5)).block < wr.heap.size := by rw [add_block]; have := hbw.size; omega
              obtain ⟨_, t1, t2, t3, _⟩ := offTint_no (HOf.out _ (List.getElem_mem hlk))
              have hkI : (k : Int) < (l.length : Int) := by omega
              have hkN : 0 ≤ (k : Int) := by omega
              have hOv : beyP ⟨n1, n2, n3, pc⟩ l[k] = decide (pc < onP ⟨n1, n2, n3, pc⟩ l[k].a l[k].b l[k].c) := rfl
              have HgS : Hid (beyP ⟨n1, n2, n3, pc⟩ l[k] = false → ∀ j (hj : j < k + 1) (h' : j < l.length), beyP ⟨n1, n2, n3, pc⟩ l[j] = false) := fun h j hj h' => by
                by_cases e : j = k
                · subst e; exact h
                · exact hg.out j (by omega) h'
              have HgF : Hid (beyP ⟨n1, n2, n3, pc⟩ l[k] = true → cpB l x y z ⟨n1, n2, n3, pc⟩ = false) := fun h => by
                rw [HC3.out, any_some hlk h]; simp
              have HDot := Lib.hid (fun W => ronP_any (a := l[k].a) (b := l[k].b) (c := l[k].c) HOk.out ⟨t1, t2, t3⟩ W)
              clear hg
              generalize beyP ⟨n1, n2, n3, pc⟩ l[k] = ov at *
              generalize onP ⟨n1, n2, n3, pc⟩ l[k].a l[k].b l[k].c = u at *
              generalize l[k].name = nm at *
              generalize l[k].a = ta at *
              generalize l[k].b = tb at *
              generalize l[k].c = tc at *
              generalize l[k].price = tp at *
              have HK : Hid (∀ w', Below wr.heap.size wr w' → (w'.cell? ⟨w.heap.size + 1, 0, none⟩ = some (.int .i64 n1) ∧ w'.cell? ⟨w.heap.size + 1, 1, none⟩ = some (.int .i64 n2) ∧ w'.cell? ⟨w.heap.size + 1, 2, none⟩ = some (.int .i64 n3) ∧ w'.cell? ⟨w.heap.size + 1, 3, none⟩ = some (.int .i64 pc)) ∧ (w'.cell? ⟨(ad.add (k * 5)).block, (ad.add (k * 5)).off + 1, none⟩ = some (.int .i64 ta) ∧ w'.cell? ⟨(ad.add (k * 5)).block, (ad.add (k * 5)).off + 2, none⟩ = some (.int .i64 tb) ∧ w'.cell? ⟨(ad.add (k * 5)).block, (ad.add (k * 5)).off + 3, none⟩ = some (.int .i64 tc))) := fun W hW =>
                ⟨⟨(hW.cell g1).trans y0, (hW.cell g1).trans y1, (hW.cell g1).trans y2, (hW.cell g1).trans y3⟩, ⟨(hW.cell (p := ⟨(ad.add (k * 5)).block, (ad.add (k * 5)).off + 1, none⟩) hab').trans c1, (hW.cell (p := ⟨(ad.add (k * 5)).block, (ad.add (k * 5)).off + 2, none⟩) hab').trans c2, (hW.cell (p := ⟨(ad.add (k * 5)).block, (ad.add (k * 5)).off + 3, none⟩) hab').trans c3⟩⟩
              have HX5 : Hid (∀ W, Below wr.heap.size wr W → B2 W w.heap.size x y z ⟨n1, n2, n3, pc⟩) := fun W hW => hX.below hW hX.lt
              clear hX t1 t2 t3
              by_cases hov : pc < u
              · have E := Lib.hid (HgF.out (by rw [hOv, decide_eq_true hov]))
                clear HgF HgS hOv
                go_wp2
                go_region_held3 (fun w' => (w'.cell? ⟨w.heap.size + 1, 0, none⟩ = some (.int .i64 n1) ∧ w'.cell? ⟨w.heap.size + 1, 1, none⟩ = some (.int .i64 n2) ∧ w'.cell? ⟨w.heap.size + 1, 2, none⟩ = some (.int .i64 n3) ∧ w'.cell? ⟨w.heap.size + 1, 3, none⟩ = some (.int .i64 pc)) ∧ (w'.cell? ⟨(ad.add (k * 5)).block, (ad.add (k * 5)).off + 1, none⟩ = some (.int .i64 ta) ∧ w'.cell? ⟨(ad.add (k * 5)).block, (ad.add (k * 5)).off + 2, none⟩ = some (.int .i64 tb) ∧ w'.cell? ⟨(ad.add (k * 5)).block, (ad.add (k * 5)).off + 3, none⟩ = some (.int .i64 tc)))
                  (first | go_keep | (refine ⟨⟨?_, ?_, ?_, ?_⟩, ⟨?_, ?_, ?_⟩⟩ <;> first | assumption | go_keep))
                  (first | (go_at_call 50; refine (HDot.out _).mono ?_; rintro e w3 ⟨rfl, hb3⟩; have hR3 : Below wr.heap.size wr w3 := (Below.trans (by repeat (first | with_reducible exact Below.refl _ _ | with_reducible assumption | with_reducible refine Below.drew ?_ | with_reducible refine below_drewN ?_ _ | (with_reducible refine Below.alloc ?_ ?_ _; rotate_left; (try simp) <;> omega) | (with_reducible refine Below.setCell ?_ ?_ _; rotate_left; (try simp) <;> omega))) (hb3.mono (by first | omega | (simp; omega) | simp))); obtain ⟨⟨q0, q1, q2, q3⟩, ⟨q4, q5, q6⟩⟩ := HK.out w3 hR3))
                all_goals
                  have hB3 : Below w.heap.size w w3 := hbw.trans (hR3.mono hbw.size)
                  go_wp2
                  go_ret
                  exact sh_ret E.out.symm (by repeat (first | with_reducible exact Below.refl _ _ | with_reducible assumption | with_reducible refine Below.drew ?_ | with_reducible refine below_drewN ?_ _ | (with_reducible refine Below.alloc ?_ ?_ _; rotate_left; (try simp) <;> omega) | (with_reducible refine Below.setCell ?_ ?_ _; rotate_left; (try simp) <;> omega)))
              · have H := Lib.hid (HgS.out (by rw [hOv, decide_eq_false hov]))
                clear HgF HgS hOv
                go_wp2
                go_region_held3 (fun w' => (w'.cell? ⟨w.heap.size + 1, 0, none⟩ = some (.int .i64 n1) ∧ w'.cell? ⟨w.heap.size + 1, 1, none⟩ = some (.int .i64 n2) ∧ w'.cell? ⟨w.heap.size + 1, 2, none⟩ = some (.int .i64 n3) ∧ w'.cell? ⟨w.heap.size + 1, 3, none⟩ = some (.int .i64 pc)) ∧ (w'.cell? ⟨(ad.add (k * 5)).block, (ad.add (k * 5)).off + 1, none⟩ = some (.int .i64 ta) ∧ w'.cell? ⟨(ad.add (k * 5)).block, (ad.add (k * 5)).off + 2, none⟩ = some (.int .i64 tb) ∧ w'.cell? ⟨(ad.add (k * 5)).block, (ad.add (k * 5)).off + 3, none⟩ = some (.int .i64 tc)))
                  (first | go_keep | (refine ⟨⟨?_, ?_, ?_, ?_⟩, ⟨?_, ?_, ?_⟩⟩ <;> first | assumption | go_keep))
                  (first | (go_at_call 50; refine (HDot.out _).mono ?_; rintro e w3 ⟨rfl, hb3⟩; have hR3 : Below wr.heap.size wr w3 := (Below.trans (by repeat (first | with_reducible exact Below.refl _ _ | with_reducible assumption | with_reducible refine Below.drew ?_ | with_reducible refine below_drewN ?_ _ | (with_reducible refine Below.alloc ?_ ?_ _; rotate_left; (try simp) <;> omega) | (with_reducible refine Below.setCell ?_ ?_ _; rotate_left; (try simp) <;> omega))) (hb3.mono (by first | omega | (simp; omega) | simp))); obtain ⟨⟨q0, q1, q2, q3⟩, ⟨q4, q5, q6⟩⟩ := HK.out w3 hR3))
                all_goals
                  have hB3 : Below w.heap.size w w3 := hbw.trans (hR3.mono hbw.size)
                  go_wp2
                  go_roundw
                case rel => exact ⟨k + 1, by omega, by go_num, H, (by repeat (first | with_reducible exact Below.refl _ _ | with_reducible assumption | with_reducible refine Below.drew ?_ | with_reducible refine below_drewN ?_ _ | (with_reducible refine Below.alloc ?_ ?_ _; rotate_left; (try simp) <;> omega) | (with_reducible refine Below.setCell ?_ ?_ _; rotate_left; (try simp) <;> omega))), HX5.out w3 hR3⟩
                case measure => simp [intOf]; omega
            · obtain rfl : k = l.length := by omega
              have hany : l.any (beyP ⟨n1, n2, n3, pc⟩) = false := any_none (fun j hj => hg.out j hj hj)
              have E : Hid (cpB l x y z ⟨n1, n2, n3, pc⟩ = decide (pc < v)) := by show _ = _; rw [HC3.out, hany]; simp
              have HK : Hid (∀ w', Below wr.heap.size wr w' → (w'.cell? ⟨w.heap.size + 1, 0, none⟩ = some (.int .i64 n1) ∧ w'.cell? ⟨w.heap.size + 1, 1, none⟩ = some (.int .i64 n2) ∧ w'.cell? ⟨w.heap.size + 1, 2, none⟩ = some (.int .i64 n3) ∧ w'.cell? ⟨w.heap.size + 1, 3, none⟩ = some (.int .i64 pc)) ∧ (w'.cell? ⟨w.heap.size, 0, none⟩ = some (.int .i64 x) ∧ w'.cell? ⟨w.heap.size, 1, none⟩ = some (.int .i64 y) ∧ w'.cell? ⟨w.heap.size, 2, none⟩ = some (.int .i64 z))) := fun W hW =>
                ⟨⟨(hW.cell g1).trans y0, (hW.cell g1).trans y1, (hW.cell g1).trans y2, (hW.cell g1).trans y3⟩, ⟨(hW.cell g0).trans x0, (hW.cell g0).trans x1, (hW.cell g0).trans x2⟩⟩
              clear hg hany HC3 HOk HOf HLi hX
              go_wp2
              go_region_held3 (fun w' => (w'.cell? ⟨w.heap.size + 1, 0, none⟩ = some (.int .i64 n1) ∧ w'.cell? ⟨w.heap.size + 1, 1, none⟩ = some (.int .i64 n2) ∧ w'.cell? ⟨w.heap.size + 1, 2, none⟩ = some (.int .i64 n3) ∧ w'.cell? ⟨w.heap.size + 1, 3, none⟩ = some (.int .i64 pc)) ∧ (w'.cell? ⟨w.heap.size, 0, none⟩ = some (.int .i64 x) ∧ w'.cell? ⟨w.heap.size, 1, none⟩ = some (.int .i64 y) ∧ w'.cell? ⟨w.heap.size, 2, none⟩ = some (.int .i64 z)))
                (first | go_keep | (refine ⟨⟨?_, ?_, ?_, ?_⟩, ⟨?_, ?_, ?_⟩⟩ <;> first | assumption | go_keep))
                (first | (go_at_call 50; refine (HOn'.out _).mono ?_; rintro e w3 ⟨rfl, hb3⟩; have hR3 : Below wr.heap.size wr w3 := (Below.trans (by repeat (first | with_reducible exact Below.refl _ _ | with_reducible assumption | with_reducible refine Below.drew ?_ | with_reducible refine below_drewN ?_ _ | (with_reducible refine Below.alloc ?_ ?_ _; rotate_left; (try simp) <;> omega) | (with_reducible refine Below.setCell ?_ ?_ _; rotate_left; (try simp) <;> omega))) (hb3.mono (by first | omega | (simp; omega) | simp))); obtain ⟨⟨q0, q1, q2, q3⟩, ⟨q4, q5, q6⟩⟩ := HK.out w3 hR3))
              all_goals
                have hB3 : Below w.heap.size w w3 := hbw.trans (hR3.mono hbw.size)
                go_wp2
                go_ret
                exact sh_ret E.out.symm (by repeat (first | with_reducible exact Below.refl _ _ | with_reducible assumption | with_reducible refine Below.drew ?_ | with_reducible refine below_drewN ?_ _ | (with_reducible refine Below.alloc ?_ ?_ _; rotate_left; (try simp) <;> omega) | (with_reducible refine Below.setCell ?_ ?_ _; rotate_left; (try simp) <;> omega)))
    · have h3' : asideB pc = false := by simpa using h3
      have E : Hid (cpB l x y z ⟨n1, n2, n3, pc⟩ = false) := by show _ = _; rw [HC.out]; unfold planeB; dsimp only; rw [h3']; simp
      have hdd : pc < (-10000000000000000 : Int) ∨ (10000000000000000 : Int) < pc := by
        rcases Int.lt_or_le pc (-10000000000000000) with h | h
        · exact .inl h
        · rcases Int.lt_or_le 10000000000000000 pc with h' | h'
          · exact .inr h'
          · exact absurd (asideB_iff.2 ⟨h, h'⟩) h3
      rw [h0] at HW
      clear h0 h3 h3' hoff hsh hlt hs HC
      by_cases b1 : pc < (-10000000000000000 : Int)
      · clear hdd
        go_enter Try.func20, Try.ntmps20
        go_wp2_with (go_at_call 49; refine (HW.out _ (by repeat (first | with_reducible exact Below.refl _ _ | with_reducible assumption | with_reducible refine Below.drew ?_ | with_reducible refine below_drewN ?_ _ | (with_reducible refine Below.alloc ?_ ?_ _; rotate_left; (try simp) <;> omega) | (with_reducible refine Below.setCell ?_ ?_ _; rotate_left; (try simp) <;> omega)))).mono ?_; rintro e w1 ⟨rfl, hb1⟩; have X1 := (B2.new (x := x) (y := y) (z := z) (p := ⟨n1, n2, n3, pc⟩) w).below hb1 (by simp); obtain ⟨⟨g0, g1⟩, ⟨x0, x1, x2⟩, y0, y1, y2, y3⟩ := X1.facts; have hB1 : Below w.heap.size w w1 := (Below.trans (by repeat (first | with_reducible exact Below.refl _ _ | with_reducible assumption | with_reducible refine Below.drew ?_ | with_reducible refine below_drewN ?_ _ | (with_reducible refine Below.alloc ?_ ?_ _; rotate_left; (try simp) <;> omega) | (with_reducible refine Below.setCell ?_ ?_ _; rotate_left; (try simp) <;> omega))) (hb1.mono (by first | omega | (simp; omega) | simp))))
        go_ret
        exact sh_ret E.out.symm (by repeat (first | with_reducible exact Below.refl _ _ | with_reducible assumption | with_reducible refine Below.drew ?_ | with_reducible refine below_drewN ?_ _ | (with_reducible refine Below.alloc ?_ ?_ _; rotate_left; (try simp) <;> omega) | (with_reducible refine Below.setCell ?_ ?_ _; rotate_left; (try simp) <;> omega)))
      · have b2 : (10000000000000000 : Int) < pc := hdd.resolve_left b1
        clear hdd
        go_enter Try.func20, Try.ntmps20
        go_wp2_with (go_at_call 49; refine (HW.out _ (by repeat (first | with_reducible exact Below.refl _ _ | with_reducible assumption | with_reducible refine Below.drew ?_ | with_reducible refine below_drewN ?_ _ | (with_reducible refine Below.alloc ?_ ?_ _; rotate_left; (try simp) <;> omega) | (with_reducible refine Below.setCell ?_ ?_ _; rotate_left; (try simp) <;> omega)))).mono ?_; rintro e w1 ⟨rfl, hb1⟩; have X1 := (B2.new (x := x) (y := y) (z := z) (p := ⟨n1, n2, n3, pc⟩) w).below hb1 (by simp); obtain ⟨⟨g0, g1⟩, ⟨x0, x1, x2⟩, y0, y1, y2, y3⟩ := X1.facts; have hB1 : Below w.heap.size w w1 := (Below.trans (by repeat (first | with_reducible exact Below.refl _ _ | with_reducible assumption | with_reducible refine Below.drew ?_ | with_reducible refine below_drewN ?_ _ | (with_reducible refine Below.alloc ?_ ?_ _; rotate_left; (try simp) <;> omega) | (with_reducible refine Below.setCell ?_ ?_ _; rotate_left; (try simp) <;> omega))) (hb1.mono (by first | omega | (simp; omega) | simp))))
        go_ret
        exact sh_ret E.out.symm (by repeat (first | with_reducible exact Below.refl _ _ | with_reducible assumption | with_reducible refine Below.drew ?_ | with_reducible refine below_drewN ?_ _ | (with_reducible refine Below.alloc ?_ ?_ _; rotate_left; (try simp) <;> omega) | (with_reducible refine Below.setCell ?_ ?_ _; rotate_left; (try simp) <;> omega)))
  · have E : Hid (cpB l x y z ⟨n1, n2, n3, pc⟩ = false) := by show _ = _; rw [HC.out, decide_eq_false h0]; rfl
    generalize chkW l x y z = q at *
    have hq1 : (q != 0) = true := by rw [bne_iff_ne]; exact h0
    clear h0 hlt hs HC
    go_enter Try.func20, Try.ntmps20
    go_wp2_with (go_at_call 49; refine (HW.out _ (by repeat (first | with_reducible exact Below.refl _ _ | with_reducible assumption | with_reducible refine Below.drew ?_ | with_reducible refine below_drewN ?_ _ | (with_reducible refine Below.alloc ?_ ?_ _; rotate_left; (try simp) <;> omega) | (with_reducible refine Below.setCell ?_ ?_ _; rotate_left; (try simp) <;> omega)))).mono ?_; rintro e w1 ⟨rfl, hb1⟩)
    go_ret
    exact sh_ret E.out.symm (Below.trans (by repeat (first | with_reducible exact Below.refl _ _ | with_reducible assumption | with_reducible refine Below.drew ?_ | with_reducible refine below_drewN ?_ _ | (with_reducible refine Below.alloc ?_ ?_ _; rotate_left; (try simp) <;> omega) | (with_reducible refine Below.setCell ?_ ?_ _; rotate_left; (try simp) <;> omega))) (hb1.mono (by first | omega | (simp; omega) | simp)))
end Go.Proofs.Ytkjceegmmhnajaa

namespace Go.Proofs.Ytkjceegmmhnajaa
open Go.RowKit

section
variable {P : Program} {ops : Array Oper} {Q : Exit → Act → World → Prop} {S : World → Prop} {fuel fuel' : Nat} {listed l' : Array Bool} {a a' : Act} {w : World}
/-- an operation that is not wanted -/
theorem sk (i d : Nat) (h : wpAnyH P .any ops Q S fuel l' a' w) (hfu : fuel' = fuel + 1 := by exact rfl) (hd : (ops[i]?).map (fun o => o.dst) = some (some d) := by rfl) (hs : Region.noSelect ops = true := by kernel_rfl) (hf : Region.free .any ops listed i = true := by kernel_rfl) (hr : (Region.ready .any ops listed).contains i = true := by kernel_rfl)
    (hw : (ops[i]?).map (fun o => Region.wanted o (yielded ops a.tmps)) = some false := by rfl) (hQ : ∀ c a w, Q (.panic c) (a.put (some d) undef) w → Q (.panic c) a w := by exact fun _ _ _ h => h) (hS : S w := by assumption)
    (hl : listed.setIfInBounds i true = l' := by ((try simp only [List.setIfInBounds_toArray, List.set_cons_zero, List.set_cons_succ]); exact rfl)) (ha : a.put (some d) undef = a' := by ((try simp only [Act.put, List.setIfInBounds_toArray, List.set_cons_zero, List.set_cons_succ]); exact rfl)) : wpAnyH P .any ops Q S fuel' listed a w := by
  subst hl; subst ha; subst hfu
  exact held_skip i (some d) hd hs hf hr hw hQ hS h
/-- an operation that yields its value, as the walk's words reckon it -/
theorem tk (i d : Nat) {v : Value} (h : wpAnyH P .any ops Q S fuel l' a' w) (hfu : fuel' = fuel + 1 := by exact rfl) (hd : (ops[i]?).map (fun o => o.dst) = some (some d) := by rfl) (hs : Region.noSelect ops = true := by kernel_rfl) (hf : Region.free .any ops listed i = true := by kernel_rfl) (hr : (Region.ready .any ops listed).contains i = true := by kernel_rfl)
    (hw : (ops[i]?).map (fun o => Region.wanted o (yielded ops a.tmps)) = some true := by rfl) (hQ : ∀ c v a w, Q (.panic c) (a.put (some d) v) w → Q (.panic c) a w := by exact fun _ _ _ _ h => h) (hS : S w := by assumption)
    (hy : ∀ w, S w → (ops[i]?).map (fun o => (execOp a.eval o).run P w) = some (.ok (.value v) w) := by (intro w hSw; (try dsimp only at hSw); simp only [List.getElem?_toArray, List.getElem?_cons_zero, List.getElem?_cons_succ, Option.map_some]; refine congrArg some ?_; go_simp; (try with_reducible rfl)))
    (hl : listed.setIfInBounds i true = l' := by ((try simp only [List.setIfInBounds_toArray, List.set_cons_zero, List.set_cons_succ]); exact rfl)) (ha : a.put (some d) v = a' := by ((try simp only [Act.put, List.setIfInBounds_toArray, List.set_cons_zero, List.set_cons_succ]); exact rfl)) : wpAnyH P .any ops Q S fuel' listed a w := by
  subst hl; subst ha; subst hfu
  exact held_take i (some d) v hd hs hf hr hw (fun c a w => hQ c v a w) hS hy h
end
end Go.Proofs.Ytkjceegmmhnajaa

namespace Go.Proofs.Ytkjceegmmhnajaa
open Go.RowKit

structure Vc where
  x : Int
  y : Int
  z : Int
  deriving DecidableEq
def Vc.cells (v : Vc) : List Value := [.int .i64 v.x, .int .i64 v.y, .int .i64 v.z]
def vecsC (l : List Vc) : List Value := l.flatMap Vc.cells
abbrev Vc.agg (v : Vc) : Value := .agg #[.int .i64 v.x, .int .i64 v.y, .int .i64 v.z]
def Vc.sub (a b : Vc) : Vc := ⟨a.x - b.x, a.y - b.y, a.z - b.z⟩
def Vc.dot (a b : Vc) : Int := a.x * b.x + a.y * b.y + a.z * b.z
def Vc.crs (a b : Vc) : Vc := ⟨a.y * b.z - a.z * b.y, a.z * b.x - a.x * b.z, a.x * b.y - a.y * b.x⟩
def Vc.mul (a : Vc) (n : Int) : Vc := ⟨a.x * n, a.y * n, a.z * n⟩

/-- pigment's weights -/
def pwts : List Vc → Vc → Option (List Int)
  | [a], w => if w = a then some [1] else none
  | [a, b], w => let u := w.sub a; let d := b.sub a; let y := d.dot d; let x := u.dot d
    if y ≠ 0 ∧ u.mul y = d.mul x then some [y - x, x] else none
  | [a, b, c], w => let u := w.sub a; let d := b.sub a; let f := c.sub a; let n := d.crs f; let y := n.dot n
    if y = 0 ∨ u.dot n ≠ 0 then none else
      let x := (u.crs f).dot n; let z := (d.crs u).dot n; let g : Int := gcdL [x, y, z]
      some [(y - x - z).tdiv g, x.tdiv g, z.tdiv g]
  | [a, b, c, e], w => let u := w.sub a; let d := b.sub a; let f := c.sub a; let g := e.sub a; let y := (d.crs f).dot g
    if y = 0 then none else
      let p := (u.crs f).dot g; let q := (d.crs u).dot g; let r := (d.crs f).dot u
      if y < 0 then some [-y - -p - -q - -r, -p, -q, -r] else some [y - p - q - r, p, q, r]
  | _, _ => none

def WEnd (ws : Option (List Int)) (w : World) (e : Ending) (w' : World) : Prop := ∃ (A : Option Addr) (n c : Nat) (b : Bool), e = .returned (.tuple #[.slice A n c, .bool b]) ∧
  (match ws with | none => b = false | some l => b = true ∧ n = l.length ∧ Lies w' w'.heap.size A (ints l)) ∧ n ≤ c ∧ c ≤ 1000 ∧ Below w.heap.size w w'
def shadeV (v : Vc) : Prop := (0 ≤ v.x ∧ v.x ≤ 1000) ∧ (0 ≤ v.y ∧ v.y ≤ 1000) ∧ (0 ≤ v.z ∧ v.z ≤ 1000)
theorem shadeV_vb {v : Vc} (h : shadeV v) : vb 1000 v.x v.y v.z := by unfold shadeV at h; unfold vb ab; omega

theorem vb_sub {a b : Vc} (h : shadeV a) (k : shadeV b) : vb 1000 (a.x - b.x) (a.y - b.y) (a.z - b.z) := by unfold shadeV at h k; unfold vb ab; omega

theorem w_end {ws : Option (List Int)} {l : List Int} {b : Bool} {A : Option Addr} {n c : Nat} {w w' : World} (hE : ws = if b = true then some l else none) (hn : n = l.length) (hL : Lies w' w'.heap.size A (ints l)) (hc : n ≤ c) (hc2 : c ≤ 1000) (hb : Below w.heap.size w w') :
    WEnd ws w (.returned (.tuple #[.slice A n c, .bool b])) w' := by
  refine ⟨A, n, c, b, rfl, ?_, hc, hc2, hb⟩
  subst hE
  cases b
  · exact rfl
  · exact ⟨rfl, hn, hL⟩

theorem w_none {ws : Option (List Int)} {A : Option Addr} {n c : Nat} {w w' : World} (hE : ws = none) (hc : n ≤ c) (hc2 : c ≤ 1000) (hb : Below w.heap.size w w') :
    WEnd ws w (.returned (.tuple #[.slice A n c, .bool false])) w' := by
  subst hE
  exact ⟨A, n, c, false, rfl, rfl, hc, hc2, hb⟩

set_option maxRecDepth 100000 in
set_option maxHeartbeats 1000000 in
theorem weights1 (a x : Vc) (ad : Addr) (c : Nat) (w : World) (hb : ad.block < w.heap.size) (h0 : w.cell? ad = some (.int .i64 a.x)) (h1 : w.cell? ⟨ad.block, ad.off + 1, none⟩ = some (.int .i64 a.y)) (h2 : w.cell? ⟨ad.block, ad.off + 2, none⟩ = some (.int .i64 a.z)) (ha : shadeV a) (hx : shadeV x) :
    Calls Try.prog 86 #[.slice (some ad) 1 c, x.agg] w (WEnd (pwts [a] x) w) := by
  have hv := shadeV_vb ha
  have hu := shadeV_vb hx
  obtain ⟨a1, a2, a3⟩ := a
  obtain ⟨x1, x2, x3⟩ := x
  have HE : Hid (pwts [⟨a1, a2, a3⟩] ⟨x1, x2, x3⟩ = if x1 = a1 ∧ x2 = a2 ∧ x3 = a3 then some [1] else none) := by show _ = _; simp [pwts]
  clear ha hx
  dsimp only at *
  have q84 := eq84
  go_enter Try.func86, Try.ntmps86
  go_wp2_with (go_at_call 75; refine (minus_b _ (by with_reducible assumption) (by with_reducible assumption) (by omega)).mono ?_; rintro e w1 ⟨r, s, t, rfl, HR, hv1, hb1, hz1⟩; obtain ⟨hc1, hf1⟩ := bcell hb1; (try simp at hz1))
  go_region
  go_wp2
  go_ret2
  refine w_end (l := [1]) ?_ rfl (Lies.fresh rfl (by simp [hz1]) (by simp [hz1]) rfl) (by omega) (by omega) ?_
  · rw [HE.out]; simp
  · have hB : Below w.heap.size w w1 := Below.trans (by repeat (first | with_reducible exact Below.refl _ _ | with_reducible assumption | with_reducible refine Below.drew ?_ | with_reducible refine below_drewN ?_ _ | (with_reducible refine Below.alloc ?_ ?_ _; rotate_left; (try simp) <;> omega) | (with_reducible refine Below.setCell ?_ ?_ _; rotate_left; (try simp) <;> omega))) (hb1.mono (by first | omega | (simp; omega) | simp))
    exact (by repeat (first | with_reducible exact Below.refl _ _ | with_reducible assumption | with_reducible refine Below.drew ?_ | with_reducible refine below_drewN ?_ _ | (with_reducible refine Below.alloc ?_ ?_ _; rotate_left; (try simp) <;> omega) | (with_reducible refine Below.setCell ?_ ?_ _; rotate_left; (try simp) <;> omega)))
end Go.Proofs.Ytkjceegmmhnajaa

namespace Go.Proofs.Ytkjceegmmhnajaa
open Go.RowKit

/-- the cells of vector k of a slice of vectors -/
def vecAt (w : World) (ad : Addr) (v : Vc) : Prop := w.cell? ad = some (.int .i64 v.x) ∧ w.cell? ⟨ad.block, ad.off + 1, none⟩ = some (.int .i64 v.y) ∧ w.cell? ⟨ad.block, ad.off + 2, none⟩ = some (.int .i64 v.z)
theorem vecAt.below {w w' : World} {ad : Addr} {v : Vc} {B : Nat} (h : vecAt w ad v) (hb : Below B w w') (hB : ad.block < B) : vecAt w' ad v :=
  ⟨(hb.cell hB).trans h.1, (hb.cell (p := ⟨ad.block, ad.off + 1, none⟩) hB).trans h.2.1, (hb.cell (p := ⟨ad.block, ad.off + 2, none⟩) hB).trans h.2.2⟩
abbrev C3 (w : World) (b : Nat) (x y z : Int) : Prop := w.cell? ⟨b, 0, none⟩ = some (.int .i64 x) ∧ w.cell? ⟨b, 1, none⟩ = some (.int .i64 y) ∧ w.cell? ⟨b, 2, none⟩ = some (.int .i64 z)

theorem Lies.via {W W' : World} {b : Nat} {t : TypeId} {cs : Array Value} {l : List Value} (h : Bk W b t cs) (hb : Below W.heap.size W W') (hl : l = cs.toList) : Lies W' W'.heap.size (some ⟨b, 0, none⟩) l := by
  subst hl
  have h' := h.below hb h.lt
  exact h'.lies h'.lt

set_option maxRecDepth 100000 in
set_option maxHeartbeats 2000000 in
theorem weights2 (a p x : Vc) (ad : Addr) (c : Nat) (w : World) (hb : ad.block < w.heap.size) (h0 : vecAt w ad a) (h3 : vecAt w ⟨ad.block, ad.off + 3, none⟩ p) (ha : shadeV a) (hp : shadeV p) (hx : shadeV x) :
    Calls Try.prog 86 #[.slice (some ad) 2 c, x.agg] w (WEnd (pwts [a, p] x) w) := by
  have hv := shadeV_vb ha
  have hvp := shadeV_vb hp
  have hu := shadeV_vb hx
  have q84 := eq84
  obtain ⟨a1, a2, a3⟩ := a
  obtain ⟨p1, p2, p3⟩ := p
  obtain ⟨x1, x2, x3⟩ := x
  have HE : Hid (∀ u1 u2 u3 d1 d2 d3 y z : Int, u1 = x1 - a1 ∧ u2 = x2 - a2 ∧ u3 = x3 - a3 → d1 = p1 - a1 ∧ d2 = p2 - a2 ∧ d3 = p3 - a3 → y = d1 * d1 + d2 * d2 + d3 * d3 → z = u1 * d1 + u2 * d2 + u3 * d3 →
      pwts [⟨a1, a2, a3⟩, ⟨p1, p2, p3⟩] ⟨x1, x2, x3⟩ = if y ≠ 0 ∧ (u1 * y = d1 * z ∧ u2 * y = d2 * z ∧ u3 * y = d3 * z) then some [y - z, z] else none) := by
    rintro _ _ _ _ _ _ _ _ ⟨rfl, rfl, rfl⟩ ⟨rfl, rfl, rfl⟩ rfl rfl
    simp only [pwts, Vc.sub, Vc.dot, Vc.mul, Vc.mk.injEq]
  have H3 := Lib.hid h3
  unfold vecAt at h0 h3
  obtain ⟨h00, h01, h02⟩ := h0
  obtain ⟨h30, h31, h32⟩ := h3
  dsimp only at *
  have hk : ∀ b o, b < w.heap.size + 1 → b < w.heap.size + 1 + 1 := fun b o h => by omega
  clear ha hp hx hk
  go_enter Try.func86, Try.ntmps86
  go_wp2_with (go_at_call 75; refine (minus_b (A := 1000) (B := 1000) _ (by with_reducible assumption) (by with_reducible assumption) (by omega)).mono ?_; rintro e w1 ⟨u1, u2, u3, rfl, HU, hvu, hb1, hz1⟩; obtain ⟨hc1, hf1⟩ := bcell hb1; have hs1 := hb1.size; (try simp at hs1); clear hz1; have hB1 : Below w.heap.size w w1 := (Below.trans (by repeat (first | with_reducible exact Below.refl _ _ | with_reducible assumption | with_reducible refine Below.drew ?_ | with_reducible refine below_drewN ?_ _ | (with_reducible refine Below.alloc ?_ ?_ _; rotate_left; (try simp) <;> omega) | (with_reducible refine Below.setCell ?_ ?_ _; rotate_left; (try simp) <;> omega))) (hb1.mono (by first | omega | (simp; omega) | simp))))
  have g1 : ad.block < w1.heap.size := by omega
  obtain ⟨k30, k31, k32⟩ := H3.out.below hB1 hb
  have hBu : Below w.heap.size w (w1.alloc (.cells #[.int .i64 u1, .int .i64 u2, .int .i64 u3] 84)) := (by repeat (first | with_reducible exact Below.refl _ _ | with_reducible assumption | with_reducible refine Below.drew ?_ | with_reducible refine below_drewN ?_ _ | (with_reducible refine Below.alloc ?_ ?_ _; rotate_left; (try simp) <;> omega) | (with_reducible refine Below.setCell ?_ ?_ _; rotate_left; (try simp) <;> omega)))
  have bu := Bk.new w1 84 #[.int .i64 u1, .int .i64 u2, .int .i64 u3]
  have ba : Bk (w1.alloc (.cells #[.int .i64 u1, .int .i64 u2, .int .i64 u3] 84)) (w.heap.size + 1) 84 #[.int .i64 a1, .int .i64 a2, .int .i64 a3] := by
    have h := Bk.new (w.alloc (.cells #[.int .i64 x1, .int .i64 x2, .int .i64 x3] 84)) 84 #[.int .i64 a1, .int .i64 a2, .int .i64 a3]
    rw [World.size_alloc] at h
    exact (h.below hb1 (by simp)).alloc _
  have HBA := Lib.hid ba
  have HBU := Lib.hid bu
  have HBB := Lib.hid hBu
  clear ba bu hBu
  have HK := Lib.hid (H3.out.below HBB.out hb)
  go_upto_region 7 with fail
  have hsa : w.heap.size + 1 < w1.heap.size + 1 := by omega
  have hsz : (w1.alloc (.cells #[.int .i64 u1, .int .i64 u2, .int .i64 u3] 84)).heap.size = w1.heap.size + 1 := by simp
  have HSZ := Lib.hid hsz; clear hsz
  generalize w1.alloc (.cells #[.int .i64 u1, .int .i64 u2, .int .i64 u3] 84) = wa at *
  have r0 : w.heap.size < wa.heap.size := by rw [HSZ.out]; omega
  have r1 : w.heap.size + 1 < wa.heap.size := by rw [HSZ.out]; omega
  have r2 : w1.heap.size < wa.heap.size := by rw [HSZ.out]; omega
  have r3 : ad.block < wa.heap.size := by rw [HSZ.out]; omega
  have e1 : ¬ w.heap.size + 1 = wa.heap.size := by rw [HSZ.out]; omega
  have e2 : ¬ w1.heap.size = wa.heap.size := by rw [HSZ.out]; omega
  have e3 : ¬ ad.block = wa.heap.size := by rw [HSZ.out]; omega
  clear k30 k31 k32 h00 h01 h02 h30 h31 h32 hc1 hf1 hs1 g1 hsa hb1 hB1
  obtain ⟨k30, k31, k32⟩ := HK.out
  have hBa := HBB.out
  have k00 := HBA.out.cell 0 rfl
  have k01 := HBA.out.cell 1 rfl
  have k02 := HBA.out.cell 2 rfl
  go_cut [8] (fun s8 wx => ∃ (g : Nat) (d1 d2 d3 : Int), s8 = .pointer (some ⟨g, 0, none⟩) ∧ Hid (d1 = p1 - a1 ∧ d2 = p2 - a2 ∧ d3 = p3 - a3) ∧ vb (1000 + 1000) d1 d2 d3 ∧ Below w.heap.size w wx ∧ (Bk wx (w.heap.size + 1) 84 #[.int .i64 a1, .int .i64 a2, .int .i64 a3] ∧ Bk wx w1.heap.size 84 #[.int .i64 u1, .int .i64 u2, .int .i64 u3] ∧ Bk wx g 84 #[.int .i64 d1, .int .i64 d2, .int .i64 d3]))
  case first =>
    go_region_held3 (fun w' => w'.cell? ⟨w.heap.size + 1, 0, none⟩ = some (.int .i64 a1) ∧ w'.cell? ⟨w.heap.size + 1, 1, none⟩ = some (.int .i64 a2) ∧ w'.cell? ⟨w.heap.size + 1, 2, none⟩ = some (.int .i64 a3) ∧ w'.cell? ⟨ad.block, ad.off + 3, none⟩ = some (.int .i64 p1) ∧ w'.cell? ⟨ad.block, ad.off + 3 + 1, none⟩ = some (.int .i64 p2) ∧ w'.cell? ⟨ad.block, ad.off + 3 + 2, none⟩ = some (.int .i64 p3))
      (((try dsimp only); (repeat' apply And.intro) <;> (first | (with_reducible assumption) | go_keep | (rw [World.cell?_alloc_past _ _ _ (by first | omega | (simp; omega))]; first | (with_reducible assumption) | go_keep) | ((repeat rw [World.cell?_setCell_other _ _ _ _ (by simp <;> omega)]); first | (with_reducible assumption) | go_keep))))
      (first | (go_at_call 75; refine (minus_b (A := 1000) (B := 1000) _ (by with_reducible assumption) (by with_reducible assumption) (by omega)).mono ?_; rintro e w2 ⟨d1, d2, d3, rfl, HD, hvd, hb2, hz2⟩; obtain ⟨hc2, hf2⟩ := bcell hb2; have hs2 := hb2.size; (try simp at hs2); clear hz2; have hB2 : Below w.heap.size w w2 := (Below.trans (by repeat (first | with_reducible exact Below.refl _ _ | with_reducible assumption | with_reducible refine Below.drew ?_ | with_reducible refine below_drewN ?_ _ | (with_reducible refine Below.alloc ?_ ?_ _; rotate_left; (try simp) <;> omega) | (with_reducible refine Below.setCell ?_ ?_ _; rotate_left; (try simp) <;> omega))) (hb2.mono (by first | omega | (simp; omega) | simp))); obtain ⟨m30, m31, m32⟩ := H3.out.below hB2 hb; have hwa2 : Below wa.heap.size wa w2 := (Below.trans (by repeat (first | with_reducible exact Below.refl _ _ | with_reducible assumption | with_reducible refine Below.drew ?_ | with_reducible refine below_drewN ?_ _ | (with_reducible refine Below.alloc ?_ ?_ _; rotate_left; (try simp) <;> omega) | (with_reducible refine Below.setCell ?_ ?_ _; rotate_left; (try simp) <;> omega))) (hb2.mono (by first | omega | (simp; omega) | simp))); have ta := HBA.out.below hwa2 r1; have tu := HBU.out.below hwa2 r2; have ta0 := ta.cell 0 rfl; have ta1 := ta.cell 1 rfl; have ta2 := ta.cell 2 rfl; have v1 : w.heap.size + 1 < w2.heap.size := (by omega); have v2 : ad.block < w2.heap.size := (by omega)))
    all_goals
      go_wp2_with fail
      go_meet
      have zd : ∀ v : Value, Bk (wa.alloc (.cells #[.int .i64 0, .int .i64 0, .int .i64 0] 84)) wa.heap.size 84 #[.int .i64 0, .int .i64 0, .int .i64 0] := fun _ => Bk.new _ _ _
      first
        | exact ⟨w2.heap.size, d1, d2, d3, rfl, HD, hvd, (by repeat (first | with_reducible exact Below.refl _ _ | with_reducible assumption | with_reducible refine Below.drew ?_ | with_reducible refine below_drewN ?_ _ | (with_reducible refine Below.alloc ?_ ?_ _; rotate_left; (try simp) <;> omega) | (with_reducible refine Below.setCell ?_ ?_ _; rotate_left; (try simp) <;> omega))), (by repeat (first | with_reducible assumption | with_reducible exact Bk.new _ _ _ | with_reducible refine Bk.drew ?_ | with_reducible refine Bk.drewN ?_ _ | with_reducible refine Bk.alloc ?_ _ | (with_reducible refine Bk.far ?_ ?_ _; rotate_left; (try simp) <;> omega))), (by repeat (first | with_reducible assumption | with_reducible exact Bk.new _ _ _ | with_reducible refine Bk.drew ?_ | with_reducible refine Bk.drewN ?_ _ | with_reducible refine Bk.alloc ?_ _ | (with_reducible refine Bk.far ?_ ?_ _; rotate_left; (try simp) <;> omega))), (by repeat (first | with_reducible assumption | with_reducible exact Bk.new _ _ _ | with_reducible refine Bk.drew ?_ | with_reducible refine Bk.drewN ?_ _ | with_reducible refine Bk.alloc ?_ _ | (with_reducible refine Bk.far ?_ ?_ _; rotate_left; (try simp) <;> omega)))⟩
        | exact ⟨wa.heap.size, d1, d2, d3, rfl, HD, hvd, (by repeat (first | with_reducible exact Below.refl _ _ | with_reducible assumption | with_reducible refine Below.drew ?_ | with_reducible refine below_drewN ?_ _ | (with_reducible refine Below.alloc ?_ ?_ _; rotate_left; (try simp) <;> omega) | (with_reducible refine Below.setCell ?_ ?_ _; rotate_left; (try simp) <;> omega))), (by repeat (first | with_reducible assumption | with_reducible exact Bk.new _ _ _ | with_reducible refine Bk.drew ?_ | with_reducible refine Bk.drewN ?_ _ | with_reducible refine Bk.alloc ?_ _ | (with_reducible refine Bk.far ?_ ?_ _; rotate_left; (try simp) <;> omega))), (by repeat (first | with_reducible assumption | with_reducible exact Bk.new _ _ _ | with_reducible refine Bk.drew ?_ | with_reducible refine Bk.drewN ?_ _ | with_reducible refine Bk.alloc ?_ _ | (with_reducible refine Bk.far ?_ ?_ _; rotate_left; (try simp) <;> omega))), (((((zd undef).drew.below hb2 (by simp)).set 0 _).set 1 _).set 2 _)⟩
  case rest =>
    obtain ⟨g, d1, d2, d3, rfl, HD, hvd, hBx, xa, xu, xd⟩ := hcut
    clear HBA HBU HBB HK HSZ r0 r1 r2 r3 e1 e2 e3 k30 k31 k32 k00 k01 k02 hBa H3 hb hv hvp hu
    have la := xa.lt
    have lu := xu.lt
    have ld := xd.lt
    have RC : ∀ (W : World) (b o : Nat), Below wc.heap.size wc W → b < wc.heap.size → W.cell? ⟨b, o, none⟩ = wc.cell? ⟨b, o, none⟩ := fun W b o h hb => h.cell (p := ⟨b, o, none⟩) hb
    have d0 := xd.cell 0 rfl
    have d1' := xd.cell 1 rfl
    have d2' := xd.cell 2 rfl
    have u0 := xu.cell 0 rfl
    have u1' := xu.cell 1 rfl
    have u2' := xu.cell 2 rfl
    go_wp2_with fail
    refine (times_b (a := d1) _ hvd hvd (by omega)).mono ?_
    rintro e w2 ⟨y, rfl, HY, hvy, hb2, hz2⟩; clear hz2
    have hs2 := hb2.size
    have hW2 : Below wc.heap.size wc w2 := (hb2.mono (Nat.le_refl _))
    go_wp2_with fail
    refine (times_b (a := u1) _ hvu hvd (by omega)).mono ?_
    rintro e w3 ⟨z, rfl, HZ, hvz, hb3, hz3⟩; clear hz3
    have hs3 := hb3.size
    have hW3 : Below wc.heap.size wc w3 := hW2.trans (hb3.mono hs2)
    have hyb : -12000000 ≤ y ∧ y ≤ 12000000 := by have := hvy; unfold ab at this; omega
    have hzb : -12000000 ≤ z ∧ z ≤ 12000000 := by have := hvz; unfold ab at this; omega
    obtain ⟨hy1, hy2⟩ := hyb
    obtain ⟨hzb1, hzb2⟩ := hzb
    have HE2 := Lib.hid (HE.out _ _ _ _ _ _ _ _ HU.out HD.out HY.out HZ.out)
    clear HE HU HD HY HZ
    have hBw : Below w.heap.size w w3 := hBx.trans (hW3.mono (by omega))
    have WYZ : Hid (IntKind.i64.wrap (y - z) = y - z) := IntWalk.i64_in _ (by omega)
    by_cases hy0 : y = 0
    · have hyn : (y != 0) = false := by rw [hy0]; rfl
      have HY0 := Lib.hid hy0; clear hy0
      go_wp2
      go_region
      all_goals
        go_wp2
        go_ret2
        exact w_none (by rw [HE2.out, if_neg (by intro h; exact h.1 HY0.out)]) (by omega) (by omega) (by repeat (first | with_reducible exact Below.refl _ _ | with_reducible assumption | with_reducible refine Below.drew ?_ | with_reducible refine below_drewN ?_ _ | (with_reducible refine Below.alloc ?_ ?_ _; rotate_left; (try simp) <;> omega) | (with_reducible refine Below.setCell ?_ ?_ _; rotate_left; (try simp) <;> omega)))
    · have hyn : (y != 0) = true := by rw [bne_iff_ne]; exact hy0
      have HY0 := Lib.hid hy0; clear hy0
      go_wp2
      go_region_held3 (fun w' => w'.cell? ⟨w1.heap.size, 0, none⟩ = some (.int .i64 u1) ∧ w'.cell? ⟨w1.heap.size, 1, none⟩ = some (.int .i64 u2) ∧ w'.cell? ⟨w1.heap.size, 2, none⟩ = some (.int .i64 u3) ∧ w'.cell? ⟨g, 0, none⟩ = some (.int .i64 d1) ∧ w'.cell? ⟨g, 1, none⟩ = some (.int .i64 d2) ∧ w'.cell? ⟨g, 2, none⟩ = some (.int .i64 d3))
        (((try dsimp only); (repeat' apply And.intro) <;> (first | (with_reducible assumption) | go_keep | (rw [World.cell?_alloc_past _ _ _ (by first | omega | (simp; omega))]; first | (with_reducible assumption) | go_keep))))
        (first | (go_at_call 77; ((with_reducible refine (scaled_b (a := u1) _ hvu hvy (by omega)).mono ?_); rintro e w4 ⟨s1, s2, s3, rfl, HS, _, hb4, hz4⟩); clear hz4; have hs4 := hb4.size; (try simp at hs4); have hW4 : Below wc.heap.size wc w4 := (Below.trans (by repeat (first | with_reducible exact Below.refl _ _ | with_reducible assumption | with_reducible refine Below.drew ?_ | with_reducible refine below_drewN ?_ _ | (with_reducible refine Below.alloc ?_ ?_ _; rotate_left; (try simp) <;> omega) | (with_reducible refine Below.setCell ?_ ?_ _; rotate_left; (try simp) <;> omega))) (hb4.mono (by first | omega | (simp; omega) | simp)))) | (go_at_call 77; ((with_reducible refine (scaled_b (a := d1) _ hvd hvz (by omega)).mono ?_); rintro e w5 ⟨t1, t2, t3, rfl, HT, _, hb5, hz5⟩); clear hz5; have hs5 := hb5.size; (try simp at hs5); have hW5 : Below wc.heap.size wc w5 := (Below.trans (by repeat (first | with_reducible exact Below.refl _ _ | with_reducible assumption | with_reducible refine Below.drew ?_ | with_reducible refine below_drewN ?_ _ | (with_reducible refine Below.alloc ?_ ?_ _; rotate_left; (try simp) <;> omega) | (with_reducible refine Below.setCell ?_ ?_ _; rotate_left; (try simp) <;> omega))) (hb5.mono (by first | omega | (simp; omega) | simp)))))
      all_goals
        go_wp2
        go_ret2
        have hB5 : Below w.heap.size w w5 := hBx.trans (hW5.mono (by omega))
        refine w_end (l := [y - z, z]) ?hE rfl ?hL (by omega) (by omega) (by repeat (first | with_reducible exact Below.refl _ _ | with_reducible assumption | with_reducible refine Below.drew ?_ | with_reducible refine below_drewN ?_ _ | (with_reducible refine Below.alloc ?_ ?_ _; rotate_left; (try simp) <;> omega) | (with_reducible refine Below.setCell ?_ ?_ _; rotate_left; (try simp) <;> omega)))
        case hE =>
          rw [HE2.out, ← HS.out.1, ← HS.out.2.1, ← HS.out.2.2, ← HT.out.1, ← HT.out.2.1, ← HT.out.2.2]
          have := HY0.out
          simp [this]
        case hL =>
          first
            | exact Lies.fresh rfl (by simp) (by simp) (by rw [WYZ.out]; rfl)
            | exact Lies.via (cs := #[.int .i64 (IntKind.i64.wrap (y - z)), .int .i64 z]) (t := 3) (by repeat (first | with_reducible exact Bk.new _ _ _ | with_reducible refine Bk.drew ?_ | (refine Bk.below ?_ hb4 ?_; rotate_left; (first | omega | (simp; omega) | simp)))) hb5 (by rw [WYZ.out]; rfl)
end Go.Proofs.Ytkjceegmmhnajaa

namespace Go.Proofs.Ytkjceegmmhnajaa
open Go.RowKit

section
variable {P : Program} {ops : Array Oper} {Q : Exit → Act → World → Prop} {S : World → Prop}

def left (listed : Array Bool) : Nat := (listed.toList.filter (fun b => !b)).length

theorem left_set : ∀ (l : List Bool) (i : Nat), l[i]? = some false → ((l.set i true).filter (fun b => !b)).length + 1 = (l.filter (fun b => !b)).length
  | [], i, h => by simp at h
  | b :: l, 0, h => by simp at h; subst h; simp
  | b :: l, i + 1, h => by
    have := left_set l i (by simpa using h)
    cases b <;> simp at * <;> omega

theorem wpAnyH_inv (hac : ∀ (i : Nat) (o : Oper), ops[i]? = some o → ∀ e ∈ o.after, e.on < i) (Inv : (Nat → Bool) → Act → World → Prop)
    (hstep : ∀ (done : Nat → Bool) (a : Act) (w : World) (i : Nat) (o : Oper), ops[i]? = some o → done i = false → (∀ e ∈ o.after, Region.binds .any e = true → done e.on = true) → Inv done a w →
      wpOp P ops Q i (fun a' w' => S w' ∧ Inv (fun j => done j || j == i) a' w') a w)
    (hend : ∀ (done : Nat → Bool) (a : Act) (w : World), (∀ i < ops.size, done i = true) → Inv done a w → Q .normal a w) :
    ∀ (fuel : Nat) (listed : Array Bool) (a : Act) (w : World), listed.size = ops.size → left listed ≤ fuel → Inv (fun j => listed.getD j false) a w → wpAnyH P .any ops Q S fuel listed a w := by
  have hall : ∀ listed : Array Bool, listed.size = ops.size → Region.ready .any ops listed = [] → ∀ i, i < ops.size → listed.getD i false = true := by
    intro listed hsz hr i
    induction i using Nat.strongRecOn with
    | _ i ih =>
      intro hi
      cases hd : listed.getD i false
      · have hmem : i ∈ Region.ready .any ops listed := by
          refine mem_ready.2 ⟨?_, ops[i], Array.getElem?_eq_getElem hi, fun e he _ => ?_⟩
          · simp [hsz, hi] at hd ⊢; exact hd
          · have := hac i _ (Array.getElem?_eq_getElem hi) e he
            exact ih e.on this (by omega)
        rw [hr] at hmem; cases hmem
      · rfl
  have hstepL : ∀ (listed : Array Bool) (a : Act) (w : World) (i : Nat), listed.size = ops.size → i ∈ Region.ready .any ops listed → Inv (fun j => listed.getD j false) a w →
      wpOp P ops Q i (fun a' w' => S w' ∧ Inv (fun j => (listed.setIfInBounds i true).getD j false) a' w') a w ∧ left (listed.setIfInBounds i true) + 1 = left listed := by
    intro listed a w i hsz hi hinv
    obtain ⟨h1, o, ho, h2⟩ := mem_ready.1 hi
    have hlt : i < ops.size := (Array.getElem?_eq_some_iff.1 ho).1
    have hd : listed.getD i false = false := by simp [hsz, hlt] at h1 ⊢; exact h1
    have hfun : (fun j => (listed.setIfInBounds i true).getD j false) = (fun j => listed.getD j false || j == i) := by
      funext j
      by_cases hj : i = j
      · subst hj; simp [hsz, hlt]
      · rw [getD_set_ne false hj]; have : (j == i) = false := by rw [beq_eq_false_iff_ne]; exact fun e => hj e.symm
        simp [this]
    rw [hfun]
    refine ⟨hstep _ a w i o ho hd h2 hinv, ?_⟩
    have hl : listed.toList[i]? = some false := by
      have hi' : i < listed.size := by omega
      simp [hi'] at hd ⊢; exact hd
    have := left_set listed.toList i hl
    unfold left
    rw [Array.toList_setIfInBounds]; exact this
  intro fuel
  induction fuel with
  | zero =>
    intro listed a w hsz hl hinv
    have hr : Region.ready .any ops listed = [] := by
      rcases hrd : Region.ready .any ops listed with _ | ⟨i, r⟩
      · rfl
      · have := (hstepL listed a w i hsz (by rw [hrd]; simp) hinv).2
        omega
    exact ⟨hr, hend _ a w (hall listed hsz hr) hinv⟩
  | succ fuel ih =>
    intro listed a w hsz hl hinv
    refine ⟨fun hr => hend _ a w (hall listed hsz hr) hinv, fun i hi => ?_⟩
    obtain ⟨h1, h2⟩ := hstepL listed a w i hsz hi hinv
    exact wpOp_mono (fun a' w' h => ⟨h.1, ih _ a' w' (by simp [hsz]) (by omega) h.2⟩) h1

theorem held_plain {K : Act → World → Prop} {a : Act} {w : World} {i : Nat} {o : Oper} (ho : ops[i]? = some o) (hg : o.guard = none) (h : o.wp P a w K Q) : wpOp P ops Q i K a w := by
  unfold wpOp
  rw [ho]
  have hw : Region.wanted o (yielded ops a.tmps) = true := by simp [Region.wanted, hg]
  simp only [hw, if_true]
  exact .inl h
theorem oper_run {K : Act → World → Prop} {a : Act} {w : World} {o : Oper} {v : Value} {w' : World} (hr : (execOp a.eval o).run P w = .ok (.value v) w') (h : K (a.put o.dst v) w') : o.wp P a w K Q := by
  unfold Oper.wp; rw [hr]; exact h
theorem oper_skip {K : Act → World → Prop} {a : Act} {w : World} {o : Oper} {w' : World} (hr : (execOp a.eval o).run P w = .ok .skip w') (h : K (a.put o.dst undef) w') : o.wp P a w K Q := by
  unfold Oper.wp; rw [hr]; exact h
theorem oper_call {K : Act → World → Prop} {a : Act} {w : World} {o : Oper} {f : FuncId} {args : Array Value} (hr : (execOp a.eval o).run P w = .ok (.enter f args) w) {R : Ending → World → Prop} (hc : Calls P f args w R) (h : ∀ e w', R e w' → ∃ v, e = .returned v ∧ K (a.put o.dst v) w') : o.wp P a w K Q := by
  unfold Oper.wp; rw [hr]
  refine hc.mono fun e w' hR => ?_
  obtain ⟨v, rfl, hk⟩ := h e w' hR
  exact hk
end
end Go.Proofs.Ytkjceegmmhnajaa
