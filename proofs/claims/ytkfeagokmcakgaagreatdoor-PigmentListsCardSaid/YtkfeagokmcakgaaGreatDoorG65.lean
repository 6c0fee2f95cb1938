/- The reference's Effect (fn 61). Printed by gen_y32.py. -/
import Derived.Test.YtkfeagokmcakgaaGreatDoorG02
import Derived.Test.YtkfeagokmcakgaaGreatDoorG07
import Derived.Test.YtkfeagokmcakgaaGreatDoorG17
import Derived.Test.YtkfeagokmcakgaaGreatDoorG63
import Derived.Test.YtkfeagokmcakgaaGreatDoorG64

set_option linter.unusedVariables false
set_option linter.unusedSimpArgs false

namespace Go.Proofs.YtkfeagokmcakgaaGreatDoor
open Go.RowKit

theorem nmB_filter (l : List Rul) (s : ByteArray) : nmB (l.filter frm) s = nmB l s := by
  unfold nmB
  rw [List.any_filter]
  congr 1
  funext r
  unfold nm1
  cases frm r <;> simp
theorem tk_yes {l : List Rul} {k : Nat} (hk : k < l.length) (h : frm l[k] = true) : (l.take (k + 1)).filter frm = (l.take k).filter frm ++ [l[k]] := by
  rw [← List.take_append_getElem hk, List.filter_append]; simp [h]
theorem tk_no {l : List Rul} {k : Nat} (hk : k < l.length) (h : frm l[k] = false) : (l.take (k + 1)).filter frm = (l.take k).filter frm := by
  rw [← List.take_append_getElem hk, List.filter_append]; simp [h]
set_option maxHeartbeats 2500000 in
set_option maxRecDepth 100000 in
theorem reffect_any (l : List Rul) (A : Option Addr) (c : Nat) (k1 k2 : Int) (w : World) (hl : Lies w w.heap.size A (rulesC l)) (hok : RulOK l) (hm : l.length ≤ 500) :
    Calls Tryz.prog 61 #[.agg #[.slice A l.length c], .int .i64 k1, .int .i64 k2] w (GpE (eff l (cntL l k1) (cntL l k2)) w) := by
  have HC : Hid (∀ k W, Below w.heap.size w W → Calls Tryz.prog 39 #[.agg #[.slice A l.length c], .int .i64 k] W (SlE (cntL l k) W)) := fun k W hb => rcounting_any l A c k W ((hl.below hb (Nat.le_refl _)).more hb.size) hok (by omega)
  have HLN1 : Hid ((cntL l k1).length ≤ 500) := Nat.le_trans (cnt_len l k1) hm
  have HLN2 : Hid ((cntL l k2).length ≤ 500) := Nat.le_trans (cnt_len l k2) hm
  have HC1 := Lib.hid (HC.out k1)
  have HC2 := Lib.hid (HC.out k2)
  have HL : Hid (∀ V, Below w.heap.size w V → Lies V V.heap.size A (rulesC l)) := fun V hV => lies_on hl hV
  have HOK := Lib.hid hok
  have HTE : Hid (l.take l.length = l) := List.take_length
  clear hl hok HC
  generalize cntL l k1 = d1 at *
  generalize cntL l k2 = d2 at *
  have HW0 : Hid (Below w.heap.size w (w.alloc (.cells #[.slice A l.length c] 25))) := (Below.refl _ _).alloc (Nat.le_refl _) _
  have HK0 : Hid (Bk (w.alloc (.cells #[.slice A l.length c] 25)) w.heap.size 25 #[.slice A l.length c]) := Bk.new _ _ _
  go_enter Tryz.func61, Tryz.ntmps61
  go_upto_region 1 with fail
  generalize w.alloc (.cells #[.slice A l.length c] 25) = W0 at *
  have HY : Hid (∀ V, Below W0.heap.size W0 V → V.cell? ⟨w.heap.size, 0, none⟩ = some (.slice A l.length c)) := fun V hV => (HK0.out.below hV HK0.out.lt).cell 0 rfl
  have HBW : Hid (∀ V, Below W0.heap.size W0 V → Below w.heap.size w V) := fun V hV => HW0.out.trans (hV.mono HW0.out.size)
  have hB0 : Below W0.heap.size W0 W0 := Below.refl _ _
  clear HK0 HW0
  go_upto_region 8 with fail
  go_loopw [7, 8] (fun v y wr => ∃ (k : Nat) (M : List Rul) (A' : Option Addr) (c' : Nat), k ≤ l.length ∧ v = .slice A' M.length c' ∧ y = .int .i64 k ∧ Hid (M = (l.take k).filter frm) ∧ M.length ≤ k ∧ Hid (wr.ownsRow W0.heap.size 50 6 (.slice A' M.length c') M.length (rulesC M)) ∧ Hid (Below W0.heap.size W0 wr)) (fun _ y _ => l.length - (intOf y).toNat)
  case atStart => exact ⟨0, [], none, 0, by omega, rfl, rfl, rfl, by simp, World.ownsRow_nil _ _ _ _, hB0⟩
  case round =>
    obtain ⟨k, M, A', c', hk, rfl, rfl, HM, hMl, ho, hbw⟩ := hrel
    have a0 := HY.out _ hbw.out
    by_cases hlt : k < l.length
    · obtain ⟨ad, e, _, c0, c1, c2, c3, c4, c5⟩ := rule_at (HL.out wr (HBW.out _ hbw.out)) hlt
      subst e
      have hrk := HOK.out _ (List.getElem_mem hlt)
      have HYY := Lib.hid (fun h => tk_yes hlt h)
      have HNN := Lib.hid (fun h => tk_no hlt h)
      rw [← HM.out] at HYY HNN
      have HFV := Lib.hid (rformed_any l[k] wr hrk.1 hrk.2.1)
      have HCC : Hid (∀ V, Below W0.heap.size W0 V → V.cell? ⟨w.heap.size, 0, none⟩ = some (.slice (some ad) l.length c) ∧ V.cell? (ad.add (k * 6)) = some (.int .i64 l[k].id) ∧ V.cell? ⟨(ad.add (k * 6)).block, (ad.add (k * 6)).off + 1, none⟩ = some (.int .i64 l[k].known) ∧ V.cell? ⟨(ad.add (k * 6)).block, (ad.add (k * 6)).off + 2, none⟩ = some (.int .u8 l[k].kind) ∧ V.cell? ⟨(ad.add (k * 6)).block, (ad.add (k * 6)).off + 3, none⟩ = some (.string l[k].x) ∧ V.cell? ⟨(ad.add (k * 6)).block, (ad.add (k * 6)).off + 4, none⟩ = some (.string l[k].y) ∧ V.cell? ⟨(ad.add (k * 6)).block, (ad.add (k * 6)).off + 5, none⟩ = some (.int .i64 l[k].of)) := fun V hV => by
        obtain ⟨ad2, e, _, g0, g1, g2, g3, g4, g5⟩ := rule_at (HL.out V (HBW.out _ hV)) hlt
        cases e; exact ⟨HY.out V hV, g0, g1, g2, g3, g4, g5⟩
      have HSN : Hid (rulesC M ++ [.int .i64 l[k].id, .int .i64 l[k].known, .int .u8 l[k].kind, .string l[k].x, .string l[k].y, .int .i64 l[k].of] = rulesC (M ++ [l[k]])) := rulesC_snoc M l[k]
      have hkI : (k : Int) < (l.length : Int) := by omega
      clear hrk HM
      generalize l[k] = r at *
      generalize hfr : frm r = fr at *
      obtain ⟨rr, hrr⟩ : ∃ rr, rr = r := ⟨_, rfl⟩
      rw [← hrr] at HYY
      rw [show M ++ [r] = M ++ [rr] from by rw [hrr]] at HSN
      clear hfr hrr
      obtain ⟨id, kn, kd, x, y, of⟩ := r
      dsimp only at *
      cases fr with
      | true =>
        have HN2 := Lib.hid (HYY.out rfl)
        have hlx : (M ++ [rr]).length = M.length + 1 := by simp
        have HO : Hid (∀ u ∈ (#[.int .i64 id, .int .i64 kn, .int .u8 kd, .string x, .string y, .int .i64 of] : Array Value).toList, u.oneCell' = true) := fun v hv => by simp at hv; rcases hv with rfl | rfl | rfl | rfl | rfl | rfl <;> rfl
        clear HYY HNN
        go_wp2_with (first | (go_at_call 85; refine HFV.out.mono ?_; rintro e w4 ⟨rfl, hb4⟩; have HB4 := Lib.hid (hbw.out.trans (hb4.mono hbw.out.size)); have ho4 := Lib.hid (ownsRow_below ho.out hb4 (Nat.le_refl _)); obtain ⟨s0, s1, s2, s3, s4, s5, s6⟩ := HCC.out _ HB4.out) | (at_builtin; refine wpList_append1 rfl (.tmp 29) (.tmp 35) 23 rfl W0.heap.size 50 zeroRul 6 64 Tryz.underlying23 info50 (by decide) (by decide) _ (M).length (rulesC M) rfl (ho4.out.alloc _) w4.heap.size #[.int .i64 id, .int .i64 kn, .int .u8 kd, .string x, .string y, .int .i64 of] 50 rfl (Bk.new _ _ _) rfl HO.out (by omega) (by decide) (by have h1 := HB4.out.size; simp; omega) W0.heap.size W0 (HB4.out.alloc HB4.out.size _) (Nat.le_refl _) ?_; intro v' w5 ho5 hb5 _; replace ho5 : w5.ownsRow W0.heap.size 50 6 v' (M.length + 1) (rulesC (M ++ [rr])) := (by rw [← HSN.out]; exact ho5); obtain ⟨A5, c5', rfl, _, _⟩ := ownsSlice ho5))
        go_roundw
        case rel => exact ⟨k + 1, M ++ [rr], A5, c5', by omega, by rw [hlx], by go_num, HN2.out.symm, by omega, Lib.hid (by rw [hlx]; exact ho5), Lib.hid hb5⟩
        case measure => simp [intOf]; omega
      | false =>
        have HN2 := Lib.hid (HNN.out rfl)
        clear HYY HNN
        go_wp2_with (go_at_call 85; refine HFV.out.mono ?_; rintro e w4 ⟨rfl, hb4⟩; have HB4 := Lib.hid (hbw.out.trans (hb4.mono hbw.out.size)); have ho4 := Lib.hid (ownsRow_below ho.out hb4 (Nat.le_refl _)))
        go_roundw
        case rel => exact ⟨k + 1, M, A', c', by omega, rfl, by go_num, HN2.out.symm, by omega, ho4, HB4⟩
        case measure => simp [intOf]; omega
    · obtain rfl : k = l.length := by omega
      rw [HTE.out] at HM
      have HLM : Hid (Lies wr wr.heap.size A' (rulesC M)) := ownsRow_lies ho.out
      have HNA := Lib.hid (rnames_any M A' c' wr HLM.out (by omega))
      have hkk : ¬ ((l.length : Int) < (l.length : Int)) := by omega
      clear ho
      go_upto_region 11 with (first | (go_at_call 108; refine HNA.out.mono ?_; rintro e w2 ⟨R, A2, c2, hR, hRl, rfl, hl2, hc2, hb2⟩; have hB2 : Below W0.heap.size W0 w2 := hbw.out.trans (hb2.mono hbw.out.size); have a1 := HY.out _ hB2) | (go_at_call 39; refine (HC1.out _ (HBW.out _ hB2)).mono ?_; rintro e w3 ⟨A3, c3, rfl, hl3, _, hb3⟩; have hB3 : Below W0.heap.size W0 w3 := hB2.trans (hb3.mono hB2.size); have a2 := HY.out _ hB3; clear HC1) | (go_at_call 39; refine (HC2.out _ (HBW.out _ hB3)).mono ?_; rintro e w4 ⟨A4, c4, rfl, hl4, _, hb4⟩; have hB4 : Below W0.heap.size W0 w4 := hB3.trans (hb4.mono hB3.size); clear HC2))
      have HST1 : Hid (∀ V x, Below w4.heap.size w4 V → Calls Tryz.prog 92 #[.slice A3 d1.length c3, .string x] V (U8End (stt d1 x) V)) := fun V x hV => rstate_any d1 A3 c3 x V (lies_on (lies_on hl3 hb4) hV) (by have := HLN1.out; omega)
      have HST2 : Hid (∀ V x, Below w4.heap.size w4 V → Calls Tryz.prog 92 #[.slice A4 d2.length c4, .string x] V (U8End (stt d2 x) V)) := fun V x hV => rstate_any d2 A4 c4 x V (lies_on hl4 hV) (by have := HLN2.out; omega)
      have HLR : Hid (∀ V, Below w4.heap.size w4 V → Lies V V.heap.size A2 (strsC R)) := fun V hV => lies_on (lies_on (lies_on hl2 hb3) hb4) hV
      have HFR : ∀ r ∈ M, frm r = true := fun r hr => by rw [HM.out] at hr; exact (List.mem_filter.1 hr).2
      have HPN : ∀ s, nmB M s = nmB l s := fun s => by rw [HM.out]; exact nmB_filter l s
      have HSR : Hid (SrtOf (R.filter fun s => !decide (stt d1 s = stt d2 s)) (eff l d1 d2)) := hR.filt (rnm_mem HFR) (fun s h => nmB_le HOK.out (by rw [← HPN s]; exact h)) (fun s => by rw [HPN s]; rfl)
      have HTR : Hid (R.take R.length = R) := List.take_length
      have HBE : Hid (∀ V, Below w4.heap.size w4 V → Below w.heap.size w V) := fun V hV => HBW.out V (hB4.trans (hV.mono hB4.size))
      have hRef : Below w4.heap.size w4 w4 := Below.refl _ _
      clear hR hl2 hl3 hl4 hb2 hb3 hb4 hB2 hB3 hB4 HFR HPN a0 a1 a2 HNA HLM HL HY HBW HOK HM hbw
      go_wp2
      go_loopw [13, 14] (fun v y wr => ∃ (k : Nat) (M : List ByteArray) (A' : Option Addr) (c' : Nat), k ≤ R.length ∧ v = .slice A' M.length c' ∧ y = .int .i64 k ∧ Hid (M = (R.take k).filter fun s => !decide (stt d1 s = stt d2 s)) ∧ M.length ≤ k ∧ Hid (wr.ownsRow w4.heap.size 9 1 (.slice A' M.length c') M.length (strsC M)) ∧ Hid (Below w4.heap.size w4 wr)) (fun _ y _ => R.length - (intOf y).toNat)
      case atStart => exact ⟨0, [], none, 0, by omega, rfl, rfl, rfl, by simp, World.ownsRow_nil _ _ _ _, hRef⟩
      case round =>
        obtain ⟨k, M, A', c', hk, rfl, rfl, HM, hMl, ho, hbw⟩ := hrel
        clear hRef
        by_cases hlt : k < R.length
        · obtain ⟨ad, e, _, c0⟩ := str_at (HLR.out wr hbw.out) hlt
          subst e
          have HCC : Hid (∀ V, Below w4.heap.size w4 V → V.cell? (ad.add k) = some (.string R[k])) := fun V hV => by
            obtain ⟨ad2, e, _, g⟩ := str_at (HLR.out V hV) hlt
            cases e; exact g
          have HY := Lib.hid (fun h => filt_yes (F := fun s => !decide (stt d1 s = stt d2 s)) hlt h)
          have HN := Lib.hid (fun h => filt_no (F := fun s => !decide (stt d1 s = stt d2 s)) hlt h)
          rw [← HM.out] at HY HN
          have HS1 := Lib.hid (fun V (hV : Below w4.heap.size w4 V) => HST1.out V R[k] hV)
          have HS2 := Lib.hid (fun V (hV : Below w4.heap.size w4 V) => HST2.out V R[k] hV)
          have hkI : (k : Int) < (R.length : Int) := by omega
          clear HST1 HST2 HLR HM
          generalize R[k] = x at *
          generalize stt d1 x = q1 at *
          generalize stt d2 x = q2 at *
          go_upto_region 15 with fail
          go_cut [63] (fun s63 wx => s63 = .bool (!decide (q1 = q2)) ∧ Hid (Below w4.heap.size w4 wx) ∧ Hid (wx.ownsRow w4.heap.size 9 1 (.slice A' M.length c') M.length (strsC M)))
          case first =>
            refine wp_region_held_drew (S := fun V => V.cell? (ad.add k) = some (.string x)) (by kernel_rfl) ?_ (fun hHeld => ?_)
            · exact HCC.out _ hbw.out.drew
            have hBd := hbw.out.drew
            have hod := ho.out.drew
            clear ho hbw
            generalize World.drew _ = u0 at *
            (refine held_take 0 (some 51) ?_ rfl (by kernel_rfl) (by kernel_rfl) (by kernel_rfl) (by rfl) (fun _ _ _ h => h) (by assumption) (fun w hSw => ?_) ?_; rotate_left; ((try dsimp only at hSw); simp only [List.getElem?_toArray, List.getElem?_cons_zero, List.getElem?_cons_succ, Option.map_some]; refine congrArg some ?_; go_simp; (try with_reducible rfl)); (try simp only [Act.put, List.setIfInBounds_toArray, List.set_cons_zero, List.set_cons_succ]))
            (refine held_take 1 (some 52) ?_ rfl (by kernel_rfl) (by kernel_rfl) (by kernel_rfl) (by rfl) (fun _ _ _ h => h) (by assumption) (fun w hSw => ?_) ?_; rotate_left; ((try dsimp only at hSw); simp only [List.getElem?_toArray, List.getElem?_cons_zero, List.getElem?_cons_succ, Option.map_some]; refine congrArg some ?_; go_simp; (try with_reducible rfl)); (try simp only [Act.put, List.setIfInBounds_toArray, List.set_cons_zero, List.set_cons_succ]))
            (refine held_take 2 (some 53) ?_ rfl (by kernel_rfl) (by kernel_rfl) (by kernel_rfl) (by rfl) (fun _ _ _ h => h) (by assumption) (fun w hSw => ?_) ?_; rotate_left; ((try dsimp only at hSw); simp only [List.getElem?_toArray, List.getElem?_cons_zero, List.getElem?_cons_succ, Option.map_some]; refine congrArg some ?_; go_simp; (try with_reducible rfl)); (try simp only [Act.put, List.setIfInBounds_toArray, List.set_cons_zero, List.set_cons_succ]))
            (refine held_take 3 (some 54) ?_ rfl (by kernel_rfl) (by kernel_rfl) (by kernel_rfl) (by rfl) (fun _ _ _ h => h) (by assumption) (fun w hSw => ?_) ?_; rotate_left; ((try dsimp only at hSw); simp only [List.getElem?_toArray, List.getElem?_cons_zero, List.getElem?_cons_succ, Option.map_some]; refine congrArg some ?_; go_simp; (try with_reducible rfl)); (try simp only [Act.put, List.setIfInBounds_toArray, List.set_cons_zero, List.set_cons_succ]))
            (refine held_take 4 (some 55) ?_ rfl (by kernel_rfl) (by kernel_rfl) (by kernel_rfl) (by rfl) (fun _ _ _ h => h) (by assumption) (fun w hSw => ?_) ?_; rotate_left; ((try dsimp only at hSw); simp only [List.getElem?_toArray, List.getElem?_cons_zero, List.getElem?_cons_succ, Option.map_some]; refine congrArg some ?_; go_simp; (try with_reducible rfl)); (try simp only [Act.put, List.setIfInBounds_toArray, List.set_cons_zero, List.set_cons_succ]))
            (refine held_take 6 (some 57) ?_ rfl (by kernel_rfl) (by kernel_rfl) (by kernel_rfl) (by rfl) (fun _ _ _ h => h) (by assumption) (fun w hSw => ?_) ?_; rotate_left; ((try dsimp only at hSw); simp only [List.getElem?_toArray, List.getElem?_cons_zero, List.getElem?_cons_succ, Option.map_some]; refine congrArg some ?_; go_simp; (try with_reducible rfl)); (try simp only [Act.put, List.setIfInBounds_toArray, List.set_cons_zero, List.set_cons_succ]))
            (refine held_take 7 (some 58) ?_ rfl (by kernel_rfl) (by kernel_rfl) (by kernel_rfl) (by rfl) (fun _ _ _ h => h) (by assumption) (fun w hSw => ?_) ?_; rotate_left; ((try dsimp only at hSw); simp only [List.getElem?_toArray, List.getElem?_cons_zero, List.getElem?_cons_succ, Option.map_some]; refine congrArg some ?_; go_simp; (try with_reducible rfl)); (try simp only [Act.put, List.setIfInBounds_toArray, List.set_cons_zero, List.set_cons_succ]))
            (refine held_take 8 (some 59) ?_ rfl (by kernel_rfl) (by kernel_rfl) (by kernel_rfl) (by rfl) (fun _ _ _ h => h) (by assumption) (fun w hSw => ?_) ?_; rotate_left; ((try dsimp only at hSw); simp only [List.getElem?_toArray, List.getElem?_cons_zero, List.getElem?_cons_succ, Option.map_some]; refine congrArg some ?_; go_simp; (try with_reducible rfl)); (try simp only [Act.put, List.setIfInBounds_toArray, List.set_cons_zero, List.set_cons_succ]))
            (refine held_take 9 (some 60) ?_ rfl (by kernel_rfl) (by kernel_rfl) (by kernel_rfl) (by rfl) (fun _ _ _ h => h) (by assumption) (fun w hSw => ?_) ?_; rotate_left; ((try dsimp only at hSw); simp only [List.getElem?_toArray, List.getElem?_cons_zero, List.getElem?_cons_succ, Option.map_some]; refine congrArg some ?_; go_simp; (try with_reducible rfl)); (try simp only [Act.put, List.setIfInBounds_toArray, List.set_cons_zero, List.set_cons_succ]))
            (refine held_take 10 (some 61) ?_ rfl (by kernel_rfl) (by kernel_rfl) (by kernel_rfl) (by rfl) (fun _ _ _ h => h) (by assumption) (fun w hSw => ?_) ?_; rotate_left; ((try dsimp only at hSw); simp only [List.getElem?_toArray, List.getElem?_cons_zero, List.getElem?_cons_succ, Option.map_some]; refine congrArg some ?_; go_simp; (try with_reducible rfl)); (try simp only [Act.put, List.setIfInBounds_toArray, List.set_cons_zero, List.set_cons_succ]))
            (refine held_call 5 (some 56) 92 _ rfl (by kernel_rfl) (by rfl) ?_ ((HS1.out _ hBd)) ?_; rotate_left; rotate_left; (simp only [List.getElem?_toArray, List.getElem?_cons_zero, List.getElem?_cons_succ, Option.map_some]; refine congrArg some ?_; go_simp))
            rintro e u1 ⟨rfl, hb1⟩
            have hB1 := Below.trans hBd (hb1.mono (Below.size hBd))
            have ho1 := ownsRow_below hod hb1 (Nat.le_refl _)
            refine ⟨_, rfl, HCC.out _ hB1, fun hHeld => ?_⟩
            (try simp only [Act.put, List.setIfInBounds_toArray, List.set_cons_zero, List.set_cons_succ])
            (refine held_call 11 (some 62) 92 _ rfl (by kernel_rfl) (by rfl) ?_ ((HS2.out _ hB1)) ?_; rotate_left; rotate_left; (simp only [List.getElem?_toArray, List.getElem?_cons_zero, List.getElem?_cons_succ, Option.map_some]; refine congrArg some ?_; go_simp))
            rintro e u2 ⟨rfl, hb2⟩
            have hB2 := Below.trans hB1 (hb2.mono (Below.size hB1))
            have ho2 := ownsRow_below ho1 hb2 (Nat.le_refl _)
            refine ⟨_, rfl, HCC.out _ hB2, fun hHeld => ?_⟩
            (try simp only [Act.put, List.setIfInBounds_toArray, List.set_cons_zero, List.set_cons_succ])
            (refine held_take 12 (some 63) ?_ rfl (by kernel_rfl) (by kernel_rfl) (by kernel_rfl) (by rfl) (fun _ _ _ h => h) (by assumption) (fun w hSw => ?_) ?_; rotate_left; ((try dsimp only at hSw); simp only [List.getElem?_toArray, List.getElem?_cons_zero, List.getElem?_cons_succ, Option.map_some]; refine congrArg some ?_; go_simp; (try with_reducible rfl)); (try simp only [Act.put, List.setIfInBounds_toArray, List.set_cons_zero, List.set_cons_succ]))
            refine wpAnyH_done (by kernel_rfl) ?_ _
            clear hHeld
            have HQ : Hid ((((q1 : Nat) : Int) != ((q2 : Nat) : Int)) = !decide (q1 = q2)) := by
              show _ = _
              by_cases h : q1 = q2
              · rw [h]; simp
              · rw [decide_eq_false h]; show _ = true; rw [bne_iff_ne]; omega
            go_wp2_with fail
            go_meet
            exact ⟨by rw [← HQ.out], Lib.hid hB2, Lib.hid ho2⟩
          case rest =>
            obtain ⟨e63, hbx, hox⟩ := hcut
            subst e63
            generalize wc = wx at *
            have c7 := HCC.out _ hbx.out
            clear ho hbw HS1 HS2 c0
            cases hq : (!decide (q1 = q2)) with
            | true =>
              have HN2 := Lib.hid (HY.out hq)
              have HX := Lib.hid (show strsC M ++ [.string x] = strsC (M ++ [x]) by simp [strsC])
              have hlx : (M ++ [x]).length = M.length + 1 := by simp
              clear HY HN hq
              go_wp2_with (at_builtin; refine wpList_append1 rfl (.tmp 64) (.tmp 69) 34 rfl w4.heap.size 9 (.string ByteArray.empty) 1 16 Tryz.underlying34 info9 rfl (by decide) _ (M).length (strsC (M)) rfl (hox.out.alloc _) wx.heap.size #[.string x] 9 rfl (Bk.new _ _ _) rfl (by intro u hu; simp at hu; subst hu; rfl) (by omega) (by decide) (by have h1 := hbx.out.size; simp; omega) w4.heap.size w4 (hbx.out.alloc hbx.out.size _) (Nat.le_refl _) ?_; intro v' w5 ho5 hb5 _; replace ho5 : w5.ownsRow w4.heap.size 9 1 v' (M.length + 1) (strsC (M ++ [x])) := (by rw [← HX.out]; exact ho5); obtain ⟨A5, c5', rfl, _, _⟩ := ownsSlice ho5)
              go_roundw
              case rel => exact ⟨k + 1, M ++ [x], A5, c5', by omega, by rw [hlx], by go_num, HN2.out.symm, by omega, Lib.hid (by rw [hlx]; exact ho5), Lib.hid hb5⟩
              case measure => simp [intOf]; omega
            | false =>
              have HN2 := Lib.hid (HN.out hq)
              clear HY HN hq
              go_wp2_with fail
              go_roundw
              case rel => exact ⟨k + 1, M, A', c', by omega, rfl, by go_num, HN2.out.symm, by omega, hox, hbx⟩
              case measure => simp [intOf]; omega
        · obtain rfl : k = R.length := by omega
          rw [HTR.out] at HM
          rw [← HM.out] at HSR
          have HLI := Lib.hid (ownsRow_lies ho.out)
          have hcap := ownsSlice ho.out
          clear HST1 HST2 HLR ho
          go_wp2
          go_ret
          obtain ⟨A7, c7, e7, h1, h2⟩ := hcap
          cases e7
          exact ⟨M, A', c', HSR.out, by omega, rfl, HLI.out, ⟨h1, h2⟩, HBE.out _ hbw.out⟩
end Go.Proofs.YtkfeagokmcakgaaGreatDoor

namespace Go.Proofs.YtkfeagokmcakgaaGreatDoor
open Go.RowKit

theorem sameS_self (l : List ByteArray) : sameS l l = true := decide_eq_true rfl
set_option maxHeartbeats 2500000 in
set_option maxRecDepth 100000 in
theorem lawLists_any (l : List Rul) (A : Option Addr) (c : Nat) (k1 k2 : Int) (w : World) (hg : Glob w) (hl : Lies w w.heap.size A (rulesC l)) (hc : l.length ≤ c ∧ c ≤ maxLen)
    (hlw : ∀ r ∈ l, (r.x.size ≤ maxLen ∧ r.y.size ≤ maxLen) ∧ (0 ≤ r.kind ∧ r.kind ≤ 255)) :
    Calls Tryz.prog 16 #[.agg #[.slice A l.length c], .int .i64 k1, .int .i64 k2] w (fun e w' => e = .returned (.bool true) ∧ Below w.heap.size w w') := by
  have HW : Hid (Below w.heap.size w (w.alloc (.cells #[.slice A l.length c] 25))) := (Below.refl _ _).alloc (Nat.le_refl _) _
  have HK0 : Hid (Bk (w.alloc (.cells #[.slice A l.length c] 25)) w.heap.size 25 #[.slice A l.length c]) := Bk.new _ _ _
  have HL : Hid (∀ V, Below (w.alloc (.cells #[.slice A l.length c] 25)).heap.size (w.alloc (.cells #[.slice A l.length c] 25)) V → Lies V V.heap.size A (rulesC l)) := fun V hV => lies_on hl (HW.out.trans (hV.mono HW.out.size))
  have HR : Hid (∀ V, Below (w.alloc (.cells #[.slice A l.length c] 25)).heap.size (w.alloc (.cells #[.slice A l.length c] 25)) V → Calls Tryz.prog 17 #[] V (fun e w' => e = .returned (.bool true) ∧ Below V.heap.size V w')) := fun V hV => ruled_any V (hg.step (HW.out.trans (hV.mono HW.out.size)))
  go_enter Tryz.func16, Tryz.ntmps16
  go_upto_region 1 with fail
  have hBW0 : Below (w.alloc (.cells #[.slice A l.length c] 25)).heap.size (w.alloc (.cells #[.slice A l.length c] 25)) (w.alloc (.cells #[.slice A l.length c] 25)) := Below.refl _ _
  have HY : Hid (∀ V, Below (w.alloc (.cells #[.slice A l.length c] 25)).heap.size (w.alloc (.cells #[.slice A l.length c] 25)) V → V.cell? ⟨w.heap.size, 0, none⟩ = some (.slice A l.length c)) := fun V hV => (HK0.out.below hV HK0.out.lt).cell 0 rfl
  clear hl HK0
  generalize (w.alloc (.cells #[.slice A l.length c] 25)) = W0 at *
  have y0 := HY.out W0 hBW0
  generalize hb0 : w.heap.size = b0 at *
  have HSM : Hid (∀ V, Below W0.heap.size W0 V → Calls Tryz.prog 22 #[.agg #[.slice A l.length c]] V (ShEnd (smallB l) V)) := fun V hV => small_any l A c V (HL.out V hV) (fun r hr => (hlw r hr).1) (Nat.le_trans hc.1 hc.2)
  have HEND : Hid (∀ V, Below W0.heap.size W0 V → Below w.heap.size w V) := fun V hV => by subst hb0; exact HW.out.trans (hV.mono (by have := HW.out.size; omega))
  clear hb0
  cases hsm : smallB l
  · rw [hsm] at HSM
    clear HL hsm
    go_wp2_with (first | (go_at_call 22; refine (HSM.out _ (by assumption)).mono ?_; rintro e w1 ⟨rfl, hb⟩; have hBw1 : Below W0.heap.size W0 w1 := Below.trans (by assumption) (hb.mono (Below.size (by assumption))); have yw1 := HY.out w1 hBw1; clear hb) | (go_at_call 17; refine (HR.out _ (by assumption)).mono ?_; rintro e z ⟨rfl, hb⟩; have hBz : Below W0.heap.size W0 z := Below.trans (by assumption) (hb.mono (Below.size (by assumption))); clear hb))
    go_ret
    exact ⟨rfl, HEND.out _ hBz⟩
  rw [hsm] at HSM
  have hO := small_ok hsm (fun r hr => (hlw r hr).2)
  clear hsm hlw
  have hlen : l.length ≤ 500 := by have := hO.2; omega
  have H58 : Hid (∀ V, Below W0.heap.size W0 V → Calls Tryz.prog 58 #[.agg #[.slice A l.length c], .int .i64 k1] V (GpE (ctr (cntL l k1)) V)) := fun V hV => contrary_any l A c k1 V (HL.out V hV) hO.1 (by omega)
  have H59 : Hid (∀ V, Below W0.heap.size W0 V → Calls Tryz.prog 59 #[.agg #[.slice A l.length c], .int .i64 k1] V (GpE (ctr (cntL l k1)) V)) := fun V hV => rcontrary_any l A c k1 V (HL.out V hV) hO.1 hlen
  have H60 : Hid (∀ V, Below W0.heap.size W0 V → Calls Tryz.prog 60 #[.agg #[.slice A l.length c], .int .i64 k1, .int .i64 k2] V (GpE (eff l (cntL l k1) (cntL l k2)) V)) := fun V hV => effect_any l A c k1 k2 V (HL.out V hV) hO.1 (by omega)
  have H61 : Hid (∀ V, Below W0.heap.size W0 V → Calls Tryz.prog 61 #[.agg #[.slice A l.length c], .int .i64 k1, .int .i64 k2] V (GpE (eff l (cntL l k1) (cntL l k2)) V)) := fun V hV => reffect_any l A c k1 k2 V (HL.out V hV) hO.1 hlen
  clear HL hO hlen
  generalize ctr (cntL l k1) = p1 at *
  generalize eff l (cntL l k1) (cntL l k2) = p2 at *
  go_upto_region 3 with (go_at_call 22; refine (HSM.out _ hBW0).mono ?_; rintro e w1 ⟨rfl, hb⟩; have hB1 : Below W0.heap.size W0 w1 := hBW0.trans (hb.mono hBW0.size); clear hb)
  clear HSM y0
  go_cut [6] (fun s6 wx => s6 = .bool true ∧ Hid (Below W0.heap.size W0 wx))
  case first =>
    refine wp_region_held_drew (S := fun V => V.cell? ⟨b0, 0, none⟩ = some (.slice A l.length c)) (by kernel_rfl) ?_ (fun hHeld => ?_)
    · exact HY.out _ hB1.drew
    have hBd := hB1.drew
    generalize World.drew _ = u0 at *
    (refine held_call 0 (some 11) 17 _ rfl (by kernel_rfl) (by rfl) ?_ ((HR.out _ hBd)) ?_; rotate_left; rotate_left; (simp only [List.getElem?_toArray, List.getElem?_cons_zero, List.getElem?_cons_succ, Option.map_some]; refine congrArg some ?_; go_simp))
    rintro e u1 ⟨rfl, hb1⟩
    have hB_1 := Below.trans hBd (hb1.mono (Below.size hBd))
    refine ⟨_, rfl, HY.out _ hB_1, fun hHeld => ?_⟩
    (try simp only [Act.put, List.setIfInBounds_toArray, List.set_cons_zero, List.set_cons_succ])
    refine tk 1 12 ?_
    refine tk 2 13 ?_
    refine tk 3 14 ?_
    refine tk 5 16 ?_
    refine tk 6 17 ?_
    (refine held_call 4 (some 15) 58 _ rfl (by kernel_rfl) (by rfl) ?_ ((H58.out _ hB_1)) ?_; rotate_left; rotate_left; (simp only [List.getElem?_toArray, List.getElem?_cons_zero, List.getElem?_cons_succ, Option.map_some]; refine congrArg some ?_; go_simp))
    rintro e u2 ⟨R2, A2, c2, hR2, hRl2, rfl, hl2, hc2, hb2⟩
    have hB_2 := Below.trans hB_1 (hb2.mono (Below.size hB_1))
    refine ⟨_, rfl, HY.out _ hB_2, fun hHeld => ?_⟩
    (try simp only [Act.put, List.setIfInBounds_toArray, List.set_cons_zero, List.set_cons_succ])
    (refine held_call 7 (some 18) 59 _ rfl (by kernel_rfl) (by rfl) ?_ ((H59.out _ hB_2)) ?_; rotate_left; rotate_left; (simp only [List.getElem?_toArray, List.getElem?_cons_zero, List.getElem?_cons_succ, Option.map_some]; refine congrArg some ?_; go_simp))
    rintro e u3 ⟨R3, A3, c3, hR3, hRl3, rfl, hl3, hc3, hb3⟩
    have hB_3 := Below.trans hB_2 (hb3.mono (Below.size hB_2))
    refine ⟨_, rfl, HY.out _ hB_3, fun hHeld => ?_⟩
    (try simp only [Act.put, List.setIfInBounds_toArray, List.set_cons_zero, List.set_cons_succ])
    have hRR4 := hR2.uniq hR3
    subst hRR4
    have HE4 : Hid (∀ V, Below u3.heap.size u3 V → Calls Tryz.prog 40 #[.slice A2 R2.length c2, .slice A3 R2.length c3] V (ShEnd true V)) := fun V hV => by have h := sameStrs_any R2 R2 A2 A3 c2 c3 V (lies_on (lies_on hl2 hb3) hV) (lies_on hl3 hV) (by omega) (by omega); rwa [sameS_self] at h
    (refine held_call 8 (some 19) 40 _ rfl (by kernel_rfl) (by rfl) ?_ ((HE4.out _ (Below.refl _ _))) ?_; rotate_left; rotate_left; (simp only [List.getElem?_toArray, List.getElem?_cons_zero, List.getElem?_cons_succ, Option.map_some]; refine congrArg some ?_; go_simp))
    rintro e u4 ⟨rfl, hb4⟩
    have hB_4 := Below.trans hB_3 (hb4.mono (Below.size hB_3))
    refine ⟨_, rfl, HY.out _ hB_4, fun hHeld => ?_⟩
    (try simp only [Act.put, List.setIfInBounds_toArray, List.set_cons_zero, List.set_cons_succ])
    refine tk 9 20 ?_
    refine tk 10 21 ?_
    refine tk 11 22 ?_
    refine tk 12 23 ?_
    refine tk 13 24 ?_
    refine tk 15 26 ?_
    refine tk 16 27 ?_
    refine tk 17 28 ?_
    (refine held_call 14 (some 25) 60 _ rfl (by kernel_rfl) (by rfl) ?_ ((H60.out _ hB_4)) ?_; rotate_left; rotate_left; (simp only [List.getElem?_toArray, List.getElem?_cons_zero, List.getElem?_cons_succ, Option.map_some]; refine congrArg some ?_; go_simp))
    rintro e u5 ⟨R5, A5, c5, hR5, hRl5, rfl, hl5, hc5, hb5⟩
    have hB_5 := Below.trans hB_4 (hb5.mono (Below.size hB_4))
    refine ⟨_, rfl, HY.out _ hB_5, fun hHeld => ?_⟩
    (try simp only [Act.put, List.setIfInBounds_toArray, List.set_cons_zero, List.set_cons_succ])
    (refine held_call 18 (some 29) 61 _ rfl (by kernel_rfl) (by rfl) ?_ ((H61.out _ hB_5)) ?_; rotate_left; rotate_left; (simp only [List.getElem?_toArray, List.getElem?_cons_zero, List.getElem?_cons_succ, Option.map_some]; refine congrArg some ?_; go_simp))
    rintro e u6 ⟨R6, A6, c6, hR6, hRl6, rfl, hl6, hc6, hb6⟩
    have hB_6 := Below.trans hB_5 (hb6.mono (Below.size hB_5))
    refine ⟨_, rfl, HY.out _ hB_6, fun hHeld => ?_⟩
    (try simp only [Act.put, List.setIfInBounds_toArray, List.set_cons_zero, List.set_cons_succ])
    have hRR7 := hR5.uniq hR6
    subst hRR7
    have HE7 : Hid (∀ V, Below u6.heap.size u6 V → Calls Tryz.prog 40 #[.slice A5 R5.length c5, .slice A6 R5.length c6] V (ShEnd true V)) := fun V hV => by have h := sameStrs_any R5 R5 A5 A6 c5 c6 V (lies_on (lies_on hl5 hb6) hV) (lies_on hl6 hV) (by omega) (by omega); rwa [sameS_self] at h
    (refine held_call 19 (some 30) 40 _ rfl (by kernel_rfl) (by rfl) ?_ ((HE7.out _ (Below.refl _ _))) ?_; rotate_left; rotate_left; (simp only [List.getElem?_toArray, List.getElem?_cons_zero, List.getElem?_cons_succ, Option.map_some]; refine congrArg some ?_; go_simp))
    rintro e u7 ⟨rfl, hb7⟩
    have hB_7 := Below.trans hB_6 (hb7.mono (Below.size hB_6))
    refine ⟨_, rfl, HY.out _ hB_7, fun hHeld => ?_⟩
    (try simp only [Act.put, List.setIfInBounds_toArray, List.set_cons_zero, List.set_cons_succ])
    refine tk 20 31 ?_
    refine tk 21 6 ?_
    refine wpAnyH_done (by kernel_rfl) ?_ _
    clear hHeld
    go_wp2_with fail
    go_meet
    exact ⟨rfl, Lib.hid hB_7⟩
  case rest =>
    obtain ⟨e6, hbx⟩ := hcut
    subst e6
    go_wp2_with fail
    go_ret
    exact ⟨rfl, HEND.out _ hbx.out⟩
end Go.Proofs.YtkfeagokmcakgaaGreatDoor

namespace Go.Proofs.YtkfeagokmcakgaaGreatDoor
open Go.ChangeShapes Go.WideShapes Go.ChangeAt Go.RowKit Go.Deep

set_option maxHeartbeats 20000000 in
set_option maxRecDepth 100000 in
theorem lists_facts : joinedFacts Tryz.prog 16 Tryz.f16 Rows.pigmentListsSpec Rows.pigmentListsRow = true := by
  unfold joinedFacts
  simp only [Bool.and_eq_true]
  repeat' (refine And.intro ?_ ?_)
  all_goals (as_aux_lemma => kernel_rfl)
end Go.Proofs.YtkfeagokmcakgaaGreatDoor
