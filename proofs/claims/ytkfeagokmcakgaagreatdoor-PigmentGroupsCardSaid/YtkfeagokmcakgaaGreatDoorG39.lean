/- giornatalaw06.PigmentGroups (fn 8): its walk. Printed by gen_k20.py. -/
import Derived.Test.YtkfeagokmcakgaaGreatDoorG02
import Derived.Test.YtkfeagokmcakgaaGreatDoorG07
import Derived.Test.YtkfeagokmcakgaaGreatDoorG17
import Derived.Test.YtkfeagokmcakgaaGreatDoorG38

set_option linter.unusedVariables false
set_option linter.unusedSimpArgs false

namespace Go.Proofs.YtkfeagokmcakgaaGreatDoor
open Go.RowKit

theorem lies_gi {w : World} {B : Nat} {ad : Addr} {cs : List Value} (h : Lies w B (some ad) cs) {j : Nat} {u : Value} (hj : cs[j]? = some u) : w.cell? (ad.add j) = some u := by
  obtain ⟨a2, e, _, hc⟩ := h (by intro e; rw [e] at hj; simp at hj)
  cases e
  exact hc j u hj
set_option maxHeartbeats 6000000 in
set_option maxRecDepth 100000 in
theorem lawGroups_any (l : List Rul) (A : Option Addr) (c : Nat) (known : Int) (x y : ByteArray) (w : World) (hg : Glob w) (hl : Lies w w.heap.size A (rulesC l)) (hc : l.length ≤ c ∧ c ≤ maxLen)
    (hlw : ∀ r ∈ l, (r.x.size ≤ maxLen ∧ r.y.size ≤ maxLen) ∧ (0 ≤ r.kind ∧ r.kind ≤ 255)) (hx : x.size ≤ maxLen) (hy : y.size ≤ maxLen) :
    Calls Tryz.prog 8 #[.agg #[.slice A l.length c], .int .i64 known, .string x, .string y] w (fun e w' => e = .returned (.bool true) ∧ Below w.heap.size w w') := by
  have HW : Hid (Below w.heap.size w (w.alloc (.cells #[.slice A l.length c] 25))) := (Below.refl _ _).alloc (Nat.le_refl _) _
  have HK0 : Hid (Bk (w.alloc (.cells #[.slice A l.length c] 25)) w.heap.size 25 #[.slice A l.length c]) := Bk.new _ _ _
  have HL : Hid (∀ V, Below (w.alloc (.cells #[.slice A l.length c] 25)).heap.size (w.alloc (.cells #[.slice A l.length c] 25)) V → Lies V V.heap.size A (rulesC l)) := fun V hV => lies_on hl (HW.out.trans (hV.mono HW.out.size))
  have HR : Hid (∀ V, Below (w.alloc (.cells #[.slice A l.length c] 25)).heap.size (w.alloc (.cells #[.slice A l.length c] 25)) V → Calls Tryz.prog 17 #[] V (fun e w' => e = .returned (.bool true) ∧ Below V.heap.size V w')) := fun V hV => ruled_any V (hg.step (HW.out.trans (hV.mono HW.out.size)))
  go_enter Tryz.func8, Tryz.ntmps8
  go_upto_region 1 with fail
  have hBW0 : Below (w.alloc (.cells #[.slice A l.length c] 25)).heap.size (w.alloc (.cells #[.slice A l.length c] 25)) (w.alloc (.cells #[.slice A l.length c] 25)) := Below.refl _ _
  have HY : Hid (∀ V, Below (w.alloc (.cells #[.slice A l.length c] 25)).heap.size (w.alloc (.cells #[.slice A l.length c] 25)) V → V.cell? ⟨w.heap.size, 0, none⟩ = some (.slice A l.length c)) := fun V hV => (HK0.out.below hV HK0.out.lt).cell 0 rfl
  clear hg hl HK0
  generalize (w.alloc (.cells #[.slice A l.length c] 25)) = W0 at *
  have y0 := HY.out W0 hBW0
  generalize hb0 : w.heap.size = b0 at *
  have HSM : Hid (∀ V, Below W0.heap.size W0 V → Calls Tryz.prog 22 #[.agg #[.slice A l.length c]] V (ShEnd (smallB l) V)) := fun V hV => small_any l A c V (HL.out V hV) (fun r hr => (hlw r hr).1) (Nat.le_trans hc.1 hc.2)
  have HEND : Hid (∀ V, Below W0.heap.size W0 V → Below w.heap.size w V) := fun V hV => by subst hb0; exact HW.out.trans (hV.mono (by have := HW.out.size; omega))
  have hz2 : (x.size : Int) ≤ 9223372036854775807 := by unfold maxLen at hx; omega
  have hz3 : (y.size : Int) ≤ 9223372036854775807 := by unfold maxLen at hy; omega
  clear hb0 hx hy
  cases hsm : smallB l
  · rw [hsm] at HSM
    clear HL hsm
    go_wp2_with (first | (go_at_call 22; refine (HSM.out _ (by assumption)).mono ?_; rintro e w1 ⟨rfl, hb⟩; have hBw1 : Below W0.heap.size W0 w1 := Below.trans (by assumption) (hb.mono (Below.size (by assumption))); have yw1 := HY.out w1 hBw1; clear hb) | (go_at_call 17; refine (HR.out _ (by assumption)).mono ?_; rintro e z ⟨rfl, hb⟩; have hBz : Below W0.heap.size W0 z := Below.trans (by assumption) (hb.mono (Below.size (by assumption))); clear hb))
    go_ret
    exact ⟨rfl, HEND.out _ hBz⟩
  rw [hsm] at HSM
  have hO := small_ok hsm (fun r hr => (hlw r hr).2)
  clear hsm hlw
  by_cases hxs : x.size ≤ 60
  case neg =>
    have h152 : (60 : Int) < (x.size : Int) := by omega
    clear HL
    go_wp2_with (first | (go_at_call 22; refine (HSM.out _ (by assumption)).mono ?_; rintro e w1 ⟨rfl, hb⟩; have hBw1 : Below W0.heap.size W0 w1 := Below.trans (by assumption) (hb.mono (Below.size (by assumption))); have yw1 := HY.out w1 hBw1; clear hb) | (go_at_call 17; refine (HR.out _ (by assumption)).mono ?_; rintro e z ⟨rfl, hb⟩; have hBz : Below W0.heap.size W0 z := Below.trans (by assumption) (hb.mono (Below.size (by assumption))); clear hb))
    go_ret
    exact ⟨rfl, HEND.out _ hBz⟩
  have h152 : ¬ (60 : Int) < (x.size : Int) := by omega
  by_cases hys : y.size ≤ 60
  case neg =>
    have h153 : (60 : Int) < (y.size : Int) := by omega
    clear HL
    go_wp2_with (first | (go_at_call 22; refine (HSM.out _ (by assumption)).mono ?_; rintro e w1 ⟨rfl, hb⟩; have hBw1 : Below W0.heap.size W0 w1 := Below.trans (by assumption) (hb.mono (Below.size (by assumption))); have yw1 := HY.out w1 hBw1; clear hb) | (go_at_call 17; refine (HR.out _ (by assumption)).mono ?_; rintro e z ⟨rfl, hb⟩; have hBz : Below W0.heap.size W0 z := Below.trans (by assumption) (hb.mono (Below.size (by assumption))); clear hb))
    go_ret
    exact ⟨rfl, HEND.out _ hBz⟩
  have h153 : ¬ (60 : Int) < (y.size : Int) := by omega
  have hOK := hO.1
  have h25 := hO.2
  have hdl : (cntL l known).length ≤ 25 := Nat.le_trans (cnt_len l known) h25
  have hdok : RulOK (cntL l known) := hOK.sub (cnt_sub l known)
  have HG : Hid (∀ V, Below W0.heap.size W0 V → ∀ s, s.size ≤ 100 → Calls Tryz.prog 41 #[.agg #[.slice A l.length c], .int .i64 known, .string s] V (GpE (inG (cntL l known) s) V)) := fun V hV s hs => Groups_any l A c known s V (HL.out V hV) hOK (by omega) hs
  have HC : Hid (∀ V, Below W0.heap.size W0 V → Calls Tryz.prog 38 #[.agg #[.slice A l.length c], .int .i64 known] V (SlE (cntL l known) V)) := fun V hV => counting_any l A c known V (HL.out V hV) hOK (by omega)
  have HK : Hid (∀ V, Below W0.heap.size W0 V → Calls Tryz.prog 46 #[.agg #[.slice A l.length c]] V (Int2End (chkL l) V)) := fun V hV => check_any l A c V (HL.out V hV) hOK (by omega) hc.1 hc.2
  have HM : Hid (∀ V, Below W0.heap.size W0 V → ∀ s, s.size ≤ 100 → Calls Tryz.prog 31 #[.agg #[.slice A l.length c], .int .i64 known, .string y, .string s] V (BarE (barL (cntL l known) 4 y s false) V)) := fun V hV s hs => mayOver_any l A c known y s V (HL.out V hV) hOK (by omega) (by omega) hs
  have HN : Hid (∀ V, Below W0.heap.size W0 V → ∀ s, s.size ≤ 100 → Calls Tryz.prog 27 #[.agg #[.slice A l.length c], .int .i64 known, .string x, .string s] V (ChnE (cntL l known) x s V)) := fun V hV s hs => (chain_any l A c known x s V (HL.out V hV) hOK (by omega) (by omega) hs).mono fun e w' h => chnE_of h
  have HZS : Hid (∀ z, inG (cntL l known) x z = true → z.size ≤ 100) := fun z hz => inG_size hdok (by omega) hz
  have HNM : Hid (∀ r ∈ cntL l known, r.kind = 5 → r.y.size ≠ 0) := cnt_names
  have HID : Hid ((chkL l).2 = 0 → ∀ r ∈ cntL l known, ∀ s ∈ cntL l known, r.id = s.id → r = s) := fun h => cnt_ids (chkL_fine h)
  have HDK := Lib.hid hdok
  have hxx : inG (cntL l known) x x = true := inG_self _ _
  have hys100 : y.size ≤ 100 := by omega
  have hxs100 : x.size ≤ 100 := by omega
  clear hO hOK h25 HL hdok hc
  generalize chkL l = CH at *
  obtain ⟨q1, q2⟩ := CH
  dsimp only at *
  generalize cntL l known = d at *
  go_upto_region 3 with (go_at_call 22; refine (HSM.out _ (by assumption)).mono ?_; rintro e w1 ⟨rfl, hb⟩; have hBw1 : Below W0.heap.size W0 w1 := Below.trans (by assumption) (hb.mono (Below.size (by assumption))); have yw1 := HY.out w1 hBw1; clear hb)
  clear y0 hBW0 HSM
  have HG0 := Lib.hid (HG.out w1 hBw1 x hxs100)
  go_upto_region 4 with (go_at_call 41; refine HG0.out.mono ?_; rintro e w2 ⟨R, A1, c1, hR, hR4, rfl, l1, hc1, hb2⟩; have hBw2 := hBw1.trans (hb2.mono hBw1.size); have yw2 := HY.out w2 hBw2)
  have HR1 : Hid (∀ V, Below w2.heap.size w2 V → Lies V V.heap.size A1 (strsC R)) := fun V hV => lies_on l1 hV
  have HSR := Lib.hid hR
  clear HG0 hb2 l1 hR yw1 hBw1
  go_upto_region 5 with (go_at_call 38; refine (HC.out _ hBw2).mono ?_; rintro e w3 ⟨A2, c2, rfl, l2, hc2, hb3⟩; have hBw3 := hBw2.trans (hb3.mono hBw2.size); have yw3 := HY.out w3 hBw3)
  have HR1 := Lib.hid (fun V (hV : Below w3.heap.size w3 V) => HR1.out V (hb3.trans (hV.mono hb3.size)))
  have HD1 : Hid (∀ V, Below w3.heap.size w3 V → Lies V V.heap.size A2 (rulesC d)) := fun V hV => lies_on l2 hV
  clear HC hb3 l2 yw2 hBw2
  go_upto_region 6 with (go_at_call 46; refine (HK.out _ hBw3).mono ?_; rintro e w4 ⟨rfl, hb4⟩; have hBw4 := hBw3.trans (hb4.mono hBw3.size))
  have HR1 := Lib.hid (fun V (hV : Below w4.heap.size w4 V) => HR1.out V (hb4.trans (hV.mono hb4.size)))
  have HD1 := Lib.hid (fun V (hV : Below w4.heap.size w4 V) => HD1.out V (hb4.trans (hV.mono hb4.size)))
  have HY := Lib.hid (fun V (hV : Below w4.heap.size w4 V) => HY.out V (hBw4.trans (hV.mono hBw4.size)))
  have HG := Lib.hid (fun V (hV : Below w4.heap.size w4 V) => HG.out V (hBw4.trans (hV.mono hBw4.size)))
  have HM := Lib.hid (fun V (hV : Below w4.heap.size w4 V) => HM.out V (hBw4.trans (hV.mono hBw4.size)))
  have HN := Lib.hid (fun V (hV : Below w4.heap.size w4 V) => HN.out V (hBw4.trans (hV.mono hBw4.size)))
  have HR := Lib.hid (fun V (hV : Below w4.heap.size w4 V) => HR.out V (hBw4.trans (hV.mono hBw4.size)))
  have HEND := Lib.hid (fun V (hV : Below w4.heap.size w4 V) => HEND.out V (hBw4.trans (hV.mono hBw4.size)))
  have HH : Hid (∀ V, Below w4.heap.size w4 V → ∀ s, Calls Tryz.prog 26 #[.slice A1 R.length c1, .string s] V (ShEnd (decide (s ∈ R)) V)) := fun V hV s => has_any R A1 c1 s V (HR1.out V hV) (by unfold maxLen; omega)
  have HRX : Hid (∀ s, s ∈ R ↔ (s.size ≤ maxLen ∧ inG d x s = true)) := HSR.out.mem
  have HRI : Hid (∀ s, inG d x s = true → s ∈ R) := fun s hs => (HRX.out s).2 ⟨by have := HZS.out s hs; unfold maxLen; omega, hs⟩
  have HRO : Hid (∀ i (hi : i < R.length), inG d x R[i] = true ∧ R[i].size ≤ 100) := fun i hi => by
    have h := ((HRX.out _).1 (List.getElem_mem hi)).2
    exact ⟨h, HZS.out _ h⟩
  have hB4 : Below w4.heap.size w4 w4 := Below.refl _ _
  clear HK hb4 hBw4 yw3 hBw3 HSR
  have HH0 := Lib.hid (HH.out w4 hB4 x)
  rw [decide_eq_true (HRI.out x hxx)] at HH0
  go_upto_region 8 with (go_at_call 26; refine HH0.out.mono ?_; rintro e w5 ⟨rfl, hb5⟩; have hB5 := hB4.trans (hb5.mono hB4.size))
  clear HH0 hb5 hB4 hxx
  go_upto_region 9 with fail
  go_loopw [13] (fun s wr => ∃ i : Nat, i ≤ R.length ∧ s = .int .i64 i ∧ Below w4.heap.size w4 wr) (fun s _ => R.length - (intOf s).toNat)
  case atStart => exact ⟨0, by omega, rfl, hB5⟩
  case round =>
    obtain ⟨i, hi, rfl, hbw⟩ := hrel
    clear hB5
    by_cases hil : i < R.length
    · obtain ⟨hz, hzs⟩ := HRO.out i hil
      obtain ⟨ad, e1, _, _⟩ := str_at (HR1.out _ hbw) hil
      have HZC : Hid (∀ V, Below w4.heap.size w4 V → V.cell? (ad.add i) = some (.string R[i])) := fun V hV => by
        obtain ⟨a2, e2, _, h2⟩ := str_at (HR1.out V hV) hil
        rw [e1] at e2; cases e2; exact h2
      have hiI : (i : Int) < (R.length : Int) := by omega
      have HGz := Lib.hid (fun V hV => HG.out V hV R[i] hzs)
      have HMz := Lib.hid (fun V hV => HM.out V hV R[i] hzs)
      have HMx := Lib.hid (fun V hV => HM.out V hV x hxs100)
      have HNz := Lib.hid (fun V hV => HN.out V hV R[i] hzs)
      have HBS := Lib.hid (bar_sub (d := d) (kind := 4) (x := x) (y := y) (z := R[i]) hz)
      have HTR : Hid (∀ s, inG d R[i] s = true → s ∈ R) := fun s hs => HRI.out s (inG_trans hz hs)
      have HZZ := Lib.hid hz
      have HE1 := Lib.hid (str_eq R[i] x)
      have HE2 := Lib.hid (str_eq R[i] R[i])
      clear HRI HRO HG HM HN HRX HR1 HR hz hzs
      generalize R[i] = z at *
      subst e1
      go_upto_region 11 with fail
      go_cut [14] (fun s14 wx => ∃ (R2 : List ByteArray) (A3 : Option Addr) (c3 : Nat), s14 = .slice A3 R2.length c3 ∧ R2.length ≤ 10000 ∧ Hid (Lies wx wx.heap.size A3 (strsC R2)) ∧ Hid (∀ s ∈ R2, s ∈ R) ∧ Below w4.heap.size w4 wx)
      case first => as_aux_lemma =>
        refine wp_region_held_drew (S := (fun V => V.cell? ⟨b0, 0, none⟩ = some (.slice A l.length c) ∧ V.cell? (ad.add i) = some (.string z))) (by kernel_rfl) ?_ (fun hHeld => ?_)
        · exact ⟨HY.out _ hbw.drew, HZC.out _ hbw.drew⟩
        have hbd := hbw.drew
        generalize World.drew _ = u0 at *
        refine tk 0 64 ?_
        refine tk 1 65 ?_
        refine tk 2 66 ?_
        refine tk 3 67 ?_
        refine tk 4 68 ?_
        refine tk 5 69 ?_
        (refine held_call 6 (some 70) 41 _ rfl (by kernel_rfl) (by rfl) ?_ ((HGz.out _ hbd)) ?_; rotate_left; rotate_left; (simp only [List.getElem?_toArray, List.getElem?_cons_zero, List.getElem?_cons_succ, Option.map_some]; refine congrArg some ?_; go_simp))
        rintro e u1 ⟨R2, A3, c3, hR2, hR24, rfl, l3, _, hb⟩
        have hbu := hbd.trans (hb.mono hbd.size)
        refine ⟨_, rfl, ⟨HY.out _ hbu, HZC.out _ hbu⟩, fun hHeld => ?_⟩
        (try simp only [Act.put, List.setIfInBounds_toArray, List.set_cons_zero, List.set_cons_succ])
        refine tk 7 14 ?_
        refine wpAnyH_done (by kernel_rfl) ?_ _
        clear hHeld
        go_wp2_with fail
        go_meet
        exact ⟨R2, A3, c3, rfl, hR24, Lib.hid l3, Lib.hid (fun s hs => HTR.out s ((hR2.mem s).1 hs).2), hbu⟩
      case rest =>
        obtain ⟨R2, A3, c3, e14, hR24, HL3, HS3, hbc⟩ := hcut
        subst e14
        generalize wc = wA at *
        have HL3 : Hid (∀ V, Below wA.heap.size wA V → Lies V V.heap.size A3 (strsC R2)) := fun V hV => lies_on HL3.out hV
        have HY := Lib.hid (fun V (hV : Below wA.heap.size wA V) => HY.out V (hbc.trans (hV.mono hbc.size)))
        have HMz := Lib.hid (fun V (hV : Below wA.heap.size wA V) => HMz.out V (hbc.trans (hV.mono hbc.size)))
        have HMx := Lib.hid (fun V (hV : Below wA.heap.size wA V) => HMx.out V (hbc.trans (hV.mono hbc.size)))
        have HNz := Lib.hid (fun V (hV : Below wA.heap.size wA V) => HNz.out V (hbc.trans (hV.mono hbc.size)))
        have HEND := Lib.hid (fun V (hV : Below wA.heap.size wA V) => HEND.out V (hbc.trans (hV.mono hbc.size)))
        have HH := Lib.hid (fun V (hV : Below wA.heap.size wA V) => HH.out V (hbc.trans (hV.mono hbc.size)))
        have HZC := Lib.hid (fun V (hV : Below wA.heap.size wA V) => HZC.out V (hbc.trans (hV.mono hbc.size)))
        have HBC : Hid (∀ V, Below wA.heap.size wA V → Below w4.heap.size w4 V) := fun V hV => hbc.trans (hV.mono hbc.size)
        have HD1 := Lib.hid (fun V (hV : Below wA.heap.size wA V) => HD1.out V (hbc.trans (hV.mono hbc.size)))
        have hcc : Below wA.heap.size wA wA := Below.refl _ _
        clear hbw HGz HTR hbc
        go_upto_region 13 with fail
        go_loopw [15] (fun s wv => ∃ k : Nat, k ≤ R2.length ∧ s = .int .i64 k ∧ Below wA.heap.size wA wv) (fun s _ => R2.length - (intOf s).toNat)
        case atStart => exact ⟨0, by omega, rfl, hcc⟩
        case round =>
          obtain ⟨k, hk, rfl, hbv⟩ := hrel
          clear hcc
          by_cases hkl : k < R2.length
          · obtain ⟨a3, e3, _, x3⟩ := str_at (HL3.out _ hbv) hkl
            subst e3
            have hm := HS3.out _ (List.getElem_mem hkl)
            have HHk := Lib.hid (fun V hV => HH.out V hV R2[k])
            rw [decide_eq_true hm] at HHk
            have hkI : (k : Int) < (R2.length : Int) := by omega
            clear HS3 HL3 hm HH HMz HMx HNz HD1 HZC
            generalize R2[k] = s at *
            go_wp2_with (go_at_call 26; refine (HHk.out _ hbv).mono ?_; rintro e u1 ⟨rfl, hb⟩; have hbu := hbv.trans (hb.mono hbv.size); clear hb)
            go_roundw
            case rel => exact ⟨k + 1, by omega, by go_num, hbu⟩
            case measure => simp [intOf]; omega
          · obtain rfl : k = R2.length := by omega
            clear HS3 HL3 hkl hk HH
            go_upto_region 17 with fail
            go_cut [16] (fun s16 wx => s16 = .bool (barL d 4 y z false).1 ∧ Below wA.heap.size wA wx)
            case first => as_aux_lemma =>
              refine wp_region_held_drew (S := (fun V => V.cell? ⟨b0, 0, none⟩ = some (.slice A l.length c) ∧ V.cell? (ad.add i) = some (.string z))) (by kernel_rfl) ?_ (fun hHeld => ?_)
              · exact ⟨HY.out _ hbv.drew, HZC.out _ hbv.drew⟩
              have hbd := hbv.drew
              generalize World.drew _ = u0 at *
              refine tk 0 85 ?_
              refine tk 1 86 ?_
              refine tk 2 87 ?_
              refine tk 3 88 ?_
              refine tk 4 89 ?_
              refine tk 5 90 ?_
              refine tk 6 91 ?_
              (refine held_call 7 (some 92) 31 _ rfl (by kernel_rfl) (by rfl) ?_ ((HMz.out _ hbd)) ?_; rotate_left; rotate_left; (simp only [List.getElem?_toArray, List.getElem?_cons_zero, List.getElem?_cons_succ, Option.map_some]; refine congrArg some ?_; go_simp))
              rintro e u1 ⟨rfl, hb⟩
              have hbu := hbd.trans (hb.mono hbd.size)
              refine ⟨_, rfl, ⟨HY.out _ hbu, HZC.out _ hbu⟩, fun hHeld => ?_⟩
              (try simp only [Act.put, List.setIfInBounds_toArray, List.set_cons_zero, List.set_cons_succ])
              refine tk 8 84 ?_
              refine tk 9 93 ?_
              refine tk 10 94 ?_
              refine tk 11 16 ?_
              refine tk 12 17 ?_
              refine wpAnyH_done (by kernel_rfl) ?_ _
              clear hHeld
              go_wp2_with fail
              go_meet
              exact ⟨rfl, hbu⟩
            case rest =>
              obtain ⟨e16, hbv2⟩ := hcut
              subst e16
              generalize wc = wB at *
              have y18 := HY.out _ hbv2
              go_upto_region 19 with (go_at_call 31; refine (HMx.out _ hbv2).mono ?_; rintro e u3 ⟨rfl, hb⟩; have hbv3 := hbv2.trans (hb.mono hbv2.size); clear hb)
              clear HMz HMx y18 hbv hbv2
              go_cut [20, 21] (fun s20 s21 wx => ∃ (C : List Int) (A4 : Option Addr) (c4 : Nat), s20 = .slice A4 C.length c4 ∧ s21 = .bool true ∧ Hid (Lies wx wx.heap.size A4 (ints C)) ∧ Hid (chC d x z C) ∧ Below wA.heap.size wA wx)
              case first => as_aux_lemma =>
                refine wp_region_held_drew (S := (fun V => V.cell? ⟨b0, 0, none⟩ = some (.slice A l.length c) ∧ V.cell? (ad.add i) = some (.string z))) (by kernel_rfl) ?_ (fun hHeld => ?_)
                · exact ⟨HY.out _ hbv3.drew, HZC.out _ hbv3.drew⟩
                have hbd := hbv3.drew
                generalize World.drew _ = u0 at *
                refine tk 0 104 ?_
                refine tk 1 105 ?_
                refine tk 2 106 ?_
                refine tk 3 107 ?_
                refine tk 4 108 ?_
                refine tk 5 109 ?_
                refine tk 6 110 ?_
                (refine held_call 7 (some 111) 27 _ rfl (by kernel_rfl) (by rfl) ?_ ((HNz.out _ hbd)) ?_; rotate_left; rotate_left; (simp only [List.getElem?_toArray, List.getElem?_cons_zero, List.getElem?_cons_succ, Option.map_some]; refine congrArg some ?_; go_simp))
                rintro e u1 ⟨C, A4, c4, rfl, l4, hb, h4⟩
                have hbu := hbd.trans (hb.mono hbd.size)
                have hzz := HZZ.out
                rw [hzz]
                refine ⟨_, rfl, ⟨HY.out _ hbu, HZC.out _ hbu⟩, fun hHeld => ?_⟩
                (try simp only [Act.put, List.setIfInBounds_toArray, List.set_cons_zero, List.set_cons_succ])
                refine tk 8 103 ?_
                refine tk 9 112 ?_
                refine tk 10 113 ?_
                refine tk 11 20 ?_
                refine tk 12 21 ?_
                refine wpAnyH_done (by kernel_rfl) ?_ _
                clear hHeld
                go_wp2_with fail
                go_meet
                exact ⟨C, A4, c4, rfl, rfl, Lib.hid l4, Lib.hid (h4 hzz), hbu⟩
              case rest =>
                obtain ⟨C, A4, c4, e20, e21, HL4, HCC, hbe⟩ := hcut
                generalize wc = wD at *
                subst e20
                subst e21
                have hCl : C.length ≤ 1000 := by have := HCC.out.2.1; omega
                have z20 := HZC.out _ hbe
                have HL4 : Hid (∀ V, Below wD.heap.size wD V → Lies V V.heap.size A4 (ints C)) := fun V hV => lies_on HL4.out hV
                clear HNz hbv3
                go_upto_region 20 with fail
                go_cut [134] (fun s134 wx => s134 = .bool false ∧ Below wA.heap.size wA wx ∧ Hid (∀ V, Below wx.heap.size wx V → Lies V V.heap.size A4 (ints C)))
                case first => as_aux_lemma =>
                  have HC0 := Lib.hid HCC.out.1
                  have HBB := Lib.hid HBS.out
                  clear HCC HBS HD1 HNM HID HDK
                  generalize barL d 4 y x false = P1 at *
                  generalize barL d 4 y z false = P2 at *
                  obtain ⟨o1, o2⟩ := P1
                  obtain ⟨m1, m2⟩ := P2
                  dsimp only at *
                  have HE3 := HE1.out
                  by_cases hzx : z = x
                  · have hC0 : C.length = 0 := HC0.out.2 hzx
                    rw [decide_eq_true hzx] at HE3
                    have hl0 : ((C.length : Int) == 0) = true := by rw [hC0]; rfl
                    have hl1 : decide (C = []) = true := decide_eq_true (List.length_eq_zero_iff.1 hC0)
                    clear hC0 HC0 hzx
                    cases o1 with
                    | true =>
                      have hm1 : m1 = true := HBB.out rfl
                      subst hm1
                      go_wp2_with fail
                      go_meet
                      exact ⟨rfl, hbe, HL4⟩
                    | false =>
                      go_wp2_with fail
                      go_meet
                      exact ⟨rfl, hbe, HL4⟩
                  · have hC0 : ¬ C.length = 0 := fun h => hzx (HC0.out.1 h)
                    rw [decide_eq_false hzx] at HE3
                    have hl0 : ((C.length : Int) == 0) = false := by rw [beq_eq_false_iff_ne]; omega
                    have hl1 : decide (C = []) = false := decide_eq_false (fun h => hC0 (by rw [h]; rfl))
                    clear hC0 HC0 hzx
                    cases o1 with
                    | true =>
                      have hm1 : m1 = true := HBB.out rfl
                      subst hm1
                      go_wp2_with fail
                      go_meet
                      exact ⟨rfl, hbe, HL4⟩
                    | false =>
                      go_wp2_with fail
                      go_meet
                      exact ⟨rfl, hbe, HL4⟩
                case rest =>
                  obtain ⟨e134, hbf, HL4⟩ := hcut
                  subst e134
                  generalize wc = wE at *
                  have hz1 : (z.toList == z.toList) = true := by rw [str_eq]; exact decide_eq_true rfl
                  have hz2 : (z.toList != z.toList) = false := by rw [bne, hz1]; rfl
                  have HY := Lib.hid (fun V (hV : Below wE.heap.size wE V) => HY.out V (hbf.trans (hV.mono hbf.size)))
                  have HZC := Lib.hid (fun V (hV : Below wE.heap.size wE V) => HZC.out V (hbf.trans (hV.mono hbf.size)))
                  have HD1 := Lib.hid (fun V (hV : Below wE.heap.size wE V) => HD1.out V (hbf.trans (hV.mono hbf.size)))
                  have HBE : Hid (∀ V, Below wE.heap.size wE V → Below w4.heap.size w4 V) := fun V hV => HBC.out V (hbf.trans (hV.mono hbf.size))
                  have hE0 : Below wE.heap.size wE wE := Below.refl _ _
                  clear HBC hbf hbe z20 HBS HE1 HE2 HZZ HEND
                  by_cases hq : q2 = 0
                  case neg =>
                    have hq1 : (q2 == 0) = false := by simpa using hq
                    have hq2 : (q2 != 0) = true := by rw [bne, hq1]; rfl
                    clear hq HCC HL4 HID HNM HDK HD1
                    go_wp2
                    go_roundw
                    case rel => exact ⟨i + 1, by omega, by go_num, HBE.out _ hE0⟩
                    case measure => simp [intOf]; omega
                  have HLD := Lib.hid (HCC.out.2.2 (HID.out hq) HNM.out)
                  have hq1 : (q2 == 0) = true := by rw [hq]; rfl
                  have hq2 : (q2 != 0) = false := by rw [bne, hq1]; rfl
                  clear HCC HID hq
                  go_upto_region 25 with fail
                  go_loopw [22, 23] (fun s t wv => ∃ (k : Nat) (at_ : ByteArray), k ≤ C.length ∧ s = .string at_ ∧ t = .int .i64 k ∧ Hid (Leads d (C.drop k) at_ z) ∧ Below wE.heap.size wE wv) (fun _ t _ => C.length - (intOf t).toNat)
                  case atStart => exact ⟨0, x, by omega, rfl, rfl, HLD, hE0⟩
                  case round =>
                    obtain ⟨k, at_, hk, rfl, rfl, HLk, hbv⟩ := hrel
                    clear HLD hE0 hq1 hq2
                    by_cases hkl : k < C.length
                    · obtain ⟨hn0, hn1⟩ := leads_open hkl HLk.out
                      have HN1 := Lib.hid hn1
                      have hkI : (k : Int) < (C.length : Int) := by omega
                      obtain ⟨a4, e4, _, _⟩ := HL4.out _ hbv (by intro e; have := congrArg List.length e; simp [ints] at this; rw [this] at hkl; simp at hkl)
                      subst e4
                      have HCK : Hid (∀ V, Below wE.heap.size wE V → V.cell? (a4.add k) = some (.int .i64 C[k])) := fun V hV => lies_gi (HL4.out V hV) (by simp [ints, hkl])
                      have HJ0 := Lib.hid (nxJ_zero d C[k] at_)
                      have HJF := Lib.hid (nxJ_full d C[k] at_)
                      have HJS := Lib.hid (fun j (hj : j < d.length) => nxJ_step (id := C[k]) (a := at_) hj HNM.out)
                      have hPe := empty_iff (stepN d C[k] at_)
                      rw [decide_eq_false hn0] at hPe
                      clear HLk hn0 hn1 HL4 HNM
                      generalize C[k] = ck at *
                      go_upto_region 29 with fail
                      go_loopw [24, 25] (fun s t wx => ∃ j : Nat, j ≤ d.length ∧ s = .string (nxJ d ck at_ j) ∧ t = .int .i64 j ∧ Below wE.heap.size wE wx) (fun _ t _ => d.length - (intOf t).toNat)
                      case atStart => exact ⟨0, by omega, by rw [HJ0.out], rfl, hbv⟩
                      case round =>
                        obtain ⟨j, hj, rfl, rfl, hbx⟩ := hrel
                        clear HJ0
                        by_cases hjl : j < d.length
                        · obtain ⟨ad2, e2, _, d0, d1, d2, d3, d4, d5⟩ := rule_at (HD1.out _ hbx) hjl
                          have HRU : Hid (∀ V, Below wE.heap.size wE V → V.cell? (ad2.add (j * 6)) = some (.int .i64 d[j].id) ∧ V.cell? ⟨(ad2.add (j * 6)).block, (ad2.add (j * 6)).off + 2, none⟩ = some (.int .u8 d[j].kind) ∧ V.cell? ⟨(ad2.add (j * 6)).block, (ad2.add (j * 6)).off + 3, none⟩ = some (.string d[j].x) ∧ V.cell? ⟨(ad2.add (j * 6)).block, (ad2.add (j * 6)).off + 4, none⟩ = some (.string d[j].y)) := fun V hV => by
                            obtain ⟨a9, e9, _, g0, g1, g2, g3, g4, g5⟩ := rule_at (HD1.out V hV) hjl
                            rw [e2] at e9; cases e9; exact ⟨g0, g2, g3, g4⟩
                          have HJJ := Lib.hid (HJS.out j hjl)
                          have hjI : (j : Int) < (d.length : Int) := by omega
                          subst e2
                          clear HJS HJF hPe HD1 d0 d1 d2 d3 d4 d5 HY HZC HN1
                          generalize d[j] = r at *
                          generalize nxJ d ck at_ j = P at *
                          obtain ⟨id, kn, kd, rx, ry, of⟩ := r
                          dsimp only at HRU HJJ
                          have hPS := empty_iff P
                          have hXA := str_eq rx at_
                          go_upto_region 31 with fail
                          go_cut [180] (fun s180 wx => s180 = .bool (decide (id = ck) && decide (kd = 5) && decide (rx = at_) && decide (P.size = 0)) ∧ Below wE.heap.size wE wx)
                          case first => as_aux_lemma =>
                            have hS0 := HRU.out _ hbx.drew
                            have hC0 := HCK.out _ hbx.drew
                            have hbd := hbx.drew
                            clear HRU HCK HJJ hbx
                            by_cases hc0 : id = ck
                            · have ht0 := hc0
                              have he0 : ((id : Int) == ck) = true := by rw [hc0]; simp
                              have HD0' := Lib.hid (decide_eq_true hc0)
                              clear ht0 hc0
                              by_cases hc1 : kd = 5
                              · have ht1 := hc1
                                have he1 : (kd == 5) = true := by rw [hc1]; simp
                                have HD1' := Lib.hid (decide_eq_true hc1)
                                clear ht1 hc1
                                by_cases hc2 : rx = at_
                                · have ht2 := hc2
                                  rw [decide_eq_true hc2] at hXA
                                  have HD2' := Lib.hid (decide_eq_true hc2)
                                  clear ht2 hc2
                                  by_cases hc3 : P.size = 0
                                  · have ht3 := hc3
                                    rw [decide_eq_true hc3] at hPS
                                    have HD3' := Lib.hid (decide_eq_true hc3)
                                    clear ht3 hc3
                                    refine wp_region_held_drew (S := (fun V => V.cell? (ad2.add (j * 6)) = some (.int .i64 id) ∧ V.cell? ⟨(ad2.add (j * 6)).block, (ad2.add (j * 6)).off + 2, none⟩ = some (.int .u8 kd) ∧ V.cell? ⟨(ad2.add (j * 6)).block, (ad2.add (j * 6)).off + 3, none⟩ = some (.string rx) ∧ V.cell? (a4.add k) = some (.int .i64 ck))) (by kernel_rfl) ?_ (fun hHeld => ?_)
                                    · exact ⟨hS0.1, hS0.2.1, hS0.2.2.1, hC0⟩
                                    clear hS0 hC0
                                    generalize World.drew _ = u0 at *
                                    refine tk 0 150 ?_
                                    refine tk 1 151 ?_
                                    refine tk 2 152 ?_
                                    refine tk 3 153 ?_
                                    refine tk 4 154 ?_
                                    refine tk 5 155 ?_
                                    refine tk 6 156 ?_
                                    refine tk 7 157 ?_
                                    refine tk 8 158 ?_
                                    refine tk 9 159 ?_
                                    refine tk 10 160 ?_
                                    refine tk 11 161 ?_
                                    refine tk 12 162 ?_
                                    refine tk 13 163 ?_
                                    refine tk 14 164 ?_
                                    refine tk 15 165 ?_
                                    refine tk 16 166 ?_
                                    refine tk 17 167 ?_
                                    refine tk 18 168 ?_
                                    refine tk 19 169 ?_
                                    refine tk 20 170 ?_
                                    refine tk 21 171 ?_
                                    refine tk 22 172 ?_
                                    refine tk 23 173 ?_
                                    refine tk 24 174 ?_
                                    refine tk 25 175 ?_
                                    refine tk 26 176 ?_
                                    refine tk 27 177 ?_
                                    refine tk 28 178 ?_
                                    refine tk 29 179 ?_
                                    refine tk 30 180 ?_
                                    refine wpAnyH_done (by kernel_rfl) ?_ _
                                    clear hHeld
                                    go_wp2_with fail
                                    go_meet
                                    exact ⟨by rw [HD0'.out, HD1'.out, HD2'.out, HD3'.out]; simp, hbd⟩
                                  · have ht3 := hc3
                                    rw [decide_eq_false hc3] at hPS
                                    have HD3' := Lib.hid (decide_eq_false hc3)
                                    clear ht3 hc3
                                    refine wp_region_held_drew (S := (fun V => V.cell? (ad2.add (j * 6)) = some (.int .i64 id) ∧ V.cell? ⟨(ad2.add (j * 6)).block, (ad2.add (j * 6)).off + 2, none⟩ = some (.int .u8 kd) ∧ V.cell? ⟨(ad2.add (j * 6)).block, (ad2.add (j * 6)).off + 3, none⟩ = some (.string rx) ∧ V.cell? (a4.add k) = some (.int .i64 ck))) (by kernel_rfl) ?_ (fun hHeld => ?_)
                                    · exact ⟨hS0.1, hS0.2.1, hS0.2.2.1, hC0⟩
                                    clear hS0 hC0
                                    generalize World.drew _ = u0 at *
                                    refine tk 0 150 ?_
                                    refine tk 1 151 ?_
                                    refine tk 2 152 ?_
                                    refine tk 3 153 ?_
                                    refine tk 4 154 ?_
                                    refine tk 5 155 ?_
                                    refine tk 6 156 ?_
                                    refine tk 7 157 ?_
                                    refine tk 8 158 ?_
                                    refine tk 9 159 ?_
                                    refine tk 10 160 ?_
                                    refine tk 11 161 ?_
                                    refine tk 12 162 ?_
                                    refine tk 13 163 ?_
                                    refine tk 14 164 ?_
                                    refine tk 15 165 ?_
                                    refine tk 16 166 ?_
                                    refine tk 17 167 ?_
                                    refine tk 18 168 ?_
                                    refine tk 19 169 ?_
                                    refine tk 20 170 ?_
                                    refine tk 21 171 ?_
                                    refine tk 22 172 ?_
                                    refine tk 23 173 ?_
                                    refine tk 24 174 ?_
                                    refine tk 25 175 ?_
                                    refine tk 26 176 ?_
                                    refine tk 27 177 ?_
                                    refine tk 28 178 ?_
                                    refine tk 29 179 ?_
                                    refine tk 30 180 ?_
                                    refine wpAnyH_done (by kernel_rfl) ?_ _
                                    clear hHeld
                                    go_wp2_with fail
                                    go_meet
                                    exact ⟨by rw [HD0'.out, HD1'.out, HD2'.out, HD3'.out]; simp, hbd⟩
                                · have ht2 := hc2
                                  rw [decide_eq_false hc2] at hXA
                                  have HD2' := Lib.hid (decide_eq_false hc2)
                                  clear ht2 hc2
                                  refine wp_region_held_drew (S := (fun V => V.cell? (ad2.add (j * 6)) = some (.int .i64 id) ∧ V.cell? ⟨(ad2.add (j * 6)).block, (ad2.add (j * 6)).off + 2, none⟩ = some (.int .u8 kd) ∧ V.cell? ⟨(ad2.add (j * 6)).block, (ad2.add (j * 6)).off + 3, none⟩ = some (.string rx) ∧ V.cell? (a4.add k) = some (.int .i64 ck))) (by kernel_rfl) ?_ (fun hHeld => ?_)
                                  · exact ⟨hS0.1, hS0.2.1, hS0.2.2.1, hC0⟩
                                  clear hS0 hC0
                                  generalize World.drew _ = u0 at *
                                  refine tk 0 150 ?_
                                  refine tk 1 151 ?_
                                  refine tk 2 152 ?_
                                  refine tk 3 153 ?_
                                  refine tk 4 154 ?_
                                  refine tk 5 155 ?_
                                  refine tk 6 156 ?_
                                  refine tk 7 157 ?_
                                  refine tk 8 158 ?_
                                  refine tk 9 159 ?_
                                  refine tk 10 160 ?_
                                  refine tk 11 161 ?_
                                  refine tk 12 162 ?_
                                  refine tk 13 163 ?_
                                  refine tk 14 164 ?_
                                  refine tk 15 165 ?_
                                  refine tk 16 166 ?_
                                  refine tk 17 167 ?_
                                  refine tk 18 168 ?_
                                  refine tk 19 169 ?_
                                  refine tk 20 170 ?_
                                  refine tk 21 171 ?_
                                  refine tk 22 172 ?_
                                  refine tk 23 173 ?_
                                  refine tk 24 174 ?_
                                  refine tk 25 175 ?_
                                  refine tk 26 176 ?_
                                  refine tk 27 177 ?_
                                  refine sk 28 178 ?_
                                  refine sk 29 179 ?_
                                  refine tk 30 180 ?_
                                  refine wpAnyH_done (by kernel_rfl) ?_ _
                                  clear hHeld
                                  go_wp2_with fail
                                  go_meet
                                  exact ⟨by rw [HD0'.out, HD1'.out, HD2'.out]; simp, hbd⟩
                              · have ht1 := hc1
                                have he1 : (kd == 5) = false := by rw [beq_eq_false_iff_ne]; exact hc1
                                have HD1' := Lib.hid (decide_eq_false hc1)
                                clear ht1 hc1
                                refine wp_region_held_drew (S := (fun V => V.cell? (ad2.add (j * 6)) = some (.int .i64 id) ∧ V.cell? ⟨(ad2.add (j * 6)).block, (ad2.add (j * 6)).off + 2, none⟩ = some (.int .u8 kd) ∧ V.cell? ⟨(ad2.add (j * 6)).block, (ad2.add (j * 6)).off + 3, none⟩ = some (.string rx) ∧ V.cell? (a4.add k) = some (.int .i64 ck))) (by kernel_rfl) ?_ (fun hHeld => ?_)
                                · exact ⟨hS0.1, hS0.2.1, hS0.2.2.1, hC0⟩
                                clear hS0 hC0
                                generalize World.drew _ = u0 at *
                                refine tk 0 150 ?_
                                refine tk 1 151 ?_
                                refine tk 2 152 ?_
                                refine tk 3 153 ?_
                                refine tk 4 154 ?_
                                refine tk 5 155 ?_
                                refine tk 6 156 ?_
                                refine tk 7 157 ?_
                                refine tk 8 158 ?_
                                refine tk 9 159 ?_
                                refine tk 10 160 ?_
                                refine tk 11 161 ?_
                                refine tk 12 162 ?_
                                refine tk 13 163 ?_
                                refine tk 14 164 ?_
                                refine tk 15 165 ?_
                                refine tk 16 166 ?_
                                refine tk 17 167 ?_
                                refine tk 18 168 ?_
                                refine sk 19 169 ?_
                                refine sk 20 170 ?_
                                refine sk 21 171 ?_
                                refine sk 22 172 ?_
                                refine sk 23 173 ?_
                                refine sk 24 174 ?_
                                refine sk 25 175 ?_
                                refine tk 26 176 ?_
                                refine tk 27 177 ?_
                                refine sk 28 178 ?_
                                refine sk 29 179 ?_
                                refine tk 30 180 ?_
                                refine wpAnyH_done (by kernel_rfl) ?_ _
                                clear hHeld
                                go_wp2_with fail
                                go_meet
                                exact ⟨by rw [HD0'.out, HD1'.out]; simp, hbd⟩
                            · have ht0 := hc0
                              have he0 : ((id : Int) == ck) = false := by rw [beq_eq_false_iff_ne]; exact hc0
                              have HD0' := Lib.hid (decide_eq_false hc0)
                              clear ht0 hc0
                              refine wp_region_held_drew (S := (fun V => V.cell? (ad2.add (j * 6)) = some (.int .i64 id) ∧ V.cell? ⟨(ad2.add (j * 6)).block, (ad2.add (j * 6)).off + 2, none⟩ = some (.int .u8 kd) ∧ V.cell? ⟨(ad2.add (j * 6)).block, (ad2.add (j * 6)).off + 3, none⟩ = some (.string rx) ∧ V.cell? (a4.add k) = some (.int .i64 ck))) (by kernel_rfl) ?_ (fun hHeld => ?_)
                              · exact ⟨hS0.1, hS0.2.1, hS0.2.2.1, hC0⟩
                              clear hS0 hC0
                              generalize World.drew _ = u0 at *
                              refine tk 0 150 ?_
                              refine tk 1 151 ?_
                              refine tk 2 152 ?_
                              refine tk 3 153 ?_
                              refine tk 4 154 ?_
                              refine tk 5 155 ?_
                              refine tk 6 156 ?_
                              refine tk 7 157 ?_
                              refine tk 8 158 ?_
                              refine tk 9 159 ?_
                              refine tk 10 160 ?_
                              refine sk 11 161 ?_
                              refine sk 12 162 ?_
                              refine sk 13 163 ?_
                              refine sk 14 164 ?_
                              refine sk 15 165 ?_
                              refine sk 16 166 ?_
                              refine tk 17 167 ?_
                              refine tk 18 168 ?_
                              refine sk 19 169 ?_
                              refine sk 20 170 ?_
                              refine sk 21 171 ?_
                              refine sk 22 172 ?_
                              refine sk 23 173 ?_
                              refine sk 24 174 ?_
                              refine sk 25 175 ?_
                              refine tk 26 176 ?_
                              refine tk 27 177 ?_
                              refine sk 28 178 ?_
                              refine sk 29 179 ?_
                              refine tk 30 180 ?_
                              refine wpAnyH_done (by kernel_rfl) ?_ _
                              clear hHeld
                              go_wp2_with fail
                              go_meet
                              exact ⟨by rw [HD0'.out]; simp, hbd⟩
                          case rest =>
                            obtain ⟨e180, hbz⟩ := hcut
                            subst e180
                            obtain ⟨_, _, _, y4⟩ := HRU.out _ hbz
                            have HRB : Hid (ruB ck at_ ⟨id, kn, kd, rx, ry, of⟩ = (decide (id = ck) && decide (kd = 5) && decide (rx = at_))) := rfl
                            rw [HRB.out] at HJJ
                            clear HRU HRB hbx hPS hXA
                            generalize (decide (id = ck) && decide (kd = 5) && decide (rx = at_)) = rb at *
                            cases hcb : (rb && decide (P.size = 0)) with
                            | true =>
                              have HE : Hid (nxJ d ck at_ (j + 1) = ry) := by show _ = _; rw [HJJ.out, if_pos (by simpa using hcb)]
                              clear HJJ hcb
                              go_wp2
                              go_roundw
                              case rel => exact ⟨j + 1, by omega, by rw [HE.out], by go_num, hbz⟩
                              case measure => simp [intOf]; omega
                            | false =>
                              have HE : Hid (nxJ d ck at_ (j + 1) = P) := by show _ = _; rw [HJJ.out, if_neg (by intro h; rw [h.1, decide_eq_true h.2] at hcb; cases hcb)]
                              clear HJJ hcb
                              go_wp2
                              go_roundw
                              case rel => exact ⟨j + 1, by omega, by rw [HE.out], by go_num, hbz⟩
                              case measure => simp [intOf]; omega
                        · obtain rfl : j = d.length := by omega
                          rw [HJF.out]
                          clear HJS HJF HD1 HY HZC HCK hjl hj
                          generalize stepN d ck at_ = nx at *
                          go_wp2
                          go_roundw
                          case rel => exact ⟨k + 1, nx, by omega, rfl, by go_num, HN1, hbx⟩
                          case measure => simp [intOf]; omega
                    · obtain rfl : k = C.length := by omega
                      have hat := leads_end HLk.out
                      subst hat
                      have z36 := HZC.out _ hbv
                      clear HLk HL4 HNM HD1 HY HZC hkl hk
                      go_wp2
                      go_roundw
                      case rel => exact ⟨i + 1, by omega, by go_num, HBE.out _ hbv⟩
                      case measure => simp [intOf]; omega
    · obtain rfl : i = R.length := by omega
      have HNy := Lib.hid (HN.out _ hbw y hys100)
      have HHy := Lib.hid (fun V hV => HH.out V hV y)
      have HEY : Hid (decide (y ∈ R) = inG d x y) := by
        show _ = _
        cases e : inG d x y with
        | true => exact decide_eq_true (HRI.out y e)
        | false => exact decide_eq_false (fun h => by have := ((HRX.out y).1 h).2; rw [e] at this; cases this)
      rw [HEY.out] at HHy
      have yy := HY.out _ hbw
      clear HRI HRO HG HM HN HRX HR1 HH HEY HD1 hil
      have hbb : (inG d x y == inG d x y) = true := by simp
      go_upto_region 39 with (go_at_call 27; refine HNy.out.mono ?_; rintro e u1 ⟨C, A4, c4, rfl, _, hb, _⟩; have hbu := hbw.trans (hb.mono hbw.size); clear hb)
      clear HNy yy hbw
      go_wp2_with (first | (go_at_call 17; refine (HR.out _ hbu).mono ?_; rintro e u2 ⟨rfl, hb⟩; have hbu2 := hbu.trans (hb.mono hbu.size); clear hb) | (go_at_call 26; refine (HHy.out _ hbu2).mono ?_; rintro e u3 ⟨rfl, hb⟩; have hbu3 := hbu2.trans (hb.mono hbu2.size); clear hb))
      go_ret
      exact ⟨rfl, HEND.out _ hbu3⟩
end Go.Proofs.YtkfeagokmcakgaaGreatDoor

namespace Go.Proofs.YtkfeagokmcakgaaGreatDoor
open Go.ChangeShapes Go.WideShapes Go.ChangeAt Go.RowKit Go.Deep

set_option maxHeartbeats 20000000 in
set_option maxRecDepth 100000 in
theorem groups_facts : joinedFacts Tryz.prog 8 Tryz.f8 Rows.pigmentGroupsSpec Rows.pigmentGroupsRow = true := by
  unfold joinedFacts
  simp only [Bool.and_eq_true]
  repeat' (refine And.intro ?_ ?_)
  all_goals (as_aux_lemma => kernel_rfl)
end Go.Proofs.YtkfeagokmcakgaaGreatDoor
