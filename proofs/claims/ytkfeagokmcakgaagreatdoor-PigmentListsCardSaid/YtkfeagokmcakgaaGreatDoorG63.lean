/- pigment.Effect (fn 60). Printed by gen_y29.py. -/
import Derived.Test.YtkfeagokmcakgaaGreatDoorG02
import Derived.Test.YtkfeagokmcakgaaGreatDoorG07
import Derived.Test.YtkfeagokmcakgaaGreatDoorG13
import Derived.Test.YtkfeagokmcakgaaGreatDoorG17
import Derived.Test.YtkfeagokmcakgaaGreatDoorG61
import Derived.Test.YtkfeagokmcakgaaGreatDoorG62

set_option linter.unusedVariables false
set_option linter.unusedSimpArgs false

namespace Go.Proofs.YtkfeagokmcakgaaGreatDoor
open Go.RowKit Go.Maps

/-- the names whose state differs -/
def eff (l d1 d2 : List Rul) (s : ByteArray) : Bool := nmB l s && !decide (stt d1 s = stt d2 s)
set_option maxHeartbeats 2500000 in
set_option maxRecDepth 100000 in
theorem effect_any (l : List Rul) (A : Option Addr) (c : Nat) (k1 k2 : Int) (w : World) (hl : Lies w w.heap.size A (rulesC l)) (hok : RulOK l) (hm : l.length ≤ 1000) :
    Calls Tryz.prog 60 #[.agg #[.slice A l.length c], .int .i64 k1, .int .i64 k2] w (GpE (eff l (cntL l k1) (cntL l k2)) w) := by
  have HC : Hid (∀ k W, Below w.heap.size w W → Calls Tryz.prog 38 #[.agg #[.slice A l.length c], .int .i64 k] W (SlE (cntL l k) W)) := fun k W hb => counting_any l A c k W ((hl.below hb (Nat.le_refl _)).more hb.size) hok hm
  have HOK1 := Lib.hid (hok.sub (cnt_sub l k1))
  have HOK2 := Lib.hid (hok.sub (cnt_sub l k2))
  have HLN1 : Hid ((cntL l k1).length ≤ 1000) := Nat.le_trans (cnt_len l k1) hm
  have HLN2 : Hid ((cntL l k2).length ≤ 1000) := Nat.le_trans (cnt_len l k2) hm
  have HSZ := Lib.hid (fun s (h : nmB l s = true) => nmB_le hok h)
  have HC1 := Lib.hid (HC.out k1)
  have HC2 := Lib.hid (HC.out k2)
  have HNA : Hid (∀ W, Below w.heap.size w W → Calls Tryz.prog 107 #[.slice A l.length c] W (NmdE l W)) := fun W hb => namesOf_any l A c W ((hl.below hb (Nat.le_refl _)).more hb.size) hok hm
  clear hl hok HC
  generalize cntL l k1 = d1 at *
  generalize cntL l k2 = d2 at *
  have HW0 : Hid (Below w.heap.size w (w.alloc (.cells #[.slice A l.length c] 25))) := (Below.refl _ _).alloc (Nat.le_refl _) _
  have HK0 : Hid (Bk (w.alloc (.cells #[.slice A l.length c] 25)) w.heap.size 25 #[.slice A l.length c]) := Bk.new _ _ _
  go_enter Tryz.func60, Tryz.ntmps60
  go_upto_region 1 with fail
  generalize w.alloc (.cells #[.slice A l.length c] 25) = W0 at *
  have HY : Hid (∀ V, Below W0.heap.size W0 V → V.cell? ⟨w.heap.size, 0, none⟩ = some (.slice A l.length c)) := fun V hV => (HK0.out.below hV HK0.out.lt).cell 0 rfl
  have HBW : Hid (∀ V, Below W0.heap.size W0 V → Below w.heap.size w V) := fun V hV => HW0.out.trans (hV.mono HW0.out.size)
  have hB0 : Below W0.heap.size W0 W0 := Below.refl _ _
  clear HK0 HW0
  go_cut [7, 8] (fun s7 s8 wx => ∃ (A1 : Option Addr) (c1 : Nat) (A2 : Option Addr) (c2 : Nat), s7 = .slice A1 d1.length c1 ∧ s8 = .slice A2 d2.length c2 ∧ Hid (Lies wx wx.heap.size A1 (rulesC d1)) ∧ Hid (Lies wx wx.heap.size A2 (rulesC d2)) ∧ Hid (Below W0.heap.size W0 wx))
  case first =>
    refine wp_region_held_drew (S := fun V => V.cell? ⟨w.heap.size, 0, none⟩ = some (.slice A l.length c)) (by kernel_rfl) ?_ (fun hHeld => ?_)
    · exact HY.out _ hB0.drew
    have hBd := hB0.drew
    generalize World.drew _ = u0 at *
    refine tk 0 11 ?_
    refine tk 1 12 ?_
    refine tk 3 14 ?_
    refine tk 4 15 ?_
    (refine held_call 2 (some 13) 38 _ rfl (by kernel_rfl) (by rfl) ?_ ((HC1.out _ (HBW.out _ hBd))) ?_; rotate_left; rotate_left; (simp only [List.getElem?_toArray, List.getElem?_cons_zero, List.getElem?_cons_succ, Option.map_some]; refine congrArg some ?_; go_simp))
    rintro e u1 ⟨A1, c1, rfl, hl1, hc1, hb1⟩
    have hB1 := Below.trans hBd (hb1.mono (Below.size hBd))
    refine ⟨_, rfl, HY.out _ hB1, fun hHeld => ?_⟩
    (try simp only [Act.put, List.setIfInBounds_toArray, List.set_cons_zero, List.set_cons_succ])
    (refine held_call 5 (some 16) 38 _ rfl (by kernel_rfl) (by rfl) ?_ ((HC2.out _ (HBW.out _ hB1))) ?_; rotate_left; rotate_left; (simp only [List.getElem?_toArray, List.getElem?_cons_zero, List.getElem?_cons_succ, Option.map_some]; refine congrArg some ?_; go_simp))
    rintro e u2 ⟨A2, c2, rfl, hl2, hc2, hb2⟩
    have hB2 := Below.trans hB1 (hb2.mono (Below.size hB1))
    refine ⟨_, rfl, HY.out _ hB2, fun hHeld => ?_⟩
    (try simp only [Act.put, List.setIfInBounds_toArray, List.set_cons_zero, List.set_cons_succ])
    refine tk 6 7 ?_
    refine tk 7 8 ?_
    refine wpAnyH_done (by kernel_rfl) ?_ _
    clear hHeld
    go_wp2_with fail
    go_meet
    exact ⟨A1, c1, A2, c2, rfl, rfl, Lib.hid (lies_on hl1 hb2), Lib.hid hl2, Lib.hid hB2⟩
  case rest =>
    obtain ⟨A1, c1, A2, c2, e7, e8, HLA, HLB, hbx⟩ := hcut
    subst e7
    subst e8
    generalize wc = w1 at *
    have a0 := HY.out _ hbx.out
    have HST1 : Hid (∀ V x, Below w1.heap.size w1 V → x.size ≤ 100 → Calls Tryz.prog 75 #[.slice A1 d1.length c1, .string x] V (U8End (stt d1 x) V)) := fun V x hV hx => state_any d1 A1 c1 x V (lies_on HLA.out hV) HOK1.out HLN1.out hx
    have HST2 : Hid (∀ V x, Below w1.heap.size w1 V → x.size ≤ 100 → Calls Tryz.prog 75 #[.slice A2 d2.length c2, .string x] V (U8End (stt d2 x) V)) := fun V x hV hx => state_any d2 A2 c2 x V (lies_on HLB.out hV) HOK2.out HLN2.out hx
    have HBE : Hid (∀ V, Below w1.heap.size w1 V → Below w.heap.size w V) := fun V hV => HBW.out V (hbx.out.trans (hV.mono hbx.out.size))
    have HNB := Lib.hid (HNA.out w1 (HBW.out _ hbx.out))
    clear HLA HLB HOK1 HOK2 HLN1 HLN2 HNA HC1 HC2 HY HBW hB0
    go_upto_region 3 with (go_at_call 107; refine HNB.out.mono ?_; rintro e w2 ⟨b, n, rfl, hwb, hn2, hm2, hb2⟩)
    obtain ⟨D, hown, hrd⟩ := hm2.out
    have HRD := Lib.hid hrd
    have hbl := hown.lt
    have hn1 : n ≤ 2000 := by omega
    have hown : w2.ownsMap Tryz.prog 9 (plainElem Tryz.prog 4) b n D := hown
    clear hm2 hrd HNB a0
    go_wp2_with (first | (at_range; refine wpList_range_own _ rfl _ 114 rfl 9 4 (string_keyed Tryz.underlying9) Tryz.underlying114 _ b n _ rfl hown ?_; intro w0 hrg0 hg0 hs0) | go_in)
    go_frame
    have hb0 : Below w1.heap.size w1 w0 := hb2.grown hg0 hb2.size (fun j hj => by cases hj)
    go_loopw [10] (fun _ wr => ∃ (left : Lit → Bool) (cnt : Nat) (D : DataW Unit) (g : ByteArray → Option Bool), Hid (wr.ranges Tryz.prog 9 (plainElem Tryz.prog 4) b w2.heap.size n D left cnt) ∧ Hid (Reads mSB D g) ∧ Hid (Pm (setG (nmB l)) (fun s => !decide (stt d1 s = stt d2 s)) left g) ∧ Hid (Below w1.heap.size w1 wr)) (fun _ wr => wr.rangeLeft b w2.heap.size)
    case atStart => exact ⟨_, _, D, _, hrg0, HRD, Pm.start HRD.out, hb0⟩
    case round =>
      clear hrg0 hg0 hs0 hb0 HRD hown
      obtain ⟨left, cnt, D', g, hrg, hrd, hpm, hbw⟩ := hrel
      go_wp2_with (first | (at_next; refine next_sb rfl _ rfl b w2.heap.size n _ _ _ rfl hrg.out ?_ ?_ ?_) | go_in)
      · intro hl0
        have hMG : MapG mSB wr b n g := ⟨⟨D', hrg.out.owns, hrd.out⟩⟩
        have HSO := Lib.hid (sorted_any g b n wr hMG (by omega))
        have HFI := Lib.hid (fun s hs => hpm.out.fin hl0 s hs)
        clear hrg hrd hpm hl0 hMG
        go_wp2_with (go_at_call 89; refine HSO.out.mono ?_; rintro e w5 ⟨R, A3, c3, hR, hRl, rfl, hL3, hc3, hb5⟩)
        go_ret
        exact ⟨R, A3, c3, hR.congr (fun s hs => by rw [HFI.out s hs, setG_some]; rfl), hRl, rfl, hL3, hc3, HBE.out _ (hbw.out.trans (hb5.mono hbw.out.size))⟩
      · intro x w3 cnt1 hx hlx hat hrg1 hlt hg1 hs1 hen
        have hin := hpm.out.more x hx hlx
        have hsx := HSZ.out x (by rw [setG_some] at hin; exact hin)
        have hP2 := Lib.hid (hpm.out.step hx hlx)
        have has : Maps.has D' (.string (byB x)) = true := (hrd.out x hx).2.trans ((hpm.out.sm x hx).trans hin)
        have hRP := Lib.hid (fun c => hrd.out.put hrg.out.owns.isMap (x := x) c)
        have HAS := Lib.hid has
        have hb3 := Lib.hid (hbw.out.grown hg1 hbw.out.size (fun j hj => by cases hj; omega))
        have HCA := Lib.hid (HST1.out w3 x hb3.out hsx)
        have HCB := Lib.hid (fun V (hV : Below w1.heap.size w1 V) => HST2.out V x hV hsx)
        have HRG := Lib.hid hrg1
        have HME := Lib.hid (show wr.rangeLeft b w2.heap.size = cnt from hrg.out.left_eq)
        have hz3 := hrg1.lt
        have hzb := hrg1.owns.lt
        have HX := Lib.hid hx
        clear hg1 hs1 hlx hat hrg1 hrg hbw hrd hpm hin has hsx hx
        have hqq : stt d1 x = stt d2 x ∨ ¬ stt d1 x = stt d2 x := Classical.em _
        obtain ⟨q1, hq1⟩ : ∃ q1, q1 = stt d1 x := ⟨_, rfl⟩
        obtain ⟨q2, hq2⟩ : ∃ q2, q2 = stt d2 x := ⟨_, rfl⟩
        rw [← hq1] at HCA hP2 hqq
        rw [← hq2] at HCB hP2 hqq
        clear hq1 hq2
        rcases hqq with hq | hq
        · have e3 : (((q1 : Nat) : Int) == ((q2 : Nat) : Int)) = true := by rw [hq]; simp
          have e4 : (((q1 : Nat) : Int) != ((q2 : Nat) : Int)) = false := by rw [bne, e3]; rfl
          have HF : Hid ((!decide (q1 = q2)) = false) := by show _ = _; rw [decide_eq_true hq]; rfl
          rw [HF.out] at hP2
          clear hq
          go_wp2_with (first | (go_at_call 75; first | (refine HCA.out.mono ?_; rintro e w4 ⟨rfl, hb4⟩; have HR4 := Lib.hid (ranges_below HRG.out hb4 hzb hz3); have HB4 := Lib.hid (hb3.out.trans (hb4.mono hb3.out.size)); clear HCA) | (refine (HCB.out _ HB4.out).mono ?_; rintro e w6 ⟨rfl, hb6⟩; have HR6 := Lib.hid (ranges_below HR4.out hb6 HR4.out.owns.lt HR4.out.lt); have HB6 := Lib.hid (HB4.out.trans (hb6.mono HB4.out.size)); clear HCB)) | (at_mapUpdate; refine wpList_put_sb rfl _ _ _ rfl b w2.heap.size n D' _ cnt1 rfl HR6.out (by omega) x false HX.out rfl rfl HAS.out ?_; intro w5 hrg5 htu5) | go_in)
          have HB5 := Lib.hid (HB6.out.grown htu5.grown HB6.out.size (fun j hj => by cases hj; omega))
          have HRG5 := Lib.hid hrg5
          clear hrg5 htu5
          (first | go_frame | (simp only [Act.put]))
          go_roundw
          case rel => exact ⟨_, cnt1, _, _, HRG5, Lib.hid (hRP.out false), hP2, HB5⟩
          case measure => rw [HRG5.out.left_eq, HME.out]; exact hlt
        · have e3 : (((q1 : Nat) : Int) == ((q2 : Nat) : Int)) = false := by rw [beq_eq_false_iff_ne]; omega
          have e4 : (((q1 : Nat) : Int) != ((q2 : Nat) : Int)) = true := by rw [bne, e3]; rfl
          have HF : Hid ((!decide (q1 = q2)) = true) := by show _ = _; rw [decide_eq_false hq]; rfl
          rw [HF.out] at hP2
          clear hq
          go_wp2_with (first | (go_at_call 75; first | (refine HCA.out.mono ?_; rintro e w4 ⟨rfl, hb4⟩; have HR4 := Lib.hid (ranges_below HRG.out hb4 hzb hz3); have HB4 := Lib.hid (hb3.out.trans (hb4.mono hb3.out.size)); clear HCA) | (refine (HCB.out _ HB4.out).mono ?_; rintro e w6 ⟨rfl, hb6⟩; have HR6 := Lib.hid (ranges_below HR4.out hb6 HR4.out.owns.lt HR4.out.lt); have HB6 := Lib.hid (HB4.out.trans (hb6.mono HB4.out.size)); clear HCB)) | (at_mapUpdate; refine wpList_put_sb rfl _ _ _ rfl b w2.heap.size n D' _ cnt1 rfl HR6.out (by omega) x true HX.out rfl rfl HAS.out ?_; intro w5 hrg5 htu5) | go_in)
          have HB5 := Lib.hid (HB6.out.grown htu5.grown HB6.out.size (fun j hj => by cases hj; omega))
          have HRG5 := Lib.hid hrg5
          clear hrg5 htu5
          (first | go_frame | (simp only [Act.put]))
          go_roundw
          case rel => exact ⟨_, cnt1, _, _, HRG5, Lib.hid (hRP.out true), hP2, HB5⟩
          case measure => rw [HRG5.out.left_eq, HME.out]; exact hlt
      · intro x w3 cnt1 hx hlx hat hrg1 hlt hg1 hs1 hen
        have hin := hpm.out.more x hx hlx
        have hsx := HSZ.out x (by rw [setG_some] at hin; exact hin)
        have hP2 := Lib.hid (hpm.out.step hx hlx)
        have has : Maps.has D' (.string (byB x)) = true := (hrd.out x hx).2.trans ((hpm.out.sm x hx).trans hin)
        have hRP := Lib.hid (fun c => hrd.out.put hrg.out.owns.isMap (x := x) c)
        have HAS := Lib.hid has
        have hb3 := Lib.hid (hbw.out.grown hg1 hbw.out.size (fun j hj => by cases hj; omega))
        have HCA := Lib.hid (HST1.out w3 x hb3.out hsx)
        have HCB := Lib.hid (fun V (hV : Below w1.heap.size w1 V) => HST2.out V x hV hsx)
        have HRG := Lib.hid hrg1
        have HME := Lib.hid (show wr.rangeLeft b w2.heap.size = cnt from hrg.out.left_eq)
        have hz3 := hrg1.lt
        have hzb := hrg1.owns.lt
        have HX := Lib.hid hx
        clear hg1 hs1 hlx hat hrg1 hrg hbw hrd hpm hin has hsx hx
        have hqq : stt d1 x = stt d2 x ∨ ¬ stt d1 x = stt d2 x := Classical.em _
        obtain ⟨q1, hq1⟩ : ∃ q1, q1 = stt d1 x := ⟨_, rfl⟩
        obtain ⟨q2, hq2⟩ : ∃ q2, q2 = stt d2 x := ⟨_, rfl⟩
        rw [← hq1] at HCA hP2 hqq
        rw [← hq2] at HCB hP2 hqq
        clear hq1 hq2
        rcases hqq with hq | hq
        · have e3 : (((q1 : Nat) : Int) == ((q2 : Nat) : Int)) = true := by rw [hq]; simp
          have e4 : (((q1 : Nat) : Int) != ((q2 : Nat) : Int)) = false := by rw [bne, e3]; rfl
          have HF : Hid ((!decide (q1 = q2)) = false) := by show _ = _; rw [decide_eq_true hq]; rfl
          rw [HF.out] at hP2
          clear hq
          go_wp2_with (first | (go_at_call 75; first | (refine HCA.out.mono ?_; rintro e w4 ⟨rfl, hb4⟩; have HR4 := Lib.hid (ranges_below HRG.out hb4 hzb hz3); have HB4 := Lib.hid (hb3.out.trans (hb4.mono hb3.out.size)); clear HCA) | (refine (HCB.out _ HB4.out).mono ?_; rintro e w6 ⟨rfl, hb6⟩; have HR6 := Lib.hid (ranges_below HR4.out hb6 HR4.out.owns.lt HR4.out.lt); have HB6 := Lib.hid (HB4.out.trans (hb6.mono HB4.out.size)); clear HCB)) | (at_mapUpdate; refine wpList_put_sb rfl _ _ _ rfl b w2.heap.size n D' _ cnt1 rfl HR6.out (by omega) x false HX.out rfl rfl HAS.out ?_; intro w5 hrg5 htu5) | go_in)
          have HB5 := Lib.hid (HB6.out.grown htu5.grown HB6.out.size (fun j hj => by cases hj; omega))
          have HRG5 := Lib.hid hrg5
          clear hrg5 htu5
          (first | go_frame | (simp only [Act.put]))
          go_roundw
          case rel => exact ⟨_, cnt1, _, _, HRG5, Lib.hid (hRP.out false), hP2, HB5⟩
          case measure => rw [HRG5.out.left_eq, HME.out]; exact hlt
        · have e3 : (((q1 : Nat) : Int) == ((q2 : Nat) : Int)) = false := by rw [beq_eq_false_iff_ne]; omega
          have e4 : (((q1 : Nat) : Int) != ((q2 : Nat) : Int)) = true := by rw [bne, e3]; rfl
          have HF : Hid ((!decide (q1 = q2)) = true) := by show _ = _; rw [decide_eq_false hq]; rfl
          rw [HF.out] at hP2
          clear hq
          go_wp2_with (first | (go_at_call 75; first | (refine HCA.out.mono ?_; rintro e w4 ⟨rfl, hb4⟩; have HR4 := Lib.hid (ranges_below HRG.out hb4 hzb hz3); have HB4 := Lib.hid (hb3.out.trans (hb4.mono hb3.out.size)); clear HCA) | (refine (HCB.out _ HB4.out).mono ?_; rintro e w6 ⟨rfl, hb6⟩; have HR6 := Lib.hid (ranges_below HR4.out hb6 HR4.out.owns.lt HR4.out.lt); have HB6 := Lib.hid (HB4.out.trans (hb6.mono HB4.out.size)); clear HCB)) | (at_mapUpdate; refine wpList_put_sb rfl _ _ _ rfl b w2.heap.size n D' _ cnt1 rfl HR6.out (by omega) x true HX.out rfl rfl HAS.out ?_; intro w5 hrg5 htu5) | go_in)
          have HB5 := Lib.hid (HB6.out.grown htu5.grown HB6.out.size (fun j hj => by cases hj; omega))
          have HRG5 := Lib.hid hrg5
          clear hrg5 htu5
          (first | go_frame | (simp only [Act.put]))
          go_roundw
          case rel => exact ⟨_, cnt1, _, _, HRG5, Lib.hid (hRP.out true), hP2, HB5⟩
          case measure => rw [HRG5.out.left_eq, HME.out]; exact hlt
end Go.Proofs.YtkfeagokmcakgaaGreatDoor

namespace Go.Proofs.YtkfeagokmcakgaaGreatDoor
open Go.RowKit

theorem own_new (w : World) (x : ByteArray) : (w.alloc (.cells #[.string x] 9)).ownsRow w.heap.size 9 1 (.slice (some ⟨w.heap.size, 0, none⟩) 1 1) 1 [.string x] :=
  ⟨by simp, .inr ⟨w.heap.size, 1, #[.string x], rfl, Nat.le_refl _, Bk.new w 9 #[.string x], Nat.le_refl _, by unfold maxLen; decide, rfl, rfl⟩⟩
theorem foldS_len (m : List Rul) (out : List ByteArray) : out.length ≤ (m.foldl grpS out).length := by
  obtain ⟨t, h⟩ := fold_pre m out
  rw [h, List.length_append]; omega
theorem grpN_len (l : List Rul) : ∀ n out, out.length ≤ (grpN l n out).length
  | 0, out => Nat.le_refl _
  | n + 1, out => Nat.le_trans (foldS_len l out) (grpN_len l n (grpR l out))
theorem grps_len (l : List Rul) (x : ByteArray) : (grps l x).length ≤ l.length + 1 := by
  have h2 : (grps l x).length ≤ (x :: l.map Rul.y).length := nodup_len _ _ (grps_nodup l x) fun z hz => by
    have h := (grps_iff l x z).1 hz
    refine Reach.inv (P := fun z => z ∈ x :: l.map Rul.y) h (by simp) ?_
    rintro u v _ ⟨r, hr, _, _, rfl⟩
    exact List.mem_cons_of_mem _ (List.mem_map.2 ⟨r, hr, rfl⟩)
  simpa using h2
theorem grpS_no {out : List ByteArray} {r : Rul} (h : ¬ (r.kind = 5 ∧ r.x ∈ out ∧ r.y ∉ out)) : grpS out r = out := by unfold grpS; rw [if_neg h]
theorem grpS_yes {out : List ByteArray} {r : Rul} (h : r.kind = 5 ∧ r.x ∈ out ∧ r.y ∉ out) : grpS out r = out ++ [r.y] := by unfold grpS; rw [if_pos h]
theorem foldS_step {l : List Rul} {k : Nat} (hk : k < l.length) (P : List ByteArray) : (l.drop k).foldl grpS P = (l.drop (k + 1)).foldl grpS (grpS P l[k]) := by
  rw [List.drop_eq_getElem_cons hk]; rfl
theorem grpN_step (l : List Rul) (n : Nat) (O : List ByteArray) (hn : n ≤ l.length) : grpN l (l.length + 1 - n) O = grpN l (l.length + 1 - (n + 1)) (grpR l O) := by
  rw [show l.length + 1 - n = (l.length + 1 - (n + 1)) + 1 by omega]; rfl
/-- whether a name is in the row that grows -/
structure HasK (A : Option Addr) (n c : Nat) (s : ByteArray) (b : Bool) (W : World) : Prop where
  run : ∀ V, Below W.heap.size W V → Calls Tryz.prog 77 #[.slice A n c, .string s] V (ShEnd b V)
theorem HasK.go {A : Option Addr} {n c : Nat} {s : ByteArray} {b : Bool} {W V : World} (h : HasK A n c s b W) (hb : Below W.heap.size W V) : Calls Tryz.prog 77 #[.slice A n c, .string s] V (ShEnd b V) := h.run V hb
set_option maxHeartbeats 1000000 in
set_option maxRecDepth 100000 in
theorem rgroups_any (l : List Rul) (A : Option Addr) (c : Nat) (x : ByteArray) (w : World) (hl : Lies w w.heap.size A (rulesC l)) (hm : l.length ≤ 1000) :
    Calls Tryz.prog 76 #[.slice A l.length c, .string x] w (fun e w' => ∃ A' c', e = .returned (.slice A' (grps l x).length c') ∧ Lies w' w'.heap.size A' (strsC (grps l x)) ∧ ((grps l x).length ≤ c' ∧ c' ≤ maxLen) ∧ Below w.heap.size w w') := by
  have HGL := Lib.hid (grps_len l x)
  have HN := Lib.hid (grpN_step l)
  have HNL := Lib.hid (grpN_len l)
  have HFL := Lib.hid foldS_len
  have HS0 : Hid (grpN l (l.length + 1 - 0) [x] = grps l x) := rfl
  have HEND : Hid (∀ O, grpN l (l.length + 1 - (l.length + 1)) O = grps l x → O = grps l x) := fun O h => by rw [Nat.sub_self] at h; exact h
  have HLL := Lib.hid hl
  generalize grps l x = G at *
  clear hl
  go_enter Tryz.func76, Tryz.ntmps76
  go_upto_region 3 with fail
  have ho0 := Lib.hid (own_new w x)
  have hb0 : Below w.heap.size w (w.alloc (.cells #[.string x] 9)) := (Below.refl _ _).alloc (Nat.le_refl _) _
  go_loopw [5, 6, 7] (fun v y _ wr => ∃ (n : Nat) (O : List ByteArray) (A' : Option Addr) (c' : Nat), n ≤ l.length + 1 ∧ v = .slice A' O.length c' ∧ y = .int .i64 n ∧ Hid (grpN l (l.length + 1 - n) O = G) ∧ Hid (wr.ownsRow w.heap.size 9 1 (.slice A' O.length c') O.length (strsC O)) ∧ Below w.heap.size w wr) (fun _ y _ _ => l.length + 1 - (intOf y).toNat)
  case atStart => exact ⟨0, [x], some ⟨w.heap.size, 0, none⟩, 1, by omega, rfl, rfl, HS0, ho0, hb0⟩
  case round =>
    obtain ⟨n, O, A1, c1, hn, rfl, rfl, hG, ho, hbw⟩ := hrel
    clear HS0 ho0 hb0
    by_cases hlt : n ≤ l.length
    · have hG2 : Hid (grpN l (l.length + 1 - (n + 1)) (grpR l O) = G) := by show _ = _; rw [← HN.out n O hlt]; exact hG.out
      have HLE : Hid ((grpR l O).length ≤ 1001) := by
        have h1 := HNL.out (l.length + 1 - (n + 1)) (grpR l O)
        rw [hG2.out] at h1
        have := HGL.out
        show _ ≤ _; omega
      have HF0 : Hid ((l.drop 0).foldl grpS O = grpR l O) := rfl
      have HFE : Hid (∀ P, (l.drop l.length).foldl grpS P = grpR l O → P = grpR l O) := fun P h => by rw [List.drop_length] at h; exact h
      generalize grpR l O = GR at *
      clear hG HN HNL HGL HEND
      have hnl : (n : Int) ≤ (l.length : Int) := by omega
      go_upto_region 6 with fail
      generalize wr = w1 at *
      go_loopw [5, 7] (fun v z w2 => ∃ (k : Nat) (P : List ByteArray) (A' : Option Addr) (c' : Nat), k ≤ l.length ∧ v = .slice A' P.length c' ∧ z = .int .i64 k ∧ Hid ((l.drop k).foldl grpS P = GR) ∧ Hid (w2.ownsRow w.heap.size 9 1 (.slice A' P.length c') P.length (strsC P)) ∧ Below w.heap.size w w2) (fun _ z _ => l.length - (intOf z).toNat)
      case atStart => exact ⟨0, O, A1, c1, by omega, rfl, rfl, HF0, ho, hbw⟩
      case round =>
        obtain ⟨k, P, A2, c2, hk, rfl, rfl, hP, ho2, hbw2⟩ := hrel
        by_cases hkl : k < l.length
        · obtain ⟨ad, rfl, hadb, d0, d1, d2, d3, d4, d5⟩ := rule_at ((HLL.out.below hbw2 (Nat.le_refl _)).more hbw2.size) hkl
          have HD : Hid (∀ V, Below w.heap.size w V → V.cell? ⟨(ad.add (k * 6)).block, (ad.add (k * 6)).off + 3, none⟩ = some (.string l[k].x) ∧ V.cell? ⟨(ad.add (k * 6)).block, (ad.add (k * 6)).off + 4, none⟩ = some (.string l[k].y)) := fun V hV => by
            obtain ⟨ad2, e2, _, _, _, _, e4, e5, _⟩ := rule_at ((HLL.out.below hV (Nat.le_refl _)).more hV.size) hkl
            cases e2
            exact ⟨e4, e5⟩
          have hst : Hid ((l.drop (k + 1)).foldl grpS (grpS P l[k]) = GR) := by show _ = _; rw [← foldS_step hkl]; exact hP.out
          have HNO := Lib.hid (grpS_no (out := P) (r := l[k]))
          have HYES := Lib.hid (grpS_yes (out := P) (r := l[k]))
          have HPL : Hid (P.length ≤ 1001) := by
            have h1 := HFL.out (l.drop k) P
            rw [hP.out] at h1
            have := HLE.out
            show _ ≤ _; omega
          have HHAS : Hid (∀ s, HasK A2 P.length c2 s (decide (s ∈ P)) wr) := fun s => ⟨fun V hV => rhas_any P A2 c2 s V (lies_on (ownsRow_lies ho2.out) hV) (by have := HPL.out; unfold maxLen; omega)⟩
          generalize l[k] = R at *
          obtain ⟨id, kn, kd, rx, ry, of⟩ := R
          dsimp only at *
          clear hP d0 d1 d4 d5
          have hpl := HPL.out
          have hbb : Below wr.heap.size wr wr := Below.refl _ _
          by_cases h5 : kd = 5
          · have h51 : (kd == 5) = true := by rw [beq_iff_eq]; exact h5
            by_cases hx : rx ∈ P
            · have kx := HHAS.out rx
              rw [decide_eq_true hx] at kx
              by_cases hy : ry ∈ P
              · have ky := HHAS.out ry
                rw [decide_eq_true hy] at ky
                have hS : Hid ((l.drop (k + 1)).foldl grpS P = GR) := by show _ = _; rw [← hst.out, HNO.out (fun h => h.2.2 hy)]
                clear hst HNO HYES HHAS HLE HFE HF0
                go_wp2_with (first | (go_at_call 77; refine (HasK.go (by assumption) (by assumption)).mono ?_; rintro e u ⟨rfl, hb⟩; have hbu : Below wr.heap.size wr u := Below.trans (by assumption) (hb.mono (Below.size (by assumption))); obtain ⟨y3, y4⟩ := HD.out u (hbw2.trans (hbu.mono hbw2.size)); clear hb))
                have hown := Lib.hid (ownsRow_below ho2.out hbu (Nat.le_refl _))
                have hbel := hbw2.trans (hbu.mono hbw2.size)
                clear hbw2 ho2
                go_roundw
                case rel => exact ⟨k + 1, P, A2, c2, by omega, rfl, by go_num, hS, hown, hbel⟩
                case measure => simp [intOf]; omega
              · have ky := HHAS.out ry
                rw [decide_eq_false hy] at ky
                have hS : Hid ((l.drop (k + 1)).foldl grpS (P ++ [ry]) = GR) := by show _ = _; rw [← hst.out, HYES.out ⟨h5, hx, hy⟩]
                clear hst HNO HYES HHAS HLE HFE HF0
                go_upto_region 9 with (first | (go_at_call 77; refine (HasK.go (by assumption) (by assumption)).mono ?_; rintro e u ⟨rfl, hb⟩; have hbu : Below wr.heap.size wr u := Below.trans (by assumption) (hb.mono (Below.size (by assumption))); obtain ⟨y3, y4⟩ := HD.out u (hbw2.trans (hbu.mono hbw2.size)); clear hb))
                have hown := Lib.hid (ownsRow_below ho2.out hbu (Nat.le_refl _))
                have hbel : Below w.heap.size w u := hbw2.trans (hbu.mono hbw2.size)
                have hbs := hbel.size
                clear hbw2 ho2
                go_wp2_with (at_builtin; refine wpList_append1g (P := Tryz.prog) rfl (.tmp 47) (.tmp 53) 34 rfl w.heap.size 9 (.string ByteArray.empty) 1 16 Tryz.underlying34 info9 (by decide) (by decide) (.slice A2 P.length c2) P.length (strsC P) rfl (hown.out.alloc _) u.heap.size #[.string ry] 9 rfl (Bk.new _ _ _) rfl ?c1 ?c2 (by decide) ?c3 ?_)
                case c1 => rfl
                case c2 => omega
                case c3 => first | omega | (simp; omega)
                intro v' w4 ho4 hg4
                have hgr : ∀ j, (Value.slice A2 P.length c2).ownBlock = some j → w.heap.size ≤ j := fun j hj => (hown.out.lt j hj).1
                have hbw4 : Below w.heap.size w w4 := (hbel.alloc hbs _).grown hg4 (by simp; omega) hgr
                have hsn : strsC P ++ (#[Value.string ry] : Array Value).toList = strsC (P ++ [ry]) := by simp [strsC]
                rw [hsn] at ho4
                obtain ⟨A4, c4, rfl, _, _⟩ := ownsSlice ho4
                have hll : (P ++ [ry]).length = P.length + 1 := by simp
                have ho5 : Hid (w4.ownsRow w.heap.size 9 1 (.slice A4 (P ++ [ry]).length c4) (P ++ [ry]).length (strsC (P ++ [ry]))) := by rw [hll]; exact Lib.hid ho4
                clear ho4 hg4 hgr hsn hown hbel
                go_wp2
                go_roundw
                case rel => exact ⟨k + 1, P ++ [ry], A4, c4, by omega, by rw [hll], by go_num, hS, ho5, hbw4⟩
                case measure => simp [intOf]; omega
            · have kx := HHAS.out rx
              rw [decide_eq_false hx] at kx
              have hS : Hid ((l.drop (k + 1)).foldl grpS P = GR) := by show _ = _; rw [← hst.out, HNO.out (fun h => hx h.2.1)]
              clear hst HNO HYES HHAS HLE HFE HF0
              go_wp2_with (first | (go_at_call 77; refine (HasK.go (by assumption) (by assumption)).mono ?_; rintro e u ⟨rfl, hb⟩; have hbu : Below wr.heap.size wr u := Below.trans (by assumption) (hb.mono (Below.size (by assumption))); obtain ⟨y3, y4⟩ := HD.out u (hbw2.trans (hbu.mono hbw2.size)); clear hb))
              have hown := Lib.hid (ownsRow_below ho2.out hbu (Nat.le_refl _))
              have hbel := hbw2.trans (hbu.mono hbw2.size)
              clear hbw2 ho2
              go_roundw
              case rel => exact ⟨k + 1, P, A2, c2, by omega, rfl, by go_num, hS, hown, hbel⟩
              case measure => simp [intOf]; omega
          · have h51 : (kd == 5) = false := by rw [beq_eq_false_iff_ne]; exact h5
            have hS : Hid ((l.drop (k + 1)).foldl grpS P = GR) := by show _ = _; rw [← hst.out, HNO.out (fun h => h5 h.1)]
            clear hst HNO HYES HHAS HLE HFE HF0
            go_wp2
            have hown := ho2
            have hbel := hbw2
            clear hbw2 ho2
            go_roundw
            case rel => exact ⟨k + 1, P, A2, c2, by omega, rfl, by go_num, hS, hown, hbel⟩
            case measure => simp [intOf]; omega
        · obtain rfl : k = l.length := by omega
          have hPG := HFE.out P hP.out
          subst hPG
          clear HLE HFE HF0 hP
          go_wp2
          go_roundw
          case rel => exact ⟨n + 1, P, A2, c2, by omega, rfl, by go_num, hG2, ho2, hbw2⟩
          case measure => simp [intOf]; omega
    · obtain rfl : n = l.length + 1 := by omega
      have hOG := HEND.out O hG.out
      subst hOG
      have hLI := Lib.hid (ownsRow_lies ho.out)
      have hcap := ownsSlice ho.out
      have hnl : ¬ (((l.length + 1 : Nat) : Int) ≤ (l.length : Int)) := by omega
      clear ho HN HNL HEND hG HGL
      go_wp2
      go_ret
      obtain ⟨A7, c7, e7, h1, h2⟩ := hcap
      cases e7
      exact ⟨A1, c1, rfl, hLI.out, ⟨h1, h2⟩, hbw⟩
end Go.Proofs.YtkfeagokmcakgaaGreatDoor

namespace Go.Proofs.YtkfeagokmcakgaaGreatDoor
open Go.RowKit

set_option maxHeartbeats 6000000 in
set_option maxRecDepth 100000 in
theorem rcounting_any (l : List Rul) (A : Option Addr) (c : Nat) (known : Int) (w : World) (hl : Lies w w.heap.size A (rulesC l)) (hok : RulOK l) (hm : l.length ≤ 1000) :
    Calls Tryz.prog 39 #[.agg #[.slice A l.length c], .int .i64 known] w (SlE (cntL l known) w) := by
  have HLW : Hid (∀ V, Below w.heap.size w V → Lies V V.heap.size A (rulesC l)) := fun V hV => lies_on hl hV
  have HF : Hid (∀ r ∈ l, ∀ V, Calls Tryz.prog 85 #[r.agg] V (ShEnd (frm r) V)) := fun r hr V => rformed_any r V (hok r hr).1 (hok r hr).2.1
  have HEN : Hid ((l.take l.length).filter (cntB l known) = cntL l known) := by show _ = _; rw [List.take_length]; rfl
  have HV0 : Hid (∀ id, voidB (l.take 0) known id = false) := fun id => by simp [voidB]
  have HVE : Hid (∀ id, voidB (l.take l.length) known id = voidB l known id) := fun id => by rw [List.take_length]
  clear hl hok
  go_enter Tryz.func39, Tryz.ntmps39
  go_upto_region 3 with fail
  have hk0 : Hid (Bk (w.alloc (.cells #[.slice A l.length c] 25)) w.heap.size 25 #[.slice A l.length c]) := Bk.new _ _ _
  have hb0 : Below w.heap.size w (w.alloc (.cells #[.slice A l.length c] 25)) := (Below.refl _ _).alloc (Nat.le_refl _) _
  go_loopw [5, 6] (fun v y wr => ∃ (i : Nat) (A' : Option Addr) (c' : Nat), i ≤ l.length ∧ v = .slice A' ((l.take i).filter (cntB l known)).length c' ∧ y = .int .i64 i ∧ Hid (wr.ownsRow (w.heap.size + 1) 50 6 (.slice A' ((l.take i).filter (cntB l known)).length c') ((l.take i).filter (cntB l known)).length (rulesC ((l.take i).filter (cntB l known)))) ∧ Hid (Bk wr w.heap.size 25 #[.slice A l.length c]) ∧ Below w.heap.size w wr) (fun _ y _ => l.length - (intOf y).toNat)
  case atStart => exact ⟨0, none, 0, by omega, rfl, rfl, World.ownsRow_nil _ _ _ _, hk0, hb0⟩
  case round =>
    obtain ⟨i, A1, c1, hi, rfl, rfl, ho, hk, hbw⟩ := hrel
    clear hk0 hb0
    have z0 := hk.out.cell 0 rfl
    have hkl := hk.out.lt
    by_cases hlt : i < l.length
    · obtain ⟨ad, rfl, _, d0, d1, d2, d3, d4, d5⟩ := rule_at (HLW.out wr hbw) hlt
      have HF1 := Lib.hid (HF.out _ (List.getElem_mem hlt))
      have HSK := Lib.hid (fun h => filt_skip (p := cntB l known) hlt h)
      have HPT := Lib.hid (fun h => filt_take (p := cntB l known) hlt h)
      have hfl := filt_len l (cntB l known) i
      generalize (l.take i).filter (cntB l known) = fk at *
      generalize l[i] = r at *
      have HVD : Hid (cntB l known r = (frm r && decide (r.known ≤ known) && !decide (r.kind = 6) && !voidB l known r.id)) := rfl
      have HSN := Lib.hid (rulesC_snoc fk r)
      obtain ⟨id1, kn1, kd1, x1, y1, of1⟩ := r
      dsimp only at *
      have hb1 : Below wr.heap.size wr (wr.alloc (.cells #[.int .i64 id1, .int .i64 kn1, .int .u8 kd1, .string x1, .string y1, .int .i64 of1] 50)) := (Below.refl _ _).alloc (Nat.le_refl _) _
      have HBX : Hid (∀ V, Below (wr.alloc (.cells #[.int .i64 id1, .int .i64 kn1, .int .u8 kd1, .string x1, .string y1, .int .i64 of1] 50)).heap.size (wr.alloc (.cells #[.int .i64 id1, .int .i64 kn1, .int .u8 kd1, .string x1, .string y1, .int .i64 of1] 50)) V → Bk V wr.heap.size 50 #[.int .i64 id1, .int .i64 kn1, .int .u8 kd1, .string x1, .string y1, .int .i64 of1] ∧ Bk V w.heap.size 25 #[.slice (some ad) l.length c] ∧ V.ownsRow (w.heap.size + 1) 50 6 (.slice A1 fk.length c1) fk.length (rulesC fk) ∧ Below w.heap.size w V) := fun V hV => by
        have h1 : Bk (wr.alloc (.cells #[.int .i64 id1, .int .i64 kn1, .int .u8 kd1, .string x1, .string y1, .int .i64 of1] 50)) wr.heap.size 50 #[.int .i64 id1, .int .i64 kn1, .int .u8 kd1, .string x1, .string y1, .int .i64 of1] := Bk.new _ _ _
        have h2 : Below wr.heap.size wr V := hb1.trans (hV.mono hb1.size)
        exact ⟨h1.below hV h1.lt, hk.out.below h2 hkl, ownsRow_below ho.out h2 (Nat.le_refl _), hbw.trans (h2.mono hbw.size)⟩
      cases hfr : frm ⟨id1, kn1, kd1, x1, y1, of1⟩
      · rw [hfr] at HF1 HVD
        have HS2 := Lib.hid (HSK.out (by rw [HVD.out]; rfl))
        clear hfr HSK HPT HVD HSN
        go_wp2_with (first | (go_at_call 85; refine (HF1.out _).mono ?_; rintro e u ⟨rfl, hb⟩; have hbu : Below (wr.alloc (.cells #[.int .i64 id1, .int .i64 kn1, .int .u8 kd1, .string x1, .string y1, .int .i64 of1] 50)).heap.size (wr.alloc (.cells #[.int .i64 id1, .int .i64 kn1, .int .u8 kd1, .string x1, .string y1, .int .i64 of1] 50)) u := hb; obtain ⟨qa, qb, _, _⟩ := HBX.out u hbu; have y0 := qa.cell 0 rfl; have y1' := qa.cell 1 rfl; have y2' := qa.cell 2 rfl; have y3' := qb.cell 0 rfl; clear hb qa qb))
        obtain ⟨_, q2, q3, q4⟩ := HBX.out u hbu
        have hQ2 := Lib.hid q2
        have hQ3 := Lib.hid q3
        clear q2 q3 HBX y0 y1' y2' y3' ho hk
        go_roundw
        case rel => exact ⟨i + 1, A1, c1, by omega, by rw [HS2.out], by go_num, by rw [HS2.out]; exact hQ3, hQ2, q4⟩
        case measure => simp [intOf]; omega
      rw [hfr] at HF1 HVD
      by_cases h6 : kd1 = 6
      · have h61 : (kd1 == 6) = true := by rw [beq_iff_eq]; exact h6
        have HS2 := Lib.hid (HSK.out (by rw [HVD.out]; simp [h6]))
        clear hfr HSK HPT HVD HSN h6
        go_wp2_with (first | (go_at_call 85; refine (HF1.out _).mono ?_; rintro e u ⟨rfl, hb⟩; have hbu : Below (wr.alloc (.cells #[.int .i64 id1, .int .i64 kn1, .int .u8 kd1, .string x1, .string y1, .int .i64 of1] 50)).heap.size (wr.alloc (.cells #[.int .i64 id1, .int .i64 kn1, .int .u8 kd1, .string x1, .string y1, .int .i64 of1] 50)) u := hb; obtain ⟨qa, qb, _, _⟩ := HBX.out u hbu; have y0 := qa.cell 0 rfl; have y1' := qa.cell 1 rfl; have y2' := qa.cell 2 rfl; have y3' := qb.cell 0 rfl; clear hb qa qb))
        obtain ⟨_, q2, q3, q4⟩ := HBX.out u hbu
        have hQ2 := Lib.hid q2
        have hQ3 := Lib.hid q3
        clear q2 q3 HBX y0 y1' y2' y3' ho hk
        go_roundw
        case rel => exact ⟨i + 1, A1, c1, by omega, by rw [HS2.out], by go_num, by rw [HS2.out]; exact hQ3, hQ2, q4⟩
        case measure => simp [intOf]; omega
      have h61 : (kd1 == 6) = false := by rw [beq_eq_false_iff_ne]; exact h6
      by_cases hkn : kn1 ≤ known
      case neg =>
        have hkn2 : known < kn1 := by omega
        have HS2 := Lib.hid (HSK.out (by rw [HVD.out]; simp [hkn]))
        clear hfr HSK HPT HVD HSN h6
        go_wp2_with (first | (go_at_call 85; refine (HF1.out _).mono ?_; rintro e u ⟨rfl, hb⟩; have hbu : Below (wr.alloc (.cells #[.int .i64 id1, .int .i64 kn1, .int .u8 kd1, .string x1, .string y1, .int .i64 of1] 50)).heap.size (wr.alloc (.cells #[.int .i64 id1, .int .i64 kn1, .int .u8 kd1, .string x1, .string y1, .int .i64 of1] 50)) u := hb; obtain ⟨qa, qb, _, _⟩ := HBX.out u hbu; have y0 := qa.cell 0 rfl; have y1' := qa.cell 1 rfl; have y2' := qa.cell 2 rfl; have y3' := qb.cell 0 rfl; clear hb qa qb))
        obtain ⟨_, q2, q3, q4⟩ := HBX.out u hbu
        have hQ2 := Lib.hid q2
        have hQ3 := Lib.hid q3
        clear q2 q3 HBX y0 y1' y2' y3' ho hk
        go_roundw
        case rel => exact ⟨i + 1, A1, c1, by omega, by rw [HS2.out], by go_num, by rw [HS2.out]; exact hQ3, hQ2, q4⟩
        case measure => simp [intOf]; omega
      have hkn2 : ¬ known < kn1 := by omega
      go_upto_region 10 with (first | (go_at_call 85; refine (HF1.out _).mono ?_; rintro e u ⟨rfl, hb⟩; have hbu : Below (wr.alloc (.cells #[.int .i64 id1, .int .i64 kn1, .int .u8 kd1, .string x1, .string y1, .int .i64 of1] 50)).heap.size (wr.alloc (.cells #[.int .i64 id1, .int .i64 kn1, .int .u8 kd1, .string x1, .string y1, .int .i64 of1] 50)) u := hb; obtain ⟨qa, qb, _, _⟩ := HBX.out u hbu; have y0 := qa.cell 0 rfl; have y1' := qa.cell 1 rfl; have y2' := qa.cell 2 rfl; have y3' := qb.cell 0 rfl; clear hb qa qb))
      have HBU : Hid (∀ V, Below u.heap.size u V → Bk V wr.heap.size 50 #[.int .i64 id1, .int .i64 kn1, .int .u8 kd1, .string x1, .string y1, .int .i64 of1] ∧ Bk V w.heap.size 25 #[.slice (some ad) l.length c] ∧ V.ownsRow (w.heap.size + 1) 50 6 (.slice A1 fk.length c1) fk.length (rulesC fk) ∧ Below w.heap.size w V) := fun V hV => HBX.out V (hbu.trans (hV.mono hbu.size))
      have hbuu : Below u.heap.size u u := Below.refl _ _
      have HI0 := Lib.hid (HV0.out id1)
      have HIE := Lib.hid (HVE.out id1)
      clear HBX hbu y0 y1' y2' y3' hb1 d0 d1 d2 d3 d4 d5 z0 HF1
      generalize hwr : wr.heap.size = b1 at *
      go_loopw [9, 10] (fun z y wr => ∃ k : Nat, k ≤ l.length ∧ z = .bool (voidB (l.take k) known id1) ∧ y = .int .i64 k ∧ Below u.heap.size u wr) (fun _ y _ => l.length - (intOf y).toNat)
      case atStart => exact ⟨0, by omega, by rw [HI0.out], rfl, hbuu⟩
      case round =>
        obtain ⟨k, hk2, rfl, rfl, hbv⟩ := hrel
        obtain ⟨q1, q2, _, q4⟩ := HBU.out wr hbv
        have z0 := q2.cell 0 rfl
        have e0 := q1.cell 0 rfl
        by_cases hlt2 : k < l.length
        · obtain ⟨ad2, e2, _, d0, d1, d2, d3, d4, d5⟩ := rule_at (HLW.out wr q4) hlt2
          cases e2
          have HF2 := Lib.hid (HF.out _ (List.getElem_mem hlt2))
          have HVT := Lib.hid (void_take l known k hlt2 id1)
          generalize l[k] = r at *
          obtain ⟨id2, kn2, kd2, x2, y2, of2⟩ := r
          have HVT : Hid (voidB (l.take (k + 1)) known id1 = (voidB (l.take k) known id1 || (frm ⟨id2, kn2, kd2, x2, y2, of2⟩ && decide (kn2 ≤ known) && decide (kd2 = 6)) && decide (of2 = id1))) := HVT.out
          dsimp only at *
          have hb2 : Below wr.heap.size wr (wr.alloc (.cells #[.int .i64 id2, .int .i64 kn2, .int .u8 kd2, .string x2, .string y2, .int .i64 of2] 50)) := (Below.refl _ _).alloc (Nat.le_refl _) _
          have HBY : Hid (∀ V, Below (wr.alloc (.cells #[.int .i64 id2, .int .i64 kn2, .int .u8 kd2, .string x2, .string y2, .int .i64 of2] 50)).heap.size (wr.alloc (.cells #[.int .i64 id2, .int .i64 kn2, .int .u8 kd2, .string x2, .string y2, .int .i64 of2] 50)) V → Bk V wr.heap.size 50 #[.int .i64 id2, .int .i64 kn2, .int .u8 kd2, .string x2, .string y2, .int .i64 of2] ∧ Bk V b1 50 #[.int .i64 id1, .int .i64 kn1, .int .u8 kd1, .string x1, .string y1, .int .i64 of1] ∧ Below u.heap.size u V) := fun V hV => by
            have h1 : Bk (wr.alloc (.cells #[.int .i64 id2, .int .i64 kn2, .int .u8 kd2, .string x2, .string y2, .int .i64 of2] 50)) wr.heap.size 50 #[.int .i64 id2, .int .i64 kn2, .int .u8 kd2, .string x2, .string y2, .int .i64 of2] := Bk.new _ _ _
            have h2 : Below wr.heap.size wr V := hb2.trans (hV.mono hb2.size)
            have h3 : Below u.heap.size u V := hbv.trans (h2.mono hbv.size)
            exact ⟨h1.below hV h1.lt, (HBU.out V h3).1, h3⟩
          clear q1 q2 q4
          cases hB : voidB (l.take k) known id1
          · rw [hB] at HVT
            cases hf2 : frm ⟨id2, kn2, kd2, x2, y2, of2⟩
            · rw [hf2] at HF2 HVT
              have HN : Hid (voidB (l.take (k + 1)) known id1 = false) := by show _ = _; rw [HVT.out]; rfl
              clear hf2 hB HVT
              clear HVD HSK HPT HSN HF HLW HBU
              go_wp2_with (first | (go_at_call 85; refine (HF2.out _).mono ?_; rintro e u2 ⟨rfl, hb⟩; have hbu2 : Below (wr.alloc (.cells #[.int .i64 id2, .int .i64 kn2, .int .u8 kd2, .string x2, .string y2, .int .i64 of2] 50)).heap.size (wr.alloc (.cells #[.int .i64 id2, .int .i64 kn2, .int .u8 kd2, .string x2, .string y2, .int .i64 of2] 50)) u2 := hb; obtain ⟨qa, qb, qc⟩ := HBY.out u2 hbu2; have s1 := qa.cell 1 rfl; have s2 := qa.cell 2 rfl; have s5 := qa.cell 5 rfl; have s0 := qb.cell 0 rfl; clear hb qa qb))
              go_roundw
              case rel => exact ⟨k + 1, by omega, by rw [HN.out], by go_num, qc⟩
              case measure => simp [intOf]; omega
            rw [hf2] at HF2 HVT
            by_cases g6 : kd2 = 6
            case neg =>
              have g61 : (kd2 == 6) = false := by rw [beq_eq_false_iff_ne]; exact g6
              have HN : Hid (voidB (l.take (k + 1)) known id1 = false) := by show _ = _; rw [HVT.out]; simp [g6]
              clear hf2 hB HVT
              clear HVD HSK HPT HSN HF HLW HBU
              go_wp2_with (first | (go_at_call 85; refine (HF2.out _).mono ?_; rintro e u2 ⟨rfl, hb⟩; have hbu2 : Below (wr.alloc (.cells #[.int .i64 id2, .int .i64 kn2, .int .u8 kd2, .string x2, .string y2, .int .i64 of2] 50)).heap.size (wr.alloc (.cells #[.int .i64 id2, .int .i64 kn2, .int .u8 kd2, .string x2, .string y2, .int .i64 of2] 50)) u2 := hb; obtain ⟨qa, qb, qc⟩ := HBY.out u2 hbu2; have s1 := qa.cell 1 rfl; have s2 := qa.cell 2 rfl; have s5 := qa.cell 5 rfl; have s0 := qb.cell 0 rfl; clear hb qa qb))
              go_roundw
              case rel => exact ⟨k + 1, by omega, by rw [HN.out], by go_num, qc⟩
              case measure => simp [intOf]; omega
            have g61 : (kd2 == 6) = true := by rw [beq_iff_eq]; exact g6
            by_cases gk : kn2 ≤ known
            case neg =>
              have HN : Hid (voidB (l.take (k + 1)) known id1 = false) := by show _ = _; rw [HVT.out]; simp [gk]
              clear hf2 hB HVT g6
              clear HVD HSK HPT HSN HF HLW HBU
              go_wp2_with (first | (go_at_call 85; refine (HF2.out _).mono ?_; rintro e u2 ⟨rfl, hb⟩; have hbu2 : Below (wr.alloc (.cells #[.int .i64 id2, .int .i64 kn2, .int .u8 kd2, .string x2, .string y2, .int .i64 of2] 50)).heap.size (wr.alloc (.cells #[.int .i64 id2, .int .i64 kn2, .int .u8 kd2, .string x2, .string y2, .int .i64 of2] 50)) u2 := hb; obtain ⟨qa, qb, qc⟩ := HBY.out u2 hbu2; have s1 := qa.cell 1 rfl; have s2 := qa.cell 2 rfl; have s5 := qa.cell 5 rfl; have s0 := qb.cell 0 rfl; clear hb qa qb))
              go_roundw
              case rel => exact ⟨k + 1, by omega, by rw [HN.out], by go_num, qc⟩
              case measure => simp [intOf]; omega
            by_cases go : of2 = id1
            case neg =>
              have go1 : (of2 == id1) = false := by rw [beq_eq_false_iff_ne]; exact go
              have HN : Hid (voidB (l.take (k + 1)) known id1 = false) := by show _ = _; rw [HVT.out]; simp [go]
              clear hf2 hB HVT go g6
              clear HVD HSK HPT HSN HF HLW HBU
              go_wp2_with (first | (go_at_call 85; refine (HF2.out _).mono ?_; rintro e u2 ⟨rfl, hb⟩; have hbu2 : Below (wr.alloc (.cells #[.int .i64 id2, .int .i64 kn2, .int .u8 kd2, .string x2, .string y2, .int .i64 of2] 50)).heap.size (wr.alloc (.cells #[.int .i64 id2, .int .i64 kn2, .int .u8 kd2, .string x2, .string y2, .int .i64 of2] 50)) u2 := hb; obtain ⟨qa, qb, qc⟩ := HBY.out u2 hbu2; have s1 := qa.cell 1 rfl; have s2 := qa.cell 2 rfl; have s5 := qa.cell 5 rfl; have s0 := qb.cell 0 rfl; clear hb qa qb))
              go_roundw
              case rel => exact ⟨k + 1, by omega, by rw [HN.out], by go_num, qc⟩
              case measure => simp [intOf]; omega
            have go1 : (of2 == id1) = true := by rw [beq_iff_eq]; exact go
            have HN : Hid (voidB (l.take (k + 1)) known id1 = true) := by show _ = _; rw [HVT.out]; simp [gk, g6, go]
            clear hf2 hB HVT go g6
            clear HVD HSK HPT HSN HF HLW HBU
            go_wp2_with (first | (go_at_call 85; refine (HF2.out _).mono ?_; rintro e u2 ⟨rfl, hb⟩; have hbu2 : Below (wr.alloc (.cells #[.int .i64 id2, .int .i64 kn2, .int .u8 kd2, .string x2, .string y2, .int .i64 of2] 50)).heap.size (wr.alloc (.cells #[.int .i64 id2, .int .i64 kn2, .int .u8 kd2, .string x2, .string y2, .int .i64 of2] 50)) u2 := hb; obtain ⟨qa, qb, qc⟩ := HBY.out u2 hbu2; have s1 := qa.cell 1 rfl; have s2 := qa.cell 2 rfl; have s5 := qa.cell 5 rfl; have s0 := qb.cell 0 rfl; clear hb qa qb))
            go_roundw
            case rel => exact ⟨k + 1, by omega, by rw [HN.out], by go_num, qc⟩
            case measure => simp [intOf]; omega
          · rw [hB] at HVT
            have HN : Hid (voidB (l.take (k + 1)) known id1 = true) := by show _ = _; rw [HVT.out]; rfl
            clear hB HVT
            generalize frm ⟨id2, kn2, kd2, x2, y2, of2⟩ = F2 at *
            clear HVD HSK HPT HSN HF HLW HBU
            go_wp2_with (first | (go_at_call 85; refine (HF2.out _).mono ?_; rintro e u2 ⟨rfl, hb⟩; have hbu2 : Below (wr.alloc (.cells #[.int .i64 id2, .int .i64 kn2, .int .u8 kd2, .string x2, .string y2, .int .i64 of2] 50)).heap.size (wr.alloc (.cells #[.int .i64 id2, .int .i64 kn2, .int .u8 kd2, .string x2, .string y2, .int .i64 of2] 50)) u2 := hb; obtain ⟨qa, qb, qc⟩ := HBY.out u2 hbu2; have s1 := qa.cell 1 rfl; have s2 := qa.cell 2 rfl; have s5 := qa.cell 5 rfl; have s0 := qb.cell 0 rfl; clear hb qa qb))
            go_roundw
            case rel => exact ⟨k + 1, by omega, by rw [HN.out], by go_num, qc⟩
            case measure => simp [intOf]; omega
        · obtain rfl : k = l.length := by omega
          rw [HIE.out]
          cases hvv : voidB l known id1
          · rw [hvv] at HVD
            have HS2 := Lib.hid (HPT.out (by rw [HVD.out]; simp [hkn, h6]))
            obtain ⟨_, q2, q3, q4⟩ := HBU.out wr hbv
            have hQ3 := Lib.hid q3
            have hQ2 := Lib.hid q2
            have f1 := q1.cell 1 rfl
            have f2 := q1.cell 2 rfl
            have f3 := q1.cell 3 rfl
            have f4 := q1.cell 4 rfl
            have f5 := q1.cell 5 rfl
            have hQS := q4.size
            have hq2l := q2.lt
            clear hvv hfr HSK HPT HVD HBU HI0 HIE h6 q2 q3 HF
            go_wp2_with (at_builtin; refine wpList_append1h (P := Tryz.prog) rfl (.tmp 78) (.tmp 80) 23 rfl (w.heap.size + 1) 50 zeroRul 6 64 Tryz.underlying23 info50 (by decide) (by decide) (.slice A1 fk.length c1) fk.length (rulesC fk) rfl (hQ3.out.alloc _) wr.heap.size #[.int .i64 id1, .int .i64 kn1, .int .u8 kd1, .string x1, .string y1, .int .i64 of1] 50 rfl (Bk.new _ _ _) rfl ?c1 ?c2 (by decide) ?c3 ?_)
            case c1 => exact ⟨rfl, rfl, rfl, rfl, rfl, rfl⟩
            case c2 => omega
            case c3 => first | omega | (simp; omega)
            intro v' w4 ho4 _ hb4
            replace ho4 : w4.ownsRow (w.heap.size + 1) 50 6 v' (fk.length + 1) (rulesC (fk ++ [⟨id1, kn1, kd1, x1, y1, of1⟩])) := by rw [← HSN.out]; exact ho4
            obtain ⟨A4, c4, rfl, _, _⟩ := ownsSlice ho4
            have hll : (fk ++ [(⟨id1, kn1, kd1, x1, y1, of1⟩ : Rul)]).length = fk.length + 1 := by simp
            have hk4 := Lib.hid ((hQ2.out.alloc (.cells #[.int .i64 id1, .int .i64 kn1, .int .u8 kd1, .string x1, .string y1, .int .i64 of1] 50)).below hb4 (Nat.lt_succ_self _))
            have hbw4 : Below w.heap.size w w4 := (q4.alloc hQS _).trans (hb4.mono (by omega))
            have ho5 := Lib.hid ho4
            clear ho4 hb4 f1 f2 f3 f4 f5 e0 z0 q1
            go_wp2
            go_roundw
            case rel => exact ⟨i + 1, A4, c4, by omega, by rw [HS2.out, hll], by go_num, by rw [HS2.out, hll]; exact ho5, hk4, hbw4⟩
            case measure => simp [intOf]; omega
          · rw [hvv] at HVD
            have HS2 := Lib.hid (HSK.out (by rw [HVD.out]; simp))
            obtain ⟨_, q2, q3, q4⟩ := HBU.out wr hbv
            have hQ3 := Lib.hid q3
            have hQ2 := Lib.hid q2
            clear hvv hfr HSK HPT HVD HSN HBU HI0 HIE h6 q2 q3 q1
            go_wp2
            go_roundw
            case rel => exact ⟨i + 1, A1, c1, by omega, by rw [HS2.out], by go_num, by rw [HS2.out]; exact hQ3, hQ2, q4⟩
            case measure => simp [intOf]; omega
    · obtain rfl : i = l.length := by omega
      rw [HEN.out] at ho ⊢
      have hcap := ownsSlice ho.out
      have hLI := Lib.hid (ownsRow_lies ho.out)
      clear ho HEN HF HLW hk HV0 HVE
      go_wp2
      go_ret
      obtain ⟨A2, c2, e2, h1, h2⟩ := hcap
      cases e2
      exact ⟨A1, c1, rfl, hLI.out, ⟨h1, h2⟩, hbw⟩
end Go.Proofs.YtkfeagokmcakgaaGreatDoor

namespace Go.Proofs.YtkfeagokmcakgaaGreatDoor
open Go.RowKit

def aboB (r : Rul) (kind : Int) (g : List ByteArray) : Bool := decide (r.kind = kind) && decide (r.x ∈ g)
set_option maxHeartbeats 400000 in
set_option maxRecDepth 100000 in
theorem rabout_any (r : Rul) (kind : Int) (g : List ByteArray) (A : Option Addr) (c : Nat) (w : World) (hg : Lies w w.heap.size A (strsC g)) (hn : g.length ≤ 1001) :
    Calls Tryz.prog 96 #[r.agg, .int .u8 kind, .slice A g.length c] w (ShEnd (aboB r kind g) w) := by
  obtain ⟨id, kn, kd, x, y, of⟩ := r
  have hb0 : Below w.heap.size w (w.alloc (.cells #[.int .i64 id, .int .i64 kn, .int .u8 kd, .string x, .string y, .int .i64 of] 50)) := (Below.refl _ _).alloc (Nat.le_refl _) _
  have HH := Lib.hid (rhas_any g A c x (w.alloc (.cells #[.int .i64 id, .int .i64 kn, .int .u8 kd, .string x, .string y, .int .i64 of] 50)) (lies_on hg hb0) (by unfold maxLen; omega))
  have HD : Hid (aboB ⟨id, kn, kd, x, y, of⟩ kind g = (decide (kd = kind) && decide (x ∈ g))) := rfl
  have HB := Lib.hid hb0
  show Calls Tryz.prog 96 #[.agg #[.int .i64 id, .int .i64 kn, .int .u8 kd, .string x, .string y, .int .i64 of], .int .u8 kind, .slice A g.length c] w _
  generalize decide (x ∈ g) = B at *
  generalize aboB ⟨id, kn, kd, x, y, of⟩ kind g = R at *
  clear hg hb0
  by_cases hk : kd = kind
  · have hk1 : (kd == kind) = true := by rw [beq_iff_eq]; exact hk
    have HR : Hid (R = B) := by show _ = _; rw [HD.out, decide_eq_true hk]; rfl
    clear HD hk
    go_enter Tryz.func96, Tryz.ntmps96
    go_wp2_with (first | (go_at_call 77; refine HH.out.mono ?_; rintro e u ⟨rfl, hb⟩))
    go_ret
    exact sh_ret HR.out.symm (HB.out.trans (hb.mono HB.out.size))
  · have hk1 : (kd == kind) = false := by rw [beq_eq_false_iff_ne]; exact hk
    have HR : Hid (R = false) := by show _ = _; rw [HD.out, decide_eq_false hk]; rfl
    clear HD hk HH
    go_enter Tryz.func96, Tryz.ntmps96
    go_wp2
    go_ret
    exact sh_ret HR.out.symm HB.out
def fstB (l : List Rul) (kind : Int) (g : List ByteArray) : Bool := l.any fun r => aboB r kind g
theorem fstB_take {l : List Rul} {k : Nat} (hk : k < l.length) (kind : Int) (g : List ByteArray) : fstB (l.take (k + 1)) kind g = (fstB (l.take k) kind g || aboB l[k] kind g) := by
  unfold fstB
  rw [← List.take_append_getElem hk, List.any_append]; simp
theorem abt_any (l : List Rul) (x : ByteArray) (q : Rul → Bool) (kind : Int) (hk : kind = 1 ∨ kind = 2) (hq : ∀ r, ((decide (r.kind = 1) || decide (r.kind = 2)) && q r) = decide (r.kind = kind)) : (abtL l x).any q = fstB l kind (grps l x) := by
  unfold abtL fstB
  rw [List.any_filter]
  congr 1
  funext r
  unfold abtB aboB inG
  have := hq r
  rw [← this]
  cases (decide (r.kind = 1) || decide (r.kind = 2)) <;> cases q r <;> cases decide (r.x ∈ grps l x) <;> rfl
theorem stt_ref (l : List Rul) (x : ByteArray) : stt l x = (if fstB l 1 (grps l x) = true then 1 else 0) + (if fstB l 2 (grps l x) = true then 2 else 0) := by
  unfold stt sttA
  rw [abt_any l x (fun r => decide (r.kind = 1)) 1 (.inl rfl) (fun r => by by_cases h : r.kind = 1 <;> simp [h]),
    abt_any l x (fun r => !decide (r.kind = 1)) 2 (.inr rfl) (fun r => by by_cases h : r.kind = 1 <;> by_cases h2 : r.kind = 2 <;> simp [h, h2] <;> omega)]
/-- what about says of a rule, from a world on -/
structure AboK (W : World) (r : Rul) (kind : Int) (A : Option Addr) (n c : Nat) (b : Bool) : Prop where
  run : ∀ V, Below W.heap.size W V → Calls Tryz.prog 96 #[.agg #[.int .i64 r.id, .int .i64 r.known, .int .u8 r.kind, .string r.x, .string r.y, .int .i64 r.of], .int .u8 kind, .slice A n c] V (ShEnd b V)
theorem AboK.go {W V : World} {id kn kd kind of : Int} {x y : ByteArray} {A : Option Addr} {n c : Nat} {b : Bool} (h : AboK W ⟨id, kn, kd, x, y, of⟩ kind A n c b) (hb : Below W.heap.size W V) :
    Calls Tryz.prog 96 #[.agg #[.int .i64 id, .int .i64 kn, .int .u8 kd, .string x, .string y, .int .i64 of], .int .u8 kind, .slice A n c] V (ShEnd b V) := h.run V hb
set_option maxHeartbeats 1000000 in
set_option maxRecDepth 100000 in
theorem rstate_any (l : List Rul) (A : Option Addr) (c : Nat) (x : ByteArray) (w : World) (hl : Lies w w.heap.size A (rulesC l)) (hm : l.length ≤ 1000) :
    Calls Tryz.prog 92 #[.slice A l.length c, .string x] w (U8End (stt l x) w) := by
  have HG := Lib.hid (rgroups_any l A c x w hl hm)
  have HST := Lib.hid (stt_ref l x)
  have hgl := grps_len l x
  generalize grps l x = G at *
  generalize stt l x = R at *
  have HLW : Hid (∀ V, Below w.heap.size w V → Lies V V.heap.size A (rulesC l)) := fun V hV => lies_on hl hV
  have HT0 : Hid (fstB (l.take 0) 1 G = false ∧ fstB (l.take 0) 2 G = false) := ⟨rfl, rfl⟩
  have HTE : Hid (l.take l.length = l) := by show _ = _; exact List.take_length
  clear hl
  go_enter Tryz.func92, Tryz.ntmps92
  go_upto_region 5 with (first | (go_at_call 76; refine HG.out.mono ?_; rintro e w1 ⟨A1, c1, rfl, hl1, _, hb1⟩))
  have HL1 := Lib.hid hl1
  have hB1 : Below w1.heap.size w1 w1 := Below.refl _ _
  clear hl1 HG
  go_loopw [6, 7, 8] (fun p q y wr => ∃ k : Nat, k ≤ l.length ∧ p = .bool (fstB (l.take k) 1 G) ∧ q = .bool (fstB (l.take k) 2 G) ∧ y = .int .i64 k ∧ Below w1.heap.size w1 wr) (fun _ _ y _ => l.length - (intOf y).toNat)
  case atStart => exact ⟨0, by omega, by rw [HT0.out.1], by rw [HT0.out.2], rfl, hB1⟩
  case round =>
    obtain ⟨k, hk, rfl, rfl, rfl, hbw⟩ := hrel
    clear HT0 hB1
    by_cases hlt : k < l.length
    · obtain ⟨ad, rfl, _, d0, d1, d2, d3, d4, d5⟩ := rule_at (HLW.out wr (hb1.trans (hbw.mono hb1.size))) hlt
      have HD : Hid (∀ V, Below w1.heap.size w1 V → V.cell? (ad.add (k * 6)) = some (.int .i64 l[k].id) ∧ V.cell? ⟨(ad.add (k * 6)).block, (ad.add (k * 6)).off + 1, none⟩ = some (.int .i64 l[k].known) ∧ V.cell? ⟨(ad.add (k * 6)).block, (ad.add (k * 6)).off + 2, none⟩ = some (.int .u8 l[k].kind) ∧ V.cell? ⟨(ad.add (k * 6)).block, (ad.add (k * 6)).off + 3, none⟩ = some (.string l[k].x) ∧ V.cell? ⟨(ad.add (k * 6)).block, (ad.add (k * 6)).off + 4, none⟩ = some (.string l[k].y) ∧ V.cell? ⟨(ad.add (k * 6)).block, (ad.add (k * 6)).off + 5, none⟩ = some (.int .i64 l[k].of)) := fun V hV => by
        obtain ⟨ad2, e2, _, e0, e1, e3, e4, e5, e6⟩ := rule_at (HLW.out V (hb1.trans (hV.mono hb1.size))) hlt
        cases e2
        exact ⟨e0, e1, e3, e4, e5, e6⟩
      have k1 : AboK w1 l[k] 1 A1 G.length c1 (aboB l[k] 1 G) := ⟨fun V hV => rabout_any l[k] 1 G A1 c1 V (lies_on HL1.out hV) (by omega)⟩
      have k2 : AboK w1 l[k] 2 A1 G.length c1 (aboB l[k] 2 G) := ⟨fun V hV => rabout_any l[k] 2 G A1 c1 V (lies_on HL1.out hV) (by omega)⟩
      have H1 := Lib.hid (fstB_take hlt 1 G)
      have H2 := Lib.hid (fstB_take hlt 2 G)
      generalize aboB l[k] 1 G = a1 at *
      generalize aboB l[k] 2 G = a2 at *
      generalize fstB (l.take k) 1 G = p at *
      generalize fstB (l.take k) 2 G = q at *
      generalize l[k] = r at *
      obtain ⟨id, kn, kd, rx, ry, of⟩ := r
      dsimp only at *
      have HP : Hid ((p || a1) = fstB (l.take (k + 1)) 1 G) := H1.out.symm
      have HQ : Hid ((q || a2) = fstB (l.take (k + 1)) 2 G) := H2.out.symm
      clear H1 H2 HTE
      cases p
      · cases q
        · go_wp2_with (first | (go_at_call 96; refine (AboK.go (by assumption) (by assumption)).mono ?_; rintro e u ⟨rfl, hb⟩; have hbu : Below w1.heap.size w1 u := Below.trans (by assumption) (hb.mono (Below.size (by assumption))); obtain ⟨s0, s1, s2, s3, s4, s5⟩ := HD.out u hbu; clear hb))
          go_roundw
          case rel => exact ⟨k + 1, by omega, by rw [← HP.out]; simp, by rw [← HQ.out]; simp, by go_num, hbu⟩
          case measure => simp [intOf]; omega
        · go_wp2_with (first | (go_at_call 96; refine (AboK.go (by assumption) (by assumption)).mono ?_; rintro e u ⟨rfl, hb⟩; have hbu : Below w1.heap.size w1 u := Below.trans (by assumption) (hb.mono (Below.size (by assumption))); obtain ⟨s0, s1, s2, s3, s4, s5⟩ := HD.out u hbu; clear hb))
          go_roundw
          case rel => exact ⟨k + 1, by omega, by rw [← HP.out]; simp, by rw [← HQ.out]; simp, by go_num, hbu⟩
          case measure => simp [intOf]; omega
      · cases q
        · go_wp2_with (first | (go_at_call 96; refine (AboK.go (by assumption) (by assumption)).mono ?_; rintro e u ⟨rfl, hb⟩; have hbu : Below w1.heap.size w1 u := Below.trans (by assumption) (hb.mono (Below.size (by assumption))); obtain ⟨s0, s1, s2, s3, s4, s5⟩ := HD.out u hbu; clear hb))
          go_roundw
          case rel => exact ⟨k + 1, by omega, by rw [← HP.out]; simp, by rw [← HQ.out]; simp, by go_num, hbu⟩
          case measure => simp [intOf]; omega
        · go_wp2_with (first | (go_at_call 96; refine (AboK.go (by assumption) (by assumption)).mono ?_; rintro e u ⟨rfl, hb⟩; have hbu : Below w1.heap.size w1 u := Below.trans (by assumption) (hb.mono (Below.size (by assumption))); obtain ⟨s0, s1, s2, s3, s4, s5⟩ := HD.out u hbu; clear hb))
          go_roundw
          case rel => exact ⟨k + 1, by omega, by rw [← HP.out]; simp, by rw [← HQ.out]; simp, by go_num, hbu⟩
          case measure => simp [intOf]; omega
    · obtain rfl : k = l.length := by omega
      rw [HTE.out]
      have HB : Hid (Below w.heap.size w wr) := hb1.trans (hbw.mono hb1.size)
      clear HL1 HLW
      cases hp : fstB l 1 G <;> cases hq : fstB l 2 G
      all_goals (rw [hp, hq] at HST; clear hp hq; go_wp2; go_ret; exact ⟨by rw [HST.out]; rfl, HB.out⟩)
set_option maxHeartbeats 1000000 in
theorem rState_any (l : List Rul) (A : Option Addr) (c : Nat) (known : Int) (x : ByteArray) (w : World) (hl : Lies w w.heap.size A (rulesC l)) (hok : RulOK l) (hm : l.length ≤ 1000) :
    Calls Tryz.prog 43 #[.agg #[.slice A l.length c], .int .i64 known, .string x] w (U8End (stt (cntL l known) x) w) := by
  have HC : Hid (∀ W, Below w.heap.size w W → Calls Tryz.prog 39 #[.agg #[.slice A l.length c], .int .i64 known] W (SlE (cntL l known) W)) := fun W hb => rcounting_any l A c known W ((hl.below hb (Nat.le_refl _)).more hb.size) hok hm
  have HS := Lib.hid (fun A' c' W hL => rstate_any (cntL l known) A' c' x W hL (Nat.le_trans (cnt_len l known) hm))
  clear hl hok
  go_enter Tryz.func43, Tryz.ntmps43
  go_wp2_with (first | (go_at_call 39; refine (HC.out _ (by repeat (first | with_reducible exact Below.refl _ _ | with_reducible assumption | with_reducible refine Below.drew ?_ | with_reducible refine below_drewN ?_ _ | (with_reducible refine Below.alloc ?_ ?_ _; rotate_left; (try simp) <;> omega) | (with_reducible refine Below.setCell ?_ ?_ _; rotate_left; (try simp) <;> omega)))).mono ?_; rintro e w1 ⟨A1, c1, rfl, hl1, _, hb1⟩; have hB1 : Below w.heap.size w w1 := Below.trans (by repeat (first | with_reducible exact Below.refl _ _ | with_reducible assumption | with_reducible refine Below.drew ?_ | with_reducible refine below_drewN ?_ _ | (with_reducible refine Below.alloc ?_ ?_ _; rotate_left; (try simp) <;> omega) | (with_reducible refine Below.setCell ?_ ?_ _; rotate_left; (try simp) <;> omega))) (hb1.mono (by simp))) | (go_at_call 92; refine (HS.out _ _ _ hl1).mono ?_; rintro e w2 ⟨rfl, hb2⟩))
  go_ret
  exact ⟨rfl, hB1.trans (hb2.mono hB1.size)⟩
end Go.Proofs.YtkfeagokmcakgaaGreatDoor
