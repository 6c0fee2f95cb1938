/- giornataref07.CheckBounds. -/
import Derived.Test.YtjgnikmnadmheaaG15

namespace Go.Proofs.Ytjgnikmnadmheaa
open Go.RowKit

theorem made_ints (n : Nat) : madeCells (Value.int .i64 0).cells n = (ints (List.replicate n 0)).toArray := by
  apply Array.ext
  · simp [madeCells, ints]
  · intro i h1 h2
    simp [madeCells, ints, Value.cells, Nat.mod_one]
theorem make_ints (n : Nat) (hn : n ≤ 1000) (w : World) : (Instr.makeSlice 25 (.int .i64 (n : Int)) (.int .i64 (n : Int))).run Try.prog w = .ok (.slice (some ⟨w.heap.size, 0, none⟩) n n) (w.alloc (.cells (ints (List.replicate n 0)).toArray 3)) := by
  obtain ⟨i0, hi0, hz0, hz1, hz2⟩ := info_parts info3
  have := run_make (P := Try.prog) w 25 3 i0 (.int .i64 0) Try.underlying25 hi0 hz0 .i64 .i64 n n (by omega) (by omega) (by rw [hz2]; omega) (by omega)
  rw [Int.toNat_natCast, hz1, Nat.mul_one, made_ints] at this
  exact this
/-- a row of numbers, a whole block -/
theorem bk_int {w : World} {g : Nat} {L : List Int} (h : Bk w g 3 (ints L).toArray) {k : Nat} (hk : k < L.length) : w.cell? ⟨g, k, none⟩ = some (.int .i64 L[k]) := by
  exact h.cell k (by simp [ints, List.getElem?_eq_getElem hk])
theorem bk_set {w : World} {g : Nat} {L : List Int} (h : Bk w g 3 (ints L).toArray) (k : Nat) (x : Int) : Bk (w.setCell ⟨g, k, none⟩ (.int .i64 x)) g 3 (ints (L.set k x)).toArray := by
  have := h.set k (.int .i64 x)
  have e : (ints L).toArray.setIfInBounds k (.int .i64 x) = (ints (L.set k x)).toArray := by simp [ints, List.map_set]
  rw [← e]; exact this
/-- the reference's row of bounds after k rounds -/
def mbL (f : Int) (bs : List Int) (n k : Nat) : List Int := (bs.take k).map (fun b => min b (f + 400)) ++ List.replicate (n - k) 0
theorem mbL_len {f : Int} {bs : List Int} {k : Nat} (hk : k ≤ bs.length) : (mbL f bs bs.length k).length = bs.length := by unfold mbL; simp; omega
theorem mbL_zero (f : Int) (bs : List Int) (n : Nat) : mbL f bs n 0 = List.replicate n 0 := by unfold mbL; simp
theorem mbL_at {f : Int} {bs : List Int} {k j : Nat} (hj : j < k) (hk : k ≤ bs.length) : (mbL f bs bs.length k)[j]? = some (min (bs[j]'(by omega)) (f + 400)) := by
  unfold mbL
  rw [List.getElem?_append_left (by simp; omega)]
  simp [hj, List.getElem?_eq_getElem (show j < bs.length by omega)]
theorem mbL_cell {w : World} {g : Nat} {f : Int} {bs : List Int} {k j : Nat} (h : Bk w g 3 (ints (mbL f bs bs.length k)).toArray) (hj : j < k) (hk : k ≤ bs.length) : w.cell? ⟨g, j, none⟩ = some (.int .i64 (min (bs[j]'(by omega)) (f + 400))) := by
  refine h.cell j ?_
  have := mbL_at (f := f) hj hk
  simp [ints, this]
theorem mbL_set {f : Int} {bs : List Int} {k : Nat} (hk : k < bs.length) : (mbL f bs bs.length k).set k (min bs[k] (f + 400)) = mbL f bs bs.length (k + 1) := by
  unfold mbL
  obtain ⟨m, hm⟩ : ∃ m, bs.length - k = m + 1 := ⟨bs.length - k - 1, by omega⟩
  rw [hm, show bs.length - (k + 1) = m by omega, List.take_succ_eq_append_getElem hk, List.map_append, List.set_append_right _ _ (by simp; omega), List.append_assoc]
  congr 1
  simp [Nat.min_eq_left (Nat.le_of_lt hk), List.replicate_succ]

set_option maxRecDepth 100000 in
set_option maxHeartbeats 1000000 in
theorem rcheckBounds_any (C : Array Value) (Y : Yd) (l : List Tk) (A : Option Addr) (c : Nat) (f : Int) (bs : List Int) (D : Option Addr) (cd : Nat) (w : World) (hY : YardAt w w.heap.size C Y) (hs : Small Y) (hT : TasksAt w w.heap.size A l) (ht : tame l)
    (hP : Lies w w.heap.size D (ints bs)) (hn : bs.length ≤ 1000) (hbi : ∀ x ∈ bs, i64v x) :
    Calls Try.prog 44 #[.agg C, .slice A l.length c, .int .i64 f, .slice D bs.length cd] w (TwoEnd (decide (begE Y l f = 0) && bndsOK Y l f bs) (begE Y l f) w) := by
  have HCO := Lib.hid (fun W (hb : Below w.heap.size w W) => rcommon_any C Y l A c W ((hY.below hb (Nat.le_refl _)).more hb.size) hs ((hT.below hb (Nat.le_refl _)).more hb.size) ht)
  have HYW := Lib.hid (fun W (hb : Below w.heap.size w W) => (hY.below hb (Nat.le_refl _)).more hb.size)
  have HTW := Lib.hid (fun W (hb : Below w.heap.size w W) => (hT.below hb (Nat.le_refl _)).more hb.size)
  have HPW := Lib.hid (fun W (hb : Below w.heap.size w W) => hP.below hb (Nat.le_refl _))
  have HLOAD := load_any hY
  have HC28 := Lib.hid hY.len
  have HTM := Lib.hid ht
  have HBI := Lib.hid hbi
  have HSM := Lib.hid hs
  have b3 : Bk (w.alloc (.cells C 29)) w.heap.size 29 C := Bk.new _ _ _
  have hb0 : Below w.heap.size w (w.alloc (.cells C 29)) := by exact (by repeat (first | with_reducible exact Below.refl _ _ | with_reducible assumption | with_reducible refine Below.drew ?_ | with_reducible refine below_drewN ?_ _ | (with_reducible refine Below.alloc ?_ ?_ _; rotate_left; (try simp) <;> omega) | (with_reducible refine Below.setCell ?_ ?_ _; rotate_left; (try simp) <;> omega)))
  have HR0 := Lib.hid b3.range
  have HBE : Hid (begE Y l f = if comE Y l = 0 then (if inB f 0 100000 = true then 0 else 1) else comE Y l) := rfl
  have e27 := hY.dry
  clear hY hT ht hs hP hbi
  by_cases hc : comE Y l = 0
  · rw [hc] at HCO
    cases hd : inB f 0 100000 with
    | true =>
      have hb : begE Y l f = 0 := by rw [HBE.out, if_pos hc, hd]; rfl
      obtain ⟨ho, hvt, hf⟩ := begE_ok hb
      rw [hb]
      have hbt : decide ((0 : Int) = 0) = true := rfl
      rw [hbt, Bool.true_and]
      have HVT := Lib.hid hvt
      have HO := Lib.hid ho
      have HD := Lib.hid hd
      have hl12 := hvt.n
      clear hb hvt hbt ho hd hc HBE
      by_cases hlen : bs.length = l.length
      · have HPY := Lib.hid (bndsOK_yes (Y := Y) (f := f) hlen)
        have HPN := Lib.hid (fun i (hi : i < l.length) (h : bndOK Y l f bs i = false) => bndsOK_no (bs := bs) hi h)
        have hne : ((bs.length : Int) != (l.length : Int)) = false := by rw [hlen]; simp
        have hne2 : (bs.length != l.length) = false := by rw [hlen]; simp
        have HAT := Lib.hid (fun i (hi : i < l.length) (hi2 : i < bs.length) => bndOK_at (Y := Y) (f := f) hi hi2)
        have hltn : bs.length ≤ l.length := by omega
        have hltn2 : l.length ≤ bs.length := by omega
        have hmk := fun W => make_ints bs.length hn W
        clear hlen
        generalize bndsOK Y l f bs = R at *
        go_enter Try.func44, Try.ntmps44
        go_wp2_with (first | (refine wpList_load_guard (P := Try.prog) (by rfl) 29 (.tmp 4) rfl w.heap.size 0 rfl C.toList _ HR0.out Try.underlying29 rfl (by rw [HC28.out]; exact info29) ?_) | (go_at_call 89; refine (HCO.out _ hb0).mono ?_; rintro e w1 ⟨rfl, hb1⟩; have hB1 : Below w.heap.size w w1 := hb0.trans (hb1.mono hb0.size); have kL : Bk w1 w.heap.size 29 C := b3.below hb1 b3.lt; clear hb1) | (go_at_call 81; refine (isDay_any _ _).mono ?_; rintro e w' ⟨rfl, rfl⟩; rw [HD.out]))
        have hz1 := hB1.size
        have km : Bk (w1.alloc (.cells (ints (List.replicate bs.length 0)).toArray 3)) w1.heap.size 3 (ints (List.replicate bs.length 0)).toArray := Bk.new _ _ _
        rw [← mbL_zero f bs bs.length] at km
        have hb2 : Below w.heap.size w (w1.alloc (.cells (ints (List.replicate bs.length 0)).toArray 3)) := by exact (by repeat (first | with_reducible exact Below.refl _ _ | with_reducible assumption | with_reducible refine Below.drew ?_ | with_reducible refine below_drewN ?_ _ | (with_reducible refine Below.alloc ?_ ?_ _; rotate_left; (try simp) <;> omega) | (with_reducible refine Below.setCell ?_ ?_ _; rotate_left; (try simp) <;> omega)))
        have k3 : Bk (w1.alloc (.cells (ints (List.replicate bs.length 0)).toArray 3)) w.heap.size 29 C := kL.alloc _
        have hl3 := kL.lt
        go_loopw [12] (fun y wr => ∃ k : Nat, k ≤ bs.length ∧ y = .int .i64 k ∧ Bk wr w1.heap.size 3 (ints (mbL f bs bs.length k)).toArray ∧ Hid (∀ j, j < k → bndOK Y l f bs j = true) ∧ Below w.heap.size w wr ∧ Bk wr w.heap.size 29 C) (fun y _ => bs.length - (intOf y).toNat)
        case atStart => exact ⟨0, by omega, rfl, km, fun j hj => absurd hj (by omega), hb2, k3⟩
        case round =>
        clear km hb2 k3 kL
        obtain ⟨k, hk, rfl, hbm, HG, hbw, hbk⟩ := hrel
        have hlm := hbm.lt
        by_cases hlt : k < bs.length
        · obtain ⟨a1, rfl, ha1, t0⟩ := int_at (HPW.out wr hbw) hlt
          have hkl : k < l.length := by omega
          have hc0 := bk_int hbm (k := k) (by rw [mbL_len hk]; exact hlt)
          have hf0 := hbm.fro k
          have HMS := Lib.hid (mbL_set (f := f) hlt)
          have hi64 := HBI.out _ (List.getElem_mem hlt)
          have hkI : (k : Int) < (bs.length : Int) := by omega
          have hk0 : 0 ≤ (k : Int) := by omega
          have hDB0 : ∀ x ∈ (bs.take k).map (capB f), -1000 ≤ x ∧ x ≤ 200000 := fun x hx => by
            obtain ⟨y, _, rfl⟩ := List.mem_map.1 hx
            have := capB_bd hf y
            omega
          have HDB := Lib.hid hDB0; clear hDB0
          have hlb0 := lowB_bd hf HDB.out
          have hbm2 := bk_set hbm k (min bs[k] (f + 400))
          rw [HMS.out] at hbm2
          have hbk2 := hbk.far (p := ⟨w1.heap.size, k, none⟩) (by simp; omega) (.int .i64 (min bs[k] (f + 400)))
          have hbw2 := hbw.setCell (p := ⟨w1.heap.size, k, none⟩) (by simp; omega) (.int .i64 (min bs[k] (f + 400)))
          obtain ⟨at_, rfl, hatb, _, _, c2, _⟩ := task_at (HTW.out wr hbw).at_ hkl
          obtain ⟨bt_, e_, _, d0', d1', d2', d3'⟩ := task_at (HTW.out _ hbw2).at_ hkl
          obtain rfl : at_ = bt_ := Option.some.inj e_
          clear e_
          have HTA := Lib.hid ((HTW.out _ hbw2).af l[k] (List.getElem_mem hkl))
          have HAF := Lib.hid (HVT.out.af k hkl)
          have han := (HTM.out.2 l[k] (List.getElem_mem hkl)).1
          have hdry := (okY_valid HO.out).dry
          have HRS : Hid (∀ W : World, Below w.heap.size w W → ∀ d : Int, Calls Try.prog 93 #[.agg C, .slice (some at_) l.length c, .int .i64 k, .int .i64 d] W (ShEnd (suitB Y l[k] k d) W)) := fun W hb d => by
            rw [← rsuitB_ok HO.out]; exact rsuits_any C Y l (some at_) c k d W (HYW.out W hb) HSM.out (HTW.out W hb) HTM.out.1 hkl
          have HBD := Lib.hid (fun (j : Nat) (hj : j ≤ l[k].af.length) => lowK_bd (af := l[k].af) hf hdry HDB.out j hj)
          have HS : Hid (lowS Y.dry f l[k].af ((bs.take k).map (capB f)) = lowK Y.dry f l[k].af ((bs.take k).map (capB f)) l[k].af.length) := rfl
          have HZ := Lib.hid (lowK_zero Y.dry f l[k].af ((bs.take k).map (capB f)))
          have hdsl : ((bs.take k).map (capB f)).length = k := by simp; omega
          have HGD : Hid (∀ j (h : j < k), ((bs.take k).map (capB f)).getD j 0 = max (min (bs[j]'(Nat.lt_of_lt_of_le h hk)) (f + 400)) (-401)) := fun j h => by
            rw [List.getD_eq_getElem?_getD, List.getElem?_eq_getElem (by omega)]
            simp [capB]
          have HLB0 : Hid (k = 0 → lowB f ((bs.take k).map (capB f)) = f) := fun h => by unfold lowB; rw [if_pos (by omega)]
          have HLB1 : Hid (∀ h : 0 < k, lowB f ((bs.take k).map (capB f)) = max f (max (min (bs[k - 1]'(Nat.lt_of_le_of_lt (Nat.sub_le _ _) hlt)) (f + 400)) (-401) + 1)) := fun h => by
            unfold lowB; rw [if_neg (by omega), hdsl, HGD.out (k - 1) (by omega)]
          have HK : Hid (∀ (j : Nat) (hj : j < l[k].af.length) (h : l[k].af[j].toNat < k), lowK Y.dry f l[k].af ((bs.take k).map (capB f)) (j + 1) = max (lowK Y.dry f l[k].af ((bs.take k).map (capB f)) j) (max (min (bs[l[k].af[j].toNat]'(Nat.lt_of_lt_of_le h hk)) (f + 400)) (-401) + Y.dry + 1)) := fun j hj h => by
            rw [lowK_succ hj, HGD.out _ h]
          have HATk := Lib.hid (HAT.out k hkl hlt)
          rw [HS.out] at HATk
          clear HS HGD hlb0 HDB
          generalize lowK Y.dry f l[k].af ((bs.take k).map (capB f)) = LK at *
          generalize lowB f ((bs.take k).map (capB f)) = LB at *
          have HCB := Lib.hid (fun (j : Nat) (hj : j < k) => mbL_cell hbm2 (f := f) (bs := bs) (show j < k + 1 by omega) (by omega))
          generalize hdq : Y.dry = dry at *
          have HSY := Lib.hid (fun (d : Int) (j : Nat) => @suitK_yes Y l[k] k d j)
          have HSN := Lib.hid (fun (d : Int) (j : Nat) => @suitK_no Y l[k] k d j)
          have HSP := Lib.hid (fun (d : Int) (j m : Nat) (h : j ≤ m) => suitK_pre Y l[k] k d j m h)
          have HS0 : Hid (∀ d : Int, suitK Y l[k] k d 0 = []) := fun d => rfl
          generalize suitB Y l[k] k = SB at *
          generalize suitK Y l[k] k = SK at *
          generalize l[k] = t at *
          obtain ⟨wk, nd, aA, ac, af, cA, cc, co⟩ := t
          dsimp only at *
          go_upto_region 14 with fail
          generalize wr.setCell ⟨w1.heap.size, k, none⟩ (.int .i64 (min bs[k] (f + 400))) = w3 at *
          clear hbm hbw hbk hc0 hf0 t0 c2
          generalize hmk2 : min bs[k] (f + 400) = m at *
          have HM2 := Lib.hid hmk2; clear hmk2
          by_cases hk1 : k = 0
          · have HV : Hid (f = LK 0) := by show _ = _; rw [HZ.out, HLB0.out hk1]
            have hk2 : ¬ 0 < k := by omega
            have HK1 := Lib.hid hk1; clear hk1
            go_upto_region 16 with fail
            clear hk2
            have y27 := hbk2.cell 27 e27
            go_wp2
            go_loop [13, 14, 15] (fun s y _ => ∃ (j : Nat) (v : Int), j ≤ af.length ∧ y = .int .i64 j ∧ s = .int .i64 v ∧ Hid (v = LK j)) (fun _ y _ => af.length - (intOf y).toNat)
            case atStart => exact ⟨0, _, by omega, rfl, rfl, HV⟩
            case round =>
            clear HV HZ
            obtain ⟨j, v, hj, rfl, rfl, HVJ⟩ := hrel
            have hbd := HBD.out j hj
            rw [← HVJ.out] at hbd
            obtain ⟨hv1, hv2⟩ := hbd
            obtain ⟨hdr1, hdr2⟩ := hdry
            obtain ⟨hf1, hf2⟩ := hf
            by_cases hjl : j < af.length
            · obtain ⟨a2, rfl, ha2, d0⟩ := int_at HTA.out hjl
              have haf := HAF.out af[j] (List.getElem_mem hjl)
              have HX := Lib.hid (HK.out j hjl (by omega))
              have hcx := HCB.out af[j].toNat (by omega)
              obtain ⟨jj, hjj⟩ : ∃ jj : Nat, af[j] = (jj : Int) := ⟨af[j].toNat, by omega⟩
              have hj2 : af[j].toNat = jj := by omega
              rw [hjj] at d0
              generalize hxq : min (bs[af[j].toNat]'(by omega)) (f + 400) = x at *
              have hxm : x ≤ f + 400 := by omega
              have hx64 : -9223372036854775808 ≤ x := by
                have := (HBI.out _ (List.getElem_mem (show af[j].toNat < bs.length by omega))).1
                omega
              rw [hj2] at hcx
              have hjk : jj < k := by omega
              have HJ1 := Lib.hid hjj
              clear hxq hjj hj2 haf
              have hjI : (jj : Int) < (bs.length : Int) := by omega
              have hj0 : 0 ≤ (jj : Int) := by omega
              have hjaI : (j : Int) < (af.length : Int) := by omega
              have hja0 : 0 ≤ (j : Int) := by omega
              by_cases hge : f - dry ≤ x
              · have HVN : Hid (max v (x + dry + 1) = LK (j + 1)) := by
                  show _ = _
                  rw [HX.out, HVJ.out, show max x (-401) = x by omega]
                clear HX HVJ
                go_wp2
                go_round
                case rel => exact ⟨j + 1, max v (x + dry + 1), by omega, by go_num, rfl, HVN⟩
                case measure => simp [intOf]; omega
              · have HVN : Hid (v = LK (j + 1)) := by
                  show _ = _
                  rw [HX.out, ← HVJ.out]
                  omega
                clear HX HVJ
                go_wp2
                go_round
                case rel => exact ⟨j + 1, v, by omega, by go_num, rfl, HVN⟩
                case measure => simp [intOf]; omega
            · obtain rfl : j = af.length := by omega
              clear hjl HK HBD HAF HTA
              rw [← HVJ.out] at HATk
              go_wp2
              go_loopw [13] (fun y wr => ∃ kk : Nat, (v + (kk : Int) ≤ m ∨ kk = 0) ∧ y = .int .i64 (v + (kk : Int)) ∧ Hid (SK v kk = []) ∧ Below w.heap.size w wr ∧ Bk wr w.heap.size 29 C ∧ Bk wr w1.heap.size 3 (ints (mbL f bs bs.length (k + 1))).toArray) (fun y _ => (m - intOf y).toNat)
              case atStart => exact ⟨0, .inr rfl, by simp, HS0.out v, hbw2, hbk2, hbm2⟩
              case round =>
              clear hbw2 hbk2 d0' d1' d2' d3' HCB
              obtain ⟨kk, hkk, rfl, HV0, hbw, hbk, hbm⟩ := hrel
              have hbs := hbw.size
              have hlk := hbk.lt
              have hlm2 := hbm.lt
              have hmle : m ≤ f + 400 := by have := HM2.out; omega
              have hm64 : -9223372036854775808 ≤ m := by have := HM2.out; have := hi64.1; omega
              have hck := mbL_cell hbm (f := f) (bs := bs) (show k < k + 1 by omega) (by omega)
              rw [HM2.out] at hck
              by_cases hlw : v + (kk : Int) < m
              · have hcall := HRS.out wr hbw (v + (kk : Int))
                cases hq : SB (v + (kk : Int)) with
                | true =>
                  have HE : Hid (R = false) := by
                    show _ = _
                    refine HPN.out k hkl ?_
                    rw [HATk.out]
                    have h1 := HSY.out v kk hq
                    rw [HV0.out, List.nil_append] at h1
                    obtain ⟨r, h2⟩ := HSP.out v (kk + 1) (m - v).toNat (by omega)
                    rw [h1] at h2
                    rw [← h2]; rfl
                  rw [hq] at hcall
                  have HCA := Lib.hid hcall
                  clear hq hcall
                  go_wp2_with (first | (refine wpList_load_guard (P := Try.prog) (by rfl) 29 (.tmp 4) rfl w.heap.size 0 rfl C.toList _ (HLOAD.out _ _ hbk) Try.underlying29 rfl (by rw [HC28.out]; exact info29) ?_) | (go_at_call 93; refine HCA.out.mono ?_; rintro e w5 ⟨rfl, hb5⟩))
                  go_ret2
                  rw [HE.out]
                  exact ⟨rfl, hbw.trans (hb5.mono hbs)⟩
                | false =>
                  have HE : Hid (SK v (kk + 1) = []) := by show _ = _; rw [HSN.out v kk hq, HV0.out]
                  rw [hq] at hcall
                  have HCA := Lib.hid hcall
                  clear hq hcall
                  go_wp2_with (first | (refine wpList_load_guard (P := Try.prog) (by rfl) 29 (.tmp 4) rfl w.heap.size 0 rfl C.toList _ (HLOAD.out _ _ hbk) Try.underlying29 rfl (by rw [HC28.out]; exact info29) ?_) | (go_at_call 93; refine HCA.out.mono ?_; rintro e w5 ⟨rfl, hb5⟩))
                  go_roundw
                  case rel => exact ⟨kk + 1, .inl (by omega), by go_num, HE, hbw.trans (hb5.mono hbs), hbk.below hb5 hlk, hbm.below hb5 hlm2⟩
                  case measure => simp [intOf]; omega
              · have HE : Hid (bndOK Y l f bs k = true) := by
                  show _ = _
                  have : SK v (m - v).toNat = [] := by
                    have e : (m - v).toNat = kk := by omega
                    rw [e]; exact HV0.out
                  rw [HATk.out, this]; rfl
                go_wp2
                go_roundw
                case rel => exact ⟨k + 1, by omega, by go_num, hbm, fun i hi => by
                  by_cases hik : i = k
                  · subst hik; exact HE.out
                  · exact HG.out i (by omega), hbw, hbk⟩
                case measure => simp [intOf]; omega
          · have hk2 : 0 < k := by omega
            have hcp := HCB.out (k - 1) (by omega)
            have HLBk := Lib.hid (HLB1.out hk2)
            have hp64 := (HBI.out _ (List.getElem_mem (show k - 1 < bs.length by omega))).1
            generalize hmpq : min (bs[k - 1]'(Nat.lt_of_le_of_lt (Nat.sub_le _ _) hlt)) (f + 400) = mp at *
            have hmp1 : mp ≤ f + 400 := by omega
            have hmp2 : -9223372036854775808 ≤ mp := by omega
            have hkm : ((k : Int) - 1).toNat = k - 1 := by omega
            have hkp : 0 ≤ (k : Int) - 1 := by omega
            have hkq : (k : Int) - 1 < (bs.length : Int) := by omega
            clear hk1 hmpq hp64
            by_cases hmf : f ≤ mp
            · have HV : Hid (max f (mp + 1) = LK 0) := by
                show _ = _
                rw [HZ.out, HLBk.out]
                omega
              go_upto_region 16 with fail
              clear hk2
              have y27 := hbk2.cell 27 e27
              go_wp2
              go_loop [13, 14, 15] (fun s y _ => ∃ (j : Nat) (v : Int), j ≤ af.length ∧ y = .int .i64 j ∧ s = .int .i64 v ∧ Hid (v = LK j)) (fun _ y _ => af.length - (intOf y).toNat)
              case atStart => exact ⟨0, _, by omega, rfl, rfl, HV⟩
              case round =>
              clear HV HZ
              obtain ⟨j, v, hj, rfl, rfl, HVJ⟩ := hrel
              have hbd := HBD.out j hj
              rw [← HVJ.out] at hbd
              obtain ⟨hv1, hv2⟩ := hbd
              obtain ⟨hdr1, hdr2⟩ := hdry
              obtain ⟨hf1, hf2⟩ := hf
              by_cases hjl : j < af.length
              · obtain ⟨a2, rfl, ha2, d0⟩ := int_at HTA.out hjl
                have haf := HAF.out af[j] (List.getElem_mem hjl)
                have HX := Lib.hid (HK.out j hjl (by omega))
                have hcx := HCB.out af[j].toNat (by omega)
                obtain ⟨jj, hjj⟩ : ∃ jj : Nat, af[j] = (jj : Int) := ⟨af[j].toNat, by omega⟩
                have hj2 : af[j].toNat = jj := by omega
                rw [hjj] at d0
                generalize hxq : min (bs[af[j].toNat]'(by omega)) (f + 400) = x at *
                have hxm : x ≤ f + 400 := by omega
                have hx64 : -9223372036854775808 ≤ x := by
                  have := (HBI.out _ (List.getElem_mem (show af[j].toNat < bs.length by omega))).1
                  omega
                rw [hj2] at hcx
                have hjk : jj < k := by omega
                have HJ1 := Lib.hid hjj
                clear hxq hjj hj2 haf
                have hjI : (jj : Int) < (bs.length : Int) := by omega
                have hj0 : 0 ≤ (jj : Int) := by omega
                have hjaI : (j : Int) < (af.length : Int) := by omega
                have hja0 : 0 ≤ (j : Int) := by omega
                by_cases hge : f - dry ≤ x
                · have HVN : Hid (max v (x + dry + 1) = LK (j + 1)) := by
                    show _ = _
                    rw [HX.out, HVJ.out, show max x (-401) = x by omega]
                  clear HX HVJ
                  go_wp2
                  go_round
                  case rel => exact ⟨j + 1, max v (x + dry + 1), by omega, by go_num, rfl, HVN⟩
                  case measure => simp [intOf]; omega
                · have HVN : Hid (v = LK (j + 1)) := by
                    show _ = _
                    rw [HX.out, ← HVJ.out]
                    omega
                  clear HX HVJ
                  go_wp2
                  go_round
                  case rel => exact ⟨j + 1, v, by omega, by go_num, rfl, HVN⟩
                  case measure => simp [intOf]; omega
              · obtain rfl : j = af.length := by omega
                clear hjl HK HBD HAF HTA
                rw [← HVJ.out] at HATk
                go_wp2
                go_loopw [13] (fun y wr => ∃ kk : Nat, (v + (kk : Int) ≤ m ∨ kk = 0) ∧ y = .int .i64 (v + (kk : Int)) ∧ Hid (SK v kk = []) ∧ Below w.heap.size w wr ∧ Bk wr w.heap.size 29 C ∧ Bk wr w1.heap.size 3 (ints (mbL f bs bs.length (k + 1))).toArray) (fun y _ => (m - intOf y).toNat)
                case atStart => exact ⟨0, .inr rfl, by simp, HS0.out v, hbw2, hbk2, hbm2⟩
                case round =>
                clear hbw2 hbk2 d0' d1' d2' d3' HCB
                obtain ⟨kk, hkk, rfl, HV0, hbw, hbk, hbm⟩ := hrel
                have hbs := hbw.size
                have hlk := hbk.lt
                have hlm2 := hbm.lt
                have hmle : m ≤ f + 400 := by have := HM2.out; omega
                have hm64 : -9223372036854775808 ≤ m := by have := HM2.out; have := hi64.1; omega
                have hck := mbL_cell hbm (f := f) (bs := bs) (show k < k + 1 by omega) (by omega)
                rw [HM2.out] at hck
                by_cases hlw : v + (kk : Int) < m
                · have hcall := HRS.out wr hbw (v + (kk : Int))
                  cases hq : SB (v + (kk : Int)) with
                  | true =>
                    have HE : Hid (R = false) := by
                      show _ = _
                      refine HPN.out k hkl ?_
                      rw [HATk.out]
                      have h1 := HSY.out v kk hq
                      rw [HV0.out, List.nil_append] at h1
                      obtain ⟨r, h2⟩ := HSP.out v (kk + 1) (m - v).toNat (by omega)
                      rw [h1] at h2
                      rw [← h2]; rfl
                    rw [hq] at hcall
                    have HCA := Lib.hid hcall
                    clear hq hcall
                    go_wp2_with (first | (refine wpList_load_guard (P := Try.prog) (by rfl) 29 (.tmp 4) rfl w.heap.size 0 rfl C.toList _ (HLOAD.out _ _ hbk) Try.underlying29 rfl (by rw [HC28.out]; exact info29) ?_) | (go_at_call 93; refine HCA.out.mono ?_; rintro e w5 ⟨rfl, hb5⟩))
                    go_ret2
                    rw [HE.out]
                    exact ⟨rfl, hbw.trans (hb5.mono hbs)⟩
                  | false =>
                    have HE : Hid (SK v (kk + 1) = []) := by show _ = _; rw [HSN.out v kk hq, HV0.out]
                    rw [hq] at hcall
                    have HCA := Lib.hid hcall
                    clear hq hcall
                    go_wp2_with (first | (refine wpList_load_guard (P := Try.prog) (by rfl) 29 (.tmp 4) rfl w.heap.size 0 rfl C.toList _ (HLOAD.out _ _ hbk) Try.underlying29 rfl (by rw [HC28.out]; exact info29) ?_) | (go_at_call 93; refine HCA.out.mono ?_; rintro e w5 ⟨rfl, hb5⟩))
                    go_roundw
                    case rel => exact ⟨kk + 1, .inl (by omega), by go_num, HE, hbw.trans (hb5.mono hbs), hbk.below hb5 hlk, hbm.below hb5 hlm2⟩
                    case measure => simp [intOf]; omega
                · have HE : Hid (bndOK Y l f bs k = true) := by
                    show _ = _
                    have : SK v (m - v).toNat = [] := by
                      have e : (m - v).toNat = kk := by omega
                      rw [e]; exact HV0.out
                    rw [HATk.out, this]; rfl
                  go_wp2
                  go_roundw
                  case rel => exact ⟨k + 1, by omega, by go_num, hbm, fun i hi => by
                    by_cases hik : i = k
                    · subst hik; exact HE.out
                    · exact HG.out i (by omega), hbw, hbk⟩
                  case measure => simp [intOf]; omega
            · have HV : Hid (f = LK 0) := by
                show _ = _
                rw [HZ.out, HLBk.out]
                omega
              go_upto_region 16 with fail
              clear hk2
              have y27 := hbk2.cell 27 e27
              go_wp2
              go_loop [13, 14, 15] (fun s y _ => ∃ (j : Nat) (v : Int), j ≤ af.length ∧ y = .int .i64 j ∧ s = .int .i64 v ∧ Hid (v = LK j)) (fun _ y _ => af.length - (intOf y).toNat)
              case atStart => exact ⟨0, _, by omega, rfl, rfl, HV⟩
              case round =>
              clear HV HZ
              obtain ⟨j, v, hj, rfl, rfl, HVJ⟩ := hrel
              have hbd := HBD.out j hj
              rw [← HVJ.out] at hbd
              obtain ⟨hv1, hv2⟩ := hbd
              obtain ⟨hdr1, hdr2⟩ := hdry
              obtain ⟨hf1, hf2⟩ := hf
              by_cases hjl : j < af.length
              · obtain ⟨a2, rfl, ha2, d0⟩ := int_at HTA.out hjl
                have haf := HAF.out af[j] (List.getElem_mem hjl)
                have HX := Lib.hid (HK.out j hjl (by omega))
                have hcx := HCB.out af[j].toNat (by omega)
                obtain ⟨jj, hjj⟩ : ∃ jj : Nat, af[j] = (jj : Int) := ⟨af[j].toNat, by omega⟩
                have hj2 : af[j].toNat = jj := by omega
                rw [hjj] at d0
                generalize hxq : min (bs[af[j].toNat]'(by omega)) (f + 400) = x at *
                have hxm : x ≤ f + 400 := by omega
                have hx64 : -9223372036854775808 ≤ x := by
                  have := (HBI.out _ (List.getElem_mem (show af[j].toNat < bs.length by omega))).1
                  omega
                rw [hj2] at hcx
                have hjk : jj < k := by omega
                have HJ1 := Lib.hid hjj
                clear hxq hjj hj2 haf
                have hjI : (jj : Int) < (bs.length : Int) := by omega
                have hj0 : 0 ≤ (jj : Int) := by omega
                have hjaI : (j : Int) < (af.length : Int) := by omega
                have hja0 : 0 ≤ (j : Int) := by omega
                by_cases hge : f - dry ≤ x
                · have HVN : Hid (max v (x + dry + 1) = LK (j + 1)) := by
                    show _ = _
                    rw [HX.out, HVJ.out, show max x (-401) = x by omega]
                  clear HX HVJ
                  go_wp2
                  go_round
                  case rel => exact ⟨j + 1, max v (x + dry + 1), by omega, by go_num, rfl, HVN⟩
                  case measure => simp [intOf]; omega
                · have HVN : Hid (v = LK (j + 1)) := by
                    show _ = _
                    rw [HX.out, ← HVJ.out]
                    omega
                  clear HX HVJ
                  go_wp2
                  go_round
                  case rel => exact ⟨j + 1, v, by omega, by go_num, rfl, HVN⟩
                  case measure => simp [intOf]; omega
              · obtain rfl : j = af.length := by omega
                clear hjl HK HBD HAF HTA
                rw [← HVJ.out] at HATk
                go_wp2
                go_loopw [13] (fun y wr => ∃ kk : Nat, (v + (kk : Int) ≤ m ∨ kk = 0) ∧ y = .int .i64 (v + (kk : Int)) ∧ Hid (SK v kk = []) ∧ Below w.heap.size w wr ∧ Bk wr w.heap.size 29 C ∧ Bk wr w1.heap.size 3 (ints (mbL f bs bs.length (k + 1))).toArray) (fun y _ => (m - intOf y).toNat)
                case atStart => exact ⟨0, .inr rfl, by simp, HS0.out v, hbw2, hbk2, hbm2⟩
                case round =>
                clear hbw2 hbk2 d0' d1' d2' d3' HCB
                obtain ⟨kk, hkk, rfl, HV0, hbw, hbk, hbm⟩ := hrel
                have hbs := hbw.size
                have hlk := hbk.lt
                have hlm2 := hbm.lt
                have hmle : m ≤ f + 400 := by have := HM2.out; omega
                have hm64 : -9223372036854775808 ≤ m := by have := HM2.out; have := hi64.1; omega
                have hck := mbL_cell hbm (f := f) (bs := bs) (show k < k + 1 by omega) (by omega)
                rw [HM2.out] at hck
                by_cases hlw : v + (kk : Int) < m
                · have hcall := HRS.out wr hbw (v + (kk : Int))
                  cases hq : SB (v + (kk : Int)) with
                  | true =>
                    have HE : Hid (R = false) := by
                      show _ = _
                      refine HPN.out k hkl ?_
                      rw [HATk.out]
                      have h1 := HSY.out v kk hq
                      rw [HV0.out, List.nil_append] at h1
                      obtain ⟨r, h2⟩ := HSP.out v (kk + 1) (m - v).toNat (by omega)
                      rw [h1] at h2
                      rw [← h2]; rfl
                    rw [hq] at hcall
                    have HCA := Lib.hid hcall
                    clear hq hcall
                    go_wp2_with (first | (refine wpList_load_guard (P := Try.prog) (by rfl) 29 (.tmp 4) rfl w.heap.size 0 rfl C.toList _ (HLOAD.out _ _ hbk) Try.underlying29 rfl (by rw [HC28.out]; exact info29) ?_) | (go_at_call 93; refine HCA.out.mono ?_; rintro e w5 ⟨rfl, hb5⟩))
                    go_ret2
                    rw [HE.out]
                    exact ⟨rfl, hbw.trans (hb5.mono hbs)⟩
                  | false =>
                    have HE : Hid (SK v (kk + 1) = []) := by show _ = _; rw [HSN.out v kk hq, HV0.out]
                    rw [hq] at hcall
                    have HCA := Lib.hid hcall
                    clear hq hcall
                    go_wp2_with (first | (refine wpList_load_guard (P := Try.prog) (by rfl) 29 (.tmp 4) rfl w.heap.size 0 rfl C.toList _ (HLOAD.out _ _ hbk) Try.underlying29 rfl (by rw [HC28.out]; exact info29) ?_) | (go_at_call 93; refine HCA.out.mono ?_; rintro e w5 ⟨rfl, hb5⟩))
                    go_roundw
                    case rel => exact ⟨kk + 1, .inl (by omega), by go_num, HE, hbw.trans (hb5.mono hbs), hbk.below hb5 hlk, hbm.below hb5 hlm2⟩
                    case measure => simp [intOf]; omega
                · have HE : Hid (bndOK Y l f bs k = true) := by
                    show _ = _
                    have : SK v (m - v).toNat = [] := by
                      have e : (m - v).toNat = kk := by omega
                      rw [e]; exact HV0.out
                    rw [HATk.out, this]; rfl
                  go_wp2
                  go_roundw
                  case rel => exact ⟨k + 1, by omega, by go_num, hbm, fun i hi => by
                    by_cases hik : i = k
                    · subst hik; exact HE.out
                    · exact HG.out i (by omega), hbw, hbk⟩
                  case measure => simp [intOf]; omega
        · obtain rfl : k = bs.length := by omega
          have HR : Hid (R = true) := HPY.out fun i hi => HG.out i (by omega)
          clear hlt
          go_wp2
          go_ret2
          rw [HR.out]
          exact ⟨rfl, hbw⟩
      · rw [bndsOK_len hlen]
        have hne : ((bs.length : Int) != (l.length : Int)) = true := by simp; omega
        have hne2 : (bs.length != l.length) = true := by simp; omega
        clear hlen
        go_enter Try.func44, Try.ntmps44
        go_wp2_with (first | (refine wpList_load_guard (P := Try.prog) (by rfl) 29 (.tmp 4) rfl w.heap.size 0 rfl C.toList _ HR0.out Try.underlying29 rfl (by rw [HC28.out]; exact info29) ?_) | (go_at_call 89; refine (HCO.out _ hb0).mono ?_; rintro e w1 ⟨rfl, hb1⟩; have hB1 : Below w.heap.size w w1 := hb0.trans (hb1.mono hb0.size); clear hb1) | (go_at_call 81; refine (isDay_any _ _).mono ?_; rintro e w' ⟨rfl, rfl⟩; rw [HD.out]))
        go_ret2
        exact ⟨rfl, hB1⟩
    | false =>
      have hn2 : begE Y l f = 1 := by rw [HBE.out, if_pos hc, hd]; rfl
      rw [hn2]
      have hbf : decide ((1 : Int) = 0) = false := rfl
      rw [hbf, Bool.false_and]
      have HD := Lib.hid hd
      clear hn2 hbf hd hc HBE
      go_enter Try.func44, Try.ntmps44
      go_wp2_with (first | (refine wpList_load_guard (P := Try.prog) (by rfl) 29 (.tmp 4) rfl w.heap.size 0 rfl C.toList _ HR0.out Try.underlying29 rfl (by rw [HC28.out]; exact info29) ?_) | (go_at_call 89; refine (HCO.out _ hb0).mono ?_; rintro e w1 ⟨rfl, hb1⟩; have hB1 : Below w.heap.size w w1 := hb0.trans (hb1.mono hb0.size); clear hb1) | (go_at_call 81; refine (isDay_any _ _).mono ?_; rintro e w' ⟨rfl, rfl⟩; rw [HD.out]))
      go_ret2
      exact ⟨rfl, hB1⟩
  · have hn2 : begE Y l f = comE Y l := by rw [HBE.out, if_neg hc]
    rw [hn2]
    have hbf : decide (comE Y l = 0) = false := decide_eq_false hc
    rw [hbf, Bool.false_and]
    generalize comE Y l = N at *
    have hne : (N != 0) = true := by simp [hc]
    clear hn2 hbf hc HBE
    go_enter Try.func44, Try.ntmps44
    go_wp2_with (first | (refine wpList_load_guard (P := Try.prog) (by rfl) 29 (.tmp 4) rfl w.heap.size 0 rfl C.toList _ HR0.out Try.underlying29 rfl (by rw [HC28.out]; exact info29) ?_) | (go_at_call 89; refine (HCO.out _ hb0).mono ?_; rintro e w1 ⟨rfl, hb1⟩; have hB1 : Below w.heap.size w w1 := hb0.trans (hb1.mono hb0.size); clear hb1))
    go_ret2
    exact ⟨rfl, hB1⟩
end Go.Proofs.Ytjgnikmnadmheaa
