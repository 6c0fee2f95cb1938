/- What a rule is refused for (fn 66). Printed by wip/gen_f9.py. -/
import Derived.Test.YtkfeagokmcakgaaGreatDoorG02
import Derived.Test.YtkfeagokmcakgaaGreatDoorG04

set_option linter.unusedVariables false
set_option linter.unusedSimpArgs false

namespace Go.Proofs.YtkfeagokmcakgaaGreatDoor
open Go.RowKit

theorem dup_eq (l : List Rul) (id : Int) : l.any (nam1 id true) = dupB l id := by
  unfold dupB nam1; simp
theorem of_eq (l : List Rul) (id : Int) : l.any (nam1 id false) = ofB l id := by
  unfold ofB nam1; simp
def rulA (r : Rul) : Array Value := #[.int .i64 r.id, .int .i64 r.known, .int .u8 r.kind, .string r.x, .string r.y, .int .i64 r.of]
theorem timeB_0 (r : Rul) : timeB [] r = false := rfl
theorem timeB_s (l : List Rul) (r : Rul) (i : Nat) (hi : i < l.length) : timeB (l.take (i + 1)) r = decide (r.known < l[i].known) := by
  unfold timeB
  rw [← List.take_append_getElem hi, List.getLast?_append]; simp
set_option maxRecDepth 100000 in
set_option maxHeartbeats 2500000 in
theorem refused_any (l : List Rul) (A : Option Addr) (c : Nat) (i : Nat) (w : World) (hl : Lies w w.heap.size A (rulesC l)) (hok : RulOK l) (hi : i < l.length) (hm : l.length ≤ 1000) (hc : l.length ≤ c) (hc2 : c ≤ maxLen) :
    Calls Tryz.prog 66 #[.slice A l.length c, .int .i64 i] w (IntEnd (refE (l.take i) l[i]) w) := by
  obtain ⟨ad, rfl, hadb, c0, c1, c2, c3, c4, c5⟩ := rule_at hl hi
  have hadb' : (ad.add (i * 6)).block < w.heap.size := by rw [add_block]; exact hadb
  have hiI : (i : Int) < (l.length : Int) := by omega
  have hi0 : (0 : Int) ≤ (i : Int) := by omega
  have hic : (i : Int) ≤ (c : Int) := by omega
  have hrn := hok _ (List.getElem_mem hi)
  have HT : Hid ((l.take i).length = i) := by show _ = _; rw [List.length_take]; omega
  have HOKT : Hid (RulOK (l.take (i + 1))) := fun r hr => hok r (List.take_subset _ _ hr)
  have HL : Hid (∀ W, Below w.heap.size w W → Lies W W.heap.size (some ad) (rulesC l)) := fun W hb => (hl.below hb (Nat.le_refl _)).more hb.size
  have HPREV : Hid (∀ j, i = j + 1 → ∀ r : Rul, timeB (l.take i) r = decide (r.known < (l[j]?.map Rul.known).getD 0)) := fun j e r => by
    subst e
    rw [timeB_s l r j (by omega), List.getElem?_eq_getElem (by omega)]; rfl
  have HPC : Hid (∀ j, i = j + 1 → ∀ W, Below w.heap.size w W → W.cell? ⟨(ad.add (j * 6)).block, (ad.add (j * 6)).off + 1, none⟩ = some (.int .i64 ((l[j]?.map Rul.known).getD 0))) := fun j e W hb => by
    have hj : j < l.length := by omega
    obtain ⟨ad2, e2, _, _, d1, _⟩ := rule_at ((hl.below hb (Nat.le_refl _)).more hb.size) hj
    cases e2
    rw [List.getElem?_eq_getElem hj]; exact d1
  have HTK : Hid (l.take (i + 1) = l.take i ++ [l[i]]) := by show _ = _; rw [List.take_append_getElem]
  have HLT : Hid ((l.take (i + 1)).length = i + 1) := by show _ = _; rw [List.length_take]; omega
  have HR : Hid (refE (l.take i) l[i] = refG (l.take i) l[i] (circB (l.take i ++ [l[i]]))) := rfl
  generalize hr : l[i] = r at *
  clear hr hl hok
  unfold refG at HR
  have HZ0 : Hid (∀ W, Below w.heap.size w W → Lies W W.heap.size (some ad) (rulesC (l.take i))) := fun W hb => (HL.out W hb).rtake i
  have HZ1 : Hid (∀ W, Below w.heap.size w W → Lies W W.heap.size (some ad) (rulesC (l.take (i + 1)))) := fun W hb => (HL.out W hb).rtake (i + 1)
  go_enter Tryz.func66, Tryz.ntmps66
  go_upto_region 1 with fail
  go_cut [5, 6] (fun s5 s6 wx => ∃ g5 g6 : Nat, s5 = .pointer (some ⟨g5, 0, none⟩) ∧ s6 = .pointer (some ⟨g6, 0, none⟩) ∧ (w.heap.size ≤ g5 ∧ w.heap.size ≤ g6) ∧ Hid (Bk wx g5 50 (rulA r) ∧ Bk wx g6 23 #[.slice (some ad) i c]) ∧ Hid (Below w.heap.size w wx))
  case first =>
    go_region
    all_goals
      go_wp2_with fail
      go_meet
      first
        | exact ⟨w.heap.size, w.heap.size + 1, rfl, rfl, ⟨Nat.le_refl _, Nat.le_succ _⟩, ⟨by unfold rulA; exact ((Bk.new w 50 _).alloc _).drew, by simpa using (Bk.new (w.alloc (.cells #[.int .i64 r.id, .int .i64 r.known, .int .u8 r.kind, .string r.x, .string r.y, .int .i64 r.of] 50)) 23 #[.slice (some ad) i c]).drew⟩, by show Below _ _ _; exact (by repeat (first | with_reducible exact Below.refl _ _ | with_reducible assumption | with_reducible refine Below.drew ?_ | with_reducible refine below_drewN ?_ _ | (with_reducible refine Below.alloc ?_ ?_ _; rotate_left; (try simp) <;> omega) | (with_reducible refine Below.setCell ?_ ?_ _; rotate_left; (try simp) <;> omega)))⟩
        | exact ⟨w.heap.size + 1, w.heap.size, rfl, rfl, ⟨Nat.le_succ _, Nat.le_refl _⟩, ⟨by unfold rulA; simpa using (Bk.new (w.alloc (.cells #[.slice (some ad) i c] 23)) 50 #[.int .i64 r.id, .int .i64 r.known, .int .u8 r.kind, .string r.x, .string r.y, .int .i64 r.of]).drew, ((Bk.new w 23 #[.slice (some ad) i c]).alloc _).drew⟩, by show Below _ _ _; exact (by repeat (first | with_reducible exact Below.refl _ _ | with_reducible assumption | with_reducible refine Below.drew ?_ | with_reducible refine below_drewN ?_ _ | (with_reducible refine Below.alloc ?_ ?_ _; rotate_left; (try simp) <;> omega) | (with_reducible refine Below.setCell ?_ ?_ _; rotate_left; (try simp) <;> omega)))⟩
  case rest =>
    obtain ⟨g5, g6, rfl, rfl, ⟨hg5, hg6⟩, HBK, HBW⟩ := hcut
    clear c0 c1 c2 c3 c4 c5
    obtain ⟨id, kn, kd, x, y, of⟩ := r
    dsimp only at *
    have hl5 := HBK.out.1.lt
    have hl6 := HBK.out.2.lt
    have x0 : wc.cell? ⟨g5, 0, none⟩ = some (.int .i64 id) := HBK.out.1.cell 0 rfl
    have x1 : wc.cell? ⟨g5, 1, none⟩ = some (.int .i64 kn) := HBK.out.1.cell 1 rfl
    have x2 : wc.cell? ⟨g5, 2, none⟩ = some (.int .u8 kd) := HBK.out.1.cell 2 rfl
    have x3 : wc.cell? ⟨g5, 3, none⟩ = some (.string x) := HBK.out.1.cell 3 rfl
    have x4 : wc.cell? ⟨g5, 4, none⟩ = some (.string y) := HBK.out.1.cell 4 rfl
    have x5 : wc.cell? ⟨g5, 5, none⟩ = some (.int .i64 of) := HBK.out.1.cell 5 rfl
    have y0 := HBK.out.2.cell 0 rfl
    have HF := Lib.hid (fun W => formed_any ⟨id, kn, kd, x, y, of⟩ W hrn.1 hrn.2.1)
    have HSZ := Lib.hid HBW.out.size
    have HN := Lib.hid (fun (n : Int) (v : Bool) (W : World) (hb : Below wc.heap.size wc W) => named_any (l.take i) (some ad) c n v g6 W (by rw [HT.out]; omega) (HZ0.out W (HBW.out.trans (hb.mono HSZ.out))) (Nat.lt_of_lt_of_le hl6 hb.size) (by rw [HT.out]; exact ((HBK.out.2.below hb hl6).cell 0 rfl)))
    have HLO := Lib.hid (fun (W : World) (hb : Below wc.heap.size wc W) => loops_any (l.take (i + 1)) (some ad) c W (HZ1.out W (HBW.out.trans (hb.mono HSZ.out))) HOKT.out (by rw [HLT.out]; omega))
    have HCE := Lib.hid (fun (W : World) (hb : Below wc.heap.size wc W) (b o : Nat) (h : b < wc.heap.size) => hb.cell (p := ⟨b, o, none⟩) h)
    rw [HT.out] at HR
    rw [HTK.out] at HLO
    rw [List.length_append, HT.out] at HLO
    simp only [List.length_cons, List.length_nil, Nat.zero_add] at HLO
    have HEND : Hid (∀ W n, Below wc.heap.size wc W → n = refE (l.take i) ⟨id, kn, kd, x, y, of⟩ → IntEnd (refE (l.take i) ⟨id, kn, kd, x, y, of⟩) w (.returned (.int .i64 n)) W) := fun W n hb e => int_end e (HBW.out.trans (hb.mono HSZ.out))
    clear HTK HLT HOKT HL HZ0 HZ1 HBK HT hrn
    have tk1 : True := trivial
    by_cases h1 : 200 ≤ i
    · have HE := Lib.hid (HR.out.trans (if_pos h1))
      have h1I : (200 : Int) ≤ (i : Int) := by omega
      clear HR HN HLO HF
      go_wp2
      go_ret
      exact HEND.out _ _ (Below.refl _ _) HE.out.symm
    have HR1 := Lib.hid (HR.out.trans (if_neg h1))
    have h1I : ¬ (200 : Int) ≤ (i : Int) := by omega
    clear HR h1
    by_cases h2 : frm ⟨id, kn, kd, x, y, of⟩ = false
    · have HE := Lib.hid (HR1.out.trans (if_pos h2))
      have H2 := Lib.hid h2
      clear HR1 h2 HN HLO
      go_wp2_with (first | (go_at_call 81; refine (HF.out _).mono ?_; rintro e w1 ⟨rfl, hb1⟩; rw [H2.out]; obtain ⟨hcc1, hff1⟩ := bcell hb1; have hs1 := hb1.size; have HB1 := Lib.hid (hb1 : Below wc.heap.size wc w1); clear hb1))
      go_ret
      exact HEND.out _ _ HB1.out HE.out.symm
    have HR2 := Lib.hid (HR1.out.trans (if_neg h2))
    have H2 : Hid (frm ⟨id, kn, kd, x, y, of⟩ = true) := by show _ = _; simpa using h2
    clear HR1 h2
    by_cases h3 : dupB (l.take i) id = true
    · have HE := Lib.hid (HR2.out.trans (if_pos h3))
      have H3 : Hid ((l.take i).any (nam1 id true) = true) := by show _ = _; rw [dup_eq]; exact h3
      clear HR2 h3 HLO
      go_wp2_with (first | (go_at_call 81; refine (HF.out _).mono ?_; rintro e w1 ⟨rfl, hb1⟩; rw [H2.out]; obtain ⟨hcc1, hff1⟩ := bcell hb1; have hs1 := hb1.size; have HB1 := Lib.hid (hb1 : Below wc.heap.size wc w1); clear hb1) | (go_at_call 112; have _t := tk1; refine (HN.out id true w1 HB1.out).mono ?_; rintro e w2 ⟨rfl, hb2⟩; rw [H3.out]; obtain ⟨hcc2, hff2⟩ := bcell hb2; have hs2 := hb2.size; have HB2 := Lib.hid (HB1.out.trans (hb2.mono HB1.out.size)); clear hb2 tk1))
      go_ret
      exact HEND.out _ _ HB2.out HE.out.symm
    have HR3 := Lib.hid (HR2.out.trans (if_neg h3))
    have H3 : Hid ((l.take i).any (nam1 id true) = false) := by show _ = _; rw [dup_eq]; simpa using h3
    clear HR2 h3
    go_upto_region 9 with (first | (go_at_call 81; refine (HF.out _).mono ?_; rintro e w1 ⟨rfl, hb1⟩; rw [H2.out]; obtain ⟨hcc1, hff1⟩ := bcell hb1; have hs1 := hb1.size; have HB1 := Lib.hid (hb1 : Below wc.heap.size wc w1); clear hb1) | (go_at_call 112; have _t := tk1; refine (HN.out id true w1 HB1.out).mono ?_; rintro e w2 ⟨rfl, hb2⟩; rw [H3.out]; obtain ⟨hcc2, hff2⟩ := bcell hb2; have hs2 := hb2.size; have HB2 := Lib.hid (HB1.out.trans (hb2.mono HB1.out.size)); clear hb2 tk1))
    have z1 := HCE.out w2 HB2.out g5 1 hl5
    rw [x1] at z1
    have z0 := HCE.out w2 HB2.out g5 0 hl5
    rw [x0] at z0
    have z2 := HCE.out w2 HB2.out g5 2 hl5
    rw [x2] at z2
    have z5 := HCE.out w2 HB2.out g5 5 hl5
    rw [x5] at z5
    clear x0 x1 x2 x3 x4 x5 y0 hcc1 hff1 hcc2 hff2 HF
    by_cases hz : i = 0
    · have HT0 : Hid (timeB (l.take i) ⟨id, kn, kd, x, y, of⟩ = false) := by show _ = _; rw [hz]; rfl
      have HR4 := Lib.hid (HR3.out.trans (if_neg (by rw [HT0.out]; simp)))
      have hzI : decide ((0 : Int) < (i : Int)) = false := by simp [hz]
      have hzN : decide (0 < i) = false := by simp [hz]
      have HZ := Lib.hid hz
      clear HR3 hz
      refine wp_region_held_drew (S := (fun V => V.cell? ⟨g5, 1, none⟩ = some (.int .i64 kn))) (by kernel_rfl) ?_ (fun hHeld => ?_)
      · exact z1
      refine tk 0 29 ?_
      refine tk 1 30 ?_
      refine tk 2 31 ?_
      refine sk 3 32 ?_
      refine sk 4 33 ?_
      refine sk 5 34 ?_
      refine sk 6 35 ?_
      refine sk 7 36 ?_
      refine sk 8 37 ?_
      refine sk 9 38 ?_
      refine sk 10 39 ?_
      refine sk 11 40 ?_
      refine tk 12 41 ?_
      refine tk 13 28 ?_
      refine wpAnyH_done (by kernel_rfl) ?_ _
      clear hHeld hzI hzN
      replace HB2 := Lib.hid HB2.out.drew
      replace z0 : w2.drew.cell? ⟨g5, 0, none⟩ = _ := z0
      replace z2 : w2.drew.cell? ⟨g5, 2, none⟩ = _ := z2
      replace z5 : w2.drew.cell? ⟨g5, 5, none⟩ = _ := z5
      generalize w2.drew = w2 at *
      have hl52 : g5 < w2.heap.size := Nat.lt_of_lt_of_le hl5 HB2.out.size
      by_cases h5 : kd = 6
      · have h5' : (kd == 6) = true := by rw [h5]; rfl
        by_cases h6 : ofB (l.take i) of = false
        · have HE := Lib.hid (HR4.out.trans (if_pos ⟨h5, h6⟩))
          have H5 : Hid ((l.take i).any (nam1 of false) = false) := by show _ = _; rw [of_eq]; exact h6
          clear h5 h6 HR4 HLO
          go_wp2_with (first | (go_at_call 112; refine (HN.out of false w2 HB2.out).mono ?_; rintro e w3 ⟨rfl, hb3⟩; rw [H5.out]; obtain ⟨hcc3, hff3⟩ := bcell hb3; have hs3 := hb3.size; have HB3 := Lib.hid (HB2.out.trans (hb3.mono HB2.out.size)); clear hb3))
          go_ret
          exact HEND.out _ _ HB3.out HE.out.symm
        · have H5 : Hid ((l.take i).any (nam1 of false) = true) := by show _ = _; rw [of_eq]; simpa using h6
          have HE := Lib.hid ((HR4.out.trans (if_neg (fun h => h6 h.2))).trans (if_neg (fun h => by have := h.1; omega)))
          have h7 : (kd == 5) = false := by rw [h5]; rfl
          clear h5 h6 HR4 HLO
          go_wp2_with (first | (go_at_call 112; refine (HN.out of false w2 HB2.out).mono ?_; rintro e w3 ⟨rfl, hb3⟩; rw [H5.out]; obtain ⟨hcc3, hff3⟩ := bcell hb3; have hs3 := hb3.size; have HB3 := Lib.hid (HB2.out.trans (hb3.mono HB2.out.size)); clear hb3))
          go_ret
          exact HEND.out _ _ HB3.out HE.out.symm
      · have h5' : (kd == 6) = false := by simpa using h5
        have HR5 := Lib.hid (HR4.out.trans (if_neg (fun h => h5 h.1)))
        clear HR4 h5
        by_cases h6 : kd = 5
        · have h6' : (kd == 5) = true := by rw [h6]; rfl
          have hw1 : IntKind.i64.wrap ((i : Int) + 1) = ((i + 1 : Nat) : Int) := IntWalk.i64_in _ (by omega)
          have hi1 : (0 : Int) ≤ ((i + 1 : Nat) : Int) := by omega
          have hi2 : ((i + 1 : Nat) : Int) ≤ (c : Int) := by omega
          by_cases h7 : circB (l.take i ++ [⟨id, kn, kd, x, y, of⟩]) = true
          · have HE := Lib.hid (HR5.out.trans (if_pos ⟨h6, h7⟩))
            have H6 := Lib.hid h7
            clear h6 h7 HR5 HN
            go_wp2_with (first | (go_at_call 115; refine (HLO.out w2 HB2.out).mono ?_; rintro e w3 ⟨rfl, hb3⟩; rw [H6.out]; have HB3 := Lib.hid (HB2.out.trans (hb3.mono HB2.out.size)); clear hb3))
            go_ret
            exact HEND.out _ _ HB3.out HE.out.symm
          · have HE := Lib.hid (HR5.out.trans (if_neg (fun h => h7 h.2)))
            have H6 : Hid (circB (l.take i ++ [⟨id, kn, kd, x, y, of⟩]) = false) := by show _ = _; simpa using h7
            clear h6 h7 HR5 HN
            go_wp2_with (first | (go_at_call 115; refine (HLO.out w2 HB2.out).mono ?_; rintro e w3 ⟨rfl, hb3⟩; rw [H6.out]; have HB3 := Lib.hid (HB2.out.trans (hb3.mono HB2.out.size)); clear hb3))
            go_ret
            exact HEND.out _ _ HB3.out HE.out.symm
        · have h6' : (kd == 5) = false := by simpa using h6
          have HE := Lib.hid (HR5.out.trans (if_neg (fun h => h6 h.1)))
          clear h6 HR5 HN HLO
          go_wp2
          go_ret
          exact HEND.out _ _ HB2.out HE.out.symm
    obtain ⟨j, hj⟩ : ∃ j, i = j + 1 := ⟨i - 1, by omega⟩
    have HPV := Lib.hid (HPREV.out j hj ⟨id, kn, kd, x, y, of⟩)
    have hpc := HPC.out j hj w2 (HBW.out.trans (HB2.out.mono HSZ.out))
    generalize (l[j]?.map Rul.known).getD 0 = pk at *
    have hzI : decide ((0 : Int) < (i : Int)) = true := decide_eq_true (by omega)
    have hzN : decide (0 < i) = true := decide_eq_true (by omega)
    have hw1 : IntKind.i64.wrap ((i : Int) - 1) = (j : Int) := by rw [hj]; exact (IntWalk.i64_in _ (by omega)).trans (by omega)
    have hjl : (j : Int) < (l.length : Int) := by omega
    have hj0 : (0 : Int) ≤ (j : Int) := by omega
    have HJ := Lib.hid hj
    clear hj hz
    by_cases h4 : kn < pk
    · have HE := Lib.hid (HR3.out.trans (if_pos (by rw [HPV.out]; exact decide_eq_true h4)))
      clear HR3
      refine wp_region_held_drew (S := (fun V => V.cell? ⟨g5, 1, none⟩ = some (.int .i64 kn) ∧ V.cell? ⟨(ad.add (j * 6)).block, (ad.add (j * 6)).off + 1, none⟩ = some (.int .i64 pk))) (by kernel_rfl) ?_ (fun hHeld => ?_)
      · exact ⟨z1, hpc⟩
      refine tk 0 29 ?_
      refine tk 1 30 ?_
      refine tk 2 31 ?_
      refine tk 3 32 ?_
      refine tk 4 33 ?_
      refine tk 5 34 ?_
      refine tk 6 35 ?_
      refine tk 7 36 ?_
      refine tk 8 37 ?_
      refine tk 9 38 ?_
      refine tk 10 39 ?_
      refine tk 11 40 ?_
      refine tk 12 41 ?_
      refine tk 13 28 ?_
      refine wpAnyH_done (by kernel_rfl) ?_ _
      clear hHeld HN HLO
      go_wp2
      go_ret
      exact HEND.out _ _ HB2.out.drew HE.out.symm
    · have HR4 := Lib.hid (HR3.out.trans (if_neg (by rw [HPV.out]; simpa using h4)))
      clear HR3
      refine wp_region_held_drew (S := (fun V => V.cell? ⟨g5, 1, none⟩ = some (.int .i64 kn) ∧ V.cell? ⟨(ad.add (j * 6)).block, (ad.add (j * 6)).off + 1, none⟩ = some (.int .i64 pk))) (by kernel_rfl) ?_ (fun hHeld => ?_)
      · exact ⟨z1, hpc⟩
      refine tk 0 29 ?_
      refine tk 1 30 ?_
      refine tk 2 31 ?_
      refine tk 3 32 ?_
      refine tk 4 33 ?_
      refine tk 5 34 ?_
      refine tk 6 35 ?_
      refine tk 7 36 ?_
      refine tk 8 37 ?_
      refine tk 9 38 ?_
      refine tk 10 39 ?_
      refine tk 11 40 ?_
      refine tk 12 41 ?_
      refine tk 13 28 ?_
      refine wpAnyH_done (by kernel_rfl) ?_ _
      clear hHeld hpc hw1 hzI hzN
      replace HB2 := Lib.hid HB2.out.drew
      replace z0 : w2.drew.cell? ⟨g5, 0, none⟩ = _ := z0
      replace z2 : w2.drew.cell? ⟨g5, 2, none⟩ = _ := z2
      replace z5 : w2.drew.cell? ⟨g5, 5, none⟩ = _ := z5
      generalize w2.drew = w2 at *
      have hl52 : g5 < w2.heap.size := Nat.lt_of_lt_of_le hl5 HB2.out.size
      by_cases h5 : kd = 6
      · have h5' : (kd == 6) = true := by rw [h5]; rfl
        by_cases h6 : ofB (l.take i) of = false
        · have HE := Lib.hid (HR4.out.trans (if_pos ⟨h5, h6⟩))
          have H5 : Hid ((l.take i).any (nam1 of false) = false) := by show _ = _; rw [of_eq]; exact h6
          clear h5 h6 HR4 HLO
          go_wp2_with (first | (go_at_call 112; refine (HN.out of false w2 HB2.out).mono ?_; rintro e w3 ⟨rfl, hb3⟩; rw [H5.out]; obtain ⟨hcc3, hff3⟩ := bcell hb3; have hs3 := hb3.size; have HB3 := Lib.hid (HB2.out.trans (hb3.mono HB2.out.size)); clear hb3))
          go_ret
          exact HEND.out _ _ HB3.out HE.out.symm
        · have H5 : Hid ((l.take i).any (nam1 of false) = true) := by show _ = _; rw [of_eq]; simpa using h6
          have HE := Lib.hid ((HR4.out.trans (if_neg (fun h => h6 h.2))).trans (if_neg (fun h => by have := h.1; omega)))
          have h7 : (kd == 5) = false := by rw [h5]; rfl
          clear h5 h6 HR4 HLO
          go_wp2_with (first | (go_at_call 112; refine (HN.out of false w2 HB2.out).mono ?_; rintro e w3 ⟨rfl, hb3⟩; rw [H5.out]; obtain ⟨hcc3, hff3⟩ := bcell hb3; have hs3 := hb3.size; have HB3 := Lib.hid (HB2.out.trans (hb3.mono HB2.out.size)); clear hb3))
          go_ret
          exact HEND.out _ _ HB3.out HE.out.symm
      · have h5' : (kd == 6) = false := by simpa using h5
        have HR5 := Lib.hid (HR4.out.trans (if_neg (fun h => h5 h.1)))
        clear HR4 h5
        by_cases h6 : kd = 5
        · have h6' : (kd == 5) = true := by rw [h6]; rfl
          have hw1 : IntKind.i64.wrap ((i : Int) + 1) = ((i + 1 : Nat) : Int) := IntWalk.i64_in _ (by omega)
          have hi1 : (0 : Int) ≤ ((i + 1 : Nat) : Int) := by omega
          have hi2 : ((i + 1 : Nat) : Int) ≤ (c : Int) := by omega
          by_cases h7 : circB (l.take i ++ [⟨id, kn, kd, x, y, of⟩]) = true
          · have HE := Lib.hid (HR5.out.trans (if_pos ⟨h6, h7⟩))
            have H6 := Lib.hid h7
            clear h6 h7 HR5 HN
            go_wp2_with (first | (go_at_call 115; refine (HLO.out w2 HB2.out).mono ?_; rintro e w3 ⟨rfl, hb3⟩; rw [H6.out]; have HB3 := Lib.hid (HB2.out.trans (hb3.mono HB2.out.size)); clear hb3))
            go_ret
            exact HEND.out _ _ HB3.out HE.out.symm
          · have HE := Lib.hid (HR5.out.trans (if_neg (fun h => h7 h.2)))
            have H6 : Hid (circB (l.take i ++ [⟨id, kn, kd, x, y, of⟩]) = false) := by show _ = _; simpa using h7
            clear h6 h7 HR5 HN
            go_wp2_with (first | (go_at_call 115; refine (HLO.out w2 HB2.out).mono ?_; rintro e w3 ⟨rfl, hb3⟩; rw [H6.out]; have HB3 := Lib.hid (HB2.out.trans (hb3.mono HB2.out.size)); clear hb3))
            go_ret
            exact HEND.out _ _ HB3.out HE.out.symm
        · have h6' : (kd == 5) = false := by simpa using h6
          have HE := Lib.hid (HR5.out.trans (if_neg (fun h => h6 h.1)))
          clear h6 HR5 HN HLO
          go_wp2
          go_ret
          exact HEND.out _ _ HB2.out HE.out.symm
end Go.Proofs.YtkfeagokmcakgaaGreatDoor

namespace Go.Proofs.YtkfeagokmcakgaaGreatDoor
open Go.RowKit

theorem ret_two {a b a' b' : Int} (h : a = a') (g : b = b') : Ending.returned (.tuple #[.int .i64 a, .int .i64 b]) = .returned (.tuple #[.int .i64 a', .int .i64 b']) := by rw [h, g]
def Int2End (p : Int × Int) (w : World) (e : Ending) (w' : World) : Prop := e = .returned (.tuple #[.int .i64 p.1, .int .i64 p.2]) ∧ Below w.heap.size w w'
theorem fine_nil : Fine [] := fun i hi => absurd hi (by simp)
theorem fine_succ {l : List Rul} {k : Nat} (hk : k < l.length) (h : Fine (l.take k)) (e : refE (l.take k) l[k] = 0) : Fine (l.take (k + 1)) := by
  rw [← List.take_append_getElem hk]; exact h.snoc e
set_option maxHeartbeats 1000000 in
theorem check_any (l : List Rul) (A : Option Addr) (c : Nat) (w : World) (hl : Lies w w.heap.size A (rulesC l)) (hok : RulOK l) (hm : l.length ≤ 1000) (hc : l.length ≤ c) (hc2 : c ≤ maxLen) :
    Calls Tryz.prog 46 #[.agg #[.slice A l.length c]] w (Int2End (chkL l) w) := by
  have HR : Hid (∀ (k : Nat) (hk : k < l.length) W, Below w.heap.size w W → Calls Tryz.prog 66 #[.slice A l.length c, .int .i64 k] W (IntEnd (refE (l.take k) l[k]) W)) := fun k hk W hb => refused_any l A c k W ((hl.below hb (Nat.le_refl _)).more hb.size) hok hk hm hc hc2
  have HF0 : Hid (Fine (l.take 0)) := by show Fine _; simpa using fine_nil
  have HOK : Hid (Fine l → chkL l = (0, 0)) := chkL_ok
  have HBAD : Hid (∀ (k : Nat) (hk : k < l.length), Fine (l.take k) → refE (l.take k) l[k] ≠ 0 → chkL l = ((k : Int), refE (l.take k) l[k])) := fun k hk h e => chkL_bad hk h e
  have HS : Hid (∀ (k : Nat) (hk : k < l.length), Fine (l.take k) → refE (l.take k) l[k] = 0 → Fine (l.take (k + 1))) := fun k hk h e => fine_succ hk h e
  clear hl hok
  go_enter Tryz.func46, Tryz.ntmps46
  go_wp2
  go_loopw [9] (fun y wr => ∃ k : Nat, k ≤ l.length ∧ y = .int .i64 k ∧ Hid (Fine (l.take k)) ∧ Below w.heap.size w wr ∧ Bk wr w.heap.size 25 #[.slice A l.length c]) (fun y _ => l.length - (intOf y).toNat)
  case atStart => exact ⟨0, by omega, rfl, HF0, (by repeat (first | with_reducible exact Below.refl _ _ | with_reducible assumption | with_reducible refine Below.drew ?_ | with_reducible refine below_drewN ?_ _ | (with_reducible refine Below.alloc ?_ ?_ _; rotate_left; (try simp) <;> omega) | (with_reducible refine Below.setCell ?_ ?_ _; rotate_left; (try simp) <;> omega))), Bk.new _ _ _⟩
  case round =>
    obtain ⟨k, hk, rfl, hf, hbw, hbk⟩ := hrel
    have x0 := hbk.cell 0 rfl
    have hbl := hbk.lt
    by_cases hlt : k < l.length
    · have HC := Lib.hid (HR.out k hlt wr hbw)
      have HB1 := Lib.hid (HBAD.out k hlt hf.out)
      have HS1 := Lib.hid (HS.out k hlt hf.out)
      generalize refE (l.take k) l[k] = R at *
      by_cases hR : R = 0
      · have HF := Lib.hid (HS1.out hR)
        have hR' : (R == 0) = true := by rw [hR]; rfl
        have hR2 : (R != 0) = false := by rw [bne, hR']; rfl
        have HRZ := Lib.hid hR
        clear hR HB1 HS1 HS HBAD HR hf
        go_wp2_with (go_at_call 66; refine HC.out.mono ?_; rintro e w1 ⟨rfl, hb⟩)
        go_roundw
        case rel => exact ⟨k + 1, by omega, by go_num, HF, hbw.trans (hb.mono hbw.size), hbk.below hb hbl⟩
        case measure => simp [intOf]; omega
      · have HF := Lib.hid (HB1.out hR)
        have hR' : (R == 0) = false := by simpa using hR
        have hR2 : (R != 0) = true := by rw [bne, hR']; rfl
        have HRZ := Lib.hid hR
        clear hR HB1 HS1 HS HBAD HR hf
        go_wp2_with (go_at_call 66; refine HC.out.mono ?_; rintro e w1 ⟨rfl, hb⟩)
        go_ret2
        refine ⟨?_, hbw.trans (hb.mono hbw.size)⟩
        rw [HF.out]; rfl
    · obtain rfl : k = l.length := by omega
      have HF : Hid (chkL l = (0, 0)) := HOK.out (by have := hf.out; rwa [List.take_length] at this)
      clear HS HBAD HR hf
      go_wp2
      go_ret2
      refine ⟨?_, hbw⟩
      rw [HF.out]; rfl
end Go.Proofs.YtkfeagokmcakgaaGreatDoor
