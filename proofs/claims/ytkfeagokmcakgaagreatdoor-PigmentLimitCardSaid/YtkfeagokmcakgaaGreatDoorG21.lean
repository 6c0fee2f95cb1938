/- What a rule is refused for (fn 66). Printed by wip/gen_f9.py. -/
import Derived.Shelf.Strings.Builder1
import Derived.Shelf.Strings.Builder2
import Derived.Shelf.Strings.OnBuilder
import Derived.Shelf.Strings.BuilderF
import Derived.Shelf.Strings.BuilderK
import Derived.Shelf.Strconv.Atoi
import Derived.Shelf.Strconv.Itoa0
import Derived.Shelf.Strconv.Itoa1
import Derived.Shelf.LaysM
import Derived.Shelf.Strconv.Itoa2
import Derived.Shelf.Strconv.Itoa3
import Derived.Shelf.Strconv.AtoiErrFast
import Derived.Shelf.Strconv.ParseIntEmpty
import Derived.Shelf.Strconv.AtoiFail
import Derived.Shelf.Strconv.Clone
import Derived.Shelf.Strconv.SyntaxError
import Derived.Shelf.LaysC
import Derived.Shelf.Strconv.ToError
import Derived.Shelf.Strconv.Lower
import Derived.Shelf.Strconv.ParseUint10
import Derived.Shelf.Strconv.ParseUint10Empty
import Derived.Shelf.Strconv.ParseUint10Any
import Derived.Shelf.Strconv.ParseInt10
import Derived.Shelf.Strconv.AtoiLong
import Derived.Shelf.Strconv.AtoiInnerAll
import Derived.Shelf.Strconv.RangeError
import Derived.Shelf.Strconv.ToErrorRange
import Derived.Shelf.Strconv.AtoiAll
import Derived.Shelf.Strings.Search1
import Derived.Shelf.Strings.Search2
import Derived.Shelf.Strings.Search3
import Derived.Shelf.Strings.Count
import Derived.Shelf.Strings.Shaped
import Derived.Shelf.Sort.Plain
import Derived.Shelf.Strings.Split
import Derived.Shelf.Unicode.DecodeSlow
import Derived.Ground.Names2Prog
import Derived.Shelf.Slices.CompactI
import Derived.Shelf.Slices.SearchI
import Derived.Shelf.Slices.In.SortNone
import Derived.Ground.SlgnProg
import Derived.Shelf.SlicesE.Index
import Derived.Test.YtkfeagokmcakgaaGreatDoorProg
import Derived.Test.YtkfeagokmcakgaaGreatDoorG17
import Derived.Test.YtkfeagokmcakgaaGreatDoorG20

set_option linter.unusedVariables false
set_option linter.unusedSimpArgs false

namespace Go.Proofs.YtkfeagokmcakgaaGreatDoor
open Go.RowKit

theorem dup_eq (l : List Rul) (id : Int) : l.any (nam1 id true) = dupB l id := by
  unfold dupB nam1; simp
theorem of_eq (l : List Rul) (id : Int) : l.any (nam1 id false) = ofB l id := by
  unfold ofB nam1; simp
def rulA (r : Rul) : Array Value := #[.int .i64 r.id, .int .i64 r.known, .int .u8 r.kind, .string r.x, .string r.y, .int .i64 r.of]
theorem timeB_s (l : List Rul) (r : Rul) (i : Nat) (hi : i < l.length) : timeB (l.take (i + 1)) r = decide (r.known < l[i].known) := by
  unfold timeB
  rw [← List.take_append_getElem hi, List.getLast?_append]; simp
set_option maxRecDepth 100000 in
set_option maxHeartbeats 2500000 in
theorem refused_any (l : List Rul) (A : Option Addr) (c : Nat) (i : Nat) (w : World) (hl : Lies w w.heap.size A (rulesC l)) (hok : RulOK l) (hi : i < l.length) (hm : l.length ≤ 1000) (hc : l.length ≤ c) (hc2 : c ≤ maxLen) :
    Calls Tryz.prog 66 #[.slice A l.length c, .int .i64 i] w (IntEnd (refE (l.take i) l[i]) w) := by
  obtain ⟨ad, rfl, hadb, c0, c1, c2, c3, c4, c5⟩ := rule_at hl hi
  have hadb' : (ad.add (i * 6)).block < w.heap.size := by rw [add_block]; exact hadb
  have hiI : (i : Int) < (l.length : Int) := by omega
  have hi0 : (0 : Int) ≤ (i : Int) := by omega
  have hic : (i : Int) ≤ (c : Int) := by omega
  have hrn := hok _ (List.getElem_mem hi)
  have HT : Hid ((l.take i).length = i) := by show _ = _; rw [List.length_take]; omega
  have HOKT : Hid (RulOK (l.take (i + 1))) := fun r hr => hok r (List.take_subset _ _ hr)
  have HL : Hid (∀ W, Below w.heap.size w W → Lies W W.heap.size (some ad) (rulesC l)) := fun W hb => (hl.below hb (Nat.le_refl _)).more hb.size
  have HPREV : Hid (∀ j, i = j + 1 → ∀ r : Rul, timeB (l.take i) r = decide (r.known < (l[j]?.map Rul.known).getD 0)) := fun j e r => by
    subst e
    rw [timeB_s l r j (by omega), List.getElem?_eq_getElem (by omega)]; rfl
  have HPC : Hid (∀ j, i = j + 1 → ∀ W, Below w.heap.size w W → W.cell? ⟨(ad.add (j * 6)).block, (ad.add (j * 6)).off + 1, none⟩ = some (.int .i64 ((l[j]?.map Rul.known).getD 0))) := fun j e W hb => by
    have hj : j < l.length := by omega
    obtain ⟨ad2, e2, _, _, d1, _⟩ := rule_at ((hl.below hb (Nat.le_refl _)).more hb.size) hj
    cases e2
    rw [List.getElem?_eq_getElem hj]; exact d1
  have HTK : Hid (l.take (i + 1) = l.take i ++ [l[i]]) := by show _ = _; rw [List.take_append_getElem]
  have HLT : Hid ((l.take (i + 1)).length = i + 1) := by show _ = _; rw [List.length_take]; omega
  have HR : Hid (refE (l.take i) l[i] = refG (l.take i) l[i] (circB (l.take i ++ [l[i]]))) := rfl
  generalize hr : l[i] = r at *
  clear hr hl hok
  unfold refG at HR
  have HZ0 : Hid (∀ W, Below w.heap.size w W → Lies W W.heap.size (some ad) (rulesC (l.take i))) := fun W hb => (HL.out W hb).rtake i
  have HZ1 : Hid (∀ W, Below w.heap.size w W → Lies W W.heap.size (some ad) (rulesC (l.take (i + 1)))) := fun W hb => (HL.out W hb).rtake (i + 1)
  go_enter Tryz.func66, Tryz.ntmps66
  go_upto_region 1 with fail
  go_cut [5, 6] (fun s5 s6 wx => ∃ g5 g6 : Nat, s5 = .pointer (some ⟨g5, 0, none⟩) ∧ s6 = .pointer (some ⟨g6, 0, none⟩) ∧ (w.heap.size ≤ g5 ∧ w.heap.size ≤ g6) ∧ Hid (Bk wx g5 50 (rulA r) ∧ Bk wx g6 23 #[.slice (some ad) i c]) ∧ Hid (Below w.heap.size w wx))
  case first =>
    go_region
    all_goals
      go_wp2_with fail
      go_meet
      first
        | exact ⟨w.heap.size, w.heap.size + 1, rfl, rfl, ⟨Nat.le_refl _, Nat.le_succ _⟩, ⟨by unfold rulA; exact ((Bk.new w 50 _).alloc _).drew, by simpa using (Bk.new (w.alloc (.cells #[.int .i64 r.id, .int .i64 r.known, .int .u8 r.kind, .string r.x, .string r.y, .int .i64 r.of] 50)) 23 #[.slice (some ad) i c]).drew⟩, by show Below _ _ _; exact (by repeat (first | with_reducible exact Below.refl _ _ | with_reducible assumption | with_reducible refine Below.drew ?_ | with_reducible refine below_drewN ?_ _ | (with_reducible refine Below.alloc ?_ ?_ _; rotate_left; (try simp) <;> omega) | (with_reducible refine Below.setCell ?_ ?_ _; rotate_left; (try simp) <;> omega)))⟩
        | exact ⟨w.heap.size + 1, w.heap.size, rfl, rfl, ⟨Nat.le_succ _, Nat.le_refl _⟩, ⟨by unfold rulA; simpa using (Bk.new (w.alloc (.cells #[.slice (some ad) i c] 23)) 50 #[.int .i64 r.id, .int .i64 r.known, .int .u8 r.kind, .string r.x, .string r.y, .int .i64 r.of]).drew, ((Bk.new w 23 #[.slice (some ad) i c]).alloc _).drew⟩, by show Below _ _ _; exact (by repeat (first | with_reducible exact Below.refl _ _ | with_reducible assumption | with_reducible refine Below.drew ?_ | with_reducible refine below_drewN ?_ _ | (with_reducible refine Below.alloc ?_ ?_ _; rotate_left; (try simp) <;> omega) | (with_reducible refine Below.setCell ?_ ?_ _; rotate_left; (try simp) <;> omega)))⟩
  case rest =>
    obtain ⟨g5, g6, rfl, rfl, ⟨hg5, hg6⟩, HBK, HBW⟩ := hcut
    clear c0 c1 c2 c3 c4 c5
    obtain ⟨id, kn, kd, x, y, of⟩ := r
    dsimp only at *
    have hl5 := HBK.out.1.lt
    have hl6 := HBK.out.2.lt
    have x0 : wc.cell? ⟨g5, 0, none⟩ = some (.int .i64 id) := HBK.out.1.cell 0 rfl
    have x1 : wc.cell? ⟨g5, 1, none⟩ = some (.int .i64 kn) := HBK.out.1.cell 1 rfl
    have x2 : wc.cell? ⟨g5, 2, none⟩ = some (.int .u8 kd) := HBK.out.1.cell 2 rfl
    have x3 : wc.cell? ⟨g5, 3, none⟩ = some (.string x) := HBK.out.1.cell 3 rfl
    have x4 : wc.cell? ⟨g5, 4, none⟩ = some (.string y) := HBK.out.1.cell 4 rfl
    have x5 : wc.cell? ⟨g5, 5, none⟩ = some (.int .i64 of) := HBK.out.1.cell 5 rfl
    have y0 := HBK.out.2.cell 0 rfl
    have HF := Lib.hid (fun W => formed_any ⟨id, kn, kd, x, y, of⟩ W hrn.1 hrn.2.1)
    have HSZ := Lib.hid HBW.out.size
    have HN := Lib.hid (fun (n : Int) (v : Bool) (W : World) (hb : Below wc.heap.size wc W) => named_any (l.take i) (some ad) c n v g6 W (by rw [HT.out]; omega) (HZ0.out W (HBW.out.trans (hb.mono HSZ.out))) (Nat.lt_of_lt_of_le hl6 hb.size) (by rw [HT.out]; exact ((HBK.out.2.below hb hl6).cell 0 rfl)))
    have HLO := Lib.hid (fun (W : World) (hb : Below wc.heap.size wc W) => loops_any (l.take (i + 1)) (some ad) c W (HZ1.out W (HBW.out.trans (hb.mono HSZ.out))) HOKT.out (by rw [HLT.out]; omega))
    have HCE := Lib.hid (fun (W : World) (hb : Below wc.heap.size wc W) (b o : Nat) (h : b < wc.heap.size) => hb.cell (p := ⟨b, o, none⟩) h)
    rw [HT.out] at HR
    rw [HTK.out] at HLO
    rw [List.length_append, HT.out] at HLO
    simp only [List.length_cons, List.length_nil, Nat.zero_add] at HLO
    have HEND : Hid (∀ W n, Below wc.heap.size wc W → n = refE (l.take i) ⟨id, kn, kd, x, y, of⟩ → IntEnd (refE (l.take i) ⟨id, kn, kd, x, y, of⟩) w (.returned (.int .i64 n)) W) := fun W n hb e => int_end e (HBW.out.trans (hb.mono HSZ.out))
    clear HTK HLT HOKT HL HZ0 HZ1 HBK HT hrn
    have tk1 : True := trivial
    by_cases h1 : 200 ≤ i
    · have HE := Lib.hid (HR.out.trans (if_pos h1))
      have h1I : (200 : Int) ≤ (i : Int) := by omega
      clear HR HN HLO HF
      go_wp2
      go_ret
      exact HEND.out _ _ (Below.refl _ _) HE.out.symm
    have HR1 := Lib.hid (HR.out.trans (if_neg h1))
    have h1I : ¬ (200 : Int) ≤ (i : Int) := by omega
    clear HR h1
    by_cases h2 : frm ⟨id, kn, kd, x, y, of⟩ = false
    · have HE := Lib.hid (HR1.out.trans (if_pos h2))
      have H2 := Lib.hid h2
      clear HR1 h2 HN HLO
      go_wp2_with (first | (go_at_call 81; refine (HF.out _).mono ?_; rintro e w1 ⟨rfl, hb1⟩; rw [H2.out]; obtain ⟨hcc1, hff1⟩ := bcell hb1; have hs1 := hb1.size; have HB1 := Lib.hid (hb1 : Below wc.heap.size wc w1); clear hb1))
      go_ret
      exact HEND.out _ _ HB1.out HE.out.symm
    have HR2 := Lib.hid (HR1.out.trans (if_neg h2))
    have H2 : Hid (frm ⟨id, kn, kd, x, y, of⟩ = true) := by show _ = _; simpa using h2
    clear HR1 h2
    by_cases h3 : dupB (l.take i) id = true
    · have HE := Lib.hid (HR2.out.trans (if_pos h3))
      have H3 : Hid ((l.take i).any (nam1 id true) = true) := by show _ = _; rw [dup_eq]; exact h3
      clear HR2 h3 HLO
      go_wp2_with (first | (go_at_call 81; refine (HF.out _).mono ?_; rintro e w1 ⟨rfl, hb1⟩; rw [H2.out]; obtain ⟨hcc1, hff1⟩ := bcell hb1; have hs1 := hb1.size; have HB1 := Lib.hid (hb1 : Below wc.heap.size wc w1); clear hb1) | (go_at_call 112; have _t := tk1; refine (HN.out id true w1 HB1.out).mono ?_; rintro e w2 ⟨rfl, hb2⟩; rw [H3.out]; obtain ⟨hcc2, hff2⟩ := bcell hb2; have hs2 := hb2.size; have HB2 := Lib.hid (HB1.out.trans (hb2.mono HB1.out.size)); clear hb2 tk1))
      go_ret
      exact HEND.out _ _ HB2.out HE.out.symm
    have HR3 := Lib.hid (HR2.out.trans (if_neg h3))
    have H3 : Hid ((l.take i).any (nam1 id true) = false) := by show _ = _; rw [dup_eq]; simpa using h3
    clear HR2 h3
    go_upto_region 9 with (first | (go_at_call 81; refine (HF.out _).mono ?_; rintro e w1 ⟨rfl, hb1⟩; rw [H2.out]; obtain ⟨hcc1, hff1⟩ := bcell hb1; have hs1 := hb1.size; have HB1 := Lib.hid (hb1 : Below wc.heap.size wc w1); clear hb1) | (go_at_call 112; have _t := tk1; refine (HN.out id true w1 HB1.out).mono ?_; rintro e w2 ⟨rfl, hb2⟩; rw [H3.out]; obtain ⟨hcc2, hff2⟩ := bcell hb2; have hs2 := hb2.size; have HB2 := Lib.hid (HB1.out.trans (hb2.mono HB1.out.size)); clear hb2 tk1))
    have z1 := HCE.out w2 HB2.out g5 1 hl5
    rw [x1] at z1
    have z0 := HCE.out w2 HB2.out g5 0 hl5
    rw [x0] at z0
    have z2 := HCE.out w2 HB2.out g5 2 hl5
    rw [x2] at z2
    have z5 := HCE.out w2 HB2.out g5 5 hl5
    rw [x5] at z5
    clear x0 x1 x2 x3 x4 x5 y0 hcc1 hff1 hcc2 hff2 HF
    by_cases hz : i = 0
    · have HT0 : Hid (timeB (l.take i) ⟨id, kn, kd, x, y, of⟩ = false) := by show _ = _; rw [hz]; rfl
      have HR4 := Lib.hid (HR3.out.trans (if_neg (by rw [HT0.out]; simp)))
      have hzI : decide ((0 : Int) < (i : Int)) = false := by simp [hz]
      have hzN : decide (0 < i) = false := by simp [hz]
      have HZ := Lib.hid hz
      clear HR3 hz
      refine wp_region_held_drew (S := (fun V => V.cell? ⟨g5, 1, none⟩ = some (.int .i64 kn))) (by kernel_rfl) ?_ (fun hHeld => ?_)
      · exact z1
      refine tk 0 29 ?_
      refine tk 1 30 ?_
      refine tk 2 31 ?_
      refine sk 3 32 ?_
      refine sk 4 33 ?_
      refine sk 5 34 ?_
      refine sk 6 35 ?_
      refine sk 7 36 ?_
      refine sk 8 37 ?_
      refine sk 9 38 ?_
      refine sk 10 39 ?_
      refine sk 11 40 ?_
      refine tk 12 41 ?_
      refine tk 13 28 ?_
      refine wpAnyH_done (by kernel_rfl) ?_ _
      clear hHeld hzI hzN
      replace HB2 := Lib.hid HB2.out.drew
      replace z0 : w2.drew.cell? ⟨g5, 0, none⟩ = _ := z0
      replace z2 : w2.drew.cell? ⟨g5, 2, none⟩ = _ := z2
      replace z5 : w2.drew.cell? ⟨g5, 5, none⟩ = _ := z5
      generalize w2.drew = w2 at *
      have hl52 : g5 < w2.heap.size := Nat.lt_of_lt_of_le hl5 HB2.out.size
      by_cases h5 : kd = 6
      · have h5' : (kd == 6) = true := by rw [h5]; rfl
        by_cases h6 : ofB (l.take i) of = false
        · have HE := Lib.hid (HR4.out.trans (if_pos ⟨h5, h6⟩))
          have H5 : Hid ((l.take i).any (nam1 of false) = false) := by show _ = _; rw [of_eq]; exact h6
          clear h5 h6 HR4 HLO
          go_wp2_with (first | (go_at_call 112; refine (HN.out of false w2 HB2.out).mono ?_; rintro e w3 ⟨rfl, hb3⟩; rw [H5.out]; obtain ⟨hcc3, hff3⟩ := bcell hb3; have hs3 := hb3.size; have HB3 := Lib.hid (HB2.out.trans (hb3.mono HB2.out.size)); clear hb3))
          go_ret
          exact HEND.out _ _ HB3.out HE.out.symm
        · have H5 : Hid ((l.take i).any (nam1 of false) = true) := by show _ = _; rw [of_eq]; simpa using h6
          have HE := Lib.hid ((HR4.out.trans (if_neg (fun h => h6 h.2))).trans (if_neg (fun h => by have := h.1; omega)))
          have h7 : (kd == 5) = false := by rw [h5]; rfl
          clear h5 h6 HR4 HLO
          go_wp2_with (first | (go_at_call 112; refine (HN.out of false w2 HB2.out).mono ?_; rintro e w3 ⟨rfl, hb3⟩; rw [H5.out]; obtain ⟨hcc3, hff3⟩ := bcell hb3; have hs3 := hb3.size; have HB3 := Lib.hid (HB2.out.trans (hb3.mono HB2.out.size)); clear hb3))
          go_ret
          exact HEND.out _ _ HB3.out HE.out.symm
      · have h5' : (kd == 6) = false := by simpa using h5
        have HR5 := Lib.hid (HR4.out.trans (if_neg (fun h => h5 h.1)))
        clear HR4 h5
        by_cases h6 : kd = 5
        · have h6' : (kd == 5) = true := by rw [h6]; rfl
          have hw1 : IntKind.i64.wrap ((i : Int) + 1) = ((i + 1 : Nat) : Int) := IntWalk.i64_in _ (by omega)
          have hi1 : (0 : Int) ≤ ((i + 1 : Nat) : Int) := by omega
          have hi2 : ((i + 1 : Nat) : Int) ≤ (c : Int) := by omega
          by_cases h7 : circB (l.take i ++ [⟨id, kn, kd, x, y, of⟩]) = true
          · have HE := Lib.hid (HR5.out.trans (if_pos ⟨h6, h7⟩))
            have H6 := Lib.hid h7
            clear h6 h7 HR5 HN
            go_wp2_with (first | (go_at_call 115; refine (HLO.out w2 HB2.out).mono ?_; rintro e w3 ⟨rfl, hb3⟩; rw [H6.out]; have HB3 := Lib.hid (HB2.out.trans (hb3.mono HB2.out.size)); clear hb3))
            go_ret
            exact HEND.out _ _ HB3.out HE.out.symm
          · have HE := Lib.hid (HR5.out.trans (if_neg (fun h => h7 h.2)))
            have H6 : Hid (circB (l.take i ++ [⟨id, kn, kd, x, y, of⟩]) = false) := by show _ = _; simpa using h7
            clear h6 h7 HR5 HN
            go_wp2_with (first | (go_at_call 115; refine (HLO.out w2 HB2.out).mono ?_; rintro e w3 ⟨rfl, hb3⟩; rw [H6.out]; have HB3 := Lib.hid (HB2.out.trans (hb3.mono HB2.out.size)); clear hb3))
            go_ret
            exact HEND.out _ _ HB3.out HE.out.symm
        · have h6' : (kd == 5) = false := by simpa using h6
          have HE := Lib.hid (HR5.out.trans (if_neg (fun h => h6 h.1)))
          clear h6 HR5 HN HLO
          go_wp2
          go_ret
          exact HEND.out _ _ HB2.out HE.out.symm
    obtain ⟨j, hj⟩ : ∃ j, i = j + 1 := ⟨i - 1, by omega⟩
    have HPV := Lib.hid (HPREV.out j hj ⟨id, kn, kd, x, y, of⟩)
    have hpc := HPC.out j hj w2 (HBW.out.trans (HB2.out.mono HSZ.out))
    generalize (l[j]?.map Rul.known).getD 0 = pk at *
    have hzI : decide ((0 : Int) < (i : Int)) = true := decide_eq_true (by omega)
    have hzN : decide (0 < i) = true := decide_eq_true (by omega)
    have hw1 : IntKind.i64.wrap ((i : Int) - 1) = (j : Int) := by rw [hj]; exact (IntWalk.i64_in _ (by omega)).trans (by omega)
    have hjl : (j : Int) < (l.length : Int) := by omega
    have hj0 : (0 : Int) ≤ (j : Int) := by omega
    have HJ := Lib.hid hj
    clear hj hz
    by_cases h4 : kn < pk
    · have HE := Lib.hid (HR3.out.trans (if_pos (by rw [HPV.out]; exact decide_eq_true h4)))
      clear HR3
      refine wp_region_held_drew (S := (fun V => V.cell? ⟨g5, 1, none⟩ = some (.int .i64 kn) ∧ V.cell? ⟨(ad.add (j * 6)).block, (ad.add (j * 6)).off + 1, none⟩ = some (.int .i64 pk))) (by kernel_rfl) ?_ (fun hHeld => ?_)
      · exact ⟨z1, hpc⟩
      refine tk 0 29 ?_
      refine tk 1 30 ?_
      refine tk 2 31 ?_
      refine tk 3 32 ?_
      refine tk 4 33 ?_
      refine tk 5 34 ?_
      refine tk 6 35 ?_
      refine tk 7 36 ?_
      refine tk 8 37 ?_
      refine tk 9 38 ?_
      refine tk 10 39 ?_
      refine tk 11 40 ?_
      refine tk 12 41 ?_
      refine tk 13 28 ?_
      refine wpAnyH_done (by kernel_rfl) ?_ _
      clear hHeld HN HLO
      go_wp2
      go_ret
      exact HEND.out _ _ HB2.out.drew HE.out.symm
    · have HR4 := Lib.hid (HR3.out.trans (if_neg (by rw [HPV.out]; simpa using h4)))
      clear HR3
      refine wp_region_held_drew (S := (fun V => V.cell? ⟨g5, 1, none⟩ = some (.int .i64 kn) ∧ V.cell? ⟨(ad.add (j * 6)).block, (ad.add (j * 6)).off + 1, none⟩ = some (.int .i64 pk))) (by kernel_rfl) ?_ (fun hHeld => ?_)
      · exact ⟨z1, hpc⟩
      refine tk 0 29 ?_
      refine tk 1 30 ?_
      refine tk 2 31 ?_
      refine tk 3 32 ?_
      refine tk 4 33 ?_
      refine tk 5 34 ?_
      refine tk 6 35 ?_
      refine tk 7 36 ?_
      refine tk 8 37 ?_
      refine tk 9 38 ?_
      refine tk 10 39 ?_
      refine tk 11 40 ?_
      refine tk 12 41 ?_
      refine tk 13 28 ?_
      refine wpAnyH_done (by kernel_rfl) ?_ _
      clear hHeld hpc hw1 hzI hzN
      replace HB2 := Lib.hid HB2.out.drew
      replace z0 : w2.drew.cell? ⟨g5, 0, none⟩ = _ := z0
      replace z2 : w2.drew.cell? ⟨g5, 2, none⟩ = _ := z2
      replace z5 : w2.drew.cell? ⟨g5, 5, none⟩ = _ := z5
      generalize w2.drew = w2 at *
      have hl52 : g5 < w2.heap.size := Nat.lt_of_lt_of_le hl5 HB2.out.size
      by_cases h5 : kd = 6
      · have h5' : (kd == 6) = true := by rw [h5]; rfl
        by_cases h6 : ofB (l.take i) of = false
        · have HE := Lib.hid (HR4.out.trans (if_pos ⟨h5, h6⟩))
          have H5 : Hid ((l.take i).any (nam1 of false) = false) := by show _ = _; rw [of_eq]; exact h6
          clear h5 h6 HR4 HLO
          go_wp2_with (first | (go_at_call 112; refine (HN.out of false w2 HB2.out).mono ?_; rintro e w3 ⟨rfl, hb3⟩; rw [H5.out]; obtain ⟨hcc3, hff3⟩ := bcell hb3; have hs3 := hb3.size; have HB3 := Lib.hid (HB2.out.trans (hb3.mono HB2.out.size)); clear hb3))
          go_ret
          exact HEND.out _ _ HB3.out HE.out.symm
        · have H5 : Hid ((l.take i).any (nam1 of false) = true) := by show _ = _; rw [of_eq]; simpa using h6
          have HE := Lib.hid ((HR4.out.trans (if_neg (fun h => h6 h.2))).trans (if_neg (fun h => by have := h.1; omega)))
          have h7 : (kd == 5) = false := by rw [h5]; rfl
          clear h5 h6 HR4 HLO
          go_wp2_with (first | (go_at_call 112; refine (HN.out of false w2 HB2.out).mono ?_; rintro e w3 ⟨rfl, hb3⟩; rw [H5.out]; obtain ⟨hcc3, hff3⟩ := bcell hb3; have hs3 := hb3.size; have HB3 := Lib.hid (HB2.out.trans (hb3.mono HB2.out.size)); clear hb3))
          go_ret
          exact HEND.out _ _ HB3.out HE.out.symm
      · have h5' : (kd == 6) = false := by simpa using h5
        have HR5 := Lib.hid (HR4.out.trans (if_neg (fun h => h5 h.1)))
        clear HR4 h5
        by_cases h6 : kd = 5
        · have h6' : (kd == 5) = true := by rw [h6]; rfl
          have hw1 : IntKind.i64.wrap ((i : Int) + 1) = ((i + 1 : Nat) : Int) := IntWalk.i64_in _ (by omega)
          have hi1 : (0 : Int) ≤ ((i + 1 : Nat) : Int) := by omega
          have hi2 : ((i + 1 : Nat) : Int) ≤ (c : Int) := by omega
          by_cases h7 : circB (l.take i ++ [⟨id, kn, kd, x, y, of⟩]) = true
          · have HE := Lib.hid (HR5.out.trans (if_pos ⟨h6, h7⟩))
            have H6 := Lib.hid h7
            clear h6 h7 HR5 HN
            go_wp2_with (first | (go_at_call 115; refine (HLO.out w2 HB2.out).mono ?_; rintro e w3 ⟨rfl, hb3⟩; rw [H6.out]; have HB3 := Lib.hid (HB2.out.trans (hb3.mono HB2.out.size)); clear hb3))
            go_ret
            exact HEND.out _ _ HB3.out HE.out.symm
          · have HE := Lib.hid (HR5.out.trans (if_neg (fun h => h7 h.2)))
            have H6 : Hid (circB (l.take i ++ [⟨id, kn, kd, x, y, of⟩]) = false) := by show _ = _; simpa using h7
            clear h6 h7 HR5 HN
            go_wp2_with (first | (go_at_call 115; refine (HLO.out w2 HB2.out).mono ?_; rintro e w3 ⟨rfl, hb3⟩; rw [H6.out]; have HB3 := Lib.hid (HB2.out.trans (hb3.mono HB2.out.size)); clear hb3))
            go_ret
            exact HEND.out _ _ HB3.out HE.out.symm
        · have h6' : (kd == 5) = false := by simpa using h6
          have HE := Lib.hid (HR5.out.trans (if_neg (fun h => h6 h.1)))
          clear h6 HR5 HN HLO
          go_wp2
          go_ret
          exact HEND.out _ _ HB2.out HE.out.symm
end Go.Proofs.YtkfeagokmcakgaaGreatDoor

namespace Go.Proofs.YtkfeagokmcakgaaGreatDoor
open Go.RowKit

def Int2End (p : Int × Int) (w : World) (e : Ending) (w' : World) : Prop := e = .returned (.tuple #[.int .i64 p.1, .int .i64 p.2]) ∧ Below w.heap.size w w'
theorem fine_nil : Fine [] := fun i hi => absurd hi (by simp)
theorem fine_succ {l : List Rul} {k : Nat} (hk : k < l.length) (h : Fine (l.take k)) (e : refE (l.take k) l[k] = 0) : Fine (l.take (k + 1)) := by
  rw [← List.take_append_getElem hk]; exact h.snoc e
set_option maxHeartbeats 1000000 in
theorem check_any (l : List Rul) (A : Option Addr) (c : Nat) (w : World) (hl : Lies w w.heap.size A (rulesC l)) (hok : RulOK l) (hm : l.length ≤ 1000) (hc : l.length ≤ c) (hc2 : c ≤ maxLen) :
    Calls Tryz.prog 46 #[.agg #[.slice A l.length c]] w (Int2End (chkL l) w) := by
  have HR : Hid (∀ (k : Nat) (hk : k < l.length) W, Below w.heap.size w W → Calls Tryz.prog 66 #[.slice A l.length c, .int .i64 k] W (IntEnd (refE (l.take k) l[k]) W)) := fun k hk W hb => refused_any l A c k W ((hl.below hb (Nat.le_refl _)).more hb.size) hok hk hm hc hc2
  have HF0 : Hid (Fine (l.take 0)) := by show Fine _; simpa using fine_nil
  have HOK : Hid (Fine l → chkL l = (0, 0)) := chkL_ok
  have HBAD : Hid (∀ (k : Nat) (hk : k < l.length), Fine (l.take k) → refE (l.take k) l[k] ≠ 0 → chkL l = ((k : Int), refE (l.take k) l[k])) := fun k hk h e => chkL_bad hk h e
  have HS : Hid (∀ (k : Nat) (hk : k < l.length), Fine (l.take k) → refE (l.take k) l[k] = 0 → Fine (l.take (k + 1))) := fun k hk h e => fine_succ hk h e
  clear hl hok
  go_enter Tryz.func46, Tryz.ntmps46
  go_wp2
  go_loopw [9] (fun y wr => ∃ k : Nat, k ≤ l.length ∧ y = .int .i64 k ∧ Hid (Fine (l.take k)) ∧ Below w.heap.size w wr ∧ Bk wr w.heap.size 25 #[.slice A l.length c]) (fun y _ => l.length - (intOf y).toNat)
  case atStart => exact ⟨0, by omega, rfl, HF0, (by repeat (first | with_reducible exact Below.refl _ _ | with_reducible assumption | with_reducible refine Below.drew ?_ | with_reducible refine below_drewN ?_ _ | (with_reducible refine Below.alloc ?_ ?_ _; rotate_left; (try simp) <;> omega) | (with_reducible refine Below.setCell ?_ ?_ _; rotate_left; (try simp) <;> omega))), Bk.new _ _ _⟩
  case round =>
    obtain ⟨k, hk, rfl, hf, hbw, hbk⟩ := hrel
    have x0 := hbk.cell 0 rfl
    have hbl := hbk.lt
    by_cases hlt : k < l.length
    · have HC := Lib.hid (HR.out k hlt wr hbw)
      have HB1 := Lib.hid (HBAD.out k hlt hf.out)
      have HS1 := Lib.hid (HS.out k hlt hf.out)
      generalize refE (l.take k) l[k] = R at *
      by_cases hR : R = 0
      · have HF := Lib.hid (HS1.out hR)
        have hR' : (R == 0) = true := by rw [hR]; rfl
        have hR2 : (R != 0) = false := by rw [bne, hR']; rfl
        have HRZ := Lib.hid hR
        clear hR HB1 HS1 HS HBAD HR hf
        go_wp2_with (go_at_call 66; refine HC.out.mono ?_; rintro e w1 ⟨rfl, hb⟩)
        go_roundw
        case rel => exact ⟨k + 1, by omega, by go_num, HF, hbw.trans (hb.mono hbw.size), hbk.below hb hbl⟩
        case measure => simp [intOf]; omega
      · have HF := Lib.hid (HB1.out hR)
        have hR' : (R == 0) = false := by simpa using hR
        have hR2 : (R != 0) = true := by rw [bne, hR']; rfl
        have HRZ := Lib.hid hR
        clear hR HB1 HS1 HS HBAD HR hf
        go_wp2_with (go_at_call 66; refine HC.out.mono ?_; rintro e w1 ⟨rfl, hb⟩)
        go_ret2
        refine ⟨?_, hbw.trans (hb.mono hbw.size)⟩
        rw [HF.out]; rfl
    · obtain rfl : k = l.length := by omega
      have HF : Hid (chkL l = (0, 0)) := HOK.out (by have := hf.out; rwa [List.take_length] at this)
      clear HS HBAD HR hf
      go_wp2
      go_ret2
      refine ⟨?_, hbw⟩
      rw [HF.out]; rfl
end Go.Proofs.YtkfeagokmcakgaaGreatDoor

namespace Go.Proofs
open Go.Shelf
def Tryz.lays169_ren : Go.Shelf.Ren := ⟨fun | 169 => 70 | n => n, fun | 70 => 83 | 9 => 9 | 0 => 0 | 72 => 86 | 37 => 84 | 127 => 142 | 3 => 3 | 5 => 5 | n => n, fun | n => n⟩
theorem Tryz.lays169 : Go.Proofs.Lays.n169 Tryz.prog Tryz.lays169_ren := {
  mixed := by kernel_rfl
  f169 := Tryz.func70.trans (congrArg some (by kernel_rfl))
  t0 := Tryz.underlying0
  a0 := Tryz.isAgg0
  z0 := Tryz.sizeOf0
  v0 := Tryz.zeroValue0
  t3 := Tryz.underlying3
  a3 := Tryz.isAgg3
  z3 := Tryz.sizeOf3
  v3 := Tryz.zeroValue3
  t9 := Tryz.underlying9
  a9 := Tryz.isAgg9
  z9 := Tryz.sizeOf9
  v9 := Tryz.zeroValue9
  t37 := Tryz.underlying84
  a37 := Tryz.isAgg84
  z37 := Tryz.sizeOf84
  v37 := Tryz.zeroValue84
  t70 := Tryz.underlying83
  a70 := Tryz.isAgg83
  z70 := Tryz.sizeOf83
  v70 := Tryz.zeroValue83
  t72 := Tryz.underlying86
  a72 := Tryz.isAgg86
  z72 := Tryz.sizeOf86
  v72 := Tryz.zeroValue86
  t127 := Tryz.underlying142
  a127 := Tryz.isAgg142
  z127 := Tryz.sizeOf142
  v127 := Tryz.zeroValue142 }
theorem Tryz.Builder_Extra_169 : Builder.Extra Tryz.prog Tryz.lays169_ren := {
  sizeBuilder := by kernel_rfl
  liesBuilder := by kernel_rfl
  t5 := Tryz.underlying5
  a5 := Tryz.isAgg5
  z5 := Tryz.sizeOf5
  v5 := Tryz.zeroValue5
  infoByte := by kernel_rfl
  cellsByte := by kernel_rfl
  sizeByte := by kernel_rfl
  neB5 := by decide }
def Tryz.lays156_ren : Go.Shelf.Ren := ⟨fun | 156 => 83 | 165 => 126 | 166 => 69 | 169 => 70 | 240 => 116 | 241 => 153 | 276 => 145 | 277 => 175 | n => n, fun | 31 => 34 | 9 => 9 | 3 => 3 | 4 => 4 | 0 => 0 | 20 => 20 | 72 => 86 | 76 => 89 | 70 => 83 | 37 => 84 | 75 => 88 | 127 => 142 | 164 => 161 | 5 => 5 | 80 => 91 | n => n, fun | n => n⟩
theorem Tryz.lays156 : Go.Proofs.Lays.n156 Tryz.prog Tryz.lays156_ren := {
  mixed := by kernel_rfl
  f156 := Tryz.func83.trans (congrArg some (by kernel_rfl))
  f165 := Tryz.func126.trans (congrArg some (by kernel_rfl))
  f166 := Tryz.func69.trans (congrArg some (by kernel_rfl))
  f169 := Tryz.func70.trans (congrArg some (by kernel_rfl))
  f240 := Tryz.func116.trans (congrArg some (by kernel_rfl))
  f241 := Tryz.func153.trans (congrArg some (by kernel_rfl))
  f276 := Tryz.func145.trans (congrArg some (by kernel_rfl))
  f277 := Tryz.func175.trans (congrArg some (by kernel_rfl))
  t0 := Tryz.underlying0
  a0 := Tryz.isAgg0
  z0 := Tryz.sizeOf0
  v0 := Tryz.zeroValue0
  t3 := Tryz.underlying3
  a3 := Tryz.isAgg3
  z3 := Tryz.sizeOf3
  v3 := Tryz.zeroValue3
  t4 := Tryz.underlying4
  a4 := Tryz.isAgg4
  z4 := Tryz.sizeOf4
  v4 := Tryz.zeroValue4
  t9 := Tryz.underlying9
  a9 := Tryz.isAgg9
  z9 := Tryz.sizeOf9
  v9 := Tryz.zeroValue9
  t20 := Tryz.underlying20
  a20 := Tryz.isAgg20
  z20 := Tryz.sizeOf20
  v20 := Tryz.zeroValue20
  t31 := Tryz.underlying34
  a31 := Tryz.isAgg34
  z31 := Tryz.sizeOf34
  v31 := Tryz.zeroValue34
  t37 := Tryz.underlying84
  a37 := Tryz.isAgg84
  z37 := Tryz.sizeOf84
  v37 := Tryz.zeroValue84
  t70 := Tryz.underlying83
  a70 := Tryz.isAgg83
  z70 := Tryz.sizeOf83
  v70 := Tryz.zeroValue83
  t72 := Tryz.underlying86
  a72 := Tryz.isAgg86
  z72 := Tryz.sizeOf86
  v72 := Tryz.zeroValue86
  t75 := Tryz.underlying88
  a75 := Tryz.isAgg88
  z75 := Tryz.sizeOf88
  v75 := Tryz.zeroValue88
  t76 := Tryz.underlying89
  a76 := Tryz.isAgg89
  z76 := Tryz.sizeOf89
  v76 := Tryz.zeroValue89
  t127 := Tryz.underlying142
  a127 := Tryz.isAgg142
  z127 := Tryz.sizeOf142
  v127 := Tryz.zeroValue142
  t164 := Tryz.underlying161
  a164 := Tryz.isAgg161
  z164 := Tryz.sizeOf161
  v164 := Tryz.zeroValue161 }
theorem Tryz.Builder_Extra_156 : Builder.Extra Tryz.prog Tryz.lays156_ren := {
  sizeBuilder := by kernel_rfl
  liesBuilder := by kernel_rfl
  t5 := Tryz.underlying5
  a5 := Tryz.isAgg5
  z5 := Tryz.sizeOf5
  v5 := Tryz.zeroValue5
  infoByte := by kernel_rfl
  cellsByte := by kernel_rfl
  sizeByte := by kernel_rfl
  neB5 := by decide }
open Go.RowKit in
/-- strings.Join: "Join concatenates the elements of its first argument to create a single string. The separator string sep is placed between elements in the resulting string.": HOWEVER MANY ELEMENTS. Below the heap's end the world is as it was. (LAID: no walk: one application.) -/
theorem Tryz.strings_Join (bk o c : Nat) (xs : List ByteArray) (sep : ByteArray) (w : World) (hcells : ∀ (j : Nat) x, xs[j]? = some x → w.cell? ⟨bk, o + j, none⟩ = some (.string x)) (hbk : bk < w.heap.size) (hN : xs.length ≤ 140737488355328) (hcap : xs.length ≤ c) (hlen : (Lib.join (xs.map (·.data.toList)) sep.data.toList).length ≤ 140737488355328) :
    Calls Tryz.prog 83 #[.slice (some ⟨bk, o, none⟩) xs.length c, .string sep] w fun e w' => e = .returned (.string ⟨(Lib.join (xs.map (·.data.toList)) sep.data.toList).toArray⟩) ∧ Below w.heap.size w w' := Any.strings_Join Tryz.lays156 Tryz.Builder_Extra_156 bk o c xs sep w hcells hbk hN hcap hlen
open Go.RowKit in
/-- (*strings.Builder).String: "String returns the accumulated string.": WHATEVER THE BUILDER HOLDS; THE FORM '_k': OVER 'Lib.IsBuilderF' (a builder that 'String()' may have read), AND WITH THE FRAME THAT REACHES ABOVE THE BUILDER: 'Lib.OthersKept': every block that is not b and is no row of uint8's stands as it stood: the iterator of a range among them. (LAID: no walk: one application.) -/
theorem Tryz.Builder_String_any_k (B b : Nat) (l : List UInt8) (w : World) (h : Lib.IsBuilderF 86 5 B b (Lib.byteCells l) w) (hBw : B ≤ w.heap.size) :
    Calls Tryz.prog 70 #[.pointer (some ⟨b, 0, none⟩)] w fun e w' => e = .returned (.string ⟨l.toArray⟩) ∧ (Lib.IsBuilderF 86 5 B b (Lib.byteCells l) w' ∧ Below B w w' ∧ Lib.OthersKept 5 (some b) w w') := Any.Builder_String_any_k Tryz.lays169 Tryz.Builder_Extra_169 B b l w h hBw
def Tryz.laysM171_ren : Go.Shelf.Ren := ⟨fun | 171 => 84 | 243 => 127 | 246 => 154 | 283 => 176 | 284 => 177 | 285 => 178 | 286 => 179 | 129 => 166 | 317 => 205 | 318 => 206 | 319 => 207 | 320 => 208 | 337 => 219 | 338 => 220 | n => n, fun | 3 => 3 | 9 => 9 | 2 => 2 | 4 => 4 | 171 => 184 | 0 => 0 | 53 => 176 | 37 => 84 | 5 => 5 | 173 => 186 | 212 => 208 | 51 => 174 | 20 => 20 | 213 => 209 | 46 => 151 | 232 => 232 | 233 => 233 | n => n, fun | 17 => 1 | 18 => 6 | 19 => 7 | n => n⟩
theorem Tryz.laysM171 : Go.Proofs.LaysM.n171 Tryz.prog Tryz.laysM171_ren := {
  mixed := by kernel_rfl
  f129 := Tryz.func166.trans (congrArg some (by kernel_rfl))
  f171 := Tryz.func84.trans (congrArg some (by kernel_rfl))
  f243 := Tryz.func127.trans (congrArg some (by kernel_rfl))
  f246 := Tryz.func154.trans (congrArg some (by kernel_rfl))
  f283 := Tryz.func176.trans (congrArg some (by kernel_rfl))
  f284 := Tryz.func177.trans (congrArg some (by kernel_rfl))
  f285 := Tryz.func178.trans (congrArg some (by kernel_rfl))
  f286 := Tryz.func179.trans (congrArg some (by kernel_rfl))
  f317 := Tryz.func205.trans (congrArg some (by kernel_rfl))
  f318 := Tryz.func206.trans (congrArg some (by kernel_rfl))
  f319 := Tryz.func207.trans (congrArg some (by kernel_rfl))
  f320 := Tryz.func208.trans (congrArg some (by kernel_rfl))
  f337 := Tryz.func219.trans (congrArg some (by kernel_rfl))
  f338 := Tryz.func220.trans (congrArg some (by kernel_rfl))
  t0 := Tryz.underlying0
  a0 := Tryz.isAgg0
  z0 := Tryz.sizeOf0
  v0 := Tryz.zeroValue0
  t2 := Tryz.underlying2
  a2 := Tryz.isAgg2
  z2 := Tryz.sizeOf2
  v2 := Tryz.zeroValue2
  t3 := Tryz.underlying3
  a3 := Tryz.isAgg3
  z3 := Tryz.sizeOf3
  v3 := Tryz.zeroValue3
  t4 := Tryz.underlying4
  a4 := Tryz.isAgg4
  z4 := Tryz.sizeOf4
  v4 := Tryz.zeroValue4
  t5 := Tryz.underlying5
  a5 := Tryz.isAgg5
  z5 := Tryz.sizeOf5
  v5 := Tryz.zeroValue5
  t9 := Tryz.underlying9
  a9 := Tryz.isAgg9
  z9 := Tryz.sizeOf9
  v9 := Tryz.zeroValue9
  t20 := Tryz.underlying20
  a20 := Tryz.isAgg20
  z20 := Tryz.sizeOf20
  v20 := Tryz.zeroValue20
  t37 := Tryz.underlying84
  a37 := Tryz.isAgg84
  z37 := Tryz.sizeOf84
  v37 := Tryz.zeroValue84
  t46 := Tryz.underlying151
  a46 := Tryz.isAgg151
  z46 := Tryz.sizeOf151
  v46 := Tryz.zeroValue151
  t51 := Tryz.underlying174
  a51 := Tryz.isAgg174
  z51 := Tryz.sizeOf174
  v51 := Tryz.zeroValue174
  t53 := Tryz.underlying176
  a53 := Tryz.isAgg176
  z53 := Tryz.sizeOf176
  v53 := Tryz.zeroValue176
  t171 := Tryz.underlying184
  a171 := Tryz.isAgg184
  z171 := Tryz.sizeOf184
  v171 := Tryz.zeroValue184
  t173 := Tryz.underlying186
  a173 := Tryz.isAgg186
  z173 := Tryz.sizeOf186
  v173 := Tryz.zeroValue186
  t212 := Tryz.underlying208
  a212 := Tryz.isAgg208
  z212 := Tryz.sizeOf208
  v212 := Tryz.zeroValue208
  t213 := Tryz.underlying209
  a213 := Tryz.isAgg209
  z213 := Tryz.sizeOf209
  t232 := Tryz.underlying232
  a232 := Tryz.isAgg232
  z232 := Tryz.sizeOf232
  v232 := Tryz.zeroValue232
  t233 := Tryz.underlying233
  a233 := Tryz.isAgg233
  z233 := Tryz.sizeOf233
  v233 := Tryz.zeroValue233
  g17 := by kernel_rfl
  g18 := by kernel_rfl
  g19 := by kernel_rfl
  i0 := by kernel_rfl
  i2 := by kernel_rfl
  i3 := by kernel_rfl
  i4 := by kernel_rfl
  i5 := by kernel_rfl
  i9 := by kernel_rfl
  i20 := by kernel_rfl
  i37 := by kernel_rfl
  i46 := by kernel_rfl
  i51 := by kernel_rfl
  i53 := by kernel_rfl
  i171 := by kernel_rfl
  i173 := by kernel_rfl
  i212 := by kernel_rfl
  i232 := by kernel_rfl
  i233 := by kernel_rfl
  m17 := by kernel_rfl
  m18 := by kernel_rfl
  m19 := by kernel_rfl }
open Go.RowKit Go.Sort Go.Lib in
/-- strconv.Itoa: "Itoa is equivalent to FormatInt(int64(i), 10).": i's DECIMAL NUMERAL ('Lib.itoa': a '-' where i is negative, then the digits), FOR EVERY int. The world behind the call: the world before it, new blocks behind the heap (the library's 'var a [24]byte'), draws. (LAID: no walk: one application.) -/
theorem Tryz.strconv_Itoa (n : Int) (h0 : -9223372036854775808 ≤ n) (h1 : n ≤ 9223372036854775807) (w : World) (htab : Lib.TabIs Tryz.prog w "internal/strconv.uint64pow10" .u64 Lib.pow10Tab) :
    Calls Tryz.prog 84 #[.int .i64 n] w fun e w' => e = .returned (.string ⟨(Lib.itoa n).toArray⟩) ∧ ∃ k os, w' = grow (w.drewN k) os := Any.strconv_Itoa Tryz.laysM171 n h0 h1 w htab
def Tryz.laysC172_ren : Go.Shelf.Ren := ⟨fun | 172 => 140 | 244 => 173 | 245 => 174 | 247 => 200 | 279 => 201 | 280 => 202 | 281 => 203 | 282 => 204 | 287 => 216 | 316 => 217 | 171 => 84 | 205 => 218 | 321 => 222 | 322 => 223 | 243 => 127 | 246 => 154 | 283 => 176 | 284 => 177 | 285 => 178 | 286 => 179 | 129 => 166 | 317 => 205 | 318 => 206 | 319 => 207 | 320 => 208 | 337 => 219 | 338 => 220 | n => n, fun | 9 => 9 | 3 => 3 | 75 => 88 | 76 => 89 | 4 => 4 | 5 => 5 | 167 => 201 | 37 => 84 | 0 => 0 | 85 => 202 | 2 => 2 | 168 => 204 | 53 => 176 | 175 => 221 | 46 => 151 | 210 => 225 | 127 => 142 | 145 => 231 | 143 => 229 | 21 => 21 | 171 => 184 | 173 => 186 | 212 => 208 | 51 => 174 | 20 => 20 | 213 => 209 | 232 => 232 | 233 => 233 | 80 => 91 | n => n, fun | 15 => 4 | 16 => 5 | 17 => 1 | 18 => 6 | 19 => 7 | n => n⟩
theorem Tryz.laysC172 : Go.Proofs.LaysC.n172 Tryz.prog Tryz.laysC172_ren := {
  mixed := by kernel_rfl
  f129 := Tryz.func166.trans (congrArg some (by kernel_rfl))
  f171 := Tryz.func84.trans (congrArg some (by kernel_rfl))
  f172 := Tryz.func140.trans (congrArg some (by kernel_rfl))
  f205 := Tryz.func218.trans (congrArg some (by kernel_rfl))
  f243 := Tryz.func127.trans (congrArg some (by kernel_rfl))
  f244 := Tryz.func173.trans (congrArg some (by kernel_rfl))
  f245 := Tryz.func174.trans (congrArg some (by kernel_rfl))
  f246 := Tryz.func154.trans (congrArg some (by kernel_rfl))
  f247 := Tryz.func200.trans (congrArg some (by kernel_rfl))
  f279 := Tryz.func201.trans (congrArg some (by kernel_rfl))
  f280 := Tryz.func202.trans (congrArg some (by kernel_rfl))
  f281 := Tryz.func203.trans (congrArg some (by kernel_rfl))
  f282 := Tryz.func204.trans (congrArg some (by kernel_rfl))
  f283 := Tryz.func176.trans (congrArg some (by kernel_rfl))
  f284 := Tryz.func177.trans (congrArg some (by kernel_rfl))
  f285 := Tryz.func178.trans (congrArg some (by kernel_rfl))
  f286 := Tryz.func179.trans (congrArg some (by kernel_rfl))
  f287 := Tryz.func216.trans (congrArg some (by kernel_rfl))
  f316 := Tryz.func217.trans (congrArg some (by kernel_rfl))
  f317 := Tryz.func205.trans (congrArg some (by kernel_rfl))
  f318 := Tryz.func206.trans (congrArg some (by kernel_rfl))
  f319 := Tryz.func207.trans (congrArg some (by kernel_rfl))
  f320 := Tryz.func208.trans (congrArg some (by kernel_rfl))
  f321 := Tryz.func222.trans (congrArg some (by kernel_rfl))
  f322 := Tryz.func223.trans (congrArg some (by kernel_rfl))
  f337 := Tryz.func219.trans (congrArg some (by kernel_rfl))
  f338 := Tryz.func220.trans (congrArg some (by kernel_rfl))
  t0 := Tryz.underlying0
  a0 := Tryz.isAgg0
  z0 := Tryz.sizeOf0
  v0 := Tryz.zeroValue0
  t2 := Tryz.underlying2
  a2 := Tryz.isAgg2
  z2 := Tryz.sizeOf2
  v2 := Tryz.zeroValue2
  t3 := Tryz.underlying3
  a3 := Tryz.isAgg3
  z3 := Tryz.sizeOf3
  v3 := Tryz.zeroValue3
  t4 := Tryz.underlying4
  a4 := Tryz.isAgg4
  z4 := Tryz.sizeOf4
  v4 := Tryz.zeroValue4
  t5 := Tryz.underlying5
  a5 := Tryz.isAgg5
  z5 := Tryz.sizeOf5
  v5 := Tryz.zeroValue5
  t9 := Tryz.underlying9
  a9 := Tryz.isAgg9
  z9 := Tryz.sizeOf9
  v9 := Tryz.zeroValue9
  t20 := Tryz.underlying20
  a20 := Tryz.isAgg20
  z20 := Tryz.sizeOf20
  v20 := Tryz.zeroValue20
  t21 := Tryz.underlying21
  a21 := Tryz.isAgg21
  z21 := Tryz.sizeOf21
  v21 := Tryz.zeroValue21
  t37 := Tryz.underlying84
  a37 := Tryz.isAgg84
  z37 := Tryz.sizeOf84
  v37 := Tryz.zeroValue84
  t46 := Tryz.underlying151
  a46 := Tryz.isAgg151
  z46 := Tryz.sizeOf151
  v46 := Tryz.zeroValue151
  t51 := Tryz.underlying174
  a51 := Tryz.isAgg174
  z51 := Tryz.sizeOf174
  v51 := Tryz.zeroValue174
  t53 := Tryz.underlying176
  a53 := Tryz.isAgg176
  z53 := Tryz.sizeOf176
  v53 := Tryz.zeroValue176
  t75 := Tryz.underlying88
  a75 := Tryz.isAgg88
  z75 := Tryz.sizeOf88
  v75 := Tryz.zeroValue88
  t76 := Tryz.underlying89
  a76 := Tryz.isAgg89
  z76 := Tryz.sizeOf89
  v76 := Tryz.zeroValue89
  t85 := Tryz.underlying202
  a85 := Tryz.isAgg202
  z85 := Tryz.sizeOf202
  v85 := Tryz.zeroValue202
  t127 := Tryz.underlying142
  a127 := Tryz.isAgg142
  z127 := Tryz.sizeOf142
  v127 := Tryz.zeroValue142
  t143 := Tryz.underlying229
  a143 := Tryz.isAgg229
  z143 := Tryz.sizeOf229
  v143 := Tryz.zeroValue229
  t145 := Tryz.underlying231
  a145 := Tryz.isAgg231
  z145 := Tryz.sizeOf231
  v145 := Tryz.zeroValue231
  t167 := Tryz.underlying201
  a167 := Tryz.isAgg201
  z167 := Tryz.sizeOf201
  v167 := Tryz.zeroValue201
  t168 := Tryz.underlying204
  a168 := Tryz.isAgg204
  z168 := Tryz.sizeOf204
  v168 := Tryz.zeroValue204
  t171 := Tryz.underlying184
  a171 := Tryz.isAgg184
  z171 := Tryz.sizeOf184
  v171 := Tryz.zeroValue184
  t173 := Tryz.underlying186
  a173 := Tryz.isAgg186
  z173 := Tryz.sizeOf186
  v173 := Tryz.zeroValue186
  t175 := Tryz.underlying221
  a175 := Tryz.isAgg221
  z175 := Tryz.sizeOf221
  v175 := Tryz.zeroValue221
  t210 := Tryz.underlying225
  a210 := Tryz.isAgg225
  z210 := Tryz.sizeOf225
  v210 := Tryz.zeroValue225
  t212 := Tryz.underlying208
  a212 := Tryz.isAgg208
  z212 := Tryz.sizeOf208
  v212 := Tryz.zeroValue208
  t213 := Tryz.underlying209
  a213 := Tryz.isAgg209
  z213 := Tryz.sizeOf209
  t232 := Tryz.underlying232
  a232 := Tryz.isAgg232
  z232 := Tryz.sizeOf232
  v232 := Tryz.zeroValue232
  t233 := Tryz.underlying233
  a233 := Tryz.isAgg233
  z233 := Tryz.sizeOf233
  v233 := Tryz.zeroValue233
  g15 := by kernel_rfl
  g16 := by kernel_rfl
  g17 := by kernel_rfl
  g18 := by kernel_rfl
  g19 := by kernel_rfl
  t80 := Tryz.underlying91
  a80 := Tryz.isAgg91
  z80 := Tryz.sizeOf91
  v80 := Tryz.zeroValue91
  i0 := by kernel_rfl
  i2 := by kernel_rfl
  i3 := by kernel_rfl
  i4 := by kernel_rfl
  i5 := by kernel_rfl
  i9 := by kernel_rfl
  i20 := by kernel_rfl
  i21 := by kernel_rfl
  i37 := by kernel_rfl
  i46 := by kernel_rfl
  i51 := by kernel_rfl
  i53 := by kernel_rfl
  i75 := by kernel_rfl
  i76 := by kernel_rfl
  i80 := by kernel_rfl
  i85 := by kernel_rfl
  i127 := by kernel_rfl
  i143 := by kernel_rfl
  i145 := by kernel_rfl
  i167 := by kernel_rfl
  i168 := by kernel_rfl
  i171 := by kernel_rfl
  i173 := by kernel_rfl
  i175 := by kernel_rfl
  i210 := by kernel_rfl
  i212 := by kernel_rfl
  i232 := by kernel_rfl
  i233 := by kernel_rfl
  m15 := by kernel_rfl
  m16 := by kernel_rfl
  m17 := by kernel_rfl
  m18 := by kernel_rfl
  m19 := by kernel_rfl
  c0 := by kernel_rfl
  c2 := by kernel_rfl
  c3 := by kernel_rfl
  c4 := by kernel_rfl
  c5 := by kernel_rfl
  c9 := by kernel_rfl
  c20 := by kernel_rfl
  c21 := by kernel_rfl
  c37 := by kernel_rfl
  c46 := by kernel_rfl
  c51 := by kernel_rfl
  c53 := by kernel_rfl
  c75 := by kernel_rfl
  c76 := by kernel_rfl
  c80 := by kernel_rfl
  c85 := by kernel_rfl
  c127 := by kernel_rfl
  c143 := by kernel_rfl
  c145 := by kernel_rfl
  c167 := by kernel_rfl
  c168 := by kernel_rfl
  c171 := by kernel_rfl
  c173 := by kernel_rfl
  c175 := by kernel_rfl
  c210 := by kernel_rfl
  c212 := by kernel_rfl
  c213 := by kernel_rfl
  c232 := by kernel_rfl
  c233 := by kernel_rfl }
open Go.RowKit in
/-- strconv.Atoi, AT EVERY STRING THAT SPELLS AN int ('Lib.atoiAll .. = .ok v'; of whatever length: leading zeros count): v, AND NO ERROR. The world: as it was, or with the one new row that '[]byte(..)' lays. (LAID: no walk: one application.) -/
theorem Tryz.strconv_Atoi_ok (s : ByteArray) (hmax : s.size ≤ 9223372036854775806) (v : Int) (h : Lib.atoiAll s.data.toList = .ok v) (w : World) :
    Calls Tryz.prog 140 #[.string s] w fun e w' => e = .returned (.tuple #[.int .i64 v, .nilIface]) ∧ (w' = w ∨ ∃ t, w' = Lib.bytesWorld w 5 t) := Any.strconv_Atoi_ok Tryz.laysC172 s hmax v h w
open Go.RowKit in
/-- strconv.Atoi, AT EVERY STRING THAT IS NO DECIMAL NUMERAL ('.syntax'): 0, AND AN ERROR THAT IS NOT nil: a *NumError in a new block N: {Func: "Atoi", Num: s's bytes, Err: what the variable ErrSyntax holds}. Of what was there nothing has turned. (LAID: no walk: one application.) -/
theorem Tryz.strconv_Atoi_syntax (s : ByteArray) (hlim : s.size ≤ 281474976710656) (h : Lib.atoiAll s.data.toList = .«syntax») (ev : Value) (w : World) (hv : w.cell? ⟨4, 0, none⟩ = some ev) (hev : ev = .nilIface ∨ ∃ te pe, ev = .iface te pe) :
    Calls Tryz.prog 140 #[.string s] w fun e w' => ∃ N, e = .returned (.tuple #[.int .i64 (0), .iface 204 (.pointer (some ⟨N, 0, none⟩))]) ∧ w.heap.size ≤ N ∧ w'.heap[N]? = some (.cells #[.string ⟨#[65, 116, 111, 105]⟩, .string s, ev] 225 (0, 0)) ∧ Below w.heap.size w w' := Any.strconv_Atoi_syntax Tryz.laysC172 s hlim h ev w hv hev
open Go.RowKit in
/-- strconv.Atoi, AT EVERY NUMERAL THAT NO int HOLDS ('.range'): THE GREATEST OR THE LEAST int, BY THE SIGN ('Lib.atoiSat'), AND AN ERROR THAT IS NOT nil: a *NumError in a new block N: {Func: "Atoi", Num: s's bytes, Err: what the variable ErrRange holds}. Of what was there nothing has turned. (LAID: no walk: one application.) -/
theorem Tryz.strconv_Atoi_range (s : ByteArray) (hlim : s.size ≤ 281474976710656) (h : Lib.atoiAll s.data.toList = .range) (ev : Value) (w : World) (hv : w.cell? ⟨5, 0, none⟩ = some ev) (hev : ev = .nilIface ∨ ∃ te pe, ev = .iface te pe) :
    Calls Tryz.prog 140 #[.string s] w fun e w' => ∃ N, e = .returned (.tuple #[.int .i64 (Lib.atoiSat s.data.toList), .iface 204 (.pointer (some ⟨N, 0, none⟩))]) ∧ w.heap.size ≤ N ∧ w'.heap[N]? = some (.cells #[.string ⟨#[65, 116, 111, 105]⟩, .string s, ev] 225 (0, 0)) ∧ Below w.heap.size w w' := Any.strconv_Atoi_range Tryz.laysC172 s hlim h ev w hv hev
def Tryz.lays189_ren : Go.Shelf.Ren := ⟨fun | 189 => 94 | 125 => 131 | 257 => 130 | 128 => 165 | 129 => 166 | 294 => 156 | 295 => 157 | 296 => 158 | 297 => 159 | 298 => 160 | 299 => 161 | 216 => 162 | 300 => 163 | 301 => 164 | 328 => 189 | 329 => 190 | 330 => 191 | 331 => 192 | 332 => 193 | 215 => 194 | 343 => 213 | n => n, fun | 28 => 42 | 3 => 3 | 46 => 151 | 0 => 0 | 51 => 174 | 53 => 176 | 4 => 4 | 183 => 167 | 182 => 166 | 131 => 97 | 5 => 5 | 9 => 9 | 218 => 194 | 222 => 198 | 228 => 212 | 229 => 213 | n => n, fun | n => n⟩
theorem Tryz.lays189 : Go.Proofs.Lays.n189 Tryz.prog Tryz.lays189_ren := {
  mixed := by kernel_rfl
  f125 := Tryz.func131.trans (congrArg some (by kernel_rfl))
  f128 := Tryz.func165.trans (congrArg some (by kernel_rfl))
  f129 := Tryz.func166.trans (congrArg some (by kernel_rfl))
  f189 := Tryz.func94.trans (congrArg some (by kernel_rfl))
  f215 := Tryz.func194.trans (congrArg some (by kernel_rfl))
  f216 := Tryz.func162.trans (congrArg some (by kernel_rfl))
  f257 := Tryz.func130.trans (congrArg some (by kernel_rfl))
  f294 := Tryz.func156.trans (congrArg some (by kernel_rfl))
  f295 := Tryz.func157.trans (congrArg some (by kernel_rfl))
  f296 := Tryz.func158.trans (congrArg some (by kernel_rfl))
  f297 := Tryz.func159.trans (congrArg some (by kernel_rfl))
  f298 := Tryz.func160.trans (congrArg some (by kernel_rfl))
  f299 := Tryz.func161.trans (congrArg some (by kernel_rfl))
  f300 := Tryz.func163.trans (congrArg some (by kernel_rfl))
  f301 := Tryz.func164.trans (congrArg some (by kernel_rfl))
  f328 := Tryz.func189.trans (congrArg some (by kernel_rfl))
  f329 := Tryz.func190.trans (congrArg some (by kernel_rfl))
  f330 := Tryz.func191.trans (congrArg some (by kernel_rfl))
  f331 := Tryz.func192.trans (congrArg some (by kernel_rfl))
  f332 := Tryz.func193.trans (congrArg some (by kernel_rfl))
  f343 := Tryz.func213.trans (congrArg some (by kernel_rfl))
  t0 := Tryz.underlying0
  a0 := Tryz.isAgg0
  z0 := Tryz.sizeOf0
  v0 := Tryz.zeroValue0
  t3 := Tryz.underlying3
  a3 := Tryz.isAgg3
  z3 := Tryz.sizeOf3
  v3 := Tryz.zeroValue3
  t4 := Tryz.underlying4
  a4 := Tryz.isAgg4
  z4 := Tryz.sizeOf4
  v4 := Tryz.zeroValue4
  t5 := Tryz.underlying5
  a5 := Tryz.isAgg5
  z5 := Tryz.sizeOf5
  v5 := Tryz.zeroValue5
  t9 := Tryz.underlying9
  a9 := Tryz.isAgg9
  z9 := Tryz.sizeOf9
  v9 := Tryz.zeroValue9
  t28 := Tryz.underlying42
  a28 := Tryz.isAgg42
  z28 := Tryz.sizeOf42
  v28 := Tryz.zeroValue42
  t46 := Tryz.underlying151
  a46 := Tryz.isAgg151
  z46 := Tryz.sizeOf151
  v46 := Tryz.zeroValue151
  t51 := Tryz.underlying174
  a51 := Tryz.isAgg174
  z51 := Tryz.sizeOf174
  v51 := Tryz.zeroValue174
  t53 := Tryz.underlying176
  a53 := Tryz.isAgg176
  z53 := Tryz.sizeOf176
  v53 := Tryz.zeroValue176
  t131 := Tryz.underlying97
  a131 := Tryz.isAgg97
  z131 := Tryz.sizeOf97
  v131 := Tryz.zeroValue97
  t182 := Tryz.underlying166
  a182 := Tryz.isAgg166
  z182 := Tryz.sizeOf166
  v182 := Tryz.zeroValue166
  t183 := Tryz.underlying167
  a183 := Tryz.isAgg167
  z183 := Tryz.sizeOf167
  v183 := Tryz.zeroValue167
  t218 := Tryz.underlying194
  a218 := Tryz.isAgg194
  z218 := Tryz.sizeOf194
  v218 := Tryz.zeroValue194
  t222 := Tryz.underlying198
  a222 := Tryz.isAgg198
  z222 := Tryz.sizeOf198
  v222 := Tryz.zeroValue198
  t228 := Tryz.underlying212
  a228 := Tryz.isAgg212
  z228 := Tryz.sizeOf212
  v228 := Tryz.zeroValue212
  t229 := Tryz.underlying213
  a229 := Tryz.isAgg213
  z229 := Tryz.sizeOf213
  v229 := Tryz.zeroValue213 }
open Go.Sort Go.RowKit in
theorem Tryz.slices_Sort_int (blk off cap : Nat) (zs : List Int) (w : World) (hH : Holds (Value.int .i64) w blk off zs.toArray) (hblk : blk < w.heap.size) (hsz : zs.length < 4611686018427387904) :
    Calls Tryz.prog 94 #[.slice (some ⟨blk, off, none⟩) zs.length cap] w fun e w' =>
      e = .returned (.tuple #[]) ∧ ∃ n os, w' = grow (putRow (Value.int .i64) (Sort.ahead w n) blk off (zs.mergeSort fun x y => decide (x ≤ y)).toArray) os := Any.slices_Sort_int Tryz.lays189 blk off cap zs w hH hblk hsz
def Tryz.lays146_ren : Go.Shelf.Ren := ⟨fun | 146 => 64 | 221 => 110 | 268 => 137 | 138 => 138 | 143 => 139 | 195 => 169 | 197 => 170 | 218 => 171 | 219 => 172 | 260 => 195 | 217 => 196 | 225 => 197 | 224 => 198 | 267 => 199 | 266 => 214 | 314 => 215 | n => n, fun | 9 => 9 | 31 => 34 | 3 => 3 | 4 => 4 | 0 => 0 | 105 => 179 | 21 => 21 | 5 => 5 | 46 => 151 | 119 => 215 | 139 => 218 | 138 => 217 | 146 => 219 | 51 => 174 | n => n, fun | 1 => 0 | 3 => 2 | 4 => 3 | n => n⟩
theorem Tryz.lays146 : Go.Proofs.Lays.n146 Tryz.prog Tryz.lays146_ren := {
  mixed := by kernel_rfl
  f138 := Tryz.func138.trans (congrArg some (by kernel_rfl))
  f143 := Tryz.func139.trans (congrArg some (by kernel_rfl))
  f146 := Tryz.func64.trans (congrArg some (by kernel_rfl))
  f195 := Tryz.func169.trans (congrArg some (by kernel_rfl))
  f197 := Tryz.func170.trans (congrArg some (by kernel_rfl))
  f217 := Tryz.func196.trans (congrArg some (by kernel_rfl))
  f218 := Tryz.func171.trans (congrArg some (by kernel_rfl))
  f219 := Tryz.func172.trans (congrArg some (by kernel_rfl))
  f221 := Tryz.func110.trans (congrArg some (by kernel_rfl))
  f224 := Tryz.func198.trans (congrArg some (by kernel_rfl))
  f225 := Tryz.func197.trans (congrArg some (by kernel_rfl))
  f260 := Tryz.func195.trans (congrArg some (by kernel_rfl))
  f266 := Tryz.func214.trans (congrArg some (by kernel_rfl))
  f267 := Tryz.func199.trans (congrArg some (by kernel_rfl))
  f268 := Tryz.func137.trans (congrArg some (by kernel_rfl))
  f314 := Tryz.func215.trans (congrArg some (by kernel_rfl))
  t0 := Tryz.underlying0
  a0 := Tryz.isAgg0
  z0 := Tryz.sizeOf0
  v0 := Tryz.zeroValue0
  t3 := Tryz.underlying3
  a3 := Tryz.isAgg3
  z3 := Tryz.sizeOf3
  v3 := Tryz.zeroValue3
  t4 := Tryz.underlying4
  a4 := Tryz.isAgg4
  z4 := Tryz.sizeOf4
  v4 := Tryz.zeroValue4
  t5 := Tryz.underlying5
  a5 := Tryz.isAgg5
  z5 := Tryz.sizeOf5
  v5 := Tryz.zeroValue5
  t9 := Tryz.underlying9
  a9 := Tryz.isAgg9
  z9 := Tryz.sizeOf9
  v9 := Tryz.zeroValue9
  t21 := Tryz.underlying21
  a21 := Tryz.isAgg21
  z21 := Tryz.sizeOf21
  v21 := Tryz.zeroValue21
  t31 := Tryz.underlying34
  a31 := Tryz.isAgg34
  z31 := Tryz.sizeOf34
  v31 := Tryz.zeroValue34
  t46 := Tryz.underlying151
  a46 := Tryz.isAgg151
  z46 := Tryz.sizeOf151
  v46 := Tryz.zeroValue151
  t51 := Tryz.underlying174
  a51 := Tryz.isAgg174
  z51 := Tryz.sizeOf174
  v51 := Tryz.zeroValue174
  t105 := Tryz.underlying179
  a105 := Tryz.isAgg179
  z105 := Tryz.sizeOf179
  v105 := Tryz.zeroValue179
  t119 := Tryz.underlying215
  a119 := Tryz.isAgg215
  z119 := Tryz.sizeOf215
  t138 := Tryz.underlying217
  a138 := Tryz.isAgg217
  z138 := Tryz.sizeOf217
  v138 := Tryz.zeroValue217
  t139 := Tryz.underlying218
  a139 := Tryz.isAgg218
  z139 := Tryz.sizeOf218
  v139 := Tryz.zeroValue218
  t146 := Tryz.underlying219
  a146 := Tryz.isAgg219
  z146 := Tryz.sizeOf219
  v146 := Tryz.zeroValue219
  g1 := by kernel_rfl
  g3 := by kernel_rfl
  g4 := by kernel_rfl }
open Go.RowKit Go.Lib in
/-- strings.Split. (LAID: no walk: one application.) -/
theorem Tryz.strings_Split (s sep : ByteArray) (m : Int) (w : World) (hs : s.size < 4294967281) (hm : w.cell? ⟨0, 0, none⟩ = some (.int .i64 m)) (h1 : 1 ≤ sep.size) :
    Calls Tryz.prog 64 #[.string s, .string sep] w fun e w' =>
      e = .returned (.slice (some ⟨w.heap.size, 0, none⟩) (Lib.countB s sep + 1) (Lib.countB s sep + 1)) ∧ w' = w.alloc (.cells ((Lib.splitB sep 0 (Lib.countB s sep) s).map Value.string).toArray 9) := Any.strings_Split Tryz.lays146 (by kernel_rfl) s sep m w hs hm h1
def Tryz.laysNm220_ren : Go.Shelf.Ren := ⟨fun | 20 => 95 | n => n, fun | 22 => 42 | 3 => 3 | 4 => 4 | 0 => 0 | n => n, fun | n => n⟩
theorem Tryz.laysNm220 : Go.Proofs.Lays2.n20 Tryz.prog Tryz.laysNm220_ren := {
  mixed := by kernel_rfl
  f20 := Tryz.func95.trans (congrArg some (by kernel_rfl))
  t0 := Tryz.underlying0
  a0 := Tryz.isAgg0
  z0 := Tryz.sizeOf0
  v0 := Tryz.zeroValue0
  t3 := Tryz.underlying3
  a3 := Tryz.isAgg3
  z3 := Tryz.sizeOf3
  v3 := Tryz.zeroValue3
  t4 := Tryz.underlying4
  a4 := Tryz.isAgg4
  z4 := Tryz.sizeOf4
  v4 := Tryz.zeroValue4
  t22 := Tryz.underlying42
  a22 := Tryz.isAgg42
  z22 := Tryz.sizeOf42
  v22 := Tryz.zeroValue42
  i3 := by kernel_rfl }
open Go.RowKit Go.Lib Go.Sort in
/-- slices.Compact at []int: "Compact replaces consecutive runs of equal elements with a single copy. This is like the uniq command found on Unix. Compact modifies the contents of the slice s and returns the modified slice, which may have a smaller length. Compact zeroes the elements between the new length and the original length. The result preserves the nilness of s.": IT RETURNS THE SLICE CUT TO 'Lib.compact zs'; ITS CELLS HOLD 'Lib.compact zs', THEN ZERO VALUES up to the old length; all else is as it was, but for the count of draws. IN THE WORDS OF slices.Sort's CONTRACT ('Holds', 'putRow'): so the everyday 'slices.Sort(xs); xs = slices.Compact(xs)' goes from the one contract to the other. It asks 'zs.length ≤ cap' (every slice's: the reslicing 's[:k]' looks at it). Length 0, nil: '.._empty'. (LAID: no walk: one application.) -/
theorem Tryz.slices_Compact_int (blk off cap : Nat) (zs : List Int) (w : World) (hH : Holds (Value.int .i64) w blk off zs.toArray) (hsz : zs.length ≤ 9223372036854775807) (hcap : zs.length ≤ cap) :
    Calls Tryz.prog 95 #[.slice (some ⟨blk, off, none⟩) zs.length cap] w fun e w' => e = .returned (.slice (some ⟨blk, off, none⟩) (Lib.compact zs).length cap) ∧ ∃ q, w' = putRow (Value.int .i64) (Sort.ahead w q) blk off (Lib.compact zs ++ List.replicate (zs.length - (Lib.compact zs).length) 0).toArray := Any.slices_Compact_int Tryz.laysNm220 blk off cap zs w hH hsz hcap
open Go.RowKit Go.Lib Go.Sort in
/-- The same at a slice of length 0, a nil one too: it comes back as it is. (LAID: no walk: one application.) -/
theorem Tryz.slices_Compact_int_empty (a : Option Addr) (cap : Nat) (w : World) :
    Calls Tryz.prog 95 #[.slice a 0 cap] w fun e w' => e = .returned (.slice a 0 cap) ∧ w' = w := Any.slices_Compact_int_empty Tryz.laysNm220 a cap w
open Go.RowKit Go.Sort in
/-- .. and plain. (LAID: no walk: one application.) -/
theorem Tryz.slices_Sort_int_none (p : Option Addr) (cap : Nat) (w : World) :
    Calls Tryz.prog 94 #[.slice p 0 cap] w fun e w' => e = .returned (.tuple #[]) ∧ w' = w := Any.slices_Sort_int_none Tryz.lays189 p cap w
end Go.Proofs

namespace Go.Proofs.YtkfeagokmcakgaaGreatDoor
open Go.RowKit

/-- what the package variables hold -/
structure Glob (w : World) : Prop where
  size : 8 ≤ w.heap.size
  tab : Lib.TabIs Tryz.prog w "internal/strconv.uint64pow10" .u64 Lib.pow10Tab
  max : ∃ m, w.cell? ⟨0, 0, none⟩ = some (.int .i64 m)
  es : ∃ t p, w.cell? ⟨4, 0, none⟩ = some (.iface t p)
  er : ∃ t p, w.cell? ⟨5, 0, none⟩ = some (.iface t p)
theorem pow10_at : Tryz.prog.globalNamed "internal/strconv.uint64pow10" = some 1 := by kernel_rfl
theorem Glob.below {w w' : World} {B : Nat} (h : Glob w) (hb : Below B w w') (hB : 8 ≤ B) : Glob w' := by
  refine ⟨Nat.le_trans h.size hb.size, ?_, ?_, ?_, ?_⟩
  · have := h.tab
    unfold Lib.TabIs World.var? at this ⊢
    rw [pow10_at] at this ⊢
    simp only [Option.bind_some] at this ⊢
    rw [hb.block 1 (by omega)]; exact this
  · obtain ⟨m, hm⟩ := h.max; exact ⟨m, (hb.cell (p := ⟨0, 0, none⟩) (by show 0 < B; omega)).trans hm⟩
  · obtain ⟨t, p, hm⟩ := h.es; exact ⟨t, p, (hb.cell (p := ⟨4, 0, none⟩) (by show 4 < B; omega)).trans hm⟩
  · obtain ⟨t, p, hm⟩ := h.er; exact ⟨t, p, (hb.cell (p := ⟨5, 0, none⟩) (by show 5 < B; omega)).trans hm⟩
theorem Glob.step {w w' : World} (h : Glob w) (hb : Below w.heap.size w w') : Glob w' := h.below hb h.size
theorem below_growN (w : World) (k : Nat) (os : Array Obj) : Below w.heap.size w (Go.Sort.grow (w.drewN k) os) :=
  ⟨rfl, rfl, rfl, by simp [Go.Sort.grow, World.drewN], fun g hg => by simp [Go.Sort.grow, World.drewN, Array.getElem?_append, hg]⟩
def itoB (n : Int) : ByteArray := ⟨(Lib.itoa n).toArray⟩
theorem itoa_any (n : Int) (w : World) (hg : Glob w) (hn : -9223372036854775808 ≤ n ∧ n ≤ 9223372036854775807) : Calls Tryz.prog 84 #[.int .i64 n] w (ValEnd (.string (itoB n)) w) := by
  refine (Tryz.strconv_Itoa n hn.1 hn.2 w hg.tab).mono ?_
  rintro e w' ⟨rfl, k, os, rfl⟩
  exact ⟨rfl, below_growN w k os⟩
end Go.Proofs.YtkfeagokmcakgaaGreatDoor
