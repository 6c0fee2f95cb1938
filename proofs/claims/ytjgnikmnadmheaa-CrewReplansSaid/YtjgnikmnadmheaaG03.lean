/- crew.CheckYard, for all yards. Printed by wip/gen_q6.py. -/
import Derived.Shelf.Slices.SearchI
import Derived.Shelf.Slices.Empties
import Derived.Shelf.Spec.SlicesInsert
import Derived.Shelf.Spec.SlicesInsertGrow
import Derived.Shelf.Slices.Clone
import Derived.KernelRfl
import Derived.Test.YtjgnikmnadmheaaProg
import Derived.WalkSmall
import Derived.Test.YtjgnikmnadmheaaG01
import Derived.Test.YtjgnikmnadmheaaG02

namespace Go.Proofs.Ytjgnikmnadmheaa
open Go.RowKit

set_option maxRecDepth 100000 in
set_option maxHeartbeats 1000000 in
theorem checkYard_any (C : Array Value) (Y : Yd) (w : World) (hY : YardAt w w.heap.size C Y) (hm1 : Y.cl.length ≤ 1000) (hm2 : Y.pi.length ≤ 1000) (hm3 : Y.ma.length ≤ 1000) (hs : ∀ m ∈ Y.ma, m.name.size ≤ 100) :
    Calls Try.prog 16 #[.agg C] w (IntEnd (chkY Y) w) := by
  obtain ⟨A1, k1, e1, L1⟩ := hY.cl
  obtain ⟨A2, k2, e2, L2⟩ := hY.pi
  obtain ⟨A3, k3, e3, L3⟩ := hY.ma
  have e4 := hY.dry
  have HS : Hid (∀ (W : World) (b : Nat), Bk W b 29 C → W.rangeAt b 0 (seC Y.se)) := fun W b hb => hY.seas hb
  have HCA := Lib.hid (fun W (hb : Below w.heap.size w W) => anyM64 badName Y.ma A3 k3 W ((L3.below hb (Nat.le_refl _)).more hb.size) hm3 (show Hid _ from fun m hm W' hb' => badName_any m W' (hs m hm)))
  have HRI := Lib.hid (fun W (hb : Below w.heap.size w W) => rising_any Y.cl A1 k1 W ((L1.below hb (Nat.le_refl _)).more hb.size) hm1)
  have HC : Hid (chkY Y = if 200 < Y.cl.length ∨ 8 < Y.pi.length ∨ 12 < Y.ma.length then 2 else if Y.ma.any badName = true then 4 else if fineY Y = true then 0 else 1) := rfl
  have HF : Hid (fineY Y = (inB Y.dry 0 30 && risingB Y.cl && (List.range 12).all (seasB Y.se) && Y.cl.all dayB && Y.pi.all pitB && Y.ma.all masB)) := rfl
  clear hY hs
  by_cases h1 : 200 < Y.cl.length
  · have H : Hid (chkY Y = 2) := by rw [HC.out, if_pos (.inl h1)]; rfl
    clear HC HF
    go_enter Try.func16, Try.ntmps16
    go_wp2
    go_ret
    exact int_end H.out.symm bw
  by_cases h2 : 8 < Y.pi.length
  · have H : Hid (chkY Y = 2) := by rw [HC.out, if_pos (.inr (.inl h2))]; rfl
    clear HC HF
    go_enter Try.func16, Try.ntmps16
    go_wp2
    go_ret
    exact int_end H.out.symm bw
  by_cases h3 : 12 < Y.ma.length
  · have H : Hid (chkY Y = 2) := by rw [HC.out, if_pos (.inr (.inr h3))]; rfl
    clear HC HF
    go_enter Try.func16, Try.ntmps16
    go_wp2
    go_ret
    exact int_end H.out.symm bw
  cases h4 : Y.ma.any badName with
  | true =>
    have H : Hid (chkY Y = 4) := by show _ = _; rw [HC.out, if_neg (by omega), if_pos h4]
    have H4 := Lib.hid h4; clear h4 HC HF
    go_enter Try.func16, Try.ntmps16
    go_wp2_with (go_at_call 63; refine (HCA.out _ (by exact bw)).mono ?_; rintro e w1 ⟨rfl, hb⟩; rw [H4.out])
    go_ret
    exact int_end H.out.symm (((Below.refl _ _).alloc (Nat.le_refl _) _).trans (hb.mono (by simp)))
  | false =>
  have H4 := Lib.hid h4
  have HC' : Hid (chkY Y = if fineY Y = true then 0 else 1) := by show _ = _; rw [HC.out, if_neg (by omega), if_neg (by rw [h4]; exact Bool.false_ne_true)]
  clear HC h4
  go_enter Try.func16, Try.ntmps16
  go_upto_region 5 with (go_at_call 63; refine (HCA.out _ (by exact bw)).mono ?_; rintro e w1 ⟨rfl, hb⟩; rw [H4.out]; obtain ⟨hc, hf⟩ := bcell hb; have hz := hb.size; (try simp at hz))
  have hb1 : Below w.heap.size w w1 := ((Below.refl _ _).alloc (Nat.le_refl _) _).trans (hb.mono (by simp))
  have hk1 : Bk w1 w.heap.size 29 C := (Bk.new w 29 C).below hb (by simp)
  have hl1 := hk1.lt
  have y1 := hk1.cell 24 e1
  have y2 := hk1.cell 25 e2
  have y3 := hk1.cell 26 e3
  have y4 := hk1.cell 27 e4
  clear hc hf hz hb
  obtain ⟨f0, hf0⟩ : ∃ f0, f0 = (inB Y.dry 0 30 && risingB Y.cl) := ⟨_, rfl⟩
  have HF0 := Lib.hid hf0; clear hf0
  go_cut [3] (fun s3 wx => s3 = .bool f0 ∧ Below w.heap.size w wx ∧ Bk wx w.heap.size 29 C)
  case first =>
    cases h5 : inB Y.dry 0 30 with
    | false =>
      have H5 := Lib.hid h5
      have HV : Hid (f0 = false) := by show _ = _; rw [HF0.out, h5]; rfl
      clear h5
      go_wp2_with (go_at_call 66; refine (in_any _ _ _ _).mono ?_; rintro e w' ⟨rfl, rfl⟩; rw [H5.out])
      go_meet
      exact ⟨congrArg Value.bool HV.out.symm, hb1, hk1⟩
    | true =>
      have H5 := Lib.hid h5
      have HV : Hid (f0 = risingB Y.cl) := by show _ = _; rw [HF0.out, h5]; rfl
      clear h5
      go_wp2_with (first | (go_at_call 66; refine (in_any _ _ _ _).mono ?_; rintro e w' ⟨rfl, rfl⟩; rw [H5.out]) | (go_at_call 67; refine (HRI.out _ hb1).mono ?_; rintro e w2 ⟨rfl, hb2⟩))
      go_meet
      exact ⟨congrArg Value.bool HV.out.symm, hb1.trans (hb2.mono hb1.size), hk1.below hb2 (by omega)⟩
  case rest =>
  obtain ⟨rfl, hbx, hkx⟩ := hcut
  clear y1 y2 y3 y4 hl1 hk1 hb1 HCA HRI H4
  have hlx := hkx.lt
  go_wp2_with (refine wpList_load_mid (P := Try.prog) rfl 24 (.tmp 39) rfl w.heap.size 0 rfl (seC Y.se) _ (HS.out _ _ hkx) Try.underlying24 rfl (by rw [seC_len]; exact info24) ?_)
  go_loopw [3, 41] (fun b y wr => ∃ k : Nat, k ≤ 12 ∧ y = .int .i64 k ∧ b = .bool (f0 && (List.range k).all (seasB Y.se)) ∧ Below w.heap.size w wr ∧ Bk wr w.heap.size 29 C) (fun _ y _ => 12 - (intOf y).toNat)
  case atStart => exact ⟨0, by omega, rfl, by simp, hbx, hkx⟩
  case round =>
  clear hbx hkx hlx
  obtain ⟨k, hk, rfl, rfl, hbw, hbk⟩ := hrel
  have hbs := hbw.size
  have hlk := hbk.lt
  by_cases hlt : k < 12
  · have HI := Lib.hid (index24 Y.se k hlt)
    have HT : Hid (seasB Y.se k = (inB (Y.se (2 * k)) 0 1440 && inB (Y.se (2 * k + 1)) 0 1440)) := rfl
    have HN0 : Hid ((f0 && (List.range (k + 1)).all (seasB Y.se)) = ((f0 && (List.range k).all (seasB Y.se)) && seasB Y.se k)) := by show _ = _; rw [all_range, Bool.and_assoc]
    generalize (f0 && (List.range k).all (seasB Y.se)) = bb at *
    generalize Y.se (2 * k) = s1 at *
    generalize Y.se (2 * k + 1) = s2 at *
    cases bb with
    | false =>
      have H : Hid ((false && seasB Y.se k) = false) := rfl
      have HN := Lib.hid (HN0.out.trans H.out); clear HN0 H
      go_wp2_with (refine wpList_index_run (P := Try.prog) rfl 24 (.tmp 40) (.tmp 41) rfl rfl rfl (HI.out _) ?_)
      go_roundw
      case rel => (first | exact ⟨k + 1, by omega, by go_num, congrArg Value.bool HN.out.symm, by exact bw, by exact bkw⟩ | ((repeat apply Exists.intro); exact ⟨⟨k + 1, by omega, by go_num, congrArg Value.bool HN.out.symm, by exact bw, by exact bkw⟩, rfl⟩) | ((repeat apply Exists.intro); exact ⟨⟨k + 1, by omega, by go_num, congrArg Value.bool HN.out.symm, by exact bw, by exact bkw⟩, rfl, rfl⟩) | ((repeat apply Exists.intro); exact ⟨⟨k + 1, by omega, by go_num, congrArg Value.bool HN.out.symm, by exact bw, by exact bkw⟩, rfl, rfl, rfl⟩) | ((repeat apply Exists.intro); exact ⟨⟨k + 1, by omega, by go_num, congrArg Value.bool HN.out.symm, by exact bw, by exact bkw⟩, rfl, rfl, rfl, rfl⟩) | ((repeat apply Exists.intro); exact ⟨⟨k + 1, by omega, by go_num, congrArg Value.bool HN.out.symm, by exact bw, by exact bkw⟩, rfl, rfl, rfl, rfl, rfl⟩))
      case measure => simp [intOf]; omega
    | true =>
      cases h1 : inB s1 0 1440 with
      | false =>
        have HV : Hid (seasB Y.se k = false) := by show _ = _; rw [HT.out]; simp [h1]
        have HN : Hid ((f0 && (List.range (k + 1)).all (seasB Y.se)) = false) := by show _ = _; exact HN0.out.trans (by rw [HV.out]; rfl)
        have H1 := Lib.hid h1; clear h1
        clear HV HN0 HT
        go_wp2_with (first | (refine wpList_index_run (P := Try.prog) rfl 24 (.tmp 40) (.tmp 41) rfl rfl rfl (HI.out _) ?_) | (go_at_call 66; refine (in_any _ _ _ _).mono ?_; rintro e w' ⟨rfl, rfl⟩; first | rw [H1.out]))
        go_roundw
        case rel => (first | exact ⟨k + 1, by omega, by go_num, congrArg Value.bool HN.out.symm, by exact bw, by exact bkw⟩ | ((repeat apply Exists.intro); exact ⟨⟨k + 1, by omega, by go_num, congrArg Value.bool HN.out.symm, by exact bw, by exact bkw⟩, rfl⟩) | ((repeat apply Exists.intro); exact ⟨⟨k + 1, by omega, by go_num, congrArg Value.bool HN.out.symm, by exact bw, by exact bkw⟩, rfl, rfl⟩) | ((repeat apply Exists.intro); exact ⟨⟨k + 1, by omega, by go_num, congrArg Value.bool HN.out.symm, by exact bw, by exact bkw⟩, rfl, rfl, rfl⟩) | ((repeat apply Exists.intro); exact ⟨⟨k + 1, by omega, by go_num, congrArg Value.bool HN.out.symm, by exact bw, by exact bkw⟩, rfl, rfl, rfl, rfl⟩) | ((repeat apply Exists.intro); exact ⟨⟨k + 1, by omega, by go_num, congrArg Value.bool HN.out.symm, by exact bw, by exact bkw⟩, rfl, rfl, rfl, rfl, rfl⟩))
        case measure => simp [intOf]; omega
      | true =>
        cases h2 : inB s2 0 1440 with
        | false =>
          have HV : Hid (seasB Y.se k = false) := by show _ = _; rw [HT.out]; simp [h1, h2]
          have HN : Hid ((f0 && (List.range (k + 1)).all (seasB Y.se)) = false) := by show _ = _; exact HN0.out.trans (by rw [HV.out]; rfl)
          have H1 := Lib.hid h1; clear h1
          have H2 := Lib.hid h2; clear h2
          clear HV HN0 HT
          go_wp2_with (first | (refine wpList_index_run (P := Try.prog) rfl 24 (.tmp 40) (.tmp 41) rfl rfl rfl (HI.out _) ?_) | (go_at_call 66; refine (in_any _ _ _ _).mono ?_; rintro e w' ⟨rfl, rfl⟩; first | rw [H1.out] | rw [H2.out]))
          go_roundw
          case rel => (first | exact ⟨k + 1, by omega, by go_num, congrArg Value.bool HN.out.symm, by exact bw, by exact bkw⟩ | ((repeat apply Exists.intro); exact ⟨⟨k + 1, by omega, by go_num, congrArg Value.bool HN.out.symm, by exact bw, by exact bkw⟩, rfl⟩) | ((repeat apply Exists.intro); exact ⟨⟨k + 1, by omega, by go_num, congrArg Value.bool HN.out.symm, by exact bw, by exact bkw⟩, rfl, rfl⟩) | ((repeat apply Exists.intro); exact ⟨⟨k + 1, by omega, by go_num, congrArg Value.bool HN.out.symm, by exact bw, by exact bkw⟩, rfl, rfl, rfl⟩) | ((repeat apply Exists.intro); exact ⟨⟨k + 1, by omega, by go_num, congrArg Value.bool HN.out.symm, by exact bw, by exact bkw⟩, rfl, rfl, rfl, rfl⟩) | ((repeat apply Exists.intro); exact ⟨⟨k + 1, by omega, by go_num, congrArg Value.bool HN.out.symm, by exact bw, by exact bkw⟩, rfl, rfl, rfl, rfl, rfl⟩))
          case measure => simp [intOf]; omega
        | true =>
          have HV : Hid (seasB Y.se k = true) := by show _ = _; rw [HT.out]; simp [h1, h2]
          have HN : Hid ((f0 && (List.range (k + 1)).all (seasB Y.se)) = true) := by show _ = _; exact HN0.out.trans (by rw [HV.out]; rfl)
          have H1 := Lib.hid h1; clear h1
          have H2 := Lib.hid h2; clear h2
          clear HV HN0 HT
          go_wp2_with (first | (refine wpList_index_run (P := Try.prog) rfl 24 (.tmp 40) (.tmp 41) rfl rfl rfl (HI.out _) ?_) | (go_at_call 66; refine (in_any _ _ _ _).mono ?_; rintro e w' ⟨rfl, rfl⟩; first | rw [H1.out] | rw [H2.out]))
          go_roundw
          case rel => (first | exact ⟨k + 1, by omega, by go_num, congrArg Value.bool HN.out.symm, by exact bw, by exact bkw⟩ | ((repeat apply Exists.intro); exact ⟨⟨k + 1, by omega, by go_num, congrArg Value.bool HN.out.symm, by exact bw, by exact bkw⟩, rfl⟩) | ((repeat apply Exists.intro); exact ⟨⟨k + 1, by omega, by go_num, congrArg Value.bool HN.out.symm, by exact bw, by exact bkw⟩, rfl, rfl⟩) | ((repeat apply Exists.intro); exact ⟨⟨k + 1, by omega, by go_num, congrArg Value.bool HN.out.symm, by exact bw, by exact bkw⟩, rfl, rfl, rfl⟩) | ((repeat apply Exists.intro); exact ⟨⟨k + 1, by omega, by go_num, congrArg Value.bool HN.out.symm, by exact bw, by exact bkw⟩, rfl, rfl, rfl, rfl⟩) | ((repeat apply Exists.intro); exact ⟨⟨k + 1, by omega, by go_num, congrArg Value.bool HN.out.symm, by exact bw, by exact bkw⟩, rfl, rfl, rfl, rfl, rfl⟩))
          case measure => simp [intOf]; omega
  · obtain rfl : k = 12 := by omega
    generalize hf1 : (f0 && (List.range 12).all (seasB Y.se)) = f1 at *
    have HF1 := Lib.hid hf1; clear hf1
    have x1 := hbk.cell 24 e1
    go_wp2
    go_loopw [3, 59] (fun b y wr => ∃ k : Nat, k ≤ Y.cl.length ∧ y = .int .i64 k ∧ b = .bool (f1 && (Y.cl.take k).all dayB) ∧ Below w.heap.size w wr ∧ Bk wr w.heap.size 29 C) (fun _ y _ => Y.cl.length - (intOf y).toNat)
    case atStart => exact ⟨0, by omega, rfl, by simp, hbw, hbk⟩
    case round =>
    clear hbw hbk hlk hbs x1
    obtain ⟨k, hk, rfl, rfl, hbw, hbk⟩ := hrel
    have hbs := hbw.size
    have hlk := hbk.lt
    by_cases hlt : k < Y.cl.length
    · obtain ⟨ad, rfl, hadb, c0⟩ := int_at (L1.below hbw (Nat.le_refl _)) hlt
      have HN0 : Hid ((f1 && (Y.cl.take (k + 1)).all dayB) = ((f1 && (Y.cl.take k).all dayB) && dayB Y.cl[k])) := by show _ = _; rw [all_take _ _ _ hlt, Bool.and_assoc]
      generalize (f1 && (Y.cl.take k).all dayB) = bb at *
      generalize Y.cl[k] = z at *
      have HT : Hid (dayB z = inB z 0 100000) := rfl
      clear L1
      clear L2
      clear L3
      cases bb with
      | false =>
        have H : Hid ((false && dayB z) = false) := rfl
        have HN := Lib.hid (HN0.out.trans H.out); clear HN0 H
        go_wp2
        go_roundw
        case rel => (first | exact ⟨k + 1, by omega, by go_num, congrArg Value.bool HN.out.symm, by exact bw, by exact bkw⟩ | ((repeat apply Exists.intro); exact ⟨⟨k + 1, by omega, by go_num, congrArg Value.bool HN.out.symm, by exact bw, by exact bkw⟩, rfl⟩) | ((repeat apply Exists.intro); exact ⟨⟨k + 1, by omega, by go_num, congrArg Value.bool HN.out.symm, by exact bw, by exact bkw⟩, rfl, rfl⟩) | ((repeat apply Exists.intro); exact ⟨⟨k + 1, by omega, by go_num, congrArg Value.bool HN.out.symm, by exact bw, by exact bkw⟩, rfl, rfl, rfl⟩) | ((repeat apply Exists.intro); exact ⟨⟨k + 1, by omega, by go_num, congrArg Value.bool HN.out.symm, by exact bw, by exact bkw⟩, rfl, rfl, rfl, rfl⟩) | ((repeat apply Exists.intro); exact ⟨⟨k + 1, by omega, by go_num, congrArg Value.bool HN.out.symm, by exact bw, by exact bkw⟩, rfl, rfl, rfl, rfl, rfl⟩))
        case measure => simp [intOf]; omega
      | true =>
        cases h1 : inB z 0 100000 with
        | false =>
          have HV : Hid (dayB z = false) := by show _ = _; rw [HT.out]; simp [h1]
          have HN : Hid ((f1 && (Y.cl.take (k + 1)).all dayB) = false) := by show _ = _; exact HN0.out.trans (by rw [HV.out]; rfl)
          have H1 := Lib.hid h1; clear h1
          clear HV HN0 HT
          go_wp2_with (go_at_call 66; refine (in_any _ _ _ _).mono ?_; rintro e w' ⟨rfl, rfl⟩; first | rw [H1.out])
          go_roundw
          case rel => (first | exact ⟨k + 1, by omega, by go_num, congrArg Value.bool HN.out.symm, by exact bw, by exact bkw⟩ | ((repeat apply Exists.intro); exact ⟨⟨k + 1, by omega, by go_num, congrArg Value.bool HN.out.symm, by exact bw, by exact bkw⟩, rfl⟩) | ((repeat apply Exists.intro); exact ⟨⟨k + 1, by omega, by go_num, congrArg Value.bool HN.out.symm, by exact bw, by exact bkw⟩, rfl, rfl⟩) | ((repeat apply Exists.intro); exact ⟨⟨k + 1, by omega, by go_num, congrArg Value.bool HN.out.symm, by exact bw, by exact bkw⟩, rfl, rfl, rfl⟩) | ((repeat apply Exists.intro); exact ⟨⟨k + 1, by omega, by go_num, congrArg Value.bool HN.out.symm, by exact bw, by exact bkw⟩, rfl, rfl, rfl, rfl⟩) | ((repeat apply Exists.intro); exact ⟨⟨k + 1, by omega, by go_num, congrArg Value.bool HN.out.symm, by exact bw, by exact bkw⟩, rfl, rfl, rfl, rfl, rfl⟩))
          case measure => simp [intOf]; omega
        | true =>
          have HV : Hid (dayB z = true) := by show _ = _; rw [HT.out]; simp [h1]
          have HN : Hid ((f1 && (Y.cl.take (k + 1)).all dayB) = true) := by show _ = _; exact HN0.out.trans (by rw [HV.out]; rfl)
          have H1 := Lib.hid h1; clear h1
          clear HV HN0 HT
          go_wp2_with (go_at_call 66; refine (in_any _ _ _ _).mono ?_; rintro e w' ⟨rfl, rfl⟩; first | rw [H1.out])
          go_roundw
          case rel => (first | exact ⟨k + 1, by omega, by go_num, congrArg Value.bool HN.out.symm, by exact bw, by exact bkw⟩ | ((repeat apply Exists.intro); exact ⟨⟨k + 1, by omega, by go_num, congrArg Value.bool HN.out.symm, by exact bw, by exact bkw⟩, rfl⟩) | ((repeat apply Exists.intro); exact ⟨⟨k + 1, by omega, by go_num, congrArg Value.bool HN.out.symm, by exact bw, by exact bkw⟩, rfl, rfl⟩) | ((repeat apply Exists.intro); exact ⟨⟨k + 1, by omega, by go_num, congrArg Value.bool HN.out.symm, by exact bw, by exact bkw⟩, rfl, rfl, rfl⟩) | ((repeat apply Exists.intro); exact ⟨⟨k + 1, by omega, by go_num, congrArg Value.bool HN.out.symm, by exact bw, by exact bkw⟩, rfl, rfl, rfl, rfl⟩) | ((repeat apply Exists.intro); exact ⟨⟨k + 1, by omega, by go_num, congrArg Value.bool HN.out.symm, by exact bw, by exact bkw⟩, rfl, rfl, rfl, rfl, rfl⟩))
          case measure => simp [intOf]; omega
    · obtain rfl : k = Y.cl.length := by omega
      rw [List.take_length]
      generalize hf2 : (f1 && Y.cl.all dayB) = f2 at *
      have HF2 := Lib.hid hf2; clear hf2
      have x1 := hbk.cell 25 e2
      go_wp2
      go_loopw [3, 72] (fun b y wr => ∃ k : Nat, k ≤ Y.pi.length ∧ y = .int .i64 k ∧ b = .bool (f2 && (Y.pi.take k).all pitB) ∧ Below w.heap.size w wr ∧ Bk wr w.heap.size 29 C) (fun _ y _ => Y.pi.length - (intOf y).toNat)
      case atStart => exact ⟨0, by omega, rfl, by simp, hbw, hbk⟩
      case round =>
      clear hbw hbk hlk hbs x1
      obtain ⟨k, hk, rfl, rfl, hbw, hbk⟩ := hrel
      have hbs := hbw.size
      have hlk := hbk.lt
      by_cases hlt : k < Y.pi.length
      · obtain ⟨ad, rfl, hadb, c0, c1, c2⟩ := pit_at (L2.below hbw (Nat.le_refl _)) hlt
        have HN0 : Hid ((f2 && (Y.pi.take (k + 1)).all pitB) = ((f2 && (Y.pi.take k).all pitB) && pitB Y.pi[k])) := by show _ = _; rw [all_take _ _ _ hlt, Bool.and_assoc]
        generalize (f2 && (Y.pi.take k).all pitB) = bb at *
        generalize Y.pi[k] = z at *
        obtain ⟨s, a, b⟩ := z
        dsimp only at *
        have HT : Hid (pitB ⟨s, a, b⟩ = (inB s 0 100000 && inB a 0 10000 && inB b 1 100)) := rfl
        clear L1
        clear L2
        clear L3
        cases bb with
        | false =>
          have H : Hid ((false && pitB ⟨s, a, b⟩) = false) := rfl
          have HN := Lib.hid (HN0.out.trans H.out); clear HN0 H
          go_wp2
          go_roundw
          case rel => (first | exact ⟨k + 1, by omega, by go_num, congrArg Value.bool HN.out.symm, by exact bw, by exact bkw⟩ | ((repeat apply Exists.intro); exact ⟨⟨k + 1, by omega, by go_num, congrArg Value.bool HN.out.symm, by exact bw, by exact bkw⟩, rfl⟩) | ((repeat apply Exists.intro); exact ⟨⟨k + 1, by omega, by go_num, congrArg Value.bool HN.out.symm, by exact bw, by exact bkw⟩, rfl, rfl⟩) | ((repeat apply Exists.intro); exact ⟨⟨k + 1, by omega, by go_num, congrArg Value.bool HN.out.symm, by exact bw, by exact bkw⟩, rfl, rfl, rfl⟩) | ((repeat apply Exists.intro); exact ⟨⟨k + 1, by omega, by go_num, congrArg Value.bool HN.out.symm, by exact bw, by exact bkw⟩, rfl, rfl, rfl, rfl⟩) | ((repeat apply Exists.intro); exact ⟨⟨k + 1, by omega, by go_num, congrArg Value.bool HN.out.symm, by exact bw, by exact bkw⟩, rfl, rfl, rfl, rfl, rfl⟩))
          case measure => simp [intOf]; omega
        | true =>
          cases h1 : inB s 0 100000 with
          | false =>
            have HV : Hid (pitB ⟨s, a, b⟩ = false) := by show _ = _; rw [HT.out]; simp [h1]
            have HN : Hid ((f2 && (Y.pi.take (k + 1)).all pitB) = false) := by show _ = _; exact HN0.out.trans (by rw [HV.out]; rfl)
            have H1 := Lib.hid h1; clear h1
            clear HV HN0 HT
            go_wp2_with (go_at_call 66; refine (in_any _ _ _ _).mono ?_; rintro e w' ⟨rfl, rfl⟩; first | rw [H1.out])
            go_roundw
            case rel => (first | exact ⟨k + 1, by omega, by go_num, congrArg Value.bool HN.out.symm, by exact bw, by exact bkw⟩ | ((repeat apply Exists.intro); exact ⟨⟨k + 1, by omega, by go_num, congrArg Value.bool HN.out.symm, by exact bw, by exact bkw⟩, rfl⟩) | ((repeat apply Exists.intro); exact ⟨⟨k + 1, by omega, by go_num, congrArg Value.bool HN.out.symm, by exact bw, by exact bkw⟩, rfl, rfl⟩) | ((repeat apply Exists.intro); exact ⟨⟨k + 1, by omega, by go_num, congrArg Value.bool HN.out.symm, by exact bw, by exact bkw⟩, rfl, rfl, rfl⟩) | ((repeat apply Exists.intro); exact ⟨⟨k + 1, by omega, by go_num, congrArg Value.bool HN.out.symm, by exact bw, by exact bkw⟩, rfl, rfl, rfl, rfl⟩) | ((repeat apply Exists.intro); exact ⟨⟨k + 1, by omega, by go_num, congrArg Value.bool HN.out.symm, by exact bw, by exact bkw⟩, rfl, rfl, rfl, rfl, rfl⟩))
            case measure => simp [intOf]; omega
          | true =>
            cases h2 : inB a 0 10000 with
            | false =>
              have HV : Hid (pitB ⟨s, a, b⟩ = false) := by show _ = _; rw [HT.out]; simp [h1, h2]
              have HN : Hid ((f2 && (Y.pi.take (k + 1)).all pitB) = false) := by show _ = _; exact HN0.out.trans (by rw [HV.out]; rfl)
              have H1 := Lib.hid h1; clear h1
              have H2 := Lib.hid h2; clear h2
              clear HV HN0 HT
              go_wp2_with (go_at_call 66; refine (in_any _ _ _ _).mono ?_; rintro e w' ⟨rfl, rfl⟩; first | rw [H1.out] | rw [H2.out])
              go_roundw
              case rel => (first | exact ⟨k + 1, by omega, by go_num, congrArg Value.bool HN.out.symm, by exact bw, by exact bkw⟩ | ((repeat apply Exists.intro); exact ⟨⟨k + 1, by omega, by go_num, congrArg Value.bool HN.out.symm, by exact bw, by exact bkw⟩, rfl⟩) | ((repeat apply Exists.intro); exact ⟨⟨k + 1, by omega, by go_num, congrArg Value.bool HN.out.symm, by exact bw, by exact bkw⟩, rfl, rfl⟩) | ((repeat apply Exists.intro); exact ⟨⟨k + 1, by omega, by go_num, congrArg Value.bool HN.out.symm, by exact bw, by exact bkw⟩, rfl, rfl, rfl⟩) | ((repeat apply Exists.intro); exact ⟨⟨k + 1, by omega, by go_num, congrArg Value.bool HN.out.symm, by exact bw, by exact bkw⟩, rfl, rfl, rfl, rfl⟩) | ((repeat apply Exists.intro); exact ⟨⟨k + 1, by omega, by go_num, congrArg Value.bool HN.out.symm, by exact bw, by exact bkw⟩, rfl, rfl, rfl, rfl, rfl⟩))
              case measure => simp [intOf]; omega
            | true =>
              cases h3 : inB b 1 100 with
              | false =>
                have HV : Hid (pitB ⟨s, a, b⟩ = false) := by show _ = _; rw [HT.out]; simp [h1, h2, h3]
                have HN : Hid ((f2 && (Y.pi.take (k + 1)).all pitB) = false) := by show _ = _; exact HN0.out.trans (by rw [HV.out]; rfl)
                have H1 := Lib.hid h1; clear h1
                have H2 := Lib.hid h2; clear h2
                have H3 := Lib.hid h3; clear h3
                clear HV HN0 HT
                go_wp2_with (go_at_call 66; refine (in_any _ _ _ _).mono ?_; rintro e w' ⟨rfl, rfl⟩; first | rw [H1.out] | rw [H2.out] | rw [H3.out])
                go_roundw
                case rel => (first | exact ⟨k + 1, by omega, by go_num, congrArg Value.bool HN.out.symm, by exact bw, by exact bkw⟩ | ((repeat apply Exists.intro); exact ⟨⟨k + 1, by omega, by go_num, congrArg Value.bool HN.out.symm, by exact bw, by exact bkw⟩, rfl⟩) | ((repeat apply Exists.intro); exact ⟨⟨k + 1, by omega, by go_num, congrArg Value.bool HN.out.symm, by exact bw, by exact bkw⟩, rfl, rfl⟩) | ((repeat apply Exists.intro); exact ⟨⟨k + 1, by omega, by go_num, congrArg Value.bool HN.out.symm, by exact bw, by exact bkw⟩, rfl, rfl, rfl⟩) | ((repeat apply Exists.intro); exact ⟨⟨k + 1, by omega, by go_num, congrArg Value.bool HN.out.symm, by exact bw, by exact bkw⟩, rfl, rfl, rfl, rfl⟩) | ((repeat apply Exists.intro); exact ⟨⟨k + 1, by omega, by go_num, congrArg Value.bool HN.out.symm, by exact bw, by exact bkw⟩, rfl, rfl, rfl, rfl, rfl⟩))
                case measure => simp [intOf]; omega
              | true =>
                have HV : Hid (pitB ⟨s, a, b⟩ = true) := by show _ = _; rw [HT.out]; simp [h1, h2, h3]
                have HN : Hid ((f2 && (Y.pi.take (k + 1)).all pitB) = true) := by show _ = _; exact HN0.out.trans (by rw [HV.out]; rfl)
                have H1 := Lib.hid h1; clear h1
                have H2 := Lib.hid h2; clear h2
                have H3 := Lib.hid h3; clear h3
                clear HV HN0 HT
                go_wp2_with (go_at_call 66; refine (in_any _ _ _ _).mono ?_; rintro e w' ⟨rfl, rfl⟩; first | rw [H1.out] | rw [H2.out] | rw [H3.out])
                go_roundw
                case rel => (first | exact ⟨k + 1, by omega, by go_num, congrArg Value.bool HN.out.symm, by exact bw, by exact bkw⟩ | ((repeat apply Exists.intro); exact ⟨⟨k + 1, by omega, by go_num, congrArg Value.bool HN.out.symm, by exact bw, by exact bkw⟩, rfl⟩) | ((repeat apply Exists.intro); exact ⟨⟨k + 1, by omega, by go_num, congrArg Value.bool HN.out.symm, by exact bw, by exact bkw⟩, rfl, rfl⟩) | ((repeat apply Exists.intro); exact ⟨⟨k + 1, by omega, by go_num, congrArg Value.bool HN.out.symm, by exact bw, by exact bkw⟩, rfl, rfl, rfl⟩) | ((repeat apply Exists.intro); exact ⟨⟨k + 1, by omega, by go_num, congrArg Value.bool HN.out.symm, by exact bw, by exact bkw⟩, rfl, rfl, rfl, rfl⟩) | ((repeat apply Exists.intro); exact ⟨⟨k + 1, by omega, by go_num, congrArg Value.bool HN.out.symm, by exact bw, by exact bkw⟩, rfl, rfl, rfl, rfl, rfl⟩))
                case measure => simp [intOf]; omega
      · obtain rfl : k = Y.pi.length := by omega
        rw [List.take_length]
        generalize hf3 : (f2 && Y.pi.all pitB) = f3 at *
        have HF3 := Lib.hid hf3; clear hf3
        have x1 := hbk.cell 26 e3
        go_wp2
        go_loopw [3, 96] (fun b y wr => ∃ k : Nat, k ≤ Y.ma.length ∧ y = .int .i64 k ∧ b = .bool (f3 && (Y.ma.take k).all masB) ∧ Below w.heap.size w wr ∧ Bk wr w.heap.size 29 C) (fun _ y _ => Y.ma.length - (intOf y).toNat)
        case atStart => exact ⟨0, by omega, rfl, by simp, hbw, hbk⟩
        case round =>
        clear hbw hbk hlk hbs x1
        obtain ⟨k, hk, rfl, rfl, hbw, hbk⟩ := hrel
        have hbs := hbw.size
        have hlk := hbk.lt
        by_cases hlt : k < Y.ma.length
        · obtain ⟨ad, rfl, hadb, c0, c1, c2, c3⟩ := mas_at (L3.below hbw (Nat.le_refl _)) hlt
          have HN0 : Hid ((f3 && (Y.ma.take (k + 1)).all masB) = ((f3 && (Y.ma.take k).all masB) && masB Y.ma[k])) := by show _ = _; rw [all_take _ _ _ hlt, Bool.and_assoc]
          generalize (f3 && (Y.ma.take k).all masB) = bb at *
          generalize Y.ma[k] = z at *
          obtain ⟨nm, mf, mu, mk⟩ := z
          dsimp only at *
          have HT : Hid (masB ⟨nm, mf, mu, mk⟩ = (decide (0 ≤ mf) && decide (mf < mu) && decide (mu ≤ 100001) && inB mk 1 9)) := rfl
          clear L1
          clear L2
          clear L3
          cases bb with
          | false =>
            have H : Hid ((false && masB ⟨nm, mf, mu, mk⟩) = false) := rfl
            have HN := Lib.hid (HN0.out.trans H.out); clear HN0 H
            go_wp2
            go_roundw
            case rel => (first | exact ⟨k + 1, by omega, by go_num, congrArg Value.bool HN.out.symm, by exact bw, by exact bkw⟩ | ((repeat apply Exists.intro); exact ⟨⟨k + 1, by omega, by go_num, congrArg Value.bool HN.out.symm, by exact bw, by exact bkw⟩, rfl⟩) | ((repeat apply Exists.intro); exact ⟨⟨k + 1, by omega, by go_num, congrArg Value.bool HN.out.symm, by exact bw, by exact bkw⟩, rfl, rfl⟩) | ((repeat apply Exists.intro); exact ⟨⟨k + 1, by omega, by go_num, congrArg Value.bool HN.out.symm, by exact bw, by exact bkw⟩, rfl, rfl, rfl⟩) | ((repeat apply Exists.intro); exact ⟨⟨k + 1, by omega, by go_num, congrArg Value.bool HN.out.symm, by exact bw, by exact bkw⟩, rfl, rfl, rfl, rfl⟩) | ((repeat apply Exists.intro); exact ⟨⟨k + 1, by omega, by go_num, congrArg Value.bool HN.out.symm, by exact bw, by exact bkw⟩, rfl, rfl, rfl, rfl, rfl⟩))
            case measure => simp [intOf]; omega
          | true =>
            by_cases h1 : 0 ≤ mf
            rotate_left
            ·
              have HV : Hid (masB ⟨nm, mf, mu, mk⟩ = false) := by show _ = _; rw [HT.out]; simp [h1]
              have HN : Hid ((f3 && (Y.ma.take (k + 1)).all masB) = false) := by show _ = _; exact HN0.out.trans (by rw [HV.out]; rfl)
              have h1' := Int.not_le.1 h1; have H1 := Lib.hid h1; clear h1
              clear HV HN0 HT
              go_wp2
              go_roundw
              case rel => (first | exact ⟨k + 1, by omega, by go_num, congrArg Value.bool HN.out.symm, by exact bw, by exact bkw⟩ | ((repeat apply Exists.intro); exact ⟨⟨k + 1, by omega, by go_num, congrArg Value.bool HN.out.symm, by exact bw, by exact bkw⟩, rfl⟩) | ((repeat apply Exists.intro); exact ⟨⟨k + 1, by omega, by go_num, congrArg Value.bool HN.out.symm, by exact bw, by exact bkw⟩, rfl, rfl⟩) | ((repeat apply Exists.intro); exact ⟨⟨k + 1, by omega, by go_num, congrArg Value.bool HN.out.symm, by exact bw, by exact bkw⟩, rfl, rfl, rfl⟩) | ((repeat apply Exists.intro); exact ⟨⟨k + 1, by omega, by go_num, congrArg Value.bool HN.out.symm, by exact bw, by exact bkw⟩, rfl, rfl, rfl, rfl⟩) | ((repeat apply Exists.intro); exact ⟨⟨k + 1, by omega, by go_num, congrArg Value.bool HN.out.symm, by exact bw, by exact bkw⟩, rfl, rfl, rfl, rfl, rfl⟩))
              case measure => simp [intOf]; omega
            ·
              by_cases h2 : mf < mu
              rotate_left
              ·
                have HV : Hid (masB ⟨nm, mf, mu, mk⟩ = false) := by show _ = _; rw [HT.out]; simp [h1, h2]
                have HN : Hid ((f3 && (Y.ma.take (k + 1)).all masB) = false) := by show _ = _; exact HN0.out.trans (by rw [HV.out]; rfl)
                have h2' := Int.not_lt.1 h2; have H2 := Lib.hid h2; clear h2
                clear HV HN0 HT
                go_wp2
                go_roundw
                case rel => (first | exact ⟨k + 1, by omega, by go_num, congrArg Value.bool HN.out.symm, by exact bw, by exact bkw⟩ | ((repeat apply Exists.intro); exact ⟨⟨k + 1, by omega, by go_num, congrArg Value.bool HN.out.symm, by exact bw, by exact bkw⟩, rfl⟩) | ((repeat apply Exists.intro); exact ⟨⟨k + 1, by omega, by go_num, congrArg Value.bool HN.out.symm, by exact bw, by exact bkw⟩, rfl, rfl⟩) | ((repeat apply Exists.intro); exact ⟨⟨k + 1, by omega, by go_num, congrArg Value.bool HN.out.symm, by exact bw, by exact bkw⟩, rfl, rfl, rfl⟩) | ((repeat apply Exists.intro); exact ⟨⟨k + 1, by omega, by go_num, congrArg Value.bool HN.out.symm, by exact bw, by exact bkw⟩, rfl, rfl, rfl, rfl⟩) | ((repeat apply Exists.intro); exact ⟨⟨k + 1, by omega, by go_num, congrArg Value.bool HN.out.symm, by exact bw, by exact bkw⟩, rfl, rfl, rfl, rfl, rfl⟩))
                case measure => simp [intOf]; omega
              ·
                by_cases h3 : mu ≤ 100001
                rotate_left
                ·
                  have HV : Hid (masB ⟨nm, mf, mu, mk⟩ = false) := by show _ = _; rw [HT.out]; simp [h1, h2, h3]
                  have HN : Hid ((f3 && (Y.ma.take (k + 1)).all masB) = false) := by show _ = _; exact HN0.out.trans (by rw [HV.out]; rfl)
                  have h3' := Int.not_le.1 h3; have H3 := Lib.hid h3; clear h3
                  clear HV HN0 HT
                  go_wp2
                  go_roundw
                  case rel => (first | exact ⟨k + 1, by omega, by go_num, congrArg Value.bool HN.out.symm, by exact bw, by exact bkw⟩ | ((repeat apply Exists.intro); exact ⟨⟨k + 1, by omega, by go_num, congrArg Value.bool HN.out.symm, by exact bw, by exact bkw⟩, rfl⟩) | ((repeat apply Exists.intro); exact ⟨⟨k + 1, by omega, by go_num, congrArg Value.bool HN.out.symm, by exact bw, by exact bkw⟩, rfl, rfl⟩) | ((repeat apply Exists.intro); exact ⟨⟨k + 1, by omega, by go_num, congrArg Value.bool HN.out.symm, by exact bw, by exact bkw⟩, rfl, rfl, rfl⟩) | ((repeat apply Exists.intro); exact ⟨⟨k + 1, by omega, by go_num, congrArg Value.bool HN.out.symm, by exact bw, by exact bkw⟩, rfl, rfl, rfl, rfl⟩) | ((repeat apply Exists.intro); exact ⟨⟨k + 1, by omega, by go_num, congrArg Value.bool HN.out.symm, by exact bw, by exact bkw⟩, rfl, rfl, rfl, rfl, rfl⟩))
                  case measure => simp [intOf]; omega
                ·
                  cases h4 : inB mk 1 9 with
                  | false =>
                    have HV : Hid (masB ⟨nm, mf, mu, mk⟩ = false) := by show _ = _; rw [HT.out]; simp [h1, h2, h3, h4]
                    have HN : Hid ((f3 && (Y.ma.take (k + 1)).all masB) = false) := by show _ = _; exact HN0.out.trans (by rw [HV.out]; rfl)
                    have H4 := Lib.hid h4; clear h4
                    clear HV HN0 HT
                    go_wp2_with (go_at_call 66; refine (in_any _ _ _ _).mono ?_; rintro e w' ⟨rfl, rfl⟩; first | rw [H4.out])
                    go_roundw
                    case rel => (first | exact ⟨k + 1, by omega, by go_num, congrArg Value.bool HN.out.symm, by exact bw, by exact bkw⟩ | ((repeat apply Exists.intro); exact ⟨⟨k + 1, by omega, by go_num, congrArg Value.bool HN.out.symm, by exact bw, by exact bkw⟩, rfl⟩) | ((repeat apply Exists.intro); exact ⟨⟨k + 1, by omega, by go_num, congrArg Value.bool HN.out.symm, by exact bw, by exact bkw⟩, rfl, rfl⟩) | ((repeat apply Exists.intro); exact ⟨⟨k + 1, by omega, by go_num, congrArg Value.bool HN.out.symm, by exact bw, by exact bkw⟩, rfl, rfl, rfl⟩) | ((repeat apply Exists.intro); exact ⟨⟨k + 1, by omega, by go_num, congrArg Value.bool HN.out.symm, by exact bw, by exact bkw⟩, rfl, rfl, rfl, rfl⟩) | ((repeat apply Exists.intro); exact ⟨⟨k + 1, by omega, by go_num, congrArg Value.bool HN.out.symm, by exact bw, by exact bkw⟩, rfl, rfl, rfl, rfl, rfl⟩))
                    case measure => simp [intOf]; omega
                  | true =>
                    have HV : Hid (masB ⟨nm, mf, mu, mk⟩ = true) := by show _ = _; rw [HT.out]; simp [h1, h2, h3, h4]
                    have HN : Hid ((f3 && (Y.ma.take (k + 1)).all masB) = true) := by show _ = _; exact HN0.out.trans (by rw [HV.out]; rfl)
                    have H4 := Lib.hid h4; clear h4
                    clear HV HN0 HT
                    go_wp2_with (go_at_call 66; refine (in_any _ _ _ _).mono ?_; rintro e w' ⟨rfl, rfl⟩; first | rw [H4.out])
                    go_roundw
                    case rel => (first | exact ⟨k + 1, by omega, by go_num, congrArg Value.bool HN.out.symm, by exact bw, by exact bkw⟩ | ((repeat apply Exists.intro); exact ⟨⟨k + 1, by omega, by go_num, congrArg Value.bool HN.out.symm, by exact bw, by exact bkw⟩, rfl⟩) | ((repeat apply Exists.intro); exact ⟨⟨k + 1, by omega, by go_num, congrArg Value.bool HN.out.symm, by exact bw, by exact bkw⟩, rfl, rfl⟩) | ((repeat apply Exists.intro); exact ⟨⟨k + 1, by omega, by go_num, congrArg Value.bool HN.out.symm, by exact bw, by exact bkw⟩, rfl, rfl, rfl⟩) | ((repeat apply Exists.intro); exact ⟨⟨k + 1, by omega, by go_num, congrArg Value.bool HN.out.symm, by exact bw, by exact bkw⟩, rfl, rfl, rfl, rfl⟩) | ((repeat apply Exists.intro); exact ⟨⟨k + 1, by omega, by go_num, congrArg Value.bool HN.out.symm, by exact bw, by exact bkw⟩, rfl, rfl, rfl, rfl, rfl⟩))
                    case measure => simp [intOf]; omega
        · obtain rfl : k = Y.ma.length := by omega
          rw [List.take_length]
          have HE : Hid (fineY Y = (f3 && Y.ma.all masB)) := by show _ = _; rw [HF.out, ← HF3.out, ← HF2.out, ← HF1.out, HF0.out]
          cases h9 : (f3 && Y.ma.all masB) with
          | false =>
            have H : Hid (chkY Y = 1) := by show _ = _; rw [HC'.out, HE.out, h9]; rfl
            clear HE h9
            go_wp2
            go_ret
            exact int_end H.out.symm hbw
          | true =>
            have H : Hid (chkY Y = 0) := by show _ = _; rw [HC'.out, HE.out, h9]; rfl
            clear HE h9
            go_wp2
            go_ret
            exact int_end H.out.symm hbw
end Go.Proofs.Ytjgnikmnadmheaa

namespace Go.Proofs.Ytjgnikmnadmheaa
open Go.Shelf Go.Lib Go.RowKit

def Lay25_ren : Ren :=
{
  f := fun x =>
    match x with
    | 25 => 76
    | 31 => 113
    | 32 => 114
    | 37 => 129
    | n => n,
  t := fun x =>
    match x with
    | 22 => 25
    | 3 => 3
    | 4 => 4
    | 40 => 45
    | 0 => 0
    | n => n,
  g := fun x =>
    x }
def Lay21_ren : Ren :=
{
  f := fun x =>
    match x with
    | 21 => 77
    | 27 => 115
    | 28 => 116
    | 35 => 130
    | 39 => 132
    | n => n,
  t := fun x =>
    match x with
    | 22 => 25
    | 3 => 3
    | 4 => 4
    | 0 => 0
    | n => n,
  g := fun x =>
    x }
def Lay15_ren : Ren :=
{
  f := fun x =>
    match x with
    | 15 => 78
    | n => n,
  t := fun x =>
    match x with
    | 22 => 25
    | 3 => 3
    | 4 => 4
    | n => n,
  g := fun x =>
    x }
set_option maxRecDepth 100000 in
theorem Lay25 : Lays2.n25 Try.prog Lay25_ren :=
{ mixed := by kernel_rfl, f25 := by kernel_rfl,
  f31 := by kernel_rfl,
  f32 := by kernel_rfl,
  f37 := by kernel_rfl, t0 := Try.underlying0,
  a0 := Try.isAgg0, z0 := Try.sizeOf0, v0 := Try.zeroValue0, t3 := Try.underlying3, a3 := Try.isAgg3, z3 := Try.sizeOf3,
  v3 := Try.zeroValue3, t4 := Try.underlying4, a4 := Try.isAgg4, z4 := Try.sizeOf4, v4 := Try.zeroValue4,
  t22 := Try.underlying25, a22 := Try.isAgg25, z22 := Try.sizeOf25, v22 := Try.zeroValue25, t40 := Try.underlying45,
  a40 := Try.isAgg45, z40 := Try.sizeOf45, v40 := Try.zeroValue45 }
set_option maxRecDepth 100000 in
theorem Lay21 : Lays2.n21 Try.prog Lay21_ren :=
{ mixed := by kernel_rfl, f21 := by kernel_rfl,
  f27 := by kernel_rfl,
  f28 := by kernel_rfl,
  f35 := by kernel_rfl,
  f39 := by kernel_rfl, t0 := Try.underlying0,
  a0 := Try.isAgg0, z0 := Try.sizeOf0, v0 := Try.zeroValue0, t3 := Try.underlying3, a3 := Try.isAgg3, z3 := Try.sizeOf3,
  v3 := Try.zeroValue3, t4 := Try.underlying4, a4 := Try.isAgg4, z4 := Try.sizeOf4, v4 := Try.zeroValue4,
  t22 := Try.underlying25, a22 := Try.isAgg25, z22 := Try.sizeOf25, v22 := Try.zeroValue25,
  i3 := Eq.refl (some (some (Value.int IntKind.i64 0), 1, 8)) }
set_option maxRecDepth 100000 in
theorem Lay15 : Lays2.n15 Try.prog Lay15_ren :=
{ mixed := by kernel_rfl, f15 := by kernel_rfl,
  t3 := Try.underlying3, a3 := Try.isAgg3, z3 := Try.sizeOf3, v3 := Try.zeroValue3, t4 := Try.underlying4,
  a4 := Try.isAgg4, z4 := Try.sizeOf4, v4 := Try.zeroValue4, t22 := Try.underlying25, a22 := Try.isAgg25,
  z22 := Try.sizeOf25, v22 := Try.zeroValue25, i3 := Eq.refl (some (some (Value.int IntKind.i64 0), 1, 8)) }

end Go.Proofs.Ytjgnikmnadmheaa

namespace Go.Proofs.Ytjgnikmnadmheaa
open Go.RowKit

theorem plain_of {w : World} {ad : Addr} {v : Value} (h : w.cell? ad = some v) : ad = ⟨ad.block, ad.off, none⟩ := by
  unfold World.cell? at h
  split at h
  · split at h
    · cases h
    · rename_i hs
      obtain ⟨b, o, s⟩ := ad
      cases s with
      | none => rfl
      | some _ => simp at hs
  · cases h
def cntLt (l : List Int) (x : Int) : Nat := l.countP (· < x)
theorem rising_sorted {l : List Int} (h : risingB l = true) : l.Pairwise (· < ·) := by
  have h1 := (risingB_iff l).1 h
  have hlt : ∀ d i (hi : i + d + 1 < l.length), l[i]'(by omega) < l[i + d + 1] := fun d => by
    induction d with
    | zero => intro i hi; exact h1 i (by omega)
    | succ d ih =>
      intro i hi
      have := ih i (by omega)
      have := h1 (i + d + 1) (by omega)
      exact Int.lt_trans ‹_› this
  rw [List.pairwise_iff_getElem]
  intro i j hi hj hij
  have := hlt (j - i - 1) i (by omega)
  have e : l[i + (j - i - 1) + 1]'(by omega) = l[j] := by congr 1; omega
  rw [e] at this; exact this
set_option maxHeartbeats 400000 in
theorem bsearch_any (l : List Int) (x : Int) (A : Option Addr) (c : Nat) (w : World) (hl : Lies w w.heap.size A (ints l)) (hr : risingB l = true) (hm : l.length ≤ 1000) :
    Calls Try.prog 76 #[.slice A l.length c, .int .i64 x] w fun e w' => e = .returned (.tuple #[.int .i64 (cntLt l x : Nat), .bool (l.contains x)]) ∧ Below w.heap.size w w' := by
  cases hl0 : l with
  | nil => exact (Any.slices_BinarySearch_int_empty Lay25 A c x w).mono fun e w' ⟨h1, h2⟩ => ⟨h1, by rw [h2]; exact Below.refl _ _⟩
  | cons y r =>
    have hpos : 0 < l.length := by rw [hl0]; simp
    obtain ⟨ad, rfl, hadb, c0⟩ := int_at hl hpos
    have hp := plain_of c0
    have hoff : ∀ j (hj : j < l.length), w.cell? ⟨ad.block, ad.off + j, none⟩ = some (.int .i64 (l.getD j 0)) := fun j hj => by
      obtain ⟨ad2, e2, _, c2⟩ := int_at hl hj
      cases e2
      have e0 : ad.add 0 = ad := by unfold Addr.add; simp
      rw [e0] at hp
      rw [List.getD_eq_getElem?_getD, List.getElem?_eq_getElem hj]
      rw [hp] at c2
      unfold Addr.add at c2
      by_cases hj0 : j = 0
      · subst hj0; simpa using c2
      · rw [if_neg hj0] at c2; exact c2
    have e0 : ad.add 0 = ad := by unfold Addr.add; simp
    rw [e0] at hp
    rw [← hl0, hp]
    have := Any.slices_BinarySearch_int (P := Try.prog) Lay25 ad.block ad.off l.length c l x w (Nat.le_refl _) (by omega) hoff (by rw [List.take_length]; exact (rising_sorted hr).imp (fun h => Int.le_of_lt h))
    rw [List.take_length] at this
    exact this.mono fun e w' ⟨h1, q, h2⟩ => ⟨h1, by rw [h2]; exact below_drewN (Below.refl _ _) q⟩

/-- a yard that CheckYard lets through -/
structure Valid (Y : Yd) : Prop where
  n1 : Y.cl.length ≤ 200
  n2 : Y.pi.length ≤ 8
  n3 : Y.ma.length ≤ 12
  dry : 0 ≤ Y.dry ∧ Y.dry ≤ 30
  ris : risingB Y.cl = true
  se : ∀ k, k < 24 → 0 ≤ Y.se k ∧ Y.se k ≤ 1440
  cl : ∀ d ∈ Y.cl, 0 ≤ d ∧ d ≤ 100000
  pi : ∀ p ∈ Y.pi, (0 ≤ p.s ∧ p.s ≤ 100000) ∧ (0 ≤ p.a ∧ p.a ≤ 10000) ∧ (1 ≤ p.b ∧ p.b ≤ 100)
  ma : ∀ m ∈ Y.ma, nameB m.name = true ∧ 0 ≤ m.f ∧ m.f < m.u ∧ m.u ≤ 100001 ∧ (1 ≤ m.k ∧ m.k ≤ 9)
theorem inB_iff {x a b : Int} : inB x a b = true ↔ a ≤ x ∧ x ≤ b := by unfold inB; simp
theorem valid_of {Y : Yd} (h : chkY Y = 0) : Valid Y := by
  unfold chkY at h
  split at h
  · cases h
  · rename_i hn
    split at h
    · cases h
    · rename_i hb
      split at h
      · rename_i hf
        unfold fineY at hf
        simp only [Bool.and_eq_true, List.all_eq_true, List.mem_range] at hf
        obtain ⟨⟨⟨⟨⟨f1, f2⟩, f3⟩, f4⟩, f5⟩, f6⟩ := hf
        refine ⟨by omega, by omega, by omega, inB_iff.1 f1, f2, fun k hk => ?_, fun d hd => inB_iff.1 (f4 d hd), fun p hp => ?_, fun m hm => ?_⟩
        · have := f3 (k / 2) (by omega)
          unfold seasB at this
          rw [Bool.and_eq_true, inB_iff, inB_iff] at this
          rcases Nat.mod_two_eq_zero_or_one k with e | e
          · rw [show 2 * (k / 2) = k by omega] at this; exact this.1
          · rw [show 2 * (k / 2) + 1 = k by omega] at this; exact this.2
        · have := f5 p hp
          unfold pitB at this
          simp only [Bool.and_eq_true, inB_iff] at this
          exact ⟨this.1.1, this.1.2, this.2⟩
        · have := f6 m hm
          unfold masB at this
          simp only [Bool.and_eq_true, inB_iff, decide_eq_true_eq] at this
          refine ⟨?_, this.1.1.1, this.1.1.2, this.1.2, this.2⟩
          rw [Bool.not_eq_true, List.any_eq_false] at hb
          have := hb m hm
          unfold badName at this
          simpa using this
      · cases h

/-- a day that is open -/
def openB (Y : Yd) (d : Int) : Bool := inB d 0 100000 && !Y.cl.contains d
set_option maxHeartbeats 400000 in
theorem open_any (C : Array Value) (Y : Yd) (d : Int) (w : World) (hY : YardAt w w.heap.size C Y) (hv : Valid Y) : Calls Try.prog 106 #[.agg C, .int .i64 d] w (ShEnd (openB Y d) w) := by
  obtain ⟨A1, k1, e1, L1⟩ := hY.cl
  have HB := Lib.hid (fun W (hb : Below w.heap.size w W) => bsearch_any Y.cl d A1 k1 W ((L1.below hb (Nat.le_refl _)).more hb.size) hv.ris (by have := hv.n1; omega))
  have HO : Hid (openB Y d = (inB d 0 100000 && !Y.cl.contains d)) := rfl
  generalize openB Y d = q at *
  clear hY hv L1
  generalize cntLt Y.cl d = n at *
  generalize Y.cl.contains d = bb at *
  cases h1 : inB d 0 100000 with
  | false =>
    have H1 := Lib.hid h1
    have HE : Hid (q = false) := by show _ = _; rw [HO.out, h1]; rfl
    clear h1 HO
    go_enter Try.func106, Try.ntmps106
    go_wp2_with (first | (go_at_call 76; refine (HB.out _ (by exact (by repeat (first | with_reducible exact Below.refl _ _ | with_reducible assumption | with_reducible refine Below.drew ?_ | with_reducible refine below_drewN ?_ _ | (with_reducible refine Below.alloc ?_ ?_ _; rotate_left; (try simp) <;> omega) | (with_reducible refine Below.setCell ?_ ?_ _; rotate_left; (try simp) <;> omega))))).mono ?_; rintro e w1 ⟨rfl, hb⟩; have hB1 : Below w.heap.size w w1 := Below.trans (by exact (by repeat (first | with_reducible exact Below.refl _ _ | with_reducible assumption | with_reducible refine Below.drew ?_ | with_reducible refine below_drewN ?_ _ | (with_reducible refine Below.alloc ?_ ?_ _; rotate_left; (try simp) <;> omega) | (with_reducible refine Below.setCell ?_ ?_ _; rotate_left; (try simp) <;> omega)))) (hb.mono (by simp))) | (go_at_call 66; refine (in_any _ _ _ _).mono ?_; rintro e w' ⟨rfl, rfl⟩; rw [H1.out]))
    go_ret
    exact sh_ret HE.out.symm hB1
  | true =>
    have H1 := Lib.hid h1
    have HE : Hid ((!bb) = q) := by show _ = _; rw [HO.out, h1]; rfl
    clear h1 HO
    go_enter Try.func106, Try.ntmps106
    go_wp2_with (first | (go_at_call 76; refine (HB.out _ (by exact (by repeat (first | with_reducible exact Below.refl _ _ | with_reducible assumption | with_reducible refine Below.drew ?_ | with_reducible refine below_drewN ?_ _ | (with_reducible refine Below.alloc ?_ ?_ _; rotate_left; (try simp) <;> omega) | (with_reducible refine Below.setCell ?_ ?_ _; rotate_left; (try simp) <;> omega))))).mono ?_; rintro e w1 ⟨rfl, hb⟩; have hB1 : Below w.heap.size w w1 := Below.trans (by exact (by repeat (first | with_reducible exact Below.refl _ _ | with_reducible assumption | with_reducible refine Below.drew ?_ | with_reducible refine below_drewN ?_ _ | (with_reducible refine Below.alloc ?_ ?_ _; rotate_left; (try simp) <;> omega) | (with_reducible refine Below.setCell ?_ ?_ _; rotate_left; (try simp) <;> omega)))) (hb.mono (by simp))) | (go_at_call 66; refine (in_any _ _ _ _).mono ?_; rintro e w' ⟨rfl, rfl⟩; rw [H1.out]))
    go_ret
    exact sh_ret HE.out hB1
end Go.Proofs.Ytjgnikmnadmheaa

namespace Go.Proofs.Ytjgnikmnadmheaa
open Go.RowKit
def seaI (d : Int) : Nat := (d % 360 / 30).toNat
theorem seaI_lt (d : Int) : seaI d < 12 := by unfold seaI; omega
theorem seaI_eq (d : Int) : d % 360 / 30 = (seaI d : Int) := by unfold seaI; omega
def PairEnd (a b : Int) (w : World) (e : Ending) (w' : World) : Prop := e = .returned (.agg #[.int .i64 a, .int .i64 b]) ∧ Below w.heap.size w w'
set_option maxHeartbeats 400000 in
theorem season_any (C : Array Value) (Y : Yd) (d : Int) (w : World) (hY : YardAt w w.heap.size C Y) (h0 : 0 ≤ d) (h1 : d ≤ 100000) : Calls Try.prog 105 #[.agg C, .int .i64 d] w (PairEnd (Y.se (2 * seaI d)) (Y.se (2 * seaI d + 1)) w) := by
  have hi := seaI_lt d
  have he := seaI_eq d
  have hs := hY.size
  have c0 : C[seaI d * 2]? = some (.int .i64 (Y.se (2 * seaI d))) := by rw [Nat.mul_comm]; exact hY.se _ (by omega)
  have c1 : C[seaI d * 2 + 1]? = some (.int .i64 (Y.se (2 * seaI d + 1))) := by rw [Nat.mul_comm]; exact hY.se _ (by omega)
  generalize seaI d = i at *
  generalize Y.se (2 * i) = a at *
  generalize Y.se (2 * i + 1) = b at *
  clear hY
  have hk : Bk ((w.alloc (.cells C 29)).alloc (.cells #[.int .i64 0, .int .i64 0] 23)) w.heap.size 29 C := (Bk.new w 29 C).alloc _
  have z0 := hk.cell _ c0
  have z1 := hk.cell _ c1
  have hn : (0 : Int) ≤ (i : Int) := by omega
  have hl : (i : Int) < 12 := by omega
  clear c0 c1 hk hs
  go_enter Try.func105, Try.ntmps105
  go_wp2
  exact bodyPost_ret (v := .agg #[.int .i64 a, .int .i64 b]) (by simp [results, Try.results105, go_sem]) rfl ⟨rfl, by exact (by repeat (first | with_reducible exact Below.refl _ _ | with_reducible assumption | with_reducible refine Below.drew ?_ | with_reducible refine below_drewN ?_ _ | (with_reducible refine Below.alloc ?_ ?_ _; rotate_left; (try simp) <;> omega) | (with_reducible refine Below.setCell ?_ ?_ _; rotate_left; (try simp) <;> omega)))⟩
end Go.Proofs.Ytjgnikmnadmheaa
