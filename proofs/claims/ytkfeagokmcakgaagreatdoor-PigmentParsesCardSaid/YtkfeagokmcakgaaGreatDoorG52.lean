/- The reference's Counting (fn 39). Printed by gen_n4.py. -/
import Derived.Test.YtkfeagokmcakgaaGreatDoorG02
import Derived.Test.YtkfeagokmcakgaaGreatDoorG07
import Derived.Test.YtkfeagokmcakgaaGreatDoorG43
import Derived.Test.YtkfeagokmcakgaaGreatDoorG50
import Derived.Test.YtkfeagokmcakgaaGreatDoorG51

set_option linter.unusedVariables false
set_option linter.unusedSimpArgs false

namespace Go.Proofs.YtkfeagokmcakgaaGreatDoor
open Go.RowKit

set_option maxHeartbeats 6000000 in
set_option maxRecDepth 100000 in
theorem rcounting_any (l : List Rul) (A : Option Addr) (c : Nat) (known : Int) (w : World) (hl : Lies w w.heap.size A (rulesC l)) (hok : RulOK l) (hm : l.length ≤ 1000) :
    Calls Tryz.prog 39 #[.agg #[.slice A l.length c], .int .i64 known] w (SlE (cntL l known) w) := by
  have HLW : Hid (∀ V, Below w.heap.size w V → Lies V V.heap.size A (rulesC l)) := fun V hV => lies_on hl hV
  have HF : Hid (∀ r ∈ l, ∀ V, Calls Tryz.prog 85 #[r.agg] V (ShEnd (frm r) V)) := fun r hr V => rformed_any r V (hok r hr).1 (hok r hr).2.1
  have HEN : Hid ((l.take l.length).filter (cntB l known) = cntL l known) := by show _ = _; rw [List.take_length]; rfl
  have HV0 : Hid (∀ id, voidB (l.take 0) known id = false) := fun id => by simp [voidB]
  have HVE : Hid (∀ id, voidB (l.take l.length) known id = voidB l known id) := fun id => by rw [List.take_length]
  clear hl hok
  go_enter Tryz.func39, Tryz.ntmps39
  go_upto_region 3 with fail
  have hk0 : Hid (Bk (w.alloc (.cells #[.slice A l.length c] 25)) w.heap.size 25 #[.slice A l.length c]) := Bk.new _ _ _
  have hb0 : Below w.heap.size w (w.alloc (.cells #[.slice A l.length c] 25)) := (Below.refl _ _).alloc (Nat.le_refl _) _
  go_loopw [5, 6] (fun v y wr => ∃ (i : Nat) (A' : Option Addr) (c' : Nat), i ≤ l.length ∧ v = .slice A' ((l.take i).filter (cntB l known)).length c' ∧ y = .int .i64 i ∧ Hid (wr.ownsRow (w.heap.size + 1) 50 6 (.slice A' ((l.take i).filter (cntB l known)).length c') ((l.take i).filter (cntB l known)).length (rulesC ((l.take i).filter (cntB l known)))) ∧ Hid (Bk wr w.heap.size 25 #[.slice A l.length c]) ∧ Below w.heap.size w wr) (fun _ y _ => l.length - (intOf y).toNat)
  case atStart => exact ⟨0, none, 0, by omega, rfl, rfl, World.ownsRow_nil _ _ _ _, hk0, hb0⟩
  case round =>
    obtain ⟨i, A1, c1, hi, rfl, rfl, ho, hk, hbw⟩ := hrel
    clear hk0 hb0
    have z0 := hk.out.cell 0 rfl
    have hkl := hk.out.lt
    by_cases hlt : i < l.length
    · obtain ⟨ad, rfl, _, d0, d1, d2, d3, d4, d5⟩ := rule_at (HLW.out wr hbw) hlt
      have HF1 := Lib.hid (HF.out _ (List.getElem_mem hlt))
      have HSK := Lib.hid (fun h => filt_skip (p := cntB l known) hlt h)
      have HPT := Lib.hid (fun h => filt_take (p := cntB l known) hlt h)
      have hfl := filt_len l (cntB l known) i
      generalize (l.take i).filter (cntB l known) = fk at *
      generalize l[i] = r at *
      have HVD : Hid (cntB l known r = (frm r && decide (r.known ≤ known) && !decide (r.kind = 6) && !voidB l known r.id)) := rfl
      have HSN := Lib.hid (rulesC_snoc fk r)
      obtain ⟨id1, kn1, kd1, x1, y1, of1⟩ := r
      dsimp only at *
      have hb1 : Below wr.heap.size wr (wr.alloc (.cells #[.int .i64 id1, .int .i64 kn1, .int .u8 kd1, .string x1, .string y1, .int .i64 of1] 50)) := (Below.refl _ _).alloc (Nat.le_refl _) _
      have HBX : Hid (∀ V, Below (wr.alloc (.cells #[.int .i64 id1, .int .i64 kn1, .int .u8 kd1, .string x1, .string y1, .int .i64 of1] 50)).heap.size (wr.alloc (.cells #[.int .i64 id1, .int .i64 kn1, .int .u8 kd1, .string x1, .string y1, .int .i64 of1] 50)) V → Bk V wr.heap.size 50 #[.int .i64 id1, .int .i64 kn1, .int .u8 kd1, .string x1, .string y1, .int .i64 of1] ∧ Bk V w.heap.size 25 #[.slice (some ad) l.length c] ∧ V.ownsRow (w.heap.size + 1) 50 6 (.slice A1 fk.length c1) fk.length (rulesC fk) ∧ Below w.heap.size w V) := fun V hV => by
        have h1 : Bk (wr.alloc (.cells #[.int .i64 id1, .int .i64 kn1, .int .u8 kd1, .string x1, .string y1, .int .i64 of1] 50)) wr.heap.size 50 #[.int .i64 id1, .int .i64 kn1, .int .u8 kd1, .string x1, .string y1, .int .i64 of1] := Bk.new _ _ _
        have h2 : Below wr.heap.size wr V := hb1.trans (hV.mono hb1.size)
        exact ⟨h1.below hV h1.lt, hk.out.below h2 hkl, ownsRow_below ho.out h2 (Nat.le_refl _), hbw.trans (h2.mono hbw.size)⟩
      cases hfr : frm ⟨id1, kn1, kd1, x1, y1, of1⟩
      · rw [hfr] at HF1 HVD
        have HS2 := Lib.hid (HSK.out (by rw [HVD.out]; rfl))
        clear hfr HSK HPT HVD HSN
        go_wp2_with (first | (go_at_call 85; refine (HF1.out _).mono ?_; rintro e u ⟨rfl, hb⟩; have hbu : Below (wr.alloc (.cells #[.int .i64 id1, .int .i64 kn1, .int .u8 kd1, .string x1, .string y1, .int .i64 of1] 50)).heap.size (wr.alloc (.cells #[.int .i64 id1, .int .i64 kn1, .int .u8 kd1, .string x1, .string y1, .int .i64 of1] 50)) u := hb; obtain ⟨qa, qb, _, _⟩ := HBX.out u hbu; have y0 := qa.cell 0 rfl; have y1' := qa.cell 1 rfl; have y2' := qa.cell 2 rfl; have y3' := qb.cell 0 rfl; clear hb qa qb))
        obtain ⟨_, q2, q3, q4⟩ := HBX.out u hbu
        have hQ2 := Lib.hid q2
        have hQ3 := Lib.hid q3
        clear q2 q3 HBX y0 y1' y2' y3' ho hk
        go_roundw
        case rel => exact ⟨i + 1, A1, c1, by omega, by rw [HS2.out], by go_num, by rw [HS2.out]; exact hQ3, hQ2, q4⟩
        case measure => simp [intOf]; omega
      rw [hfr] at HF1 HVD
      by_cases h6 : kd1 = 6
      · have h61 : (kd1 == 6) = true := by rw [beq_iff_eq]; exact h6
        have HS2 := Lib.hid (HSK.out (by rw [HVD.out]; simp [h6]))
        clear hfr HSK HPT HVD HSN h6
        go_wp2_with (first | (go_at_call 85; refine (HF1.out _).mono ?_; rintro e u ⟨rfl, hb⟩; have hbu : Below (wr.alloc (.cells #[.int .i64 id1, .int .i64 kn1, .int .u8 kd1, .string x1, .string y1, .int .i64 of1] 50)).heap.size (wr.alloc (.cells #[.int .i64 id1, .int .i64 kn1, .int .u8 kd1, .string x1, .string y1, .int .i64 of1] 50)) u := hb; obtain ⟨qa, qb, _, _⟩ := HBX.out u hbu; have y0 := qa.cell 0 rfl; have y1' := qa.cell 1 rfl; have y2' := qa.cell 2 rfl; have y3' := qb.cell 0 rfl; clear hb qa qb))
        obtain ⟨_, q2, q3, q4⟩ := HBX.out u hbu
        have hQ2 := Lib.hid q2
        have hQ3 := Lib.hid q3
        clear q2 q3 HBX y0 y1' y2' y3' ho hk
        go_roundw
        case rel => exact ⟨i + 1, A1, c1, by omega, by rw [HS2.out], by go_num, by rw [HS2.out]; exact hQ3, hQ2, q4⟩
        case measure => simp [intOf]; omega
      have h61 : (kd1 == 6) = false := by rw [beq_eq_false_iff_ne]; exact h6
      by_cases hkn : kn1 ≤ known
      case neg =>
        have hkn2 : known < kn1 := by omega
        have HS2 := Lib.hid (HSK.out (by rw [HVD.out]; simp [hkn]))
        clear hfr HSK HPT HVD HSN h6
        go_wp2_with (first | (go_at_call 85; refine (HF1.out _).mono ?_; rintro e u ⟨rfl, hb⟩; have hbu : Below (wr.alloc (.cells #[.int .i64 id1, .int .i64 kn1, .int .u8 kd1, .string x1, .string y1, .int .i64 of1] 50)).heap.size (wr.alloc (.cells #[.int .i64 id1, .int .i64 kn1, .int .u8 kd1, .string x1, .string y1, .int .i64 of1] 50)) u := hb; obtain ⟨qa, qb, _, _⟩ := HBX.out u hbu; have y0 := qa.cell 0 rfl; have y1' := qa.cell 1 rfl; have y2' := qa.cell 2 rfl; have y3' := qb.cell 0 rfl; clear hb qa qb))
        obtain ⟨_, q2, q3, q4⟩ := HBX.out u hbu
        have hQ2 := Lib.hid q2
        have hQ3 := Lib.hid q3
        clear q2 q3 HBX y0 y1' y2' y3' ho hk
        go_roundw
        case rel => exact ⟨i + 1, A1, c1, by omega, by rw [HS2.out], by go_num, by rw [HS2.out]; exact hQ3, hQ2, q4⟩
        case measure => simp [intOf]; omega
      have hkn2 : ¬ known < kn1 := by omega
      go_upto_region 10 with (first | (go_at_call 85; refine (HF1.out _).mono ?_; rintro e u ⟨rfl, hb⟩; have hbu : Below (wr.alloc (.cells #[.int .i64 id1, .int .i64 kn1, .int .u8 kd1, .string x1, .string y1, .int .i64 of1] 50)).heap.size (wr.alloc (.cells #[.int .i64 id1, .int .i64 kn1, .int .u8 kd1, .string x1, .string y1, .int .i64 of1] 50)) u := hb; obtain ⟨qa, qb, _, _⟩ := HBX.out u hbu; have y0 := qa.cell 0 rfl; have y1' := qa.cell 1 rfl; have y2' := qa.cell 2 rfl; have y3' := qb.cell 0 rfl; clear hb qa qb))
      have HBU : Hid (∀ V, Below u.heap.size u V → Bk V wr.heap.size 50 #[.int .i64 id1, .int .i64 kn1, .int .u8 kd1, .string x1, .string y1, .int .i64 of1] ∧ Bk V w.heap.size 25 #[.slice (some ad) l.length c] ∧ V.ownsRow (w.heap.size + 1) 50 6 (.slice A1 fk.length c1) fk.length (rulesC fk) ∧ Below w.heap.size w V) := fun V hV => HBX.out V (hbu.trans (hV.mono hbu.size))
      have hbuu : Below u.heap.size u u := Below.refl _ _
      have HI0 := Lib.hid (HV0.out id1)
      have HIE := Lib.hid (HVE.out id1)
      clear HBX hbu y0 y1' y2' y3' hb1 d0 d1 d2 d3 d4 d5 z0 HF1
      generalize hwr : wr.heap.size = b1 at *
      go_loopw [9, 10] (fun z y wr => ∃ k : Nat, k ≤ l.length ∧ z = .bool (voidB (l.take k) known id1) ∧ y = .int .i64 k ∧ Below u.heap.size u wr) (fun _ y _ => l.length - (intOf y).toNat)
      case atStart => exact ⟨0, by omega, by rw [HI0.out], rfl, hbuu⟩
      case round =>
        obtain ⟨k, hk2, rfl, rfl, hbv⟩ := hrel
        obtain ⟨q1, q2, _, q4⟩ := HBU.out wr hbv
        have z0 := q2.cell 0 rfl
        have e0 := q1.cell 0 rfl
        by_cases hlt2 : k < l.length
        · obtain ⟨ad2, e2, _, d0, d1, d2, d3, d4, d5⟩ := rule_at (HLW.out wr q4) hlt2
          cases e2
          have HF2 := Lib.hid (HF.out _ (List.getElem_mem hlt2))
          have HVT := Lib.hid (void_take l known k hlt2 id1)
          generalize l[k] = r at *
          obtain ⟨id2, kn2, kd2, x2, y2, of2⟩ := r
          have HVT : Hid (voidB (l.take (k + 1)) known id1 = (voidB (l.take k) known id1 || (frm ⟨id2, kn2, kd2, x2, y2, of2⟩ && decide (kn2 ≤ known) && decide (kd2 = 6)) && decide (of2 = id1))) := HVT.out
          dsimp only at *
          have hb2 : Below wr.heap.size wr (wr.alloc (.cells #[.int .i64 id2, .int .i64 kn2, .int .u8 kd2, .string x2, .string y2, .int .i64 of2] 50)) := (Below.refl _ _).alloc (Nat.le_refl _) _
          have HBY : Hid (∀ V, Below (wr.alloc (.cells #[.int .i64 id2, .int .i64 kn2, .int .u8 kd2, .string x2, .string y2, .int .i64 of2] 50)).heap.size (wr.alloc (.cells #[.int .i64 id2, .int .i64 kn2, .int .u8 kd2, .string x2, .string y2, .int .i64 of2] 50)) V → Bk V wr.heap.size 50 #[.int .i64 id2, .int .i64 kn2, .int .u8 kd2, .string x2, .string y2, .int .i64 of2] ∧ Bk V b1 50 #[.int .i64 id1, .int .i64 kn1, .int .u8 kd1, .string x1, .string y1, .int .i64 of1] ∧ Below u.heap.size u V) := fun V hV => by
            have h1 : Bk (wr.alloc (.cells #[.int .i64 id2, .int .i64 kn2, .int .u8 kd2, .string x2, .string y2, .int .i64 of2] 50)) wr.heap.size 50 #[.int .i64 id2, .int .i64 kn2, .int .u8 kd2, .string x2, .string y2, .int .i64 of2] := Bk.new _ _ _
            have h2 : Below wr.heap.size wr V := hb2.trans (hV.mono hb2.size)
            have h3 : Below u.heap.size u V := hbv.trans (h2.mono hbv.size)
            exact ⟨h1.below hV h1.lt, (HBU.out V h3).1, h3⟩
          clear q1 q2 q4
          cases hB : voidB (l.take k) known id1
          · rw [hB] at HVT
            cases hf2 : frm ⟨id2, kn2, kd2, x2, y2, of2⟩
            · rw [hf2] at HF2 HVT
              have HN : Hid (voidB (l.take (k + 1)) known id1 = false) := by show _ = _; rw [HVT.out]; rfl
              clear hf2 hB HVT
              clear HVD HSK HPT HSN HF HLW HBU
              go_wp2_with (first | (go_at_call 85; refine (HF2.out _).mono ?_; rintro e u2 ⟨rfl, hb⟩; have hbu2 : Below (wr.alloc (.cells #[.int .i64 id2, .int .i64 kn2, .int .u8 kd2, .string x2, .string y2, .int .i64 of2] 50)).heap.size (wr.alloc (.cells #[.int .i64 id2, .int .i64 kn2, .int .u8 kd2, .string x2, .string y2, .int .i64 of2] 50)) u2 := hb; obtain ⟨qa, qb, qc⟩ := HBY.out u2 hbu2; have s1 := qa.cell 1 rfl; have s2 := qa.cell 2 rfl; have s5 := qa.cell 5 rfl; have s0 := qb.cell 0 rfl; clear hb qa qb))
              go_roundw
              case rel => exact ⟨k + 1, by omega, by rw [HN.out], by go_num, qc⟩
              case measure => simp [intOf]; omega
            rw [hf2] at HF2 HVT
            by_cases g6 : kd2 = 6
            case neg =>
              have g61 : (kd2 == 6) = false := by rw [beq_eq_false_iff_ne]; exact g6
              have HN : Hid (voidB (l.take (k + 1)) known id1 = false) := by show _ = _; rw [HVT.out]; simp [g6]
              clear hf2 hB HVT
              clear HVD HSK HPT HSN HF HLW HBU
              go_wp2_with (first | (go_at_call 85; refine (HF2.out _).mono ?_; rintro e u2 ⟨rfl, hb⟩; have hbu2 : Below (wr.alloc (.cells #[.int .i64 id2, .int .i64 kn2, .int .u8 kd2, .string x2, .string y2, .int .i64 of2] 50)).heap.size (wr.alloc (.cells #[.int .i64 id2, .int .i64 kn2, .int .u8 kd2, .string x2, .string y2, .int .i64 of2] 50)) u2 := hb; obtain ⟨qa, qb, qc⟩ := HBY.out u2 hbu2; have s1 := qa.cell 1 rfl; have s2 := qa.cell 2 rfl; have s5 := qa.cell 5 rfl; have s0 := qb.cell 0 rfl; clear hb qa qb))
              go_roundw
              case rel => exact ⟨k + 1, by omega, by rw [HN.out], by go_num, qc⟩
              case measure => simp [intOf]; omega
            have g61 : (kd2 == 6) = true := by rw [beq_iff_eq]; exact g6
            by_cases gk : kn2 ≤ known
            case neg =>
              have HN : Hid (voidB (l.take (k + 1)) known id1 = false) := by show _ = _; rw [HVT.out]; simp [gk]
              clear hf2 hB HVT g6
              clear HVD HSK HPT HSN HF HLW HBU
              go_wp2_with (first | (go_at_call 85; refine (HF2.out _).mono ?_; rintro e u2 ⟨rfl, hb⟩; have hbu2 : Below (wr.alloc (.cells #[.int .i64 id2, .int .i64 kn2, .int .u8 kd2, .string x2, .string y2, .int .i64 of2] 50)).heap.size (wr.alloc (.cells #[.int .i64 id2, .int .i64 kn2, .int .u8 kd2, .string x2, .string y2, .int .i64 of2] 50)) u2 := hb; obtain ⟨qa, qb, qc⟩ := HBY.out u2 hbu2; have s1 := qa.cell 1 rfl; have s2 := qa.cell 2 rfl; have s5 := qa.cell 5 rfl; have s0 := qb.cell 0 rfl; clear hb qa qb))
              go_roundw
              case rel => exact ⟨k + 1, by omega, by rw [HN.out], by go_num, qc⟩
              case measure => simp [intOf]; omega
            by_cases go : of2 = id1
            case neg =>
              have go1 : (of2 == id1) = false := by rw [beq_eq_false_iff_ne]; exact go
              have HN : Hid (voidB (l.take (k + 1)) known id1 = false) := by show _ = _; rw [HVT.out]; simp [go]
              clear hf2 hB HVT go g6
              clear HVD HSK HPT HSN HF HLW HBU
              go_wp2_with (first | (go_at_call 85; refine (HF2.out _).mono ?_; rintro e u2 ⟨rfl, hb⟩; have hbu2 : Below (wr.alloc (.cells #[.int .i64 id2, .int .i64 kn2, .int .u8 kd2, .string x2, .string y2, .int .i64 of2] 50)).heap.size (wr.alloc (.cells #[.int .i64 id2, .int .i64 kn2, .int .u8 kd2, .string x2, .string y2, .int .i64 of2] 50)) u2 := hb; obtain ⟨qa, qb, qc⟩ := HBY.out u2 hbu2; have s1 := qa.cell 1 rfl; have s2 := qa.cell 2 rfl; have s5 := qa.cell 5 rfl; have s0 := qb.cell 0 rfl; clear hb qa qb))
              go_roundw
              case rel => exact ⟨k + 1, by omega, by rw [HN.out], by go_num, qc⟩
              case measure => simp [intOf]; omega
            have go1 : (of2 == id1) = true := by rw [beq_iff_eq]; exact go
            have HN : Hid (voidB (l.take (k + 1)) known id1 = true) := by show _ = _; rw [HVT.out]; simp [gk, g6, go]
            clear hf2 hB HVT go g6
            clear HVD HSK HPT HSN HF HLW HBU
            go_wp2_with (first | (go_at_call 85; refine (HF2.out _).mono ?_; rintro e u2 ⟨rfl, hb⟩; have hbu2 : Below (wr.alloc (.cells #[.int .i64 id2, .int .i64 kn2, .int .u8 kd2, .string x2, .string y2, .int .i64 of2] 50)).heap.size (wr.alloc (.cells #[.int .i64 id2, .int .i64 kn2, .int .u8 kd2, .string x2, .string y2, .int .i64 of2] 50)) u2 := hb; obtain ⟨qa, qb, qc⟩ := HBY.out u2 hbu2; have s1 := qa.cell 1 rfl; have s2 := qa.cell 2 rfl; have s5 := qa.cell 5 rfl; have s0 := qb.cell 0 rfl; clear hb qa qb))
            go_roundw
            case rel => exact ⟨k + 1, by omega, by rw [HN.out], by go_num, qc⟩
            case measure => simp [intOf]; omega
          · rw [hB] at HVT
            have HN : Hid (voidB (l.take (k + 1)) known id1 = true) := by show _ = _; rw [HVT.out]; rfl
            clear hB HVT
            generalize frm ⟨id2, kn2, kd2, x2, y2, of2⟩ = F2 at *
            clear HVD HSK HPT HSN HF HLW HBU
            go_wp2_with (first | (go_at_call 85; refine (HF2.out _).mono ?_; rintro e u2 ⟨rfl, hb⟩; have hbu2 : Below (wr.alloc (.cells #[.int .i64 id2, .int .i64 kn2, .int .u8 kd2, .string x2, .string y2, .int .i64 of2] 50)).heap.size (wr.alloc (.cells #[.int .i64 id2, .int .i64 kn2, .int .u8 kd2, .string x2, .string y2, .int .i64 of2] 50)) u2 := hb; obtain ⟨qa, qb, qc⟩ := HBY.out u2 hbu2; have s1 := qa.cell 1 rfl; have s2 := qa.cell 2 rfl; have s5 := qa.cell 5 rfl; have s0 := qb.cell 0 rfl; clear hb qa qb))
            go_roundw
            case rel => exact ⟨k + 1, by omega, by rw [HN.out], by go_num, qc⟩
            case measure => simp [intOf]; omega
        · obtain rfl : k = l.length := by omega
          rw [HIE.out]
          cases hvv : voidB l known id1
          · rw [hvv] at HVD
            have HS2 := Lib.hid (HPT.out (by rw [HVD.out]; simp [hkn, h6]))
            obtain ⟨_, q2, q3, q4⟩ := HBU.out wr hbv
            have hQ3 := Lib.hid q3
            have hQ2 := Lib.hid q2
            have f1 := q1.cell 1 rfl
            have f2 := q1.cell 2 rfl
            have f3 := q1.cell 3 rfl
            have f4 := q1.cell 4 rfl
            have f5 := q1.cell 5 rfl
            have hQS := q4.size
            have hq2l := q2.lt
            clear hvv hfr HSK HPT HVD HBU HI0 HIE h6 q2 q3 HF
            go_wp2_with (at_builtin; refine wpList_append1h (P := Tryz.prog) rfl (.tmp 78) (.tmp 80) 23 rfl (w.heap.size + 1) 50 zeroRul 6 64 Tryz.underlying23 info50 (by decide) (by decide) (.slice A1 fk.length c1) fk.length (rulesC fk) rfl (hQ3.out.alloc _) wr.heap.size #[.int .i64 id1, .int .i64 kn1, .int .u8 kd1, .string x1, .string y1, .int .i64 of1] 50 rfl (Bk.new _ _ _) rfl ?c1 ?c2 (by decide) ?c3 ?_)
            case c1 => exact ⟨rfl, rfl, rfl, rfl, rfl, rfl⟩
            case c2 => omega
            case c3 => first | omega | (simp; omega)
            intro v' w4 ho4 _ hb4
            replace ho4 : w4.ownsRow (w.heap.size + 1) 50 6 v' (fk.length + 1) (rulesC (fk ++ [⟨id1, kn1, kd1, x1, y1, of1⟩])) := by rw [← HSN.out]; exact ho4
            obtain ⟨A4, c4, rfl, _, _⟩ := ownsSlice ho4
            have hll : (fk ++ [(⟨id1, kn1, kd1, x1, y1, of1⟩ : Rul)]).length = fk.length + 1 := by simp
            have hk4 := Lib.hid ((hQ2.out.alloc (.cells #[.int .i64 id1, .int .i64 kn1, .int .u8 kd1, .string x1, .string y1, .int .i64 of1] 50)).below hb4 (Nat.lt_succ_self _))
            have hbw4 : Below w.heap.size w w4 := (q4.alloc hQS _).trans (hb4.mono (by omega))
            have ho5 := Lib.hid ho4
            clear ho4 hb4 f1 f2 f3 f4 f5 e0 z0 q1
            go_wp2
            go_roundw
            case rel => exact ⟨i + 1, A4, c4, by omega, by rw [HS2.out, hll], by go_num, by rw [HS2.out, hll]; exact ho5, hk4, hbw4⟩
            case measure => simp [intOf]; omega
          · rw [hvv] at HVD
            have HS2 := Lib.hid (HSK.out (by rw [HVD.out]; simp))
            obtain ⟨_, q2, q3, q4⟩ := HBU.out wr hbv
            have hQ3 := Lib.hid q3
            have hQ2 := Lib.hid q2
            clear hvv hfr HSK HPT HVD HSN HBU HI0 HIE h6 q2 q3 q1
            go_wp2
            go_roundw
            case rel => exact ⟨i + 1, A1, c1, by omega, by rw [HS2.out], by go_num, by rw [HS2.out]; exact hQ3, hQ2, q4⟩
            case measure => simp [intOf]; omega
    · obtain rfl : i = l.length := by omega
      rw [HEN.out] at ho ⊢
      have hcap := ownsSlice ho.out
      have hLI := Lib.hid (ownsRow_lies ho.out)
      clear ho HEN HF HLW hk HV0 HVE
      go_wp2
      go_ret
      obtain ⟨A2, c2, e2, h1, h2⟩ := hcap
      cases e2
      exact ⟨A1, c1, rfl, hLI.out, ⟨h1, h2⟩, hbw⟩
end Go.Proofs.YtkfeagokmcakgaaGreatDoor

namespace Go.Proofs.YtkfeagokmcakgaaGreatDoor
open Go.RowKit

set_option maxRecDepth 100000 in
theorem eq50s (id kn kd of : Int) (x y : ByteArray) (w : World) : (Op.equalIn 10000 50 (.agg #[.int .i64 id, .int .i64 kn, .int .u8 kd, .string x, .string y, .int .i64 of]) (.agg #[.int .i64 id, .int .i64 kn, .int .u8 kd, .string x, .string y, .int .i64 of])).run Tryz.prog w = .ok true w := by
  rw [run_equalIn_agg w 9999 50 _ _ (by kernel_rfl) (by kernel_rfl)]
  simp [go_sem, Program.fieldsOf, Tryz.underlying50, Op.eqFields, part, Tryz.underlying3, Tryz.underlying5, Tryz.underlying9]
set_option maxHeartbeats 1000000 in
set_option maxRecDepth 100000 in
theorem sameRules_any (l : List Rul) (A B : Option Addr) (c d : Nat) (w : World) (hl : Lies w w.heap.size A (rulesC l)) (hm : Lies w w.heap.size B (rulesC l)) (hn : l.length ≤ 100000) :
    Calls Tryz.prog 20 #[.slice A l.length c, .slice B l.length d] w (ShEnd true w) := by
  have HA : Hid (∀ V, Below w.heap.size w V → Lies V V.heap.size A (rulesC l)) := fun V hV => lies_on hl hV
  have HB : Hid (∀ V, Below w.heap.size w V → Lies V V.heap.size B (rulesC l)) := fun V hV => lies_on hm hV
  have hnn : ((l.length : Int) != (l.length : Int)) = false := by simp
  clear hl hm
  go_enter Tryz.func20, Tryz.ntmps20
  go_wp2
  go_loopw [5] (fun y wr => ∃ k : Nat, k ≤ l.length ∧ y = .int .i64 k ∧ Below w.heap.size w wr) (fun y _ => l.length - (intOf y).toNat)
  case atStart => exact ⟨0, by omega, rfl, Below.refl _ _⟩
  case round =>
    obtain ⟨k, hk, rfl, hbw⟩ := hrel
    by_cases hlt : k < l.length
    · obtain ⟨a1, rfl, _, _⟩ := rule_at (HA.out wr hbw) hlt
      obtain ⟨a2, rfl, _, _⟩ := rule_at (HB.out wr hbw) hlt
      have HS : Hid (∀ V, Below w.heap.size w V → (V.cell? (a1.add (k * 6)) = some (.int .i64 l[k].id) ∧ V.cell? ⟨(a1.add (k * 6)).block, (a1.add (k * 6)).off + 1, none⟩ = some (.int .i64 l[k].known) ∧ V.cell? ⟨(a1.add (k * 6)).block, (a1.add (k * 6)).off + 2, none⟩ = some (.int .u8 l[k].kind) ∧ V.cell? ⟨(a1.add (k * 6)).block, (a1.add (k * 6)).off + 3, none⟩ = some (.string l[k].x) ∧ V.cell? ⟨(a1.add (k * 6)).block, (a1.add (k * 6)).off + 4, none⟩ = some (.string l[k].y) ∧ V.cell? ⟨(a1.add (k * 6)).block, (a1.add (k * 6)).off + 5, none⟩ = some (.int .i64 l[k].of)) ∧
          (V.cell? (a2.add (k * 6)) = some (.int .i64 l[k].id) ∧ V.cell? ⟨(a2.add (k * 6)).block, (a2.add (k * 6)).off + 1, none⟩ = some (.int .i64 l[k].known) ∧ V.cell? ⟨(a2.add (k * 6)).block, (a2.add (k * 6)).off + 2, none⟩ = some (.int .u8 l[k].kind) ∧ V.cell? ⟨(a2.add (k * 6)).block, (a2.add (k * 6)).off + 3, none⟩ = some (.string l[k].x) ∧ V.cell? ⟨(a2.add (k * 6)).block, (a2.add (k * 6)).off + 4, none⟩ = some (.string l[k].y) ∧ V.cell? ⟨(a2.add (k * 6)).block, (a2.add (k * 6)).off + 5, none⟩ = some (.int .i64 l[k].of))) := fun V hV => by
        obtain ⟨b1, e1, _, p1⟩ := rule_at (HA.out V hV) hlt
        obtain ⟨b2, e2, _, p2⟩ := rule_at (HB.out V hV) hlt
        cases e1; cases e2
        exact ⟨p1, p2⟩
      generalize l[k] = r at *
      obtain ⟨id, kn, kd, x, y, of⟩ := r
      dsimp only at *
      have heq := fun V => eq50s id kn kd of x y V
      have hgd : Tryz.prog.eqGuardType Tryz.prog.depth 50 = false := by kernel_rfl
      go_upto_region 6 with fail
      refine wp_region_held_drew (S := (fun V => (V.cell? (a1.add (k * 6)) = some (.int .i64 id) ∧ V.cell? ⟨(a1.add (k * 6)).block, (a1.add (k * 6)).off + 1, none⟩ = some (.int .i64 kn) ∧ V.cell? ⟨(a1.add (k * 6)).block, (a1.add (k * 6)).off + 2, none⟩ = some (.int .u8 kd) ∧ V.cell? ⟨(a1.add (k * 6)).block, (a1.add (k * 6)).off + 3, none⟩ = some (.string x) ∧ V.cell? ⟨(a1.add (k * 6)).block, (a1.add (k * 6)).off + 4, none⟩ = some (.string y) ∧ V.cell? ⟨(a1.add (k * 6)).block, (a1.add (k * 6)).off + 5, none⟩ = some (.int .i64 of)) ∧ (V.cell? (a2.add (k * 6)) = some (.int .i64 id) ∧ V.cell? ⟨(a2.add (k * 6)).block, (a2.add (k * 6)).off + 1, none⟩ = some (.int .i64 kn) ∧ V.cell? ⟨(a2.add (k * 6)).block, (a2.add (k * 6)).off + 2, none⟩ = some (.int .u8 kd) ∧ V.cell? ⟨(a2.add (k * 6)).block, (a2.add (k * 6)).off + 3, none⟩ = some (.string x) ∧ V.cell? ⟨(a2.add (k * 6)).block, (a2.add (k * 6)).off + 4, none⟩ = some (.string y) ∧ V.cell? ⟨(a2.add (k * 6)).block, (a2.add (k * 6)).off + 5, none⟩ = some (.int .i64 of)))) (by kernel_rfl) ?_ (fun hHeld => ?_)
      · exact HS.out _ hbw.drew
      have hbd : Below w.heap.size w wr.drew := hbw.drew
      refine tk 0 17 ?_
      refine tk 1 18 ?_
      refine tk 2 19 ?_
      refine tk 3 20 ?_
      refine tk 4 21 ?_
      refine tk 5 22 ?_
      refine tk 6 23 ?_
      refine tk 7 24 ?_
      refine tk 8 25 ?_
      refine wpAnyH_done (by kernel_rfl) ?_ _
      clear hHeld hbw
      go_wp2
      go_roundw
      case rel => exact ⟨k + 1, by omega, by go_num, hbd⟩
      case measure => simp [intOf]; omega
    · go_wp2
      go_ret
      exact ⟨rfl, hbw⟩
end Go.Proofs.YtkfeagokmcakgaaGreatDoor

namespace Go.Proofs.YtkfeagokmcakgaaGreatDoor
open Go.RowKit

set_option maxHeartbeats 4000000 in
set_option maxRecDepth 100000 in
theorem parse1_wide (src : ByteArray) (bs bl bb : Nat) (w : World) (hg : Glob w) (hs : src.size ≤ 1001) (hln : ∀ u ∈ linesB src, u.size ≤ 1000) (hbs : Bk w bs 9 #[.string src]) (hbl : Bk w bl 3 #[.int .i64 0]) (hbb : Bk w bb 25 #[.slice none 0 0]) (hl8 : 8 ≤ bl) (hb8 : 8 ≤ bb) (hne : bl ≠ bb) :
    Calls Tryz.prog 63 #[.pointer (some ⟨bs, 0, none⟩), .pointer (some ⟨bl, 0, none⟩), .pointer (some ⟨bb, 0, none⟩)] w (fun e w' => ∃ k, (k = 0 ∧ e = .returned (.tuple #[]) ∨ e = .panicked (pvs k)) ∧ PrsE src bl bb w k w' ∧ Kept bl bb w w') := by
  obtain ⟨mx, hmx⟩ := hg.max
  have HSP0 := Lib.hid (Tryz.strings_Split src nlB mx w (by omega) hmx (by decide))
  rw [← lines_len, ← linesB] at HSP0
  have HSM : Hid (∀ u ∈ linesB src, u.size ≤ 1000) := hln
  have HLN : Hid ((linesB src).length ≤ 1003) := Nat.le_trans (lines_le src) (by omega)
  have HG : Hid (∀ V, (∀ B, B ≤ bl → B ≤ bb → Below B w V) → Glob V) := fun V h => hg.below (h 8 hl8 hb8) (Nat.le_refl _)
  have HT : Hid (prsL src = prsG (linesB src) 0 [] 0) := rfl
  generalize linesB src = L at *
  obtain ⟨N, hN⟩ : ∃ N, N = L.length := ⟨_, rfl⟩
  rw [← hN] at HSP0 HLN
  have hN2 : N ≤ 1003 := HLN.out
  have HNL := Lib.hid hN
  have HSP1 : Hid (Calls Tryz.prog 64 #[.string src, .string ⟨#[10]⟩] w fun e w' => e = .returned (.slice (some ⟨w.heap.size, 0, none⟩) N N) ∧ Hid (Bk w' w.heap.size 9 (L.map Value.string).toArray) ∧ Hid (Kept bl bb w w') ∧ Hid (∀ B, B ≤ bl → B ≤ bb → Below B w w') ∧ w'.heap.size = w.heap.size + 1 ∧ Hid (Bk w' bl 3 #[.int .i64 0] ∧ Bk w' bb 25 #[.slice none 0 0])) := by
    refine HSP0.out.mono ?_
    rintro e w' ⟨rfl, rfl⟩
    exact ⟨rfl, Bk.new _ _ _, fun g t C _ _ h => h.alloc _, fun B hB _ => (Below.refl _ _).alloc (by have := hbl.lt; omega) _, by simp, hbl.alloc _, hbb.alloc _⟩
  have hbsc := hbs.cell 0 rfl
  have HL := Lib.hid hbl
  have HB := Lib.hid hbb
  have hll := hbl.lt
  have hbbl := hbb.lt
  clear hbs hbl hbb HSP0 HLN hg hmx hN
  go_enter Tryz.func63, Tryz.ntmps63
  go_wp2_with (first | (go_at_call 64; refine HSP1.out.mono ?_; rintro e wz ⟨rfl, HKW, HKP, HBZ, hzs, HZW⟩))
  have HBL : Bk wz bl 3 #[.int .i64 0] := HZW.out.1
  have HBBZ : Bk wz bb 25 #[.slice none 0 0] := HZW.out.2
  have HP0 : Hid (PSt (prsL src) L bl bb w 0 [] none 0 wz) := ⟨⟨0, HT.out.symm, HBL⟩, ⟨fun r hr => absurd hr (by simp), by simp⟩, HBBZ, World.ownsRow_nil _ _ _ _, HBZ.out, HKP.out, HKW.out⟩
  have hLN : L.length = N := HNL.out.symm
  go_loopw [10] (fun y wr => ∃ (k : Nat) (l : List Rul) (A : Option Addr) (c : Nat), k ≤ N ∧ y = .int .i64 k ∧ Hid (PSt (prsL src) L bl bb w k l A c wr)) (fun y _ => N - (intOf y).toNat)
  case atStart => exact ⟨0, [], none, 0, by omega, rfl, HP0⟩
  case round =>
    clear HP0
    obtain ⟨k, l, A, c, hk, rfl, hP⟩ := hrel
    by_cases hlt : k < N
    · have hkL : k < L.length := by omega
      have hKL := hP.out.q.lines
      have xk : wr.cell? ⟨w.heap.size, k, none⟩ = some (.string L[k]) := hKL.cell k (by simp [hkL])
      have HSK := Lib.hid (fun h => hP.out.skip hkL h)
      have HAT := Lib.hid (prs_at hkL)
      have HS1 := Lib.hid (HSM.out L[k] (List.getElem_mem hkL))
      generalize hs : L[k] = s at *
      have E1 := noE s
      have E2 := noL s
      by_cases h0 : s.size = 0
      · rw [decide_eq_true h0] at E1
        replace E2 := E2.2 h0
        have HP1 := Lib.hid (HSK.out (skip_nil h0))
        clear h0 hs hKL HAT
        go_wp2_with fail
        go_roundw
        case rel => exact ⟨k + 1, l, A, c, by omega, by go_num, HP1⟩
        case measure => simp [intOf]; omega
      · have hp' : 0 < s.size := by omega
        rw [decide_eq_false h0] at E1
        replace E2 := fun h => h0 (E2.1 h)
        by_cases hq : (s[0].toNat : Int) = 35
        · have HP1 := Lib.hid (HSK.out (by rw [skip_hash hp']; exact decide_eq_true hq))
          have hq2 : ((s[0].toNat : Int) == 35) = true := by rw [hq]; rfl
          clear hs hKL HAT
          go_wp2_with fail
          go_roundw
          case rel => exact ⟨k + 1, l, A, c, by omega, by go_num, HP1⟩
          case measure => simp [intOf]; omega
        · have hns : skipL s = false := by rw [skip_hash hp']; exact decide_eq_false hq
          have hq2 : ((s[0].toNat : Int) == 35) = false := by simpa using hq
          have HAT2 : Hid (∀ at_, prsG (L.drop k) k l at_ = match rdR s with
              | none => (4, (k : Int) + 1, l)
              | some x => if refE l x = 0 then prsG (L.drop (k + 1)) (k + 1) (l ++ [x]) ((k : Int) + 1) else (refE l x, (k : Int) + 1, l)) := fun at_ => by
            rw [HAT.out l at_, hns]; rfl
          have b0 : ∃ at_, Bk wr bl 3 #[.int .i64 at_] := hP.out.run.elim fun at_ h => ⟨at_, h.2⟩
          obtain ⟨at_, hbl⟩ := b0
          have q0 := hbl.cell 0 rfl
          have q1 := hbl.fro 0
          have HBL2 := Lib.hid hbl
          have HPK := Lib.hid hP.out.q.keep
          clear hs hKL HAT HSK hns hq hbl
          go_upto_region 5 with fail
          have HQ4 : Hid (PQ bl bb w (L.map Value.string).toArray l A c (wr.setCell ⟨bl, 0, none⟩ (.int .i64 (k + 1)))) := hP.out.q.set hne hll _
          have HL4 : Hid (Bk (wr.setCell ⟨bl, 0, none⟩ (.int .i64 (k + 1))) bl 3 #[.int .i64 (k + 1)]) := HBL2.out.set 0 _
          have HK4 : Hid (Kept bl bb w (wr.setCell ⟨bl, 0, none⟩ (.int .i64 (k + 1)))) := fun g t C h1 h2 hk => (HPK.out g t C h1 h2 hk).far (p := ⟨bl, 0, none⟩) h1 _
          have HT4 : Hid (∀ e at2 l2, (match rdR s with
              | none => (4, (k : Int) + 1, l)
              | some x => if refE l x = 0 then prsG (L.drop (k + 1)) (k + 1) (l ++ [x]) ((k : Int) + 1) else (refE l x, (k : Int) + 1, l)) = (e, at2, l2) → prsL src = (e, at2, l2)) := fun e at2 l2 h => by
            obtain ⟨at0, h1, h2⟩ := hP.out.run
            rw [← h1, HAT2.out at0, h]
          have HT6 : Hid (∀ x, rdR s = some x → refE l x = 0 → prsG (L.drop (k + 1)) (k + 1) (l ++ [x]) ((k : Int) + 1) = prsL src) := fun x h1 h2 => by
            obtain ⟨at0, h3, _⟩ := hP.out.run
            rw [← h3, HAT2.out at0, h1]
            show _ = if refE l x = 0 then _ else _
            rw [if_pos h2]
          have HOK4 := Lib.hid hP.out.ok
          clear q0 q1 HBL2 HPK
          generalize wr.setCell ⟨bl, 0, none⟩ (.int .i64 (k + 1)) = W4 at *
          refine wp_region_held_drew (S := fun V => V.cell? ⟨bb, 0, none⟩ = some (.slice A l.length c)) (by kernel_rfl) ?_ (fun hHeld => ?_)
          · exact HQ4.out.drew.book.cell 0 rfl
          (refine held_take 0 (some 24) ?_ rfl (by kernel_rfl) (by kernel_rfl) (by kernel_rfl) (by rfl) (fun _ _ _ h => h) (by assumption) (fun w hSw => ?_) ?_; rotate_left; ((try dsimp only at hSw); simp only [List.getElem?_toArray, List.getElem?_cons_zero, List.getElem?_cons_succ, Option.map_some]; refine congrArg some ?_; go_simp; (try with_reducible rfl)); (try simp only [Act.put, List.setIfInBounds_toArray, List.set_cons_zero, List.set_cons_succ]))
          (refine held_take 1 (some 25) ?_ rfl (by kernel_rfl) (by kernel_rfl) (by kernel_rfl) (by rfl) (fun _ _ _ h => h) (by assumption) (fun w hSw => ?_) ?_; rotate_left; ((try dsimp only at hSw); simp only [List.getElem?_toArray, List.getElem?_cons_zero, List.getElem?_cons_succ, Option.map_some]; refine congrArg some ?_; go_simp; (try with_reducible rfl)); (try simp only [Act.put, List.setIfInBounds_toArray, List.set_cons_zero, List.set_cons_succ]))
          (refine held_take 2 (some 26) ?_ rfl (by kernel_rfl) (by kernel_rfl) (by kernel_rfl) (by rfl) (fun _ _ _ h => h) (by assumption) (fun w hSw => ?_) ?_; rotate_left; ((try dsimp only at hSw); simp only [List.getElem?_toArray, List.getElem?_cons_zero, List.getElem?_cons_succ, Option.map_some]; refine congrArg some ?_; go_simp; (try with_reducible rfl)); (try simp only [Act.put, List.setIfInBounds_toArray, List.set_cons_zero, List.set_cons_succ]))
          have HQ5 := Lib.hid HQ4.out.drew
          have HL5 := Lib.hid HL4.out.drew
          have HK5 : Hid (Kept bl bb w W4.drew) := fun g t C h1 h2 hk => (HK4.out g t C h1 h2 hk).drew
          clear HQ4 HL4 HK4 hHeld
          generalize W4.drew = W5 at *
          refine held_one 3 ⟨some 27, .call { callee := .value (.func 65), args := #[.tmp 26], argTypes := #[9] }, 50, _, _, none⟩ rfl (by kernel_rfl) (by rfl) ?_
          refine wp_call_rule (s := s) (args := #[.string s]) (by go_simp) (ruleOf_any s W5 (HG.out _ HQ5.out.bel) HS1.out) ?_ ?_
          · intro x V6 hx hb6
            have HX := Lib.hid hx
            have HQ6 := Lib.hid (HQ5.out.step hb6)
            have HL6 := Lib.hid (HL5.out.below hb6 HL5.out.lt)
            have HK6 : Hid (Kept bl bb w V6) := fun g t C h1 h2 hk => by have := HK5.out g t C h1 h2 hk; exact this.below hb6 this.lt
            refine ⟨HQ6.out.book.cell 0 rfl, ?_⟩
            (try simp only [Act.put, List.setIfInBounds_toArray, List.set_cons_zero, List.set_cons_succ])
            clear hb6 hx HQ5 HL5 HK5
            refine held_one 4 ⟨some 28, .buildSlice 23 1 #[(0, .tmp 27)], 23, _, _, none⟩ rfl (by kernel_rfl) (by rfl) ?_
            unfold Oper.wp
            go_simp
            have HQ7 := Lib.hid (HQ6.out.step ((Below.refl _ _).alloc (Nat.le_refl _) (.cells #[.int .i64 x.id, .int .i64 x.known, .int .u8 x.kind, .string x.x, .string x.y, .int .i64 x.of] 50)))
            have HL7 := Lib.hid (HL6.out.alloc (.cells #[.int .i64 x.id, .int .i64 x.known, .int .u8 x.kind, .string x.x, .string x.y, .int .i64 x.of] 50))
            have HR7 : Hid (Bk (V6.alloc (.cells #[.int .i64 x.id, .int .i64 x.known, .int .u8 x.kind, .string x.x, .string x.y, .int .i64 x.of] 50)) V6.heap.size 50 #[.int .i64 x.id, .int .i64 x.known, .int .u8 x.kind, .string x.x, .string x.y, .int .i64 x.of]) := Bk.new _ _ _
            refine ⟨HQ7.out.book.cell 0 rfl, ?_⟩
            (try simp only [Act.put, List.setIfInBounds_toArray, List.set_cons_zero, List.set_cons_succ])
            clear HQ6 HL6 HK6
            generalize hV7 : V6.alloc (.cells #[.int .i64 x.id, .int .i64 x.known, .int .u8 x.kind, .string x.x, .string x.y, .int .i64 x.of] 50) = V7 at *
            refine held_one 5 ⟨some 29, .call { callee := .builtin .append, args := #[.tmp 25, .tmp 28], argTypes := #[23, 23] }, 23, _, _, none⟩ rfl (by kernel_rfl) (by rfl) ?_
            refine wp_append1 V7 (.tmp 25) (.tmp 28) 23 rfl w.heap.size 50 zeroRul 6 64 Tryz.underlying23 info50 (by decide) (by decide) (.slice A l.length c) l.length (rulesC l) rfl HQ7.out.own V6.heap.size #[.int .i64 x.id, .int .i64 x.known, .int .u8 x.kind, .string x.x, .string x.y, .int .i64 x.of] 50 rfl HR7.out (by simp) (by intro u hu; simp at hu; rcases hu with rfl | rfl | rfl | rfl | rfl | rfl <;> rfl) (Nat.lt_of_le_of_lt HOK4.out.2 (by decide)) (by decide) (Nat.le_of_lt HQ7.out.lines.lt) V7 (Below.refl _ _) ?_
            intro v8 V8 own8 bel8 gr8
            have bk8 := HQ7.out.book.below bel8 hbbl
            refine ⟨bk8.cell 0 rfl, ?_⟩
            (try simp only [Act.put, List.setIfInBounds_toArray, List.set_cons_zero, List.set_cons_succ])
            obtain ⟨A8, c8, rfl, hc8⟩ := ownsSlice own8
            have hS8 := bk8.cell 0 rfl
            (refine held_take 6 (some 5) ?_ rfl (by kernel_rfl) (by kernel_rfl) (by kernel_rfl) (by rfl) (fun _ _ _ h => h) (by assumption) (fun w hSw => ?_) ?_; rotate_left; ((try dsimp only at hSw); simp only [List.getElem?_toArray, List.getElem?_cons_zero, List.getElem?_cons_succ, Option.map_some]; refine congrArg some ?_; go_simp; (try with_reducible rfl)); (try simp only [Act.put, List.setIfInBounds_toArray, List.set_cons_zero, List.set_cons_succ]))
            refine wpAnyH_done (by kernel_rfl) ?_ _
            have HO8 := Lib.hid own8
            have HC8 := Lib.hid hc8
            have HB8 := Lib.hid bk8
            have HL8 := Lib.hid (HL7.out.below bel8 hll)
            have HK8 : Hid (Kept bl bb w V8) := fun g t C h1 h2 hk => (HQ7.out.keep g t C h1 h2 hk).below bel8 hk.lt
            have HW8 := Lib.hid (HQ7.out.lines.grown gr8 (own_ne HQ7.out.own HQ7.out.lines (by decide)))
            have HE8 : Hid (∀ B, B ≤ bl → B ≤ bb → Below B w V8) := fun B h1 h2 => (HQ7.out.bel B h1 h2).trans (bel8.mono (by omega))
            have HF8 := Lib.hid (rdR_frm HX.out)
            have HRO : Hid (RulOK (l ++ [x])) := HOK4.out.1.snoc HF8.out
            have HRF : Hid (Calls Tryz.prog 66 #[.slice A8 (l.length + 1) c8, .int .i64 l.length] V8 (IntEnd (refE l x) V8)) := by
              have h1 := ownsRow_lies own8
              rw [show rulesC l ++ (#[.int .i64 x.id, .int .i64 x.known, .int .u8 x.kind, .string x.x, .string x.y, .int .i64 x.of] : Array Value).toList = rulesC (l ++ [x]) from rulesC_snoc l x] at h1
              have h4 := refused_any (l ++ [x]) A8 c8 l.length V8 h1 HRO.out (by simp) (by have := HOK4.out.2; simp; omega) (by simpa using hc8.1) hc8.2
              rw [List.take_left, List.getElem_append_right (by omega)] at h4
              exact Lib.hid (by simpa using h4)
            have HR0 : Hid (refE l x = 0 → l.length < 200) := refE_len
            clear own8 hc8 bk8 bel8 gr8 HQ7 HL7 HR7 hV7
            have HTX : Hid (∀ e, refE l x = e → e ≠ 0 → prsL src = (e, (k : Int) + 1, l)) := fun e h1 h2 => HT4.out _ _ _ (by
              rw [HX.out]
              show (if refE l x = 0 then _ else _) = _
              rw [if_neg (by rw [h1]; exact h2), h1])
            have HT7 := Lib.hid (HT6.out x HX.out)
            clear HT4 HT6 HAT2
            generalize refE l x = R at *
            go_upto_region 7 with (first | (go_at_call 66; refine HRF.out.mono ?_; rintro e V9 ⟨rfl, hb9⟩))
            have HB9 := Lib.hid (HB8.out.below hb9 HB8.out.lt)
            have HL9 := Lib.hid (HL8.out.below hb9 HL8.out.lt)
            have HK9 : Hid (Kept bl bb w V9) := fun g t C h1 h2 hk => by have := HK8.out g t C h1 h2 hk; exact this.below hb9 this.lt
            have HW9 := Lib.hid (HW8.out.below hb9 HW8.out.lt)
            have HE9 : Hid (∀ B, B ≤ bl → B ≤ bb → Below B w V9) := fun B h1 h2 => (HE8.out B h1 h2).trans (hb9.mono (by have := HB8.out.lt; omega))
            have HO9 := Lib.hid (ownsRow_below HO8.out hb9 (Nat.le_refl _))
            have c9 := HB9.out.cell 0 rfl
            have f9 := HB9.out.fro 0
            clear HB8 HL8 HK8 HW8 HE8 HO8 hb9 hS8 HRF
            by_cases hZ : R = 0
            · subst hZ
              have HT8 := Lib.hid (HT7.out rfl)
              have HR1 := Lib.hid (HR0.out rfl)
              clear HT7 HR0 HTX
              go_wp2_with fail
              go_roundw
              case rel =>
                refine ⟨k + 1, l ++ [x], A8, c8, by omega, by go_num, ⟨(k : Int) + 1, HT8.out, HL9.out.far (p := ⟨bb, 0, none⟩) hne _⟩, ⟨HRO.out, by have := HR1.out; simp; omega⟩, ?_, ?_, fun B h1 h2 => (HE9.out B h1 h2).setCell (p := ⟨bb, 0, none⟩) h2 _, fun g t C h1 h2 hk => (HK9.out g t C h1 h2 hk).far (p := ⟨bb, 0, none⟩) h2 _, HW9.out.far (p := ⟨bb, 0, none⟩) (by show w.heap.size ≠ bb; omega) _⟩
                · rw [List.length_append]; exact HB9.out.set 0 _
                · have h1 := (far_setCells bb [.slice A8 (l.length + 1) c8] 0 V9).own HO9.out hbbl
                  rw [show rulesC l ++ (#[.int .i64 x.id, .int .i64 x.known, .int .u8 x.kind, .string x.x, .string x.y, .int .i64 x.of] : Array Value).toList = rulesC (l ++ [x]) from rulesC_snoc l x] at h1
                  rw [List.length_append]; exact h1
              case measure => simp [intOf]; omega
            · have hR' : (R == 0) = false := by simpa using hZ
              have hR2 : (R != 0) = true := by rw [bne, hR']; rfl
              have HZZ := Lib.hid hZ
              have HT8 := Lib.hid (HTX.out R rfl hZ)
              clear hZ HT7 HR0 HTX
              go_wp2_with fail
              exact ⟨rfl, R, .inr rfl, ⟨(k : Int) + 1, l, HT8.out, HL9.out, fun h => absurd h HZZ.out, HE9.out⟩, HK9.out⟩
          · intro V6 hx hb6
            refine ⟨rfl, 4, .inr rfl, ⟨(k : Int) + 1, l, HT4.out _ _ _ (by rw [hx]), HL5.out.below hb6 HL5.out.lt, fun h => absurd h (by decide), (HQ5.out.step hb6).bel⟩, fun g t C h1 h2 hk => by have := HK5.out g t C h1 h2 hk; exact this.below hb6 this.lt⟩
    · obtain rfl : k = N := by omega
      have HZ : Hid (PrsE src bl bb w 0 wr) := by
        obtain ⟨at_, h1, h2⟩ := hP.out.run
        rw [List.drop_eq_nil_of_le (by omega)] at h1
        exact ⟨at_, l, h1.symm, h2, fun _ => ⟨A, c, hP.out.q.book, by
          obtain ⟨A', c', e, h3⟩ := ownsSlice hP.out.q.own
          cases e; exact h3, ownsRow_lies hP.out.q.own, own_ge hP.out.q.own, hP.out.ok.1, hP.out.ok.2⟩, hP.out.q.bel⟩
      have HKN : Hid (Kept bl bb w wr) := hP.out.q.keep
      go_wp2_with fail
      go_end0
      exact ⟨0, .inl ⟨rfl, rfl⟩, HZ.out, HKN.out⟩

set_option maxHeartbeats 4000000 in
set_option maxRecDepth 100000 in
theorem parse_wide (src : ByteArray) (w : World) (hg : Glob w) (hs : (src.size ≤ 1001 ∧ ∀ u ∈ linesB src, u.size ≤ 1000) ∨ 20000 < src.size) (hs2 : src.size ≤ 1000000) : Calls Tryz.prog 18 #[.string src] w (ParseE src w) := by
  have h8 := hg.size
  by_cases hbig : 20000 < src.size
  · have HR : Hid (prsR src = (2, 0, [])) := by show prsR src = _; unfold prsR; rw [if_pos hbig]
    have hi : (20000 : Int) < src.size := by omega
    clear hs hg
    go_enter Tryz.func18, Tryz.ntmps18
    go_wp2
    have k1 : Bk (((w.alloc (.cells #[.string src] 9)).alloc (.cells #[.slice none 0 0] 25)).alloc (.cells #[.int .i64 2, .int .i64 0, .int .i64 0] 28)) (w.heap.size + 1) 25 #[.slice none 0 0] := by
      have h := (Bk.new (w.alloc (.cells #[.string src] 9)) 25 #[.slice none 0 0]).alloc (.cells #[.int .i64 2, .int .i64 0, .int .i64 0] 28)
      simpa using h
    have k2 : Bk (((w.alloc (.cells #[.string src] 9)).alloc (.cells #[.slice none 0 0] 25)).alloc (.cells #[.int .i64 2, .int .i64 0, .int .i64 0] 28)) (w.heap.size + 1 + 1) 28 #[.int .i64 2, .int .i64 0, .int .i64 0] := by
      have h := Bk.new ((w.alloc (.cells #[.string src] 9)).alloc (.cells #[.slice none 0 0] 25)) 28 #[.int .i64 2, .int .i64 0, .int .i64 0]
      simpa using h
    refine bodyPost_ret (results_two rfl _ _ (w.heap.size + 1) (w.heap.size + 1 + 1) [.slice none 0 0] [.int .i64 2, .int .i64 0, .int .i64 0] _ _ rfl rfl k1.range Tryz.underlying25 rfl info25 k2.range Tryz.underlying28 rfl info28) rfl ?_
    exact parse_bad HR.out ((((Below.refl _ _).alloc (Nat.le_refl _) _).alloc (by simp) _).alloc (by simp; omega) _)
  · have hs1 : src.size ≤ 1001 ∧ ∀ u ∈ linesB src, u.size ≤ 1000 := by
      rcases hs with h | h
      · exact h
      · exact absurd h (by assumption)
    have hi : ¬ (20000 : Int) < src.size := by omega
    have HR : Hid (prsR src = if (prsL src).1 = 0 then (0, 0, (prsL src).2.2) else ((prsL src).1, (prsL src).2.1, [])) := by show prsR src = _; unfold prsR; rw [if_neg hbig]
    have HG := Lib.hid hg
    have hmf : ∀ (fn : Fn) (first cap : Array Value) (w : World), (Instr.makeFunc fn first cap).run Tryz.prog w = .ok (.func fn first cap) w := fun _ _ _ _ => rfl
    clear hs hg hbig
    go_enter Tryz.func18, Tryz.ntmps18
    go_upto_region 5 with fail
    have HX0 : Hid (Bk (((((w.alloc (.cells #[.string src] 9)).alloc (.cells #[.slice none 0 0] 25)).alloc (.cells #[.int .i64 0, .int .i64 0, .int .i64 0] 28)).alloc (.cells #[.slice none 0 0] 25)).alloc (.cells #[.int .i64 0] 3)) (w.heap.size) 9 #[.string src]) := (((((Bk.new w 9 #[.string src]).alloc _).alloc _).alloc _).alloc _)
    have HX1 : Hid (Bk (((((w.alloc (.cells #[.string src] 9)).alloc (.cells #[.slice none 0 0] 25)).alloc (.cells #[.int .i64 0, .int .i64 0, .int .i64 0] 28)).alloc (.cells #[.slice none 0 0] 25)).alloc (.cells #[.int .i64 0] 3)) (w.heap.size + 1) 25 #[.slice none 0 0]) := Lib.hid (by have h := (((Bk.new (w.alloc (.cells #[.string src] 9)) 25 #[.slice none 0 0]).alloc (.cells #[.int .i64 0, .int .i64 0, .int .i64 0] 28)).alloc (.cells #[.slice none 0 0] 25)).alloc (.cells #[.int .i64 0] 3); simpa using h)
    have HX2 : Hid (Bk (((((w.alloc (.cells #[.string src] 9)).alloc (.cells #[.slice none 0 0] 25)).alloc (.cells #[.int .i64 0, .int .i64 0, .int .i64 0] 28)).alloc (.cells #[.slice none 0 0] 25)).alloc (.cells #[.int .i64 0] 3)) (w.heap.size + 1 + 1) 28 #[.int .i64 0, .int .i64 0, .int .i64 0]) := Lib.hid (by have h := ((Bk.new ((w.alloc (.cells #[.string src] 9)).alloc (.cells #[.slice none 0 0] 25)) 28 #[.int .i64 0, .int .i64 0, .int .i64 0]).alloc (.cells #[.slice none 0 0] 25)).alloc (.cells #[.int .i64 0] 3); simpa using h)
    have HX3 : Hid (Bk (((((w.alloc (.cells #[.string src] 9)).alloc (.cells #[.slice none 0 0] 25)).alloc (.cells #[.int .i64 0, .int .i64 0, .int .i64 0] 28)).alloc (.cells #[.slice none 0 0] 25)).alloc (.cells #[.int .i64 0] 3)) (w.heap.size + 1 + 1 + 1) 25 #[.slice none 0 0]) := Lib.hid (by have h := (Bk.new (((w.alloc (.cells #[.string src] 9)).alloc (.cells #[.slice none 0 0] 25)).alloc (.cells #[.int .i64 0, .int .i64 0, .int .i64 0] 28)) 25 #[.slice none 0 0]).alloc (.cells #[.int .i64 0] 3); simpa using h)
    have HX4 : Hid (Bk (((((w.alloc (.cells #[.string src] 9)).alloc (.cells #[.slice none 0 0] 25)).alloc (.cells #[.int .i64 0, .int .i64 0, .int .i64 0] 28)).alloc (.cells #[.slice none 0 0] 25)).alloc (.cells #[.int .i64 0] 3)) (w.heap.size + 1 + 1 + 1 + 1) 3 #[.int .i64 0]) := Lib.hid (by have h := Bk.new ((((w.alloc (.cells #[.string src] 9)).alloc (.cells #[.slice none 0 0] 25)).alloc (.cells #[.int .i64 0, .int .i64 0, .int .i64 0] 28)).alloc (.cells #[.slice none 0 0] 25)) 3 #[.int .i64 0]; simpa using h)
    have hxs : (((((w.alloc (.cells #[.string src] 9)).alloc (.cells #[.slice none 0 0] 25)).alloc (.cells #[.int .i64 0, .int .i64 0, .int .i64 0] 28)).alloc (.cells #[.slice none 0 0] 25)).alloc (.cells #[.int .i64 0] 3)).heap.size = w.heap.size + 5 := by simp
    have HXB : Hid (Below w.heap.size w (((((w.alloc (.cells #[.string src] 9)).alloc (.cells #[.slice none 0 0] 25)).alloc (.cells #[.int .i64 0, .int .i64 0, .int .i64 0] 28)).alloc (.cells #[.slice none 0 0] 25)).alloc (.cells #[.int .i64 0] 3))) := (((((Below.refl _ _).alloc (Nat.le_refl _) _).alloc (by simp) _).alloc (by simp; omega) _).alloc (by simp; omega) _).alloc (by simp; omega) _
    generalize (((((w.alloc (.cells #[.string src] 9)).alloc (.cells #[.slice none 0 0] 25)).alloc (.cells #[.int .i64 0, .int .i64 0, .int .i64 0] 28)).alloc (.cells #[.slice none 0 0] 25)).alloc (.cells #[.int .i64 0] 3)) = X at *
    have HTR : Tries 63 #[.pointer (some ⟨w.heap.size, 0, none⟩), .pointer (some ⟨w.heap.size + 1 + 1 + 1 + 1, 0, none⟩), .pointer (some ⟨w.heap.size + 1 + 1 + 1, 0, none⟩)] X.heap.size (X.alloc (.cells #[.int .i64 0] 26)) (fun k V => PrsE src (w.heap.size + 1 + 1 + 1 + 1) (w.heap.size + 1 + 1 + 1) (X.alloc (.cells #[.int .i64 0] 26)) k V ∧ Kept (w.heap.size + 1 + 1 + 1 + 1) (w.heap.size + 1 + 1 + 1) (X.alloc (.cells #[.int .i64 0] 26)) V) :=
      (parse1_wide src (w.heap.size) (w.heap.size + 1 + 1 + 1 + 1) (w.heap.size + 1 + 1 + 1) (X.alloc (.cells #[.int .i64 0] 26)) (HG.out.step (HXB.out.alloc HXB.out.size _)) hs1.1 hs1.2 (HX0.out.alloc _) (HX4.out.alloc _) (HX3.out.alloc _) (by omega) (by omega) (by omega)).mono (fun e w' ⟨k, h, h1, h2⟩ => ⟨⟨k, h, h1, h2⟩, h2 _ _ _ (by omega) (by omega) (Bk.new X 26 _)⟩)
    have HTD := Lib.hid (tried_63 (.pointer (some ⟨w.heap.size, 0, none⟩)) (.pointer (some ⟨w.heap.size + 1 + 1 + 1 + 1, 0, none⟩)) (.pointer (some ⟨w.heap.size + 1 + 1 + 1, 0, none⟩)) X _ HTR)
    clear HTR
    go_upto_region 6 with (first | (go_at_call 62; refine HTD.out.mono ?_; rintro e V ⟨k, w2, rfl, ⟨⟨at_, l, hT, hL2, hres, hbel⟩, hkp⟩, hnb, hbl⟩))
    have k1 := (hkp _ _ _ (by omega) (by omega) (HX1.out.alloc (.cells #[.int .i64 0] 26))).below hbl (by omega)
    have k2 := (hkp _ _ _ (by omega) (by omega) (HX2.out.alloc (.cells #[.int .i64 0] 26))).below hbl (by omega)
    have k4 := hL2.below hbl (by omega)
    have HBV : Hid (Below w.heap.size w V) := Lib.hid (((HXB.out.alloc HXB.out.size _).trans (hbel _ (by omega) (by omega))).trans (hbl.mono (by omega)))
    by_cases hk0 : k = 0
    · subst hk0
      obtain ⟨A, c, h3, hcc, hlies, hA, hok⟩ := hres rfl
      have k3 := h3.below hbl (by omega)
      have HLI : Hid (Lies V V.heap.size A (rulesC l)) := Lib.hid (hnb.lies (hlies) (fun ad e => by have := hA ad e; simp at this; omega))
      have HA := Lib.hid hA
      have HOK := Lib.hid hok
      have HCC := Lib.hid hcc
      have HRR : Hid (prsR src = (0, 0, l)) := by show _ = _; rw [HR.out, hT]; rfl
      have c3 := k3.cell 0 rfl
      have K1 := Lib.hid k1
      have K2 := Lib.hid k2
      clear k1 k2 k3 k4 hres hbel hkp hL2 h3 hlies hA hok hcc hnb hbl hT
      go_wp2_with (first | (refine wpList_store_blk (P := Tryz.prog) rfl 25 (.tmp 2) (.tmp 20) rfl (w.heap.size + 1) #[.slice none 0 0] #[.slice A l.length c] rfl rfl K1.out rfl info25 (by intro v hv; simp at hv; subst hv; rfl) ?_; intro W8 k8 f8) | (refine wpList_store_blk (P := Tryz.prog) rfl 28 (.tmp 3) (.tmp 21) rfl (w.heap.size + 1 + 1) #[.int .i64 0, .int .i64 0, .int .i64 0] #[.int .i64 0, .int .i64 0, .int .i64 0] rfl rfl (f8.bk (by omega) K2.out) rfl info28 (by intro v hv; simp at hv; subst hv; rfl) ?_; intro W9 k9 f9))
      have k89 := f9.bk (by omega) k8
      refine bodyPost_ret (results_two rfl _ _ (w.heap.size + 1) (w.heap.size + 1 + 1) [.slice A l.length c] [.int .i64 0, .int .i64 0, .int .i64 0] _ _ rfl rfl k89.range Tryz.underlying25 rfl info25 k9.range Tryz.underlying28 rfl info28) rfl ?_
      have hl1 := f8.lies HLI.out (fun ad e => by have := HA.out ad e; simp at this; omega)
      have hl2 := f9.lies hl1 (fun ad e => by have := HA.out ad e; simp at this; omega)
      exact ⟨0, 0, l, A, c, HRR.out, rfl, hl2.more (by rw [f9.size, f8.size]; exact Nat.le_refl _), HCC.out, HOK.out, f9.bel _ _ (by omega) (f8.bel _ _ (by omega) HBV.out)⟩
    · have HRR : Hid (prsR src = (k, at_, [])) := by show _ = _; rw [HR.out, hT]; exact if_neg hk0
      have hR' : (k == 0) = false := by simpa using hk0
      have hR2 : (k != 0) = true := by rw [bne, hR']; rfl
      have HK0 := Lib.hid hk0
      have K1 := Lib.hid k1
      have K2 := Lib.hid k2
      have K4 := Lib.hid k4
      clear k1 k2 k4 hres hbel hkp hL2 hnb hbl hT hk0
      go_upto_region 7 with fail
      refine wp_region_held_drew (S := fun U => U.cell? ⟨w.heap.size + 1 + 1 + 1 + 1, 0, none⟩ = some (.int .i64 at_)) (by kernel_rfl) ?_ (fun hHeld => ?_)
      · exact K4.out.drew.cell 0 rfl
      (refine held_take 0 (some 16) ?_ rfl (by kernel_rfl) (by kernel_rfl) (by kernel_rfl) (by rfl) (fun _ _ _ h => h) (by assumption) (fun w hSw => ?_) ?_; rotate_left; ((try dsimp only at hSw); simp only [List.getElem?_toArray, List.getElem?_cons_zero, List.getElem?_cons_succ, Option.map_some]; refine congrArg some ?_; go_simp; (try with_reducible rfl)); (try simp only [Act.put, List.setIfInBounds_toArray, List.set_cons_zero, List.set_cons_succ]))
      (refine held_take 1 (some 17) ?_ rfl (by kernel_rfl) (by kernel_rfl) (by kernel_rfl) (by rfl) (fun _ _ _ h => h) (by assumption) (fun w hSw => ?_) ?_; rotate_left; ((try dsimp only at hSw); simp only [List.getElem?_toArray, List.getElem?_cons_zero, List.getElem?_cons_succ, Option.map_some]; refine congrArg some ?_; go_simp; (try with_reducible rfl)); (try simp only [Act.put, List.setIfInBounds_toArray, List.set_cons_zero, List.set_cons_succ]))
      (refine held_take 2 (some 18) ?_ rfl (by kernel_rfl) (by kernel_rfl) (by kernel_rfl) (by rfl) (fun _ _ _ h => h) (by assumption) (fun w hSw => ?_) ?_; rotate_left; ((try dsimp only at hSw); simp only [List.getElem?_toArray, List.getElem?_cons_zero, List.getElem?_cons_succ, Option.map_some]; refine congrArg some ?_; go_simp; (try with_reducible rfl)); (try simp only [Act.put, List.setIfInBounds_toArray, List.set_cons_zero, List.set_cons_succ]))
      (refine held_take 3 (some 19) ?_ rfl (by kernel_rfl) (by kernel_rfl) (by kernel_rfl) (by rfl) (fun _ _ _ h => h) (by assumption) (fun w hSw => ?_) ?_; rotate_left; ((try dsimp only at hSw); simp only [List.getElem?_toArray, List.getElem?_cons_zero, List.getElem?_cons_succ, Option.map_some]; refine congrArg some ?_; go_simp; (try with_reducible rfl)); (try simp only [Act.put, List.setIfInBounds_toArray, List.set_cons_zero, List.set_cons_succ]))
      have HBD := Lib.hid HBV.out.drew
      have J1 := Lib.hid K1.out.drew
      have J2 := Lib.hid K2.out.drew
      have J4 := Lib.hid K4.out.drew
      clear hHeld K1 K2 K4 HBV
      generalize V.drew = U at *
      refine held_one 4 ⟨none, .store 25 (.tmp 2) (.tmp 16), _, _, _, none⟩ rfl (by kernel_rfl) (by rfl) ?_
      refine wp_store_blk 25 (.tmp 2) (.tmp 16) rfl (w.heap.size + 1) #[.slice none 0 0] #[.slice none 0 0] rfl rfl J1.out rfl info25 (by intro v hv; simp at hv; subst hv; rfl) ?_
      intro W8 k8 f8
      refine ⟨(f8.bk (by omega) J4.out).cell 0 rfl, ?_⟩
      (try simp only [Act.put, List.setIfInBounds_toArray, List.set_cons_zero, List.set_cons_succ])
      refine held_one 5 ⟨none, .store 28 (.tmp 3) (.tmp 19), _, _, _, none⟩ rfl (by kernel_rfl) (by rfl) ?_
      refine wp_store_blk 28 (.tmp 3) (.tmp 19) rfl (w.heap.size + 1 + 1) #[.int .i64 0, .int .i64 0, .int .i64 0] #[.int .i64 k, .int .i64 at_, .int .i64 0] rfl rfl (f8.bk (by omega) J2.out) rfl info28 (by intro v hv; simp at hv; rcases hv with rfl | rfl | rfl <;> rfl) ?_
      intro W9 k9 f9
      refine ⟨(f9.bk (by omega) (f8.bk (by omega) J4.out)).cell 0 rfl, ?_⟩
      (try simp only [Act.put, List.setIfInBounds_toArray, List.set_cons_zero, List.set_cons_succ])
      refine wpAnyH_done (by kernel_rfl) ?_ _
      have k89 := f9.bk (by omega) k8
      have K89 := Lib.hid k89
      have K9 := Lib.hid k9
      have HB9 := Lib.hid (f9.bel _ _ (by omega) (f8.bel _ _ (by omega) HBD.out))
      clear k89 k9 k8 f8 f9
      go_wp2_with fail
      refine bodyPost_ret (results_two rfl _ _ (w.heap.size + 1) (w.heap.size + 1 + 1) [.slice none 0 0] [.int .i64 k, .int .i64 at_, .int .i64 0] _ _ rfl rfl K89.out.range Tryz.underlying25 rfl info25 K9.out.range Tryz.underlying28 rfl info28) rfl ?_
      exact parse_bad HRR.out HB9.out
end Go.Proofs.YtkfeagokmcakgaaGreatDoor
