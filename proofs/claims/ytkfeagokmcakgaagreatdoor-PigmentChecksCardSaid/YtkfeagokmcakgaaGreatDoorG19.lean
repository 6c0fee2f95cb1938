/- The reference's Counting (fn 39). Printed by gen_n4.py. -/
import Derived.Test.YtkfeagokmcakgaaGreatDoorG02
import Derived.Test.YtkfeagokmcakgaaGreatDoorG07
import Derived.Test.YtkfeagokmcakgaaGreatDoorG18

set_option linter.unusedVariables false
set_option linter.unusedSimpArgs false

namespace Go.Proofs.YtkfeagokmcakgaaGreatDoor
open Go.RowKit

set_option maxHeartbeats 6000000 in
set_option maxRecDepth 100000 in
theorem rcounting_any (l : List Rul) (A : Option Addr) (c : Nat) (known : Int) (w : World) (hl : Lies w w.heap.size A (rulesC l)) (hok : RulOK l) (hm : l.length ≤ 1000) :
    Calls Tryz.prog 39 #[.agg #[.slice A l.length c], .int .i64 known] w (SlE (cntL l known) w) := by
  have HLW : Hid (∀ V, Below w.heap.size w V → Lies V V.heap.size A (rulesC l)) := fun V hV => lies_on hl hV
  have HF : Hid (∀ r ∈ l, ∀ V, Calls Tryz.prog 85 #[r.agg] V (ShEnd (frm r) V)) := fun r hr V => rformed_any r V (hok r hr).1 (hok r hr).2.1
  have HEN : Hid ((l.take l.length).filter (cntB l known) = cntL l known) := by show _ = _; rw [List.take_length]; rfl
  have HV0 : Hid (∀ id, voidB (l.take 0) known id = false) := fun id => by simp [voidB]
  have HVE : Hid (∀ id, voidB (l.take l.length) known id = voidB l known id) := fun id => by rw [List.take_length]
  clear hl hok
  go_enter Tryz.func39, Tryz.ntmps39
  go_upto_region 3 with fail
  have hk0 : Hid (Bk (w.alloc (.cells #[.slice A l.length c] 25)) w.heap.size 25 #[.slice A l.length c]) := Bk.new _ _ _
  have hb0 : Below w.heap.size w (w.alloc (.cells #[.slice A l.length c] 25)) := (Below.refl _ _).alloc (Nat.le_refl _) _
  go_loopw [5, 6] (fun v y wr => ∃ (i : Nat) (A' : Option Addr) (c' : Nat), i ≤ l.length ∧ v = .slice A' ((l.take i).filter (cntB l known)).length c' ∧ y = .int .i64 i ∧ Hid (wr.ownsRow (w.heap.size + 1) 50 6 (.slice A' ((l.take i).filter (cntB l known)).length c') ((l.take i).filter (cntB l known)).length (rulesC ((l.take i).filter (cntB l known)))) ∧ Hid (Bk wr w.heap.size 25 #[.slice A l.length c]) ∧ Below w.heap.size w wr) (fun _ y _ => l.length - (intOf y).toNat)
  case atStart => exact ⟨0, none, 0, by omega, rfl, rfl, World.ownsRow_nil _ _ _ _, hk0, hb0⟩
  case round =>
    obtain ⟨i, A1, c1, hi, rfl, rfl, ho, hk, hbw⟩ := hrel
    clear hk0 hb0
    have z0 := hk.out.cell 0 rfl
    have hkl := hk.out.lt
    by_cases hlt : i < l.length
    · obtain ⟨ad, rfl, _, d0, d1, d2, d3, d4, d5⟩ := rule_at (HLW.out wr hbw) hlt
      have HF1 := Lib.hid (HF.out _ (List.getElem_mem hlt))
      have HSK := Lib.hid (fun h => filt_skip (p := cntB l known) hlt h)
      have HPT := Lib.hid (fun h => filt_take (p := cntB l known) hlt h)
      have hfl := filt_len l (cntB l known) i
      generalize (l.take i).filter (cntB l known) = fk at *
      generalize l[i] = r at *
      have HVD : Hid (cntB l known r = (frm r && decide (r.known ≤ known) && !decide (r.kind = 6) && !voidB l known r.id)) := rfl
      have HSN := Lib.hid (rulesC_snoc fk r)
      obtain ⟨id1, kn1, kd1, x1, y1, of1⟩ := r
      dsimp only at *
      have hb1 : Below wr.heap.size wr (wr.alloc (.cells #[.int .i64 id1, .int .i64 kn1, .int .u8 kd1, .string x1, .string y1, .int .i64 of1] 50)) := (Below.refl _ _).alloc (Nat.le_refl _) _
      have HBX : Hid (∀ V, Below (wr.alloc (.cells #[.int .i64 id1, .int .i64 kn1, .int .u8 kd1, .string x1, .string y1, .int .i64 of1] 50)).heap.size (wr.alloc (.cells #[.int .i64 id1, .int .i64 kn1, .int .u8 kd1, .string x1, .string y1, .int .i64 of1] 50)) V → Bk V wr.heap.size 50 #[.int .i64 id1, .int .i64 kn1, .int .u8 kd1, .string x1, .string y1, .int .i64 of1] ∧ Bk V w.heap.size 25 #[.slice (some ad) l.length c] ∧ V.ownsRow (w.heap.size + 1) 50 6 (.slice A1 fk.length c1) fk.length (rulesC fk) ∧ Below w.heap.size w V) := fun V hV => by
        have h1 : Bk (wr.alloc (.cells #[.int .i64 id1, .int .i64 kn1, .int .u8 kd1, .string x1, .string y1, .int .i64 of1] 50)) wr.heap.size 50 #[.int .i64 id1, .int .i64 kn1, .int .u8 kd1, .string x1, .string y1, .int .i64 of1] := Bk.new _ _ _
        have h2 : Below wr.heap.size wr V := hb1.trans (hV.mono hb1.size)
        exact ⟨h1.below hV h1.lt, hk.out.below h2 hkl, ownsRow_below ho.out h2 (Nat.le_refl _), hbw.trans (h2.mono hbw.size)⟩
      cases hfr : frm ⟨id1, kn1, kd1, x1, y1, of1⟩
      · rw [hfr] at HF1 HVD
        have HS2 := Lib.hid (HSK.out (by rw [HVD.out]; rfl))
        clear hfr HSK HPT HVD HSN
        go_wp2_with (first | (go_at_call 85; refine (HF1.out _).mono ?_; rintro e u ⟨rfl, hb⟩; have hbu : Below (wr.alloc (.cells #[.int .i64 id1, .int .i64 kn1, .int .u8 kd1, .string x1, .string y1, .int .i64 of1] 50)).heap.size (wr.alloc (.cells #[.int .i64 id1, .int .i64 kn1, .int .u8 kd1, .string x1, .string y1, .int .i64 of1] 50)) u := hb; obtain ⟨qa, qb, _, _⟩ := HBX.out u hbu; have y0 := qa.cell 0 rfl; have y1' := qa.cell 1 rfl; have y2' := qa.cell 2 rfl; have y3' := qb.cell 0 rfl; clear hb qa qb))
        obtain ⟨_, q2, q3, q4⟩ := HBX.out u hbu
        have hQ2 := Lib.hid q2
        have hQ3 := Lib.hid q3
        clear q2 q3 HBX y0 y1' y2' y3' ho hk
        go_roundw
        case rel => exact ⟨i + 1, A1, c1, by omega, by rw [HS2.out], by go_num, by rw [HS2.out]; exact hQ3, hQ2, q4⟩
        case measure => simp [intOf]; omega
      rw [hfr] at HF1 HVD
      by_cases h6 : kd1 = 6
      · have h61 : (kd1 == 6) = true := by rw [beq_iff_eq]; exact h6
        have HS2 := Lib.hid (HSK.out (by rw [HVD.out]; simp [h6]))
        clear hfr HSK HPT HVD HSN h6
        go_wp2_with (first | (go_at_call 85; refine (HF1.out _).mono ?_; rintro e u ⟨rfl, hb⟩; have hbu : Below (wr.alloc (.cells #[.int .i64 id1, .int .i64 kn1, .int .u8 kd1, .string x1, .string y1, .int .i64 of1] 50)).heap.size (wr.alloc (.cells #[.int .i64 id1, .int .i64 kn1, .int .u8 kd1, .string x1, .string y1, .int .i64 of1] 50)) u := hb; obtain ⟨qa, qb, _, _⟩ := HBX.out u hbu; have y0 := qa.cell 0 rfl; have y1' := qa.cell 1 rfl; have y2' := qa.cell 2 rfl; have y3' := qb.cell 0 rfl; clear hb qa qb))
        obtain ⟨_, q2, q3, q4⟩ := HBX.out u hbu
        have hQ2 := Lib.hid q2
        have hQ3 := Lib.hid q3
        clear q2 q3 HBX y0 y1' y2' y3' ho hk
        go_roundw
        case rel => exact ⟨i + 1, A1, c1, by omega, by rw [HS2.out], by go_num, by rw [HS2.out]; exact hQ3, hQ2, q4⟩
        case measure => simp [intOf]; omega
      have h61 : (kd1 == 6) = false := by rw [beq_eq_false_iff_ne]; exact h6
      by_cases hkn : kn1 ≤ known
      case neg =>
        have hkn2 : known < kn1 := by omega
        have HS2 := Lib.hid (HSK.out (by rw [HVD.out]; simp [hkn]))
        clear hfr HSK HPT HVD HSN h6
        go_wp2_with (first | (go_at_call 85; refine (HF1.out _).mono ?_; rintro e u ⟨rfl, hb⟩; have hbu : Below (wr.alloc (.cells #[.int .i64 id1, .int .i64 kn1, .int .u8 kd1, .string x1, .string y1, .int .i64 of1] 50)).heap.size (wr.alloc (.cells #[.int .i64 id1, .int .i64 kn1, .int .u8 kd1, .string x1, .string y1, .int .i64 of1] 50)) u := hb; obtain ⟨qa, qb, _, _⟩ := HBX.out u hbu; have y0 := qa.cell 0 rfl; have y1' := qa.cell 1 rfl; have y2' := qa.cell 2 rfl; have y3' := qb.cell 0 rfl; clear hb qa qb))
        obtain ⟨_, q2, q3, q4⟩ := HBX.out u hbu
        have hQ2 := Lib.hid q2
        have hQ3 := Lib.hid q3
        clear q2 q3 HBX y0 y1' y2' y3' ho hk
        go_roundw
        case rel => exact ⟨i + 1, A1, c1, by omega, by rw [HS2.out], by go_num, by rw [HS2.out]; exact hQ3, hQ2, q4⟩
        case measure => simp [intOf]; omega
      have hkn2 : ¬ known < kn1 := by omega
      go_upto_region 10 with (first | (go_at_call 85; refine (HF1.out _).mono ?_; rintro e u ⟨rfl, hb⟩; have hbu : Below (wr.alloc (.cells #[.int .i64 id1, .int .i64 kn1, .int .u8 kd1, .string x1, .string y1, .int .i64 of1] 50)).heap.size (wr.alloc (.cells #[.int .i64 id1, .int .i64 kn1, .int .u8 kd1, .string x1, .string y1, .int .i64 of1] 50)) u := hb; obtain ⟨qa, qb, _, _⟩ := HBX.out u hbu; have y0 := qa.cell 0 rfl; have y1' := qa.cell 1 rfl; have y2' := qa.cell 2 rfl; have y3' := qb.cell 0 rfl; clear hb qa qb))
      have HBU : Hid (∀ V, Below u.heap.size u V → Bk V wr.heap.size 50 #[.int .i64 id1, .int .i64 kn1, .int .u8 kd1, .string x1, .string y1, .int .i64 of1] ∧ Bk V w.heap.size 25 #[.slice (some ad) l.length c] ∧ V.ownsRow (w.heap.size + 1) 50 6 (.slice A1 fk.length c1) fk.length (rulesC fk) ∧ Below w.heap.size w V) := fun V hV => HBX.out V (hbu.trans (hV.mono hbu.size))
      have hbuu : Below u.heap.size u u := Below.refl _ _
      have HI0 := Lib.hid (HV0.out id1)
      have HIE := Lib.hid (HVE.out id1)
      clear HBX hbu y0 y1' y2' y3' hb1 d0 d1 d2 d3 d4 d5 z0 HF1
      generalize hwr : wr.heap.size = b1 at *
      go_loopw [9, 10] (fun z y wr => ∃ k : Nat, k ≤ l.length ∧ z = .bool (voidB (l.take k) known id1) ∧ y = .int .i64 k ∧ Below u.heap.size u wr) (fun _ y _ => l.length - (intOf y).toNat)
      case atStart => exact ⟨0, by omega, by rw [HI0.out], rfl, hbuu⟩
      case round =>
        obtain ⟨k, hk2, rfl, rfl, hbv⟩ := hrel
        obtain ⟨q1, q2, _, q4⟩ := HBU.out wr hbv
        have z0 := q2.cell 0 rfl
        have e0 := q1.cell 0 rfl
        by_cases hlt2 : k < l.length
        · obtain ⟨ad2, e2, _, d0, d1, d2, d3, d4, d5⟩ := rule_at (HLW.out wr q4) hlt2
          cases e2
          have HF2 := Lib.hid (HF.out _ (List.getElem_mem hlt2))
          have HVT := Lib.hid (void_take l known k hlt2 id1)
          generalize l[k] = r at *
          obtain ⟨id2, kn2, kd2, x2, y2, of2⟩ := r
          have HVT : Hid (voidB (l.take (k + 1)) known id1 = (voidB (l.take k) known id1 || (frm ⟨id2, kn2, kd2, x2, y2, of2⟩ && decide (kn2 ≤ known) && decide (kd2 = 6)) && decide (of2 = id1))) := HVT.out
          dsimp only at *
          have hb2 : Below wr.heap.size wr (wr.alloc (.cells #[.int .i64 id2, .int .i64 kn2, .int .u8 kd2, .string x2, .string y2, .int .i64 of2] 50)) := (Below.refl _ _).alloc (Nat.le_refl _) _
          have HBY : Hid (∀ V, Below (wr.alloc (.cells #[.int .i64 id2, .int .i64 kn2, .int .u8 kd2, .string x2, .string y2, .int .i64 of2] 50)).heap.size (wr.alloc (.cells #[.int .i64 id2, .int .i64 kn2, .int .u8 kd2, .string x2, .string y2, .int .i64 of2] 50)) V → Bk V wr.heap.size 50 #[.int .i64 id2, .int .i64 kn2, .int .u8 kd2, .string x2, .string y2, .int .i64 of2] ∧ Bk V b1 50 #[.int .i64 id1, .int .i64 kn1, .int .u8 kd1, .string x1, .string y1, .int .i64 of1] ∧ Below u.heap.size u V) := fun V hV => by
            have h1 : Bk (wr.alloc (.cells #[.int .i64 id2, .int .i64 kn2, .int .u8 kd2, .string x2, .string y2, .int .i64 of2] 50)) wr.heap.size 50 #[.int .i64 id2, .int .i64 kn2, .int .u8 kd2, .string x2, .string y2, .int .i64 of2] := Bk.new _ _ _
            have h2 : Below wr.heap.size wr V := hb2.trans (hV.mono hb2.size)
            have h3 : Below u.heap.size u V := hbv.trans (h2.mono hbv.size)
            exact ⟨h1.below hV h1.lt, (HBU.out V h3).1, h3⟩
          clear q1 q2 q4
          cases hB : voidB (l.take k) known id1
          · rw [hB] at HVT
            cases hf2 : frm ⟨id2, kn2, kd2, x2, y2, of2⟩
            · rw [hf2] at HF2 HVT
              have HN : Hid (voidB (l.take (k + 1)) known id1 = false) := by show _ = _; rw [HVT.out]; rfl
              clear hf2 hB HVT
              clear HVD HSK HPT HSN HF HLW HBU
              go_wp2_with (first | (go_at_call 85; refine (HF2.out _).mono ?_; rintro e u2 ⟨rfl, hb⟩; have hbu2 : Below (wr.alloc (.cells #[.int .i64 id2, .int .i64 kn2, .int .u8 kd2, .string x2, .string y2, .int .i64 of2] 50)).heap.size (wr.alloc (.cells #[.int .i64 id2, .int .i64 kn2, .int .u8 kd2, .string x2, .string y2, .int .i64 of2] 50)) u2 := hb; obtain ⟨qa, qb, qc⟩ := HBY.out u2 hbu2; have s1 := qa.cell 1 rfl; have s2 := qa.cell 2 rfl; have s5 := qa.cell 5 rfl; have s0 := qb.cell 0 rfl; clear hb qa qb))
              go_roundw
              case rel => exact ⟨k + 1, by omega, by rw [HN.out], by go_num, qc⟩
              case measure => simp [intOf]; omega
            rw [hf2] at HF2 HVT
            by_cases g6 : kd2 = 6
            case neg =>
              have g61 : (kd2 == 6) = false := by rw [beq_eq_false_iff_ne]; exact g6
              have HN : Hid (voidB (l.take (k + 1)) known id1 = false) := by show _ = _; rw [HVT.out]; simp [g6]
              clear hf2 hB HVT
              clear HVD HSK HPT HSN HF HLW HBU
              go_wp2_with (first | (go_at_call 85; refine (HF2.out _).mono ?_; rintro e u2 ⟨rfl, hb⟩; have hbu2 : Below (wr.alloc (.cells #[.int .i64 id2, .int .i64 kn2, .int .u8 kd2, .string x2, .string y2, .int .i64 of2] 50)).heap.size (wr.alloc (.cells #[.int .i64 id2, .int .i64 kn2, .int .u8 kd2, .string x2, .string y2, .int .i64 of2] 50)) u2 := hb; obtain ⟨qa, qb, qc⟩ := HBY.out u2 hbu2; have s1 := qa.cell 1 rfl; have s2 := qa.cell 2 rfl; have s5 := qa.cell 5 rfl; have s0 := qb.cell 0 rfl; clear hb qa qb))
              go_roundw
              case rel => exact ⟨k + 1, by omega, by rw [HN.out], by go_num, qc⟩
              case measure => simp [intOf]; omega
            have g61 : (kd2 == 6) = true := by rw [beq_iff_eq]; exact g6
            by_cases gk : kn2 ≤ known
            case neg =>
              have HN : Hid (voidB (l.take (k + 1)) known id1 = false) := by show _ = _; rw [HVT.out]; simp [gk]
              clear hf2 hB HVT g6
              clear HVD HSK HPT HSN HF HLW HBU
              go_wp2_with (first | (go_at_call 85; refine (HF2.out _).mono ?_; rintro e u2 ⟨rfl, hb⟩; have hbu2 : Below (wr.alloc (.cells #[.int .i64 id2, .int .i64 kn2, .int .u8 kd2, .string x2, .string y2, .int .i64 of2] 50)).heap.size (wr.alloc (.cells #[.int .i64 id2, .int .i64 kn2, .int .u8 kd2, .string x2, .string y2, .int .i64 of2] 50)) u2 := hb; obtain ⟨qa, qb, qc⟩ := HBY.out u2 hbu2; have s1 := qa.cell 1 rfl; have s2 := qa.cell 2 rfl; have s5 := qa.cell 5 rfl; have s0 := qb.cell 0 rfl; clear hb qa qb))
              go_roundw
              case rel => exact ⟨k + 1, by omega, by rw [HN.out], by go_num, qc⟩
              case measure => simp [intOf]; omega
            by_cases go : of2 = id1
            case neg =>
              have go1 : (of2 == id1) = false := by rw [beq_eq_false_iff_ne]; exact go
              have HN : Hid (voidB (l.take (k + 1)) known id1 = false) := by show _ = _; rw [HVT.out]; simp [go]
              clear hf2 hB HVT go g6
              clear HVD HSK HPT HSN HF HLW HBU
              go_wp2_with (first | (go_at_call 85; refine (HF2.out _).mono ?_; rintro e u2 ⟨rfl, hb⟩; have hbu2 : Below (wr.alloc (.cells #[.int .i64 id2, .int .i64 kn2, .int .u8 kd2, .string x2, .string y2, .int .i64 of2] 50)).heap.size (wr.alloc (.cells #[.int .i64 id2, .int .i64 kn2, .int .u8 kd2, .string x2, .string y2, .int .i64 of2] 50)) u2 := hb; obtain ⟨qa, qb, qc⟩ := HBY.out u2 hbu2; have s1 := qa.cell 1 rfl; have s2 := qa.cell 2 rfl; have s5 := qa.cell 5 rfl; have s0 := qb.cell 0 rfl; clear hb qa qb))
              go_roundw
              case rel => exact ⟨k + 1, by omega, by rw [HN.out], by go_num, qc⟩
              case measure => simp [intOf]; omega
            have go1 : (of2 == id1) = true := by rw [beq_iff_eq]; exact go
            have HN : Hid (voidB (l.take (k + 1)) known id1 = true) := by show _ = _; rw [HVT.out]; simp [gk, g6, go]
            clear hf2 hB HVT go g6
            clear HVD HSK HPT HSN HF HLW HBU
            go_wp2_with (first | (go_at_call 85; refine (HF2.out _).mono ?_; rintro e u2 ⟨rfl, hb⟩; have hbu2 : Below (wr.alloc (.cells #[.int .i64 id2, .int .i64 kn2, .int .u8 kd2, .string x2, .string y2, .int .i64 of2] 50)).heap.size (wr.alloc (.cells #[.int .i64 id2, .int .i64 kn2, .int .u8 kd2, .string x2, .string y2, .int .i64 of2] 50)) u2 := hb; obtain ⟨qa, qb, qc⟩ := HBY.out u2 hbu2; have s1 := qa.cell 1 rfl; have s2 := qa.cell 2 rfl; have s5 := qa.cell 5 rfl; have s0 := qb.cell 0 rfl; clear hb qa qb))
            go_roundw
            case rel => exact ⟨k + 1, by omega, by rw [HN.out], by go_num, qc⟩
            case measure => simp [intOf]; omega
          · rw [hB] at HVT
            have HN : Hid (voidB (l.take (k + 1)) known id1 = true) := by show _ = _; rw [HVT.out]; rfl
            clear hB HVT
            generalize frm ⟨id2, kn2, kd2, x2, y2, of2⟩ = F2 at *
            clear HVD HSK HPT HSN HF HLW HBU
            go_wp2_with (first | (go_at_call 85; refine (HF2.out _).mono ?_; rintro e u2 ⟨rfl, hb⟩; have hbu2 : Below (wr.alloc (.cells #[.int .i64 id2, .int .i64 kn2, .int .u8 kd2, .string x2, .string y2, .int .i64 of2] 50)).heap.size (wr.alloc (.cells #[.int .i64 id2, .int .i64 kn2, .int .u8 kd2, .string x2, .string y2, .int .i64 of2] 50)) u2 := hb; obtain ⟨qa, qb, qc⟩ := HBY.out u2 hbu2; have s1 := qa.cell 1 rfl; have s2 := qa.cell 2 rfl; have s5 := qa.cell 5 rfl; have s0 := qb.cell 0 rfl; clear hb qa qb))
            go_roundw
            case rel => exact ⟨k + 1, by omega, by rw [HN.out], by go_num, qc⟩
            case measure => simp [intOf]; omega
        · obtain rfl : k = l.length := by omega
          rw [HIE.out]
          cases hvv : voidB l known id1
          · rw [hvv] at HVD
            have HS2 := Lib.hid (HPT.out (by rw [HVD.out]; simp [hkn, h6]))
            obtain ⟨_, q2, q3, q4⟩ := HBU.out wr hbv
            have hQ3 := Lib.hid q3
            have hQ2 := Lib.hid q2
            have f1 := q1.cell 1 rfl
            have f2 := q1.cell 2 rfl
            have f3 := q1.cell 3 rfl
            have f4 := q1.cell 4 rfl
            have f5 := q1.cell 5 rfl
            have hQS := q4.size
            have hq2l := q2.lt
            clear hvv hfr HSK HPT HVD HBU HI0 HIE h6 q2 q3 HF
            go_wp2_with (at_builtin; refine wpList_append1h (P := Tryz.prog) rfl (.tmp 78) (.tmp 80) 23 rfl (w.heap.size + 1) 50 zeroRul 6 64 Tryz.underlying23 info50 (by decide) (by decide) (.slice A1 fk.length c1) fk.length (rulesC fk) rfl (hQ3.out.alloc _) wr.heap.size #[.int .i64 id1, .int .i64 kn1, .int .u8 kd1, .string x1, .string y1, .int .i64 of1] 50 rfl (Bk.new _ _ _) rfl ?c1 ?c2 (by decide) ?c3 ?_)
            case c1 => exact ⟨rfl, rfl, rfl, rfl, rfl, rfl⟩
            case c2 => omega
            case c3 => first | omega | (simp; omega)
            intro v' w4 ho4 _ hb4
            replace ho4 : w4.ownsRow (w.heap.size + 1) 50 6 v' (fk.length + 1) (rulesC (fk ++ [⟨id1, kn1, kd1, x1, y1, of1⟩])) := by rw [← HSN.out]; exact ho4
            obtain ⟨A4, c4, rfl, _, _⟩ := ownsSlice ho4
            have hll : (fk ++ [(⟨id1, kn1, kd1, x1, y1, of1⟩ : Rul)]).length = fk.length + 1 := by simp
            have hk4 := Lib.hid ((hQ2.out.alloc (.cells #[.int .i64 id1, .int .i64 kn1, .int .u8 kd1, .string x1, .string y1, .int .i64 of1] 50)).below hb4 (Nat.lt_succ_self _))
            have hbw4 : Below w.heap.size w w4 := (q4.alloc hQS _).trans (hb4.mono (by omega))
            have ho5 := Lib.hid ho4
            clear ho4 hb4 f1 f2 f3 f4 f5 e0 z0 q1
            go_wp2
            go_roundw
            case rel => exact ⟨i + 1, A4, c4, by omega, by rw [HS2.out, hll], by go_num, by rw [HS2.out, hll]; exact ho5, hk4, hbw4⟩
            case measure => simp [intOf]; omega
          · rw [hvv] at HVD
            have HS2 := Lib.hid (HSK.out (by rw [HVD.out]; simp))
            obtain ⟨_, q2, q3, q4⟩ := HBU.out wr hbv
            have hQ3 := Lib.hid q3
            have hQ2 := Lib.hid q2
            clear hvv hfr HSK HPT HVD HSN HBU HI0 HIE h6 q2 q3 q1
            go_wp2
            go_roundw
            case rel => exact ⟨i + 1, A1, c1, by omega, by rw [HS2.out], by go_num, by rw [HS2.out]; exact hQ3, hQ2, q4⟩
            case measure => simp [intOf]; omega
    · obtain rfl : i = l.length := by omega
      rw [HEN.out] at ho ⊢
      have hcap := ownsSlice ho.out
      have hLI := Lib.hid (ownsRow_lies ho.out)
      clear ho HEN HF HLW hk HV0 HVE
      go_wp2
      go_ret
      obtain ⟨A2, c2, e2, h1, h2⟩ := hcap
      cases e2
      exact ⟨A1, c1, rfl, hLI.out, ⟨h1, h2⟩, hbw⟩
end Go.Proofs.YtkfeagokmcakgaaGreatDoor

namespace Go.Proofs.YtkfeagokmcakgaaGreatDoor
open Go.RowKit

set_option maxRecDepth 100000 in
theorem eq50s (id kn kd of : Int) (x y : ByteArray) (w : World) : (Op.equalIn 10000 50 (.agg #[.int .i64 id, .int .i64 kn, .int .u8 kd, .string x, .string y, .int .i64 of]) (.agg #[.int .i64 id, .int .i64 kn, .int .u8 kd, .string x, .string y, .int .i64 of])).run Tryz.prog w = .ok true w := by
  rw [run_equalIn_agg w 9999 50 _ _ (by kernel_rfl) (by kernel_rfl)]
  simp [go_sem, Program.fieldsOf, Tryz.underlying50, Op.eqFields, part, Tryz.underlying3, Tryz.underlying5, Tryz.underlying9]
set_option maxHeartbeats 1000000 in
set_option maxRecDepth 100000 in
theorem sameRules_any (l : List Rul) (A B : Option Addr) (c d : Nat) (w : World) (hl : Lies w w.heap.size A (rulesC l)) (hm : Lies w w.heap.size B (rulesC l)) (hn : l.length ≤ 100000) :
    Calls Tryz.prog 20 #[.slice A l.length c, .slice B l.length d] w (ShEnd true w) := by
  have HA : Hid (∀ V, Below w.heap.size w V → Lies V V.heap.size A (rulesC l)) := fun V hV => lies_on hl hV
  have HB : Hid (∀ V, Below w.heap.size w V → Lies V V.heap.size B (rulesC l)) := fun V hV => lies_on hm hV
  have hnn : ((l.length : Int) != (l.length : Int)) = false := by simp
  clear hl hm
  go_enter Tryz.func20, Tryz.ntmps20
  go_wp2
  go_loopw [5] (fun y wr => ∃ k : Nat, k ≤ l.length ∧ y = .int .i64 k ∧ Below w.heap.size w wr) (fun y _ => l.length - (intOf y).toNat)
  case atStart => exact ⟨0, by omega, rfl, Below.refl _ _⟩
  case round =>
    obtain ⟨k, hk, rfl, hbw⟩ := hrel
    by_cases hlt : k < l.length
    · obtain ⟨a1, rfl, _, _⟩ := rule_at (HA.out wr hbw) hlt
      obtain ⟨a2, rfl, _, _⟩ := rule_at (HB.out wr hbw) hlt
      have HS : Hid (∀ V, Below w.heap.size w V → (V.cell? (a1.add (k * 6)) = some (.int .i64 l[k].id) ∧ V.cell? ⟨(a1.add (k * 6)).block, (a1.add (k * 6)).off + 1, none⟩ = some (.int .i64 l[k].known) ∧ V.cell? ⟨(a1.add (k * 6)).block, (a1.add (k * 6)).off + 2, none⟩ = some (.int .u8 l[k].kind) ∧ V.cell? ⟨(a1.add (k * 6)).block, (a1.add (k * 6)).off + 3, none⟩ = some (.string l[k].x) ∧ V.cell? ⟨(a1.add (k * 6)).block, (a1.add (k * 6)).off + 4, none⟩ = some (.string l[k].y) ∧ V.cell? ⟨(a1.add (k * 6)).block, (a1.add (k * 6)).off + 5, none⟩ = some (.int .i64 l[k].of)) ∧
          (V.cell? (a2.add (k * 6)) = some (.int .i64 l[k].id) ∧ V.cell? ⟨(a2.add (k * 6)).block, (a2.add (k * 6)).off + 1, none⟩ = some (.int .i64 l[k].known) ∧ V.cell? ⟨(a2.add (k * 6)).block, (a2.add (k * 6)).off + 2, none⟩ = some (.int .u8 l[k].kind) ∧ V.cell? ⟨(a2.add (k * 6)).block, (a2.add (k * 6)).off + 3, none⟩ = some (.string l[k].x) ∧ V.cell? ⟨(a2.add (k * 6)).block, (a2.add (k * 6)).off + 4, none⟩ = some (.string l[k].y) ∧ V.cell? ⟨(a2.add (k * 6)).block, (a2.add (k * 6)).off + 5, none⟩ = some (.int .i64 l[k].of))) := fun V hV => by
        obtain ⟨b1, e1, _, p1⟩ := rule_at (HA.out V hV) hlt
        obtain ⟨b2, e2, _, p2⟩ := rule_at (HB.out V hV) hlt
        cases e1; cases e2
        exact ⟨p1, p2⟩
      generalize l[k] = r at *
      obtain ⟨id, kn, kd, x, y, of⟩ := r
      dsimp only at *
      have heq := fun V => eq50s id kn kd of x y V
      have hgd : Tryz.prog.eqGuardType Tryz.prog.depth 50 = false := by kernel_rfl
      go_upto_region 6 with fail
      refine wp_region_held_drew (S := (fun V => (V.cell? (a1.add (k * 6)) = some (.int .i64 id) ∧ V.cell? ⟨(a1.add (k * 6)).block, (a1.add (k * 6)).off + 1, none⟩ = some (.int .i64 kn) ∧ V.cell? ⟨(a1.add (k * 6)).block, (a1.add (k * 6)).off + 2, none⟩ = some (.int .u8 kd) ∧ V.cell? ⟨(a1.add (k * 6)).block, (a1.add (k * 6)).off + 3, none⟩ = some (.string x) ∧ V.cell? ⟨(a1.add (k * 6)).block, (a1.add (k * 6)).off + 4, none⟩ = some (.string y) ∧ V.cell? ⟨(a1.add (k * 6)).block, (a1.add (k * 6)).off + 5, none⟩ = some (.int .i64 of)) ∧ (V.cell? (a2.add (k * 6)) = some (.int .i64 id) ∧ V.cell? ⟨(a2.add (k * 6)).block, (a2.add (k * 6)).off + 1, none⟩ = some (.int .i64 kn) ∧ V.cell? ⟨(a2.add (k * 6)).block, (a2.add (k * 6)).off + 2, none⟩ = some (.int .u8 kd) ∧ V.cell? ⟨(a2.add (k * 6)).block, (a2.add (k * 6)).off + 3, none⟩ = some (.string x) ∧ V.cell? ⟨(a2.add (k * 6)).block, (a2.add (k * 6)).off + 4, none⟩ = some (.string y) ∧ V.cell? ⟨(a2.add (k * 6)).block, (a2.add (k * 6)).off + 5, none⟩ = some (.int .i64 of)))) (by kernel_rfl) ?_ (fun hHeld => ?_)
      · exact HS.out _ hbw.drew
      have hbd : Below w.heap.size w wr.drew := hbw.drew
      refine tk 0 17 ?_
      refine tk 1 18 ?_
      refine tk 2 19 ?_
      refine tk 3 20 ?_
      refine tk 4 21 ?_
      refine tk 5 22 ?_
      refine tk 6 23 ?_
      refine tk 7 24 ?_
      refine tk 8 25 ?_
      refine wpAnyH_done (by kernel_rfl) ?_ _
      clear hHeld hbw
      go_wp2
      go_roundw
      case rel => exact ⟨k + 1, by omega, by go_num, hbd⟩
      case measure => simp [intOf]; omega
    · go_wp2
      go_ret
      exact ⟨rfl, hbw⟩
end Go.Proofs.YtkfeagokmcakgaaGreatDoor
