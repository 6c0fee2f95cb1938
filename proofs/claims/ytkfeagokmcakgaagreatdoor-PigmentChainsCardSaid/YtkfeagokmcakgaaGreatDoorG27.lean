/- The reference's Counting (fn 39). Printed by gen_n4.py. -/
import Derived.Maps.RangeWalk
import Derived.Sort.OwnSorted
import Derived.Test.YtkfeagokmcakgaaGreatDoorG07
import Derived.Test.YtkfeagokmcakgaaGreatDoorG13
import Derived.Test.YtkfeagokmcakgaaGreatDoorG16
import Derived.Test.YtkfeagokmcakgaaGreatDoorG26

set_option linter.unusedVariables false
set_option linter.unusedSimpArgs false

namespace Go.Proofs.YtkfeagokmcakgaaGreatDoor
open Go.RowKit

set_option maxHeartbeats 6000000 in
set_option maxRecDepth 100000 in
theorem rcounting_any (l : List Rul) (A : Option Addr) (c : Nat) (known : Int) (w : World) (hl : Lies w w.heap.size A (rulesC l)) (hok : RulOK l) (hm : l.length ≤ 1000) :
    Calls Tryz.prog 39 #[.agg #[.slice A l.length c], .int .i64 known] w (SlE (cntL l known) w) := by
  have HLW : Hid (∀ V, Below w.heap.size w V → Lies V V.heap.size A (rulesC l)) := fun V hV => lies_on hl hV
  have HF : Hid (∀ r ∈ l, ∀ V, Calls Tryz.prog 85 #[r.agg] V (ShEnd (frm r) V)) := fun r hr V => rformed_any r V (hok r hr).1 (hok r hr).2.1
  have HEN : Hid ((l.take l.length).filter (cntB l known) = cntL l known) := by show _ = _; rw [List.take_length]; rfl
  have HV0 : Hid (∀ id, voidB (l.take 0) known id = false) := fun id => by simp [voidB]
  have HVE : Hid (∀ id, voidB (l.take l.length) known id = voidB l known id) := fun id => by rw [List.take_length]
  clear hl hok
  go_enter Tryz.func39, Tryz.ntmps39
  go_upto_region 3 with fail
  have hk0 : Hid (Bk (w.alloc (.cells #[.slice A l.length c] 25)) w.heap.size 25 #[.slice A l.length c]) := Bk.new _ _ _
  have hb0 : Below w.heap.size w (w.alloc (.cells #[.slice A l.length c] 25)) := (Below.refl _ _).alloc (Nat.le_refl _) _
  go_loopw [5, 6] (fun v y wr => ∃ (i : Nat) (A' : Option Addr) (c' : Nat), i ≤ l.length ∧ v = .slice A' ((l.take i).filter (cntB l known)).length c' ∧ y = .int .i64 i ∧ Hid (wr.ownsRow (w.heap.size + 1) 50 6 (.slice A' ((l.take i).filter (cntB l known)).length c') ((l.take i).filter (cntB l known)).length (rulesC ((l.take i).filter (cntB l known)))) ∧ Hid (Bk wr w.heap.size 25 #[.slice A l.length c]) ∧ Below w.heap.size w wr) (fun _ y _ => l.length - (intOf y).toNat)
  case atStart => exact ⟨0, none, 0, by omega, rfl, rfl, World.ownsRow_nil _ _ _ _, hk0, hb0⟩
  case round =>
    obtain ⟨i, A1, c1, hi, rfl, rfl, ho, hk, hbw⟩ := hrel
    clear hk0 hb0
    have z0 := hk.out.cell 0 rfl
    have hkl := hk.out.lt
    by_cases hlt : i < l.length
    · obtain ⟨ad, rfl, _, d0, d1, d2, d3, d4, d5⟩ := rule_at (HLW.out wr hbw) hlt
      have HF1 := Lib.hid (HF.out _ (List.getElem_mem hlt))
      have HSK := Lib.hid (fun h => filt_skip (p := cntB l known) hlt h)
      have HPT := Lib.hid (fun h => filt_take (p := cntB l known) hlt h)
      have hfl := filt_len l (cntB l known) i
      generalize (l.take i).filter (cntB l known) = fk at *
      generalize l[i] = r at *
      have HVD : Hid (cntB l known r = (frm r && decide (r.known ≤ known) && !decide (r.kind = 6) && !voidB l known r.id)) := rfl
      have HSN := Lib.hid (rulesC_snoc fk r)
      obtain ⟨id1, kn1, kd1, x1, y1, of1⟩ := r
      dsimp only at *
      have hb1 : Below wr.heap.size wr (wr.alloc (.cells #[.int .i64 id1, .int .i64 kn1, .int .u8 kd1, .string x1, .string y1, .int .i64 of1] 50)) := (Below.refl _ _).alloc (Nat.le_refl _) _
      have HBX : Hid (∀ V, Below (wr.alloc (.cells #[.int .i64 id1, .int .i64 kn1, .int .u8 kd1, .string x1, .string y1, .int .i64 of1] 50)).heap.size (wr.alloc (.cells #[.int .i64 id1, .int .i64 kn1, .int .u8 kd1, .string x1, .string y1, .int .i64 of1] 50)) V → Bk V wr.heap.size 50 #[.int .i64 id1, .int .i64 kn1, .int .u8 kd1, .string x1, .string y1, .int .i64 of1] ∧ Bk V w.heap.size 25 #[.slice (some ad) l.length c] ∧ V.ownsRow (w.heap.size + 1) 50 6 (.slice A1 fk.length c1) fk.length (rulesC fk) ∧ Below w.heap.size w V) := fun V hV => by
        have h1 : Bk (wr.alloc (.cells #[.int .i64 id1, .int .i64 kn1, .int .u8 kd1, .string x1, .string y1, .int .i64 of1] 50)) wr.heap.size 50 #[.int .i64 id1, .int .i64 kn1, .int .u8 kd1, .string x1, .string y1, .int .i64 of1] := Bk.new _ _ _
        have h2 : Below wr.heap.size wr V := hb1.trans (hV.mono hb1.size)
        exact ⟨h1.below hV h1.lt, hk.out.below h2 hkl, ownsRow_below ho.out h2 (Nat.le_refl _), hbw.trans (h2.mono hbw.size)⟩
      cases hfr : frm ⟨id1, kn1, kd1, x1, y1, of1⟩
      · rw [hfr] at HF1 HVD
        have HS2 := Lib.hid (HSK.out (by rw [HVD.out]; rfl))
        clear hfr HSK HPT HVD HSN
        go_wp2_with (first | (go_at_call 85; refine (HF1.out _).mono ?_; rintro e u ⟨rfl, hb⟩; have hbu : Below (wr.alloc (.cells #[.int .i64 id1, .int .i64 kn1, .int .u8 kd1, .string x1, .string y1, .int .i64 of1] 50)).heap.size (wr.alloc (.cells #[.int .i64 id1, .int .i64 kn1, .int .u8 kd1, .string x1, .string y1, .int .i64 of1] 50)) u := hb; obtain ⟨qa, qb, _, _⟩ := HBX.out u hbu; have y0 := qa.cell 0 rfl; have y1' := qa.cell 1 rfl; have y2' := qa.cell 2 rfl; have y3' := qb.cell 0 rfl; clear hb qa qb))
        obtain ⟨_, q2, q3, q4⟩ := HBX.out u hbu
        have hQ2 := Lib.hid q2
        have hQ3 := Lib.hid q3
        clear q2 q3 HBX y0 y1' y2' y3' ho hk
        go_roundw
        case rel => exact ⟨i + 1, A1, c1, by omega, by rw [HS2.out], by go_num, by rw [HS2.out]; exact hQ3, hQ2, q4⟩
        case measure => simp [intOf]; omega
      rw [hfr] at HF1 HVD
      by_cases h6 : kd1 = 6
      · have h61 : (kd1 == 6) = true := by rw [beq_iff_eq]; exact h6
        have HS2 := Lib.hid (HSK.out (by rw [HVD.out]; simp [h6]))
        clear hfr HSK HPT HVD HSN h6
        go_wp2_with (first | (go_at_call 85; refine (HF1.out _).mono ?_; rintro e u ⟨rfl, hb⟩; have hbu : Below (wr.alloc (.cells #[.int .i64 id1, .int .i64 kn1, .int .u8 kd1, .string x1, .string y1, .int .i64 of1] 50)).heap.size (wr.alloc (.cells #[.int .i64 id1, .int .i64 kn1, .int .u8 kd1, .string x1, .string y1, .int .i64 of1] 50)) u := hb; obtain ⟨qa, qb, _, _⟩ := HBX.out u hbu; have y0 := qa.cell 0 rfl; have y1' := qa.cell 1 rfl; have y2' := qa.cell 2 rfl; have y3' := qb.cell 0 rfl; clear hb qa qb))
        obtain ⟨_, q2, q3, q4⟩ := HBX.out u hbu
        have hQ2 := Lib.hid q2
        have hQ3 := Lib.hid q3
        clear q2 q3 HBX y0 y1' y2' y3' ho hk
        go_roundw
        case rel => exact ⟨i + 1, A1, c1, by omega, by rw [HS2.out], by go_num, by rw [HS2.out]; exact hQ3, hQ2, q4⟩
        case measure => simp [intOf]; omega
      have h61 : (kd1 == 6) = false := by rw [beq_eq_false_iff_ne]; exact h6
      by_cases hkn : kn1 ≤ known
      case neg =>
        have hkn2 : known < kn1 := by omega
        have HS2 := Lib.hid (HSK.out (by rw [HVD.out]; simp [hkn]))
        clear hfr HSK HPT HVD HSN h6
        go_wp2_with (first | (go_at_call 85; refine (HF1.out _).mono ?_; rintro e u ⟨rfl, hb⟩; have hbu : Below (wr.alloc (.cells #[.int .i64 id1, .int .i64 kn1, .int .u8 kd1, .string x1, .string y1, .int .i64 of1] 50)).heap.size (wr.alloc (.cells #[.int .i64 id1, .int .i64 kn1, .int .u8 kd1, .string x1, .string y1, .int .i64 of1] 50)) u := hb; obtain ⟨qa, qb, _, _⟩ := HBX.out u hbu; have y0 := qa.cell 0 rfl; have y1' := qa.cell 1 rfl; have y2' := qa.cell 2 rfl; have y3' := qb.cell 0 rfl; clear hb qa qb))
        obtain ⟨_, q2, q3, q4⟩ := HBX.out u hbu
        have hQ2 := Lib.hid q2
        have hQ3 := Lib.hid q3
        clear q2 q3 HBX y0 y1' y2' y3' ho hk
        go_roundw
        case rel => exact ⟨i + 1, A1, c1, by omega, by rw [HS2.out], by go_num, by rw [HS2.out]; exact hQ3, hQ2, q4⟩
        case measure => simp [intOf]; omega
      have hkn2 : ¬ known < kn1 := by omega
      go_upto_region 10 with (first | (go_at_call 85; refine (HF1.out _).mono ?_; rintro e u ⟨rfl, hb⟩; have hbu : Below (wr.alloc (.cells #[.int .i64 id1, .int .i64 kn1, .int .u8 kd1, .string x1, .string y1, .int .i64 of1] 50)).heap.size (wr.alloc (.cells #[.int .i64 id1, .int .i64 kn1, .int .u8 kd1, .string x1, .string y1, .int .i64 of1] 50)) u := hb; obtain ⟨qa, qb, _, _⟩ := HBX.out u hbu; have y0 := qa.cell 0 rfl; have y1' := qa.cell 1 rfl; have y2' := qa.cell 2 rfl; have y3' := qb.cell 0 rfl; clear hb qa qb))
      have HBU : Hid (∀ V, Below u.heap.size u V → Bk V wr.heap.size 50 #[.int .i64 id1, .int .i64 kn1, .int .u8 kd1, .string x1, .string y1, .int .i64 of1] ∧ Bk V w.heap.size 25 #[.slice (some ad) l.length c] ∧ V.ownsRow (w.heap.size + 1) 50 6 (.slice A1 fk.length c1) fk.length (rulesC fk) ∧ Below w.heap.size w V) := fun V hV => HBX.out V (hbu.trans (hV.mono hbu.size))
      have hbuu : Below u.heap.size u u := Below.refl _ _
      have HI0 := Lib.hid (HV0.out id1)
      have HIE := Lib.hid (HVE.out id1)
      clear HBX hbu y0 y1' y2' y3' hb1 d0 d1 d2 d3 d4 d5 z0 HF1
      generalize hwr : wr.heap.size = b1 at *
      go_loopw [9, 10] (fun z y wr => ∃ k : Nat, k ≤ l.length ∧ z = .bool (voidB (l.take k) known id1) ∧ y = .int .i64 k ∧ Below u.heap.size u wr) (fun _ y _ => l.length - (intOf y).toNat)
      case atStart => exact ⟨0, by omega, by rw [HI0.out], rfl, hbuu⟩
      case round =>
        obtain ⟨k, hk2, rfl, rfl, hbv⟩ := hrel
        obtain ⟨q1, q2, _, q4⟩ := HBU.out wr hbv
        have z0 := q2.cell 0 rfl
        have e0 := q1.cell 0 rfl
        by_cases hlt2 : k < l.length
        · obtain ⟨ad2, e2, _, d0, d1, d2, d3, d4, d5⟩ := rule_at (HLW.out wr q4) hlt2
          cases e2
          have HF2 := Lib.hid (HF.out _ (List.getElem_mem hlt2))
          have HVT := Lib.hid (void_take l known k hlt2 id1)
          generalize l[k] = r at *
          obtain ⟨id2, kn2, kd2, x2, y2, of2⟩ := r
          have HVT : Hid (voidB (l.take (k + 1)) known id1 = (voidB (l.take k) known id1 || (frm ⟨id2, kn2, kd2, x2, y2, of2⟩ && decide (kn2 ≤ known) && decide (kd2 = 6)) && decide (of2 = id1))) := HVT.out
          dsimp only at *
          have hb2 : Below wr.heap.size wr (wr.alloc (.cells #[.int .i64 id2, .int .i64 kn2, .int .u8 kd2, .string x2, .string y2, .int .i64 of2] 50)) := (Below.refl _ _).alloc (Nat.le_refl _) _
          have HBY : Hid (∀ V, Below (wr.alloc (.cells #[.int .i64 id2, .int .i64 kn2, .int .u8 kd2, .string x2, .string y2, .int .i64 of2] 50)).heap.size (wr.alloc (.cells #[.int .i64 id2, .int .i64 kn2, .int .u8 kd2, .string x2, .string y2, .int .i64 of2] 50)) V → Bk V wr.heap.size 50 #[.int .i64 id2, .int .i64 kn2, .int .u8 kd2, .string x2, .string y2, .int .i64 of2] ∧ Bk V b1 50 #[.int .i64 id1, .int .i64 kn1, .int .u8 kd1, .string x1, .string y1, .int .i64 of1] ∧ Below u.heap.size u V) := fun V hV => by
            have h1 : Bk (wr.alloc (.cells #[.int .i64 id2, .int .i64 kn2, .int .u8 kd2, .string x2, .string y2, .int .i64 of2] 50)) wr.heap.size 50 #[.int .i64 id2, .int .i64 kn2, .int .u8 kd2, .string x2, .string y2, .int .i64 of2] := Bk.new _ _ _
            have h2 : Below wr.heap.size wr V := hb2.trans (hV.mono hb2.size)
            have h3 : Below u.heap.size u V := hbv.trans (h2.mono hbv.size)
            exact ⟨h1.below hV h1.lt, (HBU.out V h3).1, h3⟩
          clear q1 q2 q4
          cases hB : voidB (l.take k) known id1
          · rw [hB] at HVT
            cases hf2 : frm ⟨id2, kn2, kd2, x2, y2, of2⟩
            · rw [hf2] at HF2 HVT
              have HN : Hid (voidB (l.take (k + 1)) known id1 = false) := by show _ = _; rw [HVT.out]; rfl
              clear hf2 hB HVT
              clear HVD HSK HPT HSN HF HLW HBU
              go_wp2_with (first | (go_at_call 85; refine (HF2.out _).mono ?_; rintro e u2 ⟨rfl, hb⟩; have hbu2 : Below (wr.alloc (.cells #[.int .i64 id2, .int .i64 kn2, .int .u8 kd2, .string x2, .string y2, .int .i64 of2] 50)).heap.size (wr.alloc (.cells #[.int .i64 id2, .int .i64 kn2, .int .u8 kd2, .string x2, .string y2, .int .i64 of2] 50)) u2 := hb; obtain ⟨qa, qb, qc⟩ := HBY.out u2 hbu2; have s1 := qa.cell 1 rfl; have s2 := qa.cell 2 rfl; have s5 := qa.cell 5 rfl; have s0 := qb.cell 0 rfl; clear hb qa qb))
              go_roundw
              case rel => exact ⟨k + 1, by omega, by rw [HN.out], by go_num, qc⟩
              case measure => simp [intOf]; omega
            rw [hf2] at HF2 HVT
            by_cases g6 : kd2 = 6
            case neg =>
              have g61 : (kd2 == 6) = false := by rw [beq_eq_false_iff_ne]; exact g6
              have HN : Hid (voidB (l.take (k + 1)) known id1 = false) := by show _ = _; rw [HVT.out]; simp [g6]
              clear hf2 hB HVT
              clear HVD HSK HPT HSN HF HLW HBU
              go_wp2_with (first | (go_at_call 85; refine (HF2.out _).mono ?_; rintro e u2 ⟨rfl, hb⟩; have hbu2 : Below (wr.alloc (.cells #[.int .i64 id2, .int .i64 kn2, .int .u8 kd2, .string x2, .string y2, .int .i64 of2] 50)).heap.size (wr.alloc (.cells #[.int .i64 id2, .int .i64 kn2, .int .u8 kd2, .string x2, .string y2, .int .i64 of2] 50)) u2 := hb; obtain ⟨qa, qb, qc⟩ := HBY.out u2 hbu2; have s1 := qa.cell 1 rfl; have s2 := qa.cell 2 rfl; have s5 := qa.cell 5 rfl; have s0 := qb.cell 0 rfl; clear hb qa qb))
              go_roundw
              case rel => exact ⟨k + 1, by omega, by rw [HN.out], by go_num, qc⟩
              case measure => simp [intOf]; omega
            have g61 : (kd2 == 6) = true := by rw [beq_iff_eq]; exact g6
            by_cases gk : kn2 ≤ known
            case neg =>
              have HN : Hid (voidB (l.take (k + 1)) known id1 = false) := by show _ = _; rw [HVT.out]; simp [gk]
              clear hf2 hB HVT g6
              clear HVD HSK HPT HSN HF HLW HBU
              go_wp2_with (first | (go_at_call 85; refine (HF2.out _).mono ?_; rintro e u2 ⟨rfl, hb⟩; have hbu2 : Below (wr.alloc (.cells #[.int .i64 id2, .int .i64 kn2, .int .u8 kd2, .string x2, .string y2, .int .i64 of2] 50)).heap.size (wr.alloc (.cells #[.int .i64 id2, .int .i64 kn2, .int .u8 kd2, .string x2, .string y2, .int .i64 of2] 50)) u2 := hb; obtain ⟨qa, qb, qc⟩ := HBY.out u2 hbu2; have s1 := qa.cell 1 rfl; have s2 := qa.cell 2 rfl; have s5 := qa.cell 5 rfl; have s0 := qb.cell 0 rfl; clear hb qa qb))
              go_roundw
              case rel => exact ⟨k + 1, by omega, by rw [HN.out], by go_num, qc⟩
              case measure => simp [intOf]; omega
            by_cases go : of2 = id1
            case neg =>
              have go1 : (of2 == id1) = false := by rw [beq_eq_false_iff_ne]; exact go
              have HN : Hid (voidB (l.take (k + 1)) known id1 = false) := by show _ = _; rw [HVT.out]; simp [go]
              clear hf2 hB HVT go g6
              clear HVD HSK HPT HSN HF HLW HBU
              go_wp2_with (first | (go_at_call 85; refine (HF2.out _).mono ?_; rintro e u2 ⟨rfl, hb⟩; have hbu2 : Below (wr.alloc (.cells #[.int .i64 id2, .int .i64 kn2, .int .u8 kd2, .string x2, .string y2, .int .i64 of2] 50)).heap.size (wr.alloc (.cells #[.int .i64 id2, .int .i64 kn2, .int .u8 kd2, .string x2, .string y2, .int .i64 of2] 50)) u2 := hb; obtain ⟨qa, qb, qc⟩ := HBY.out u2 hbu2; have s1 := qa.cell 1 rfl; have s2 := qa.cell 2 rfl; have s5 := qa.cell 5 rfl; have s0 := qb.cell 0 rfl; clear hb qa qb))
              go_roundw
              case rel => exact ⟨k + 1, by omega, by rw [HN.out], by go_num, qc⟩
              case measure => simp [intOf]; omega
            have go1 : (of2 == id1) = true := by rw [beq_iff_eq]; exact go
            have HN : Hid (voidB (l.take (k + 1)) known id1 = true) := by show _ = _; rw [HVT.out]; simp [gk, g6, go]
            clear hf2 hB HVT go g6
            clear HVD HSK HPT HSN HF HLW HBU
            go_wp2_with (first | (go_at_call 85; refine (HF2.out _).mono ?_; rintro e u2 ⟨rfl, hb⟩; have hbu2 : Below (wr.alloc (.cells #[.int .i64 id2, .int .i64 kn2, .int .u8 kd2, .string x2, .string y2, .int .i64 of2] 50)).heap.size (wr.alloc (.cells #[.int .i64 id2, .int .i64 kn2, .int .u8 kd2, .string x2, .string y2, .int .i64 of2] 50)) u2 := hb; obtain ⟨qa, qb, qc⟩ := HBY.out u2 hbu2; have s1 := qa.cell 1 rfl; have s2 := qa.cell 2 rfl; have s5 := qa.cell 5 rfl; have s0 := qb.cell 0 rfl; clear hb qa qb))
            go_roundw
            case rel => exact ⟨k + 1, by omega, by rw [HN.out], by go_num, qc⟩
            case measure => simp [intOf]; omega
          · rw [hB] at HVT
            have HN : Hid (voidB (l.take (k + 1)) known id1 = true) := by show _ = _; rw [HVT.out]; rfl
            clear hB HVT
            generalize frm ⟨id2, kn2, kd2, x2, y2, of2⟩ = F2 at *
            clear HVD HSK HPT HSN HF HLW HBU
            go_wp2_with (first | (go_at_call 85; refine (HF2.out _).mono ?_; rintro e u2 ⟨rfl, hb⟩; have hbu2 : Below (wr.alloc (.cells #[.int .i64 id2, .int .i64 kn2, .int .u8 kd2, .string x2, .string y2, .int .i64 of2] 50)).heap.size (wr.alloc (.cells #[.int .i64 id2, .int .i64 kn2, .int .u8 kd2, .string x2, .string y2, .int .i64 of2] 50)) u2 := hb; obtain ⟨qa, qb, qc⟩ := HBY.out u2 hbu2; have s1 := qa.cell 1 rfl; have s2 := qa.cell 2 rfl; have s5 := qa.cell 5 rfl; have s0 := qb.cell 0 rfl; clear hb qa qb))
            go_roundw
            case rel => exact ⟨k + 1, by omega, by rw [HN.out], by go_num, qc⟩
            case measure => simp [intOf]; omega
        · obtain rfl : k = l.length := by omega
          rw [HIE.out]
          cases hvv : voidB l known id1
          · rw [hvv] at HVD
            have HS2 := Lib.hid (HPT.out (by rw [HVD.out]; simp [hkn, h6]))
            obtain ⟨_, q2, q3, q4⟩ := HBU.out wr hbv
            have hQ3 := Lib.hid q3
            have hQ2 := Lib.hid q2
            have f1 := q1.cell 1 rfl
            have f2 := q1.cell 2 rfl
            have f3 := q1.cell 3 rfl
            have f4 := q1.cell 4 rfl
            have f5 := q1.cell 5 rfl
            have hQS := q4.size
            have hq2l := q2.lt
            clear hvv hfr HSK HPT HVD HBU HI0 HIE h6 q2 q3 HF
            go_wp2_with (at_builtin; refine wpList_append1h (P := Tryz.prog) rfl (.tmp 78) (.tmp 80) 23 rfl (w.heap.size + 1) 50 zeroRul 6 64 Tryz.underlying23 info50 (by decide) (by decide) (.slice A1 fk.length c1) fk.length (rulesC fk) rfl (hQ3.out.alloc _) wr.heap.size #[.int .i64 id1, .int .i64 kn1, .int .u8 kd1, .string x1, .string y1, .int .i64 of1] 50 rfl (Bk.new _ _ _) rfl ?c1 ?c2 (by decide) ?c3 ?_)
            case c1 => exact ⟨rfl, rfl, rfl, rfl, rfl, rfl⟩
            case c2 => omega
            case c3 => first | omega | (simp; omega)
            intro v' w4 ho4 _ hb4
            replace ho4 : w4.ownsRow (w.heap.size + 1) 50 6 v' (fk.length + 1) (rulesC (fk ++ [⟨id1, kn1, kd1, x1, y1, of1⟩])) := by rw [← HSN.out]; exact ho4
            obtain ⟨A4, c4, rfl, _, _⟩ := ownsSlice ho4
            have hll : (fk ++ [(⟨id1, kn1, kd1, x1, y1, of1⟩ : Rul)]).length = fk.length + 1 := by simp
            have hk4 := Lib.hid ((hQ2.out.alloc (.cells #[.int .i64 id1, .int .i64 kn1, .int .u8 kd1, .string x1, .string y1, .int .i64 of1] 50)).below hb4 (Nat.lt_succ_self _))
            have hbw4 : Below w.heap.size w w4 := (q4.alloc hQS _).trans (hb4.mono (by omega))
            have ho5 := Lib.hid ho4
            clear ho4 hb4 f1 f2 f3 f4 f5 e0 z0 q1
            go_wp2
            go_roundw
            case rel => exact ⟨i + 1, A4, c4, by omega, by rw [HS2.out, hll], by go_num, by rw [HS2.out, hll]; exact ho5, hk4, hbw4⟩
            case measure => simp [intOf]; omega
          · rw [hvv] at HVD
            have HS2 := Lib.hid (HSK.out (by rw [HVD.out]; simp))
            obtain ⟨_, q2, q3, q4⟩ := HBU.out wr hbv
            have hQ3 := Lib.hid q3
            have hQ2 := Lib.hid q2
            clear hvv hfr HSK HPT HVD HSN HBU HI0 HIE h6 q2 q3 q1
            go_wp2
            go_roundw
            case rel => exact ⟨i + 1, A1, c1, by omega, by rw [HS2.out], by go_num, by rw [HS2.out]; exact hQ3, hQ2, q4⟩
            case measure => simp [intOf]; omega
    · obtain rfl : i = l.length := by omega
      rw [HEN.out] at ho ⊢
      have hcap := ownsSlice ho.out
      have hLI := Lib.hid (ownsRow_lies ho.out)
      clear ho HEN HF HLW hk HV0 HVE
      go_wp2
      go_ret
      obtain ⟨A2, c2, e2, h1, h2⟩ := hcap
      cases e2
      exact ⟨A1, c1, rfl, hLI.out, ⟨h1, h2⟩, hbw⟩
end Go.Proofs.YtkfeagokmcakgaaGreatDoor

namespace Go.Proofs.YtkfeagokmcakgaaGreatDoor
open Go.RowKit

def aboB (r : Rul) (kind : Int) (g : List ByteArray) : Bool := decide (r.kind = kind) && decide (r.x ∈ g)
set_option maxHeartbeats 400000 in
set_option maxRecDepth 100000 in
theorem rabout_any (r : Rul) (kind : Int) (g : List ByteArray) (A : Option Addr) (c : Nat) (w : World) (hg : Lies w w.heap.size A (strsC g)) (hn : g.length ≤ 1001) :
    Calls Tryz.prog 96 #[r.agg, .int .u8 kind, .slice A g.length c] w (ShEnd (aboB r kind g) w) := by
  obtain ⟨id, kn, kd, x, y, of⟩ := r
  have hb0 : Below w.heap.size w (w.alloc (.cells #[.int .i64 id, .int .i64 kn, .int .u8 kd, .string x, .string y, .int .i64 of] 50)) := (Below.refl _ _).alloc (Nat.le_refl _) _
  have HH := Lib.hid (rhas_any g A c x (w.alloc (.cells #[.int .i64 id, .int .i64 kn, .int .u8 kd, .string x, .string y, .int .i64 of] 50)) (lies_on hg hb0) (by unfold maxLen; omega))
  have HD : Hid (aboB ⟨id, kn, kd, x, y, of⟩ kind g = (decide (kd = kind) && decide (x ∈ g))) := rfl
  have HB := Lib.hid hb0
  show Calls Tryz.prog 96 #[.agg #[.int .i64 id, .int .i64 kn, .int .u8 kd, .string x, .string y, .int .i64 of], .int .u8 kind, .slice A g.length c] w _
  generalize decide (x ∈ g) = B at *
  generalize aboB ⟨id, kn, kd, x, y, of⟩ kind g = R at *
  clear hg hb0
  by_cases hk : kd = kind
  · have hk1 : (kd == kind) = true := by rw [beq_iff_eq]; exact hk
    have HR : Hid (R = B) := by show _ = _; rw [HD.out, decide_eq_true hk]; rfl
    clear HD hk
    go_enter Tryz.func96, Tryz.ntmps96
    go_wp2_with (first | (go_at_call 77; refine HH.out.mono ?_; rintro e u ⟨rfl, hb⟩))
    go_ret
    exact sh_ret HR.out.symm (HB.out.trans (hb.mono HB.out.size))
  · have hk1 : (kd == kind) = false := by rw [beq_eq_false_iff_ne]; exact hk
    have HR : Hid (R = false) := by show _ = _; rw [HD.out, decide_eq_false hk]; rfl
    clear HD hk HH
    go_enter Tryz.func96, Tryz.ntmps96
    go_wp2
    go_ret
    exact sh_ret HR.out.symm HB.out
def fstB (l : List Rul) (kind : Int) (g : List ByteArray) : Bool := l.any fun r => aboB r kind g
theorem fstB_take {l : List Rul} {k : Nat} (hk : k < l.length) (kind : Int) (g : List ByteArray) : fstB (l.take (k + 1)) kind g = (fstB (l.take k) kind g || aboB l[k] kind g) := by
  unfold fstB
  rw [← List.take_append_getElem hk, List.any_append]; simp
theorem abt_any (l : List Rul) (x : ByteArray) (q : Rul → Bool) (kind : Int) (hk : kind = 1 ∨ kind = 2) (hq : ∀ r, ((decide (r.kind = 1) || decide (r.kind = 2)) && q r) = decide (r.kind = kind)) : (abtL l x).any q = fstB l kind (grps l x) := by
  unfold abtL fstB
  rw [List.any_filter]
  congr 1
  funext r
  unfold abtB aboB inG
  have := hq r
  rw [← this]
  cases (decide (r.kind = 1) || decide (r.kind = 2)) <;> cases q r <;> cases decide (r.x ∈ grps l x) <;> rfl
theorem stt_ref (l : List Rul) (x : ByteArray) : stt l x = (if fstB l 1 (grps l x) = true then 1 else 0) + (if fstB l 2 (grps l x) = true then 2 else 0) := by
  unfold stt sttA
  rw [abt_any l x (fun r => decide (r.kind = 1)) 1 (.inl rfl) (fun r => by by_cases h : r.kind = 1 <;> simp [h]),
    abt_any l x (fun r => !decide (r.kind = 1)) 2 (.inr rfl) (fun r => by by_cases h : r.kind = 1 <;> by_cases h2 : r.kind = 2 <;> simp [h, h2] <;> omega)]
/-- what about says of a rule, from a world on -/
structure AboK (W : World) (r : Rul) (kind : Int) (A : Option Addr) (n c : Nat) (b : Bool) : Prop where
  run : ∀ V, Below W.heap.size W V → Calls Tryz.prog 96 #[.agg #[.int .i64 r.id, .int .i64 r.known, .int .u8 r.kind, .string r.x, .string r.y, .int .i64 r.of], .int .u8 kind, .slice A n c] V (ShEnd b V)
theorem AboK.go {W V : World} {id kn kd kind of : Int} {x y : ByteArray} {A : Option Addr} {n c : Nat} {b : Bool} (h : AboK W ⟨id, kn, kd, x, y, of⟩ kind A n c b) (hb : Below W.heap.size W V) :
    Calls Tryz.prog 96 #[.agg #[.int .i64 id, .int .i64 kn, .int .u8 kd, .string x, .string y, .int .i64 of], .int .u8 kind, .slice A n c] V (ShEnd b V) := h.run V hb
set_option maxHeartbeats 1000000 in
set_option maxRecDepth 100000 in
theorem rstate_any (l : List Rul) (A : Option Addr) (c : Nat) (x : ByteArray) (w : World) (hl : Lies w w.heap.size A (rulesC l)) (hm : l.length ≤ 1000) :
    Calls Tryz.prog 92 #[.slice A l.length c, .string x] w (U8End (stt l x) w) := by
  have HG := Lib.hid (rgroups_any l A c x w hl hm)
  have HST := Lib.hid (stt_ref l x)
  have hgl := grps_len l x
  generalize grps l x = G at *
  generalize stt l x = R at *
  have HLW : Hid (∀ V, Below w.heap.size w V → Lies V V.heap.size A (rulesC l)) := fun V hV => lies_on hl hV
  have HT0 : Hid (fstB (l.take 0) 1 G = false ∧ fstB (l.take 0) 2 G = false) := ⟨rfl, rfl⟩
  have HTE : Hid (l.take l.length = l) := by show _ = _; exact List.take_length
  clear hl
  go_enter Tryz.func92, Tryz.ntmps92
  go_upto_region 5 with (first | (go_at_call 76; refine HG.out.mono ?_; rintro e w1 ⟨A1, c1, rfl, hl1, _, hb1⟩))
  have HL1 := Lib.hid hl1
  have hB1 : Below w1.heap.size w1 w1 := Below.refl _ _
  clear hl1 HG
  go_loopw [6, 7, 8] (fun p q y wr => ∃ k : Nat, k ≤ l.length ∧ p = .bool (fstB (l.take k) 1 G) ∧ q = .bool (fstB (l.take k) 2 G) ∧ y = .int .i64 k ∧ Below w1.heap.size w1 wr) (fun _ _ y _ => l.length - (intOf y).toNat)
  case atStart => exact ⟨0, by omega, by rw [HT0.out.1], by rw [HT0.out.2], rfl, hB1⟩
  case round =>
    obtain ⟨k, hk, rfl, rfl, rfl, hbw⟩ := hrel
    clear HT0 hB1
    by_cases hlt : k < l.length
    · obtain ⟨ad, rfl, _, d0, d1, d2, d3, d4, d5⟩ := rule_at (HLW.out wr (hb1.trans (hbw.mono hb1.size))) hlt
      have HD : Hid (∀ V, Below w1.heap.size w1 V → V.cell? (ad.add (k * 6)) = some (.int .i64 l[k].id) ∧ V.cell? ⟨(ad.add (k * 6)).block, (ad.add (k * 6)).off + 1, none⟩ = some (.int .i64 l[k].known) ∧ V.cell? ⟨(ad.add (k * 6)).block, (ad.add (k * 6)).off + 2, none⟩ = some (.int .u8 l[k].kind) ∧ V.cell? ⟨(ad.add (k * 6)).block, (ad.add (k * 6)).off + 3, none⟩ = some (.string l[k].x) ∧ V.cell? ⟨(ad.add (k * 6)).block, (ad.add (k * 6)).off + 4, none⟩ = some (.string l[k].y) ∧ V.cell? ⟨(ad.add (k * 6)).block, (ad.add (k * 6)).off + 5, none⟩ = some (.int .i64 l[k].of)) := fun V hV => by
        obtain ⟨ad2, e2, _, e0, e1, e3, e4, e5, e6⟩ := rule_at (HLW.out V (hb1.trans (hV.mono hb1.size))) hlt
        cases e2
        exact ⟨e0, e1, e3, e4, e5, e6⟩
      have k1 : AboK w1 l[k] 1 A1 G.length c1 (aboB l[k] 1 G) := ⟨fun V hV => rabout_any l[k] 1 G A1 c1 V (lies_on HL1.out hV) (by omega)⟩
      have k2 : AboK w1 l[k] 2 A1 G.length c1 (aboB l[k] 2 G) := ⟨fun V hV => rabout_any l[k] 2 G A1 c1 V (lies_on HL1.out hV) (by omega)⟩
      have H1 := Lib.hid (fstB_take hlt 1 G)
      have H2 := Lib.hid (fstB_take hlt 2 G)
      generalize aboB l[k] 1 G = a1 at *
      generalize aboB l[k] 2 G = a2 at *
      generalize fstB (l.take k) 1 G = p at *
      generalize fstB (l.take k) 2 G = q at *
      generalize l[k] = r at *
      obtain ⟨id, kn, kd, rx, ry, of⟩ := r
      dsimp only at *
      have HP : Hid ((p || a1) = fstB (l.take (k + 1)) 1 G) := H1.out.symm
      have HQ : Hid ((q || a2) = fstB (l.take (k + 1)) 2 G) := H2.out.symm
      clear H1 H2 HTE
      cases p
      · cases q
        · go_wp2_with (first | (go_at_call 96; refine (AboK.go (by assumption) (by assumption)).mono ?_; rintro e u ⟨rfl, hb⟩; have hbu : Below w1.heap.size w1 u := Below.trans (by assumption) (hb.mono (Below.size (by assumption))); obtain ⟨s0, s1, s2, s3, s4, s5⟩ := HD.out u hbu; clear hb))
          go_roundw
          case rel => exact ⟨k + 1, by omega, by rw [← HP.out]; simp, by rw [← HQ.out]; simp, by go_num, hbu⟩
          case measure => simp [intOf]; omega
        · go_wp2_with (first | (go_at_call 96; refine (AboK.go (by assumption) (by assumption)).mono ?_; rintro e u ⟨rfl, hb⟩; have hbu : Below w1.heap.size w1 u := Below.trans (by assumption) (hb.mono (Below.size (by assumption))); obtain ⟨s0, s1, s2, s3, s4, s5⟩ := HD.out u hbu; clear hb))
          go_roundw
          case rel => exact ⟨k + 1, by omega, by rw [← HP.out]; simp, by rw [← HQ.out]; simp, by go_num, hbu⟩
          case measure => simp [intOf]; omega
      · cases q
        · go_wp2_with (first | (go_at_call 96; refine (AboK.go (by assumption) (by assumption)).mono ?_; rintro e u ⟨rfl, hb⟩; have hbu : Below w1.heap.size w1 u := Below.trans (by assumption) (hb.mono (Below.size (by assumption))); obtain ⟨s0, s1, s2, s3, s4, s5⟩ := HD.out u hbu; clear hb))
          go_roundw
          case rel => exact ⟨k + 1, by omega, by rw [← HP.out]; simp, by rw [← HQ.out]; simp, by go_num, hbu⟩
          case measure => simp [intOf]; omega
        · go_wp2_with (first | (go_at_call 96; refine (AboK.go (by assumption) (by assumption)).mono ?_; rintro e u ⟨rfl, hb⟩; have hbu : Below w1.heap.size w1 u := Below.trans (by assumption) (hb.mono (Below.size (by assumption))); obtain ⟨s0, s1, s2, s3, s4, s5⟩ := HD.out u hbu; clear hb))
          go_roundw
          case rel => exact ⟨k + 1, by omega, by rw [← HP.out]; simp, by rw [← HQ.out]; simp, by go_num, hbu⟩
          case measure => simp [intOf]; omega
    · obtain rfl : k = l.length := by omega
      rw [HTE.out]
      have HB : Hid (Below w.heap.size w wr) := hb1.trans (hbw.mono hb1.size)
      clear HL1 HLW
      cases hp : fstB l 1 G <;> cases hq : fstB l 2 G
      all_goals (rw [hp, hq] at HST; clear hp hq; go_wp2; go_ret; exact ⟨by rw [HST.out]; rfl, HB.out⟩)
set_option maxHeartbeats 1000000 in
theorem rState_any (l : List Rul) (A : Option Addr) (c : Nat) (known : Int) (x : ByteArray) (w : World) (hl : Lies w w.heap.size A (rulesC l)) (hok : RulOK l) (hm : l.length ≤ 1000) :
    Calls Tryz.prog 43 #[.agg #[.slice A l.length c], .int .i64 known, .string x] w (U8End (stt (cntL l known) x) w) := by
  have HC : Hid (∀ W, Below w.heap.size w W → Calls Tryz.prog 39 #[.agg #[.slice A l.length c], .int .i64 known] W (SlE (cntL l known) W)) := fun W hb => rcounting_any l A c known W ((hl.below hb (Nat.le_refl _)).more hb.size) hok hm
  have HS := Lib.hid (fun A' c' W hL => rstate_any (cntL l known) A' c' x W hL (Nat.le_trans (cnt_len l known) hm))
  clear hl hok
  go_enter Tryz.func43, Tryz.ntmps43
  go_wp2_with (first | (go_at_call 39; refine (HC.out _ (by repeat (first | with_reducible exact Below.refl _ _ | with_reducible assumption | with_reducible refine Below.drew ?_ | with_reducible refine below_drewN ?_ _ | (with_reducible refine Below.alloc ?_ ?_ _; rotate_left; (try simp) <;> omega) | (with_reducible refine Below.setCell ?_ ?_ _; rotate_left; (try simp) <;> omega)))).mono ?_; rintro e w1 ⟨A1, c1, rfl, hl1, _, hb1⟩; have hB1 : Below w.heap.size w w1 := Below.trans (by repeat (first | with_reducible exact Below.refl _ _ | with_reducible assumption | with_reducible refine Below.drew ?_ | with_reducible refine below_drewN ?_ _ | (with_reducible refine Below.alloc ?_ ?_ _; rotate_left; (try simp) <;> omega) | (with_reducible refine Below.setCell ?_ ?_ _; rotate_left; (try simp) <;> omega))) (hb1.mono (by simp))) | (go_at_call 92; refine (HS.out _ _ _ hl1).mono ?_; rintro e w2 ⟨rfl, hb2⟩))
  go_ret
  exact ⟨rfl, hB1.trans (hb2.mono hB1.size)⟩
end Go.Proofs.YtkfeagokmcakgaaGreatDoor

namespace Go.Proofs.YtkfeagokmcakgaaGreatDoor
open Go.RowKit Go.Maps

def byB (s : ByteArray) : List UInt8 := s.data.toList
theorem byB_inj {a b : ByteArray} (h : byB a = byB b) : a = b := bytes_inj h
def srtB (l : List ByteArray) : List ByteArray := l.mergeSort fun x y => decide (byB x ≤ byB y)
theorem enc_by (s : ByteArray) : Go.Proofs.encStr (byB s) = Value.string s := by
  show Value.string ⟨s.data.toList.toArray⟩ = _
  rw [Array.toArray_toList]
theorem strsC_enc (l : List ByteArray) : (l.map byB).map Go.Proofs.encStr = strsC l := by
  unfold strsC
  rw [List.map_map]
  exact List.map_congr_left fun s _ => enc_by s
theorem srt_map (l : List ByteArray) : (l.map byB).mergeSort (fun x y => decide (x ≤ y)) = (srtB l).map byB := by
  unfold srtB
  exact (List.map_mergeSort (f := byB) (r := fun x y => decide (byB x ≤ byB y)) (s := fun x y => decide (x ≤ y)) (fun a _ b _ => rfl)).symm
/-- the list of a set of names, in ascending order -/
structure SrtOf (R : List ByteArray) (p : ByteArray → Bool) : Prop where
  srt : R.Pairwise fun a b => byB a ≤ byB b
  nd : R.Nodup
  mem : ∀ s, s ∈ R ↔ (s.size ≤ maxLen ∧ p s = true)
theorem SrtOf.uniq {R R' : List ByteArray} {p : ByteArray → Bool} (h : SrtOf R p) (k : SrtOf R' p) : R = R' :=
  List.Perm.eq_of_pairwise (fun _ _ _ _ h1 h2 => byB_inj (List.le_antisymm h1 h2)) h.srt k.srt ((List.perm_ext_iff_of_nodup h.nd k.nd).2 fun s => (h.mem s).trans (k.mem s).symm)
theorem srtB_of {l : List ByteArray} {p : ByteArray → Bool} (hn : l.Nodup) (hm : ∀ s, s ∈ l ↔ (s.size ≤ maxLen ∧ p s = true)) : SrtOf (srtB l) p := by
  refine ⟨?_, (List.mergeSort_perm l _).nodup_iff.2 hn, fun s => ((List.mergeSort_perm l _).mem_iff).trans (hm s)⟩
  have h := List.pairwise_mergeSort (le := fun x y => decide (byB x ≤ byB y)) (fun a b c h1 h2 => by simp at h1 h2 ⊢; exact List.le_trans h1 h2) (fun a b => by simp; exact List.le_total _ _) l
  exact h.imp (by simp)
theorem srtB_len (l : List ByteArray) : (srtB l).length = l.length := List.length_mergeSort _
/-- what has come so far of a range over a map -/
structure Cm (g : ByteArray → Option Bool) (left : Lit → Bool) (acc : List ByteArray) : Prop where
  nd : acc.Nodup
  mem : ∀ s, s ∈ acc ↔ (s.size ≤ maxLen ∧ g s = some true ∧ left (.string (byB s)) = false)
  sub : ∀ s, s.size ≤ maxLen → left (.string (byB s)) = true → (g s).isSome = true
theorem Cm.start {g : ByteArray → Option Bool} {D : DataW Unit} (h : Reads mSB D g) : Cm g (Maps.has D) [] := by
  have h2 : ∀ s : ByteArray, s.size ≤ maxLen → Maps.has D (.string (byB s)) = (g s).isSome := fun s hs => (h s hs).2
  refine ⟨List.nodup_nil, fun s => ⟨fun hm => (by cases hm), ?_⟩, fun s hs hl => by rw [← h2 s hs]; exact hl⟩
  rintro ⟨hs, hg, hl⟩
  rw [h2 s hs, hg] at hl
  cases hl
theorem key_same {x s : ByteArray} : (Lit.string (byB s)).sameKey (.string (byB x)) = decide (s = x) := by
  by_cases h : s = x
  · subst h
    rw [decide_eq_true rfl]
    exact WideAt.sameKey_self trivial
  · rw [decide_eq_false h]
    cases hk : (Lit.string (byB s)).sameKey (.string (byB x))
    · rfl
    · have := WideAt.sameKey_eq hk
      injection this with h1
      exact absurd (byB_inj h1) h
theorem Cm.step {g : ByteArray → Option Bool} {left : Lit → Bool} {acc : List ByteArray} (h : Cm g left acc) {D : DataW Unit} (hr : Reads mSB D g) {x : ByteArray} {c : Bool} (hx : x.size ≤ maxLen) (hl : left (.string (byB x)) = true) (ha : ∀ zd, D.atKey (.string (byB x)) zd = .lit (.bool c)) :
    Cm g (fun z => left z && !z.sameKey (.string (byB x))) (if c = true then acc ++ [x] else acc) := by
  have h1 := (hr x hx).1
  have h2 : (DataW.lit (.bool c) : DataW Unit) = .lit (.bool ((g x).getD false)) := (ha _).symm.trans h1
  have h3 : c = (g x).getD false := by injection h2 with h2; injection h2
  have h4 := h.sub x hx hl
  have hg : g x = some c := by
    cases hgx : g x with
    | none => rw [hgx] at h4; cases h4
    | some d => rw [hgx] at h3; rw [h3]; rfl
  have hna : x ∉ acc := fun hm => by have := ((h.mem x).1 hm).2.2; rw [hl] at this; cases this
  refine ⟨?_, fun s => ?_, fun s hs hls => ?_⟩
  · split
    · rw [List.nodup_append]
      exact ⟨h.nd, by simp, fun a hin b hb => by simp at hb; subst hb; exact fun e => hna (e ▸ hin)⟩
    · exact h.nd
  · have e : (left (.string (byB s)) && !(Lit.string (byB s)).sameKey (.string (byB x))) = (left (.string (byB s)) && !decide (s = x)) := by rw [key_same]
    show _ ↔ _ ∧ _ ∧ (left (.string (byB s)) && !(Lit.string (byB s)).sameKey (.string (byB x))) = false
    rw [e]
    by_cases hsx : s = x
    · subst hsx
      rw [decide_eq_true rfl]
      cases c
      · simp only [Bool.false_eq_true, if_false]
        constructor
        · intro hm; exact absurd hm hna
        · rintro ⟨_, h6, _⟩; rw [hg] at h6; cases h6
      · simp only [if_true, List.mem_append, List.mem_singleton, or_true, true_iff]
        exact ⟨hx, hg, by simp⟩
    · rw [decide_eq_false hsx]
      have : (s ∈ if c = true then acc ++ [x] else acc) ↔ s ∈ acc := by
        split
        · simp [hsx]
        · rfl
      rw [this, h.mem s]
      simp
  · have h5 : left (.string (byB s)) = true := by
      simp only [Bool.and_eq_true] at hls; exact hls.1
    exact h.sub s hs h5
theorem Cm.done {g : ByteArray → Option Bool} {left : Lit → Bool} {acc : List ByteArray} (h : Cm g left acc) (hl : ∀ kl, left kl = false) : ∀ s, s ∈ acc ↔ (s.size ≤ maxLen ∧ decide (g s = some true) = true) := fun s => by
  rw [h.mem s, hl, decide_eq_true_eq]
  simp
theorem own_iter {w w' : World} {base r : Nat} {e : TypeId} {size n : Nat} {v : Value} {xs : List Value} (h : w.ownsRow base e size v n xs) (hg : w.grownBy w' (some r)) (hr : r < base) : w'.ownsRow base e size v n xs := by
  refine ⟨h.1, ?_⟩
  rcases h.2 with h2 | ⟨g, cap, cur, h1, h2, h3, h4⟩
  · exact .inl h2
  · have hgl : g < w.heap.size := (Array.getElem?_eq_some_iff.1 h3).1
    exact .inr ⟨g, cap, cur, h1, h2, (hg.block g hgl (by intro e; cases e; omega)).trans h3, h4⟩
theorem sortS_own {w : World} {base n c : Nat} {A : Option Addr} {L : List ByteArray} (h : w.ownsRow base 9 1 (.slice A n c) n (strsC L)) (hn : n = L.length) (hm : n ≤ 100000) (hb : base ≤ w.heap.size) :
    Calls Tryz.prog 128 #[.slice A n c] w fun e w' => e = .returned (.tuple #[]) ∧ w'.ownsRow base 9 1 (.slice A n c) n (strsC (srtB L)) ∧ Below base w w' := by
  subst hn
  rcases h.2 with ⟨h1, h2⟩ | ⟨g, cap, cur, h1, hbg, hg, h2, h3, h4, h5⟩
  · have hL : L = [] := List.eq_nil_of_length_eq_zero h2
    subst hL
    refine (Tryz.slices_Sort_string_none A c w).mono ?_
    rintro e w' ⟨rfl, rfl⟩
    exact ⟨rfl, by simpa [srtB] using h, Below.refl _ _⟩
  · cases h1
    have hlen : (L.map byB).length = L.length := by simp
    have hH : Go.Sort.Holds Go.Proofs.encStr w g 0 (L.map byB).toArray := holds_of_block hg (by rw [hlen, strsC_enc]; rw [Nat.mul_one] at h5; exact h5)
    have hs := Tryz.slices_Sort_string g 0 c (L.map byB) w hH (Array.getElem?_eq_some_iff.1 hg).1 (by rw [hlen]; omega)
    rw [hlen] at hs
    refine hs.mono ?_
    rintro e w' ⟨rfl, m, os, rfl⟩
    rw [srt_map]
    refine ⟨rfl, ?_, below_grown (grownBy_sorted _) (fun k e => by cases e; exact hbg) hb⟩
    have := ownsRow_sorted (n := m) (os := os) (ss := L.map byB) (ts := (srtB L).map byB) (by simp [srtB_len]) hbg hg (by rw [hlen]; exact h2) h3 h4
    rw [hlen, strsC_enc] at this
    exact this
/-- a list of names in new memory, in ascending order -/
def GpE (p : ByteArray → Bool) (w : World) (e : Ending) (w' : World) : Prop := ∃ R A c, SrtOf R p ∧ R.length ≤ 10000 ∧ e = .returned (.slice A R.length c) ∧ Lies w' w'.heap.size A (strsC R) ∧ (R.length ≤ c ∧ c ≤ maxLen) ∧ Below w.heap.size w w'

theorem next_sb {w : World} {ops : Array Oper} {rest : List Oper} {o : Oper} {a : Act} {Q : Exit → Act → World → Prop} (hg : o.guard = none) (it : Operand) (hop : o.op = Op.next it false) (b r n : Nat) (D : DataW Unit) (left : Lit → Bool) (cnt : Nat)
    (hit : a.eval it = .pointer (some ⟨r, 0, none⟩)) (h : w.ranges Tryz.prog 9 (plainElem Tryz.prog 4) b r n D left cnt)
    (hDone : (∀ kl, left kl = false) → wpList Tryz.prog ops Q rest (a.put o.dst (.tuple #[.bool false])) w)
    (hMoreF : ∀ (x : ByteArray) (w' : World) (cnt' : Nat), x.size ≤ maxLen → left (.string (byB x)) = true → (∀ zd, D.atKey (.string (byB x)) zd = .lit (.bool false)) → w'.ranges Tryz.prog 9 (plainElem Tryz.prog 4) b r n D (fun z => left z && !z.sameKey (.string (byB x))) cnt' → cnt' < cnt →
      w.grownBy w' (some r) → w'.heap.size = w.heap.size → (Instr.entry (.pointer (some ⟨r, 0, none⟩))).run Tryz.prog w' = .ok (.tuple #[.string x, .bool false]) w' → wpList Tryz.prog ops Q rest (a.put o.dst (.tuple #[.bool true, .string x, .bool false])) w')
    (hMoreT : ∀ (x : ByteArray) (w' : World) (cnt' : Nat), x.size ≤ maxLen → left (.string (byB x)) = true → (∀ zd, D.atKey (.string (byB x)) zd = .lit (.bool true)) → w'.ranges Tryz.prog 9 (plainElem Tryz.prog 4) b r n D (fun z => left z && !z.sameKey (.string (byB x))) cnt' → cnt' < cnt →
      w.grownBy w' (some r) → w'.heap.size = w.heap.size → (Instr.entry (.pointer (some ⟨r, 0, none⟩))).run Tryz.prog w' = .ok (.tuple #[.string x, .bool true]) w' → wpList Tryz.prog ops Q rest (a.put o.dst (.tuple #[.bool true, .string x, .bool true])) w') :
    wpList Tryz.prog ops Q (o :: rest) a w := by
  refine wpList_next_ranges w hg it hop 9 (string_keyed Tryz.underlying9) (plainElem Tryz.prog 4) Value.string Value.bool (fun key kl hk => by obtain ⟨x, h1, h2, h3⟩ := WideMaps.string_of_keyOf Tryz.underlying9 hk; exact ⟨x, h1⟩) (fun v y hv => by obtain ⟨c, _, h2, _⟩ := inv_bool Tryz.underlying4 hv; exact ⟨c, h2⟩)
    b r n D left cnt hit h (fun _ => hDone) (fun x c kl y w' cnt' hkey hlk hv hat hrg hlt hgr hsz hen => ?_)
  obtain ⟨x', ex, rfl, hx⟩ := WideMaps.string_of_keyOf Tryz.underlying9 hkey
  cases ex
  obtain ⟨c', _, ec, rfl⟩ := inv_bool Tryz.underlying4 hv
  cases ec
  cases c
  · exact hMoreF x w' cnt' hx hlk hat hrg hlt hgr hsz hen
  · exact hMoreT x w' cnt' hx hlk hat hrg hlt hgr hsz hen
set_option maxHeartbeats 1000000 in
set_option maxRecDepth 100000 in
theorem sorted_any (g : ByteArray → Option Bool) (b n : Nat) (w : World) (hm : MapG mSB w b n g) (hn : n ≤ 10000) : Calls Tryz.prog 89 #[.map (some b)] w (GpE (fun s => decide (g s = some true)) w) := by
  obtain ⟨D, hown, hrd⟩ := hm.out
  have HRD := Lib.hid hrd
  have hbl := hown.lt
  have hcs0 := hown.size_le
  clear hm hrd
  have hown : w.ownsMap Tryz.prog 9 (plainElem Tryz.prog 4) b n D := hown
  go_enter Tryz.func89, Tryz.ntmps89
  go_wp2_with (first
    | (at_range; refine wpList_range_own _ rfl _ 114 rfl 9 4 (string_keyed Tryz.underlying9) Tryz.underlying114 _ b n _ rfl hown ?_; intro w0 hrg0 hg0 hs0)
    | go_in)
  go_frame
  have hb0 : Below w.heap.size w w0 := (Below.refl _ _).grown hg0 (Nat.le_refl _) (fun j hj => by cases hj)
  go_loopw [3, 4, 5] (fun v _ _ wr => ∃ (left : Lit → Bool) (cnt : Nat) (acc : List ByteArray) (A : Option Addr) (c : Nat), Hid (wr.ranges Tryz.prog 9 (plainElem Tryz.prog 4) b w.heap.size n D left cnt) ∧ acc.length + cnt ≤ 10000 ∧ v = .slice A acc.length c ∧ Hid (Cm g left acc) ∧ Hid (wr.ownsRow (w.heap.size + 1) 9 1 (.slice A acc.length c) acc.length (strsC acc)) ∧ Below w.heap.size w wr)
    (fun _ _ _ wr => wr.rangeLeft b w.heap.size)
  case atStart => exact ⟨_, _, [], none, 0, hrg0, by simp; omega, rfl, Cm.start HRD.out, World.ownsRow_nil _ _ _ _, hb0⟩
  case round =>
    obtain ⟨left, cnt, acc, A, c, hrg, hcs, rfl, hC, ho, hbw⟩ := hrel
    go_wp2_with (first
      | (at_next; refine next_sb rfl _ rfl b w.heap.size n _ _ _ rfl hrg.out ?_ ?_ ?_)
      | go_in)
    · intro hl0
      have hS := Lib.hid (sortS_own ho.out rfl (by omega) (by have := hrg.out.lt; omega))
      have hR := Lib.hid (srtB_of hC.out.nd (hC.out.done hl0))
      have hbase : w.heap.size + 1 ≤ wr.heap.size := by have := hrg.out.lt; omega
      clear hrg hC ho HRD hown
      go_wp2_with (first | (go_at_call 128; refine hS.out.mono ?_; rintro e w5 ⟨rfl, ho5, hb5⟩))
      have hBE : Below w.heap.size w w5 := hbw.trans (hb5.mono (by omega))
      have hLI := Lib.hid (ownsRow_lies ho5)
      have hcap := ownsSlice ho5
      clear ho5 hb5 hbw hS
      go_ret
      obtain ⟨A7, c7, e7, h1, h2⟩ := hcap
      cases e7
      exact ⟨srtB acc, A, c, hR.out, by rw [srtB_len]; omega, by rw [srtB_len]; rfl, hLI.out, by rw [srtB_len]; exact ⟨h1, h2⟩, hBE⟩
    · intro x w1 cnt1 hx hlx hat hrg1 hlt hg1 hs1 hen
      have hC1 := Lib.hid (hC.out.step HRD.out hx hlx hat)
      have ho1 := Lib.hid (own_iter ho.out hg1 (Nat.lt_succ_self _))
      have hbw1 : Below w.heap.size w w1 := hbw.grown hg1 hbw.size (fun j hj => by cases hj; exact Nat.le_refl _)
      have hbase : w.heap.size + 1 ≤ w1.heap.size := by have := hrg1.lt; omega
      have HRG := Lib.hid hrg1
      have HME := Lib.hid (show wr.rangeLeft b w.heap.size = cnt from hrg.out.left_eq)
      clear hg1 hs1 hlx hat hrg1 hC ho hrg hbw hown HRD
      rw [if_neg (by simp)] at hC1
      go_wp2
      go_roundw
      case rel => exact ⟨_, cnt1, acc, A, c, HRG, by omega, rfl, hC1, ho1, hbw1⟩
      case measure => rw [HRG.out.left_eq, HME.out]; exact hlt
    · intro x w1 cnt1 hx hlx hat hrg1 hlt hg1 hs1 hen
      have hC1 := Lib.hid (hC.out.step HRD.out hx hlx hat)
      have ho1 := Lib.hid (own_iter ho.out hg1 (Nat.lt_succ_self _))
      have hbw1 : Below w.heap.size w w1 := hbw.grown hg1 hbw.size (fun j hj => by cases hj; exact Nat.le_refl _)
      have hbase : w.heap.size + 1 ≤ w1.heap.size := by have := hrg1.lt; omega
      have HRG := Lib.hid hrg1
      have HME := Lib.hid (show wr.rangeLeft b w.heap.size = cnt from hrg.out.left_eq)
      clear hg1 hs1 hlx hat hrg1 hC ho hrg hbw hown HRD
      rw [if_pos rfl] at hC1
      go_wp2_with (at_builtin; refine wpList_append1g (P := Tryz.prog) rfl (.tmp 14) (.tmp 16) 34 rfl (w.heap.size + 1) 9 (.string ByteArray.empty) 1 16 Tryz.underlying34 info9 (by decide) (by decide) (.slice A acc.length c) acc.length (strsC acc) rfl (ho1.out.alloc _) w1.heap.size #[.string x] 9 rfl (Bk.new _ _ _) rfl ?c1 ?c2 (by decide) ?c3 ?_)
      case c1 => rfl
      case c2 => omega
      case c3 => simp; omega
      intro v' w4 ho4 hg4
      have hgr : ∀ k, (Value.slice A acc.length c).ownBlock = some k → w.heap.size + 1 ≤ k := fun k hk => (ho1.out.lt k hk).1
      have HRG4 := Lib.hid ((HRG.out.alloc (.cells #[.string x] 9)).kept hg4 (fun e => by have := hgr b e.symm; omega) (fun e => by have := hgr w.heap.size e.symm; omega))
      have hbw4 : Below w.heap.size w w4 := (hbw1.alloc hbw1.size _).grown hg4 (by have := hbw1.size; simp; omega) (fun j hj => by have := hgr j hj; omega)
      have hsn : strsC acc ++ (#[Value.string x] : Array Value).toList = strsC (acc ++ [x]) := by simp [strsC]
      rw [hsn] at ho4
      obtain ⟨A4, c4, rfl, _, _⟩ := ownsSlice ho4
      have ho5 : Hid (w4.ownsRow (w.heap.size + 1) 9 1 (.slice A4 (acc ++ [x]).length c4) (acc ++ [x]).length (strsC (acc ++ [x]))) := by rw [List.length_append]; exact Lib.hid ho4
      have hll : (acc ++ [x]).length = acc.length + 1 := by simp
      clear ho4 hg4 hgr ho1 hbw1 hsn
      go_wp2
      go_roundw
      case rel => exact ⟨_, cnt1, acc ++ [x], A4, c4, HRG4, by omega, by rw [hll], hC1, ho5, hbw4⟩
      case measure => rw [HRG4.out.left_eq, HME.out]; exact hlt
set_option maxHeartbeats 1000000 in
set_option maxRecDepth 100000 in
theorem Groups_any (l : List Rul) (A : Option Addr) (c : Nat) (known : Int) (x : ByteArray) (w : World) (hl : Lies w w.heap.size A (rulesC l)) (hok : RulOK l) (hm : l.length ≤ 1000) (hxs : x.size ≤ 100) :
    Calls Tryz.prog 41 #[.agg #[.slice A l.length c], .int .i64 known, .string x] w (GpE (inG (cntL l known) x) w) := by
  have HC : Hid (∀ W, Below w.heap.size w W → Calls Tryz.prog 38 #[.agg #[.slice A l.length c], .int .i64 known] W (SlE (cntL l known) W)) := fun W hb => counting_any l A c known W ((hl.below hb (Nat.le_refl _)).more hb.size) hok hm
  have HG := Lib.hid (fun A' c' W hL => groups_any (cntL l known) A' c' x W hL (hok.sub (cnt_sub l known)) (Nat.le_trans (cnt_len l known) hm) hxs)
  have HP : Hid ((fun s => decide (setG (inG (cntL l known) x) s = some true)) = inG (cntL l known) x) := by
    show _ = _
    funext s
    unfold setG
    cases inG (cntL l known) x s <;> simp
  clear hl hok
  go_enter Tryz.func41, Tryz.ntmps41
  go_wp2_with (first | (go_at_call 38; refine (HC.out _ (by repeat (first | with_reducible exact Below.refl _ _ | with_reducible assumption | with_reducible refine Below.drew ?_ | with_reducible refine below_drewN ?_ _ | (with_reducible refine Below.alloc ?_ ?_ _; rotate_left; (try simp) <;> omega) | (with_reducible refine Below.setCell ?_ ?_ _; rotate_left; (try simp) <;> omega)))).mono ?_; rintro e w1 ⟨A1, c1, rfl, hl1, _, hb1⟩; have hB1 : Below w.heap.size w w1 := Below.trans (by repeat (first | with_reducible exact Below.refl _ _ | with_reducible assumption | with_reducible refine Below.drew ?_ | with_reducible refine below_drewN ?_ _ | (with_reducible refine Below.alloc ?_ ?_ _; rotate_left; (try simp) <;> omega) | (with_reducible refine Below.setCell ?_ ?_ _; rotate_left; (try simp) <;> omega))) (hb1.mono (by simp))) | (go_at_call 90; refine (HG.out _ _ _ hl1).mono ?_; rintro e w2 ⟨b, n, rfl, _, hn2, hm2, hb2⟩; have HST := Lib.hid (sorted_any _ b n w2 hm2 hn2); have hB2 : Below w.heap.size w w2 := hB1.trans (hb2.mono hB1.size)) | (go_at_call 89; refine HST.out.mono ?_; rintro e w3 ⟨R, A3, c3, hR, hRl, rfl, hL3, hc3, hb3⟩))
  rw [HP.out] at hR
  have HLI := Lib.hid hL3
  have HR := Lib.hid hR
  go_ret
  exact ⟨R, A3, c3, HR.out, hRl, rfl, HLI.out, hc3, hB2.trans (hb3.mono hB2.size)⟩
end Go.Proofs.YtkfeagokmcakgaaGreatDoor
