/- The reference's Counting (fn 39). Printed by gen_n4.py. -/
import Derived.Test.YtkfeagokmcakgaaGreatDoorG02
import Derived.Test.YtkfeagokmcakgaaGreatDoorG07
import Derived.Test.YtkfeagokmcakgaaGreatDoorG08
import Derived.Test.YtkfeagokmcakgaaGreatDoorG13
import Derived.Test.YtkfeagokmcakgaaGreatDoorG17
import Derived.Test.YtkfeagokmcakgaaGreatDoorG26

set_option linter.unusedVariables false
set_option linter.unusedSimpArgs false

namespace Go.Proofs.YtkfeagokmcakgaaGreatDoor
open Go.RowKit

set_option maxHeartbeats 6000000 in
set_option maxRecDepth 100000 in
theorem rcounting_any (l : List Rul) (A : Option Addr) (c : Nat) (known : Int) (w : World) (hl : Lies w w.heap.size A (rulesC l)) (hok : RulOK l) (hm : l.length ≤ 1000) :
    Calls Tryz.prog 39 #[.agg #[.slice A l.length c], .int .i64 known] w (SlE (cntL l known) w) := by
  have HLW : Hid (∀ V, Below w.heap.size w V → Lies V V.heap.size A (rulesC l)) := fun V hV => lies_on hl hV
  have HF : Hid (∀ r ∈ l, ∀ V, Calls Tryz.prog 85 #[r.agg] V (ShEnd (frm r) V)) := fun r hr V => rformed_any r V (hok r hr).1 (hok r hr).2.1
  have HEN : Hid ((l.take l.length).filter (cntB l known) = cntL l known) := by show _ = _; rw [List.take_length]; rfl
  have HV0 : Hid (∀ id, voidB (l.take 0) known id = false) := fun id => by simp [voidB]
  have HVE : Hid (∀ id, voidB (l.take l.length) known id = voidB l known id) := fun id => by rw [List.take_length]
  clear hl hok
  go_enter Tryz.func39, Tryz.ntmps39
  go_upto_region 3 with fail
  have hk0 : Hid (Bk (w.alloc (.cells #[.slice A l.length c] 25)) w.heap.size 25 #[.slice A l.length c]) := Bk.new _ _ _
  have hb0 : Below w.heap.size w (w.alloc (.cells #[.slice A l.length c] 25)) := (Below.refl _ _).alloc (Nat.le_refl _) _
  go_loopw [5, 6] (fun v y wr => ∃ (i : Nat) (A' : Option Addr) (c' : Nat), i ≤ l.length ∧ v = .slice A' ((l.take i).filter (cntB l known)).length c' ∧ y = .int .i64 i ∧ Hid (wr.ownsRow (w.heap.size + 1) 50 6 (.slice A' ((l.take i).filter (cntB l known)).length c') ((l.take i).filter (cntB l known)).length (rulesC ((l.take i).filter (cntB l known)))) ∧ Hid (Bk wr w.heap.size 25 #[.slice A l.length c]) ∧ Below w.heap.size w wr) (fun _ y _ => l.length - (intOf y).toNat)
  case atStart => exact ⟨0, none, 0, by omega, rfl, rfl, World.ownsRow_nil _ _ _ _, hk0, hb0⟩
  case round =>
    obtain ⟨i, A1, c1, hi, rfl, rfl, ho, hk, hbw⟩ := hrel
    clear hk0 hb0
    have z0 := hk.out.cell 0 rfl
    have hkl := hk.out.lt
    by_cases hlt : i < l.length
    · obtain ⟨ad, rfl, _, d0, d1, d2, d3, d4, d5⟩ := rule_at (HLW.out wr hbw) hlt
      have HF1 := Lib.hid (HF.out _ (List.getElem_mem hlt))
      have HSK := Lib.hid (fun h => filt_skip (p := cntB l known) hlt h)
      have HPT := Lib.hid (fun h => filt_take (p := cntB l known) hlt h)
      have hfl := filt_len l (cntB l known) i
      generalize (l.take i).filter (cntB l known) = fk at *
      generalize l[i] = r at *
      have HVD : Hid (cntB l known r = (frm r && decide (r.known ≤ known) && !decide (r.kind = 6) && !voidB l known r.id)) := rfl
      have HSN := Lib.hid (rulesC_snoc fk r)
      obtain ⟨id1, kn1, kd1, x1, y1, of1⟩ := r
      dsimp only at *
      have hb1 : Below wr.heap.size wr (wr.alloc (.cells #[.int .i64 id1, .int .i64 kn1, .int .u8 kd1, .string x1, .string y1, .int .i64 of1] 50)) := (Below.refl _ _).alloc (Nat.le_refl _) _
      have HBX : Hid (∀ V, Below (wr.alloc (.cells #[.int .i64 id1, .int .i64 kn1, .int .u8 kd1, .string x1, .string y1, .int .i64 of1] 50)).heap.size (wr.alloc (.cells #[.int .i64 id1, .int .i64 kn1, .int .u8 kd1, .string x1, .string y1, .int .i64 of1] 50)) V → Bk V wr.heap.size 50 #[.int .i64 id1, .int .i64 kn1, .int .u8 kd1, .string x1, .string y1, .int .i64 of1] ∧ Bk V w.heap.size 25 #[.slice (some ad) l.length c] ∧ V.ownsRow (w.heap.size + 1) 50 6 (.slice A1 fk.length c1) fk.length (rulesC fk) ∧ Below w.heap.size w V) := fun V hV => by
        have h1 : Bk (wr.alloc (.cells #[.int .i64 id1, .int .i64 kn1, .int .u8 kd1, .string x1, .string y1, .int .i64 of1] 50)) wr.heap.size 50 #[.int .i64 id1, .int .i64 kn1, .int .u8 kd1, .string x1, .string y1, .int .i64 of1] := Bk.new _ _ _
        have h2 : Below wr.heap.size wr V := hb1.trans (hV.mono hb1.size)
        exact ⟨h1.below hV h1.lt, hk.out.below h2 hkl, ownsRow_below ho.out h2 (Nat.le_refl _), hbw.trans (h2.mono hbw.size)⟩
      cases hfr : frm ⟨id1, kn1, kd1, x1, y1, of1⟩
      · rw [hfr] at HF1 HVD
        have HS2 := Lib.hid (HSK.out (by rw [HVD.out]; rfl))
        clear hfr HSK HPT HVD HSN
        go_wp2_with (first | (go_at_call 85; refine (HF1.out _).mono ?_; rintro e u ⟨rfl, hb⟩; have hbu : Below (wr.alloc (.cells #[.int .i64 id1, .int .i64 kn1, .int .u8 kd1, .string x1, .string y1, .int .i64 of1] 50)).heap.size (wr.alloc (.cells #[.int .i64 id1, .int .i64 kn1, .int .u8 kd1, .string x1, .string y1, .int .i64 of1] 50)) u := hb; obtain ⟨qa, qb, _, _⟩ := HBX.out u hbu; have y0 := qa.cell 0 rfl; have y1' := qa.cell 1 rfl; have y2' := qa.cell 2 rfl; have y3' := qb.cell 0 rfl; clear hb qa qb))
        obtain ⟨_, q2, q3, q4⟩ := HBX.out u hbu
        have hQ2 := Lib.hid q2
        have hQ3 := Lib.hid q3
        clear q2 q3 HBX y0 y1' y2' y3' ho hk
        go_roundw
        case rel => exact ⟨i + 1, A1, c1, by omega, by rw [HS2.out], by go_num, by rw [HS2.out]; exact hQ3, hQ2, q4⟩
        case measure => simp [intOf]; omega
      rw [hfr] at HF1 HVD
      by_cases h6 : kd1 = 6
      · have h61 : (kd1 == 6) = true := by rw [beq_iff_eq]; exact h6
        have HS2 := Lib.hid (HSK.out (by rw [HVD.out]; simp [h6]))
        clear hfr HSK HPT HVD HSN h6
        go_wp2_with (first | (go_at_call 85; refine (HF1.out _).mono ?_; rintro e u ⟨rfl, hb⟩; have hbu : Below (wr.alloc (.cells #[.int .i64 id1, .int .i64 kn1, .int .u8 kd1, .string x1, .string y1, .int .i64 of1] 50)).heap.size (wr.alloc (.cells #[.int .i64 id1, .int .i64 kn1, .int .u8 kd1, .string x1, .string y1, .int .i64 of1] 50)) u := hb; obtain ⟨qa, qb, _, _⟩ := HBX.out u hbu; have y0 := qa.cell 0 rfl; have y1' := qa.cell 1 rfl; have y2' := qa.cell 2 rfl; have y3' := qb.cell 0 rfl; clear hb qa qb))
        obtain ⟨_, q2, q3, q4⟩ := HBX.out u hbu
        have hQ2 := Lib.hid q2
        have hQ3 := Lib.hid q3
        clear q2 q3 HBX y0 y1' y2' y3' ho hk
        go_roundw
        case rel => exact ⟨i + 1, A1, c1, by omega, by rw [HS2.out], by go_num, by rw [HS2.out]; exact hQ3, hQ2, q4⟩
        case measure => simp [intOf]; omega
      have h61 : (kd1 == 6) = false := by rw [beq_eq_false_iff_ne]; exact h6
      by_cases hkn : kn1 ≤ known
      case neg =>
        have hkn2 : known < kn1 := by omega
        have HS2 := Lib.hid (HSK.out (by rw [HVD.out]; simp [hkn]))
        clear hfr HSK HPT HVD HSN h6
        go_wp2_with (first | (go_at_call 85; refine (HF1.out _).mono ?_; rintro e u ⟨rfl, hb⟩; have hbu : Below (wr.alloc (.cells #[.int .i64 id1, .int .i64 kn1, .int .u8 kd1, .string x1, .string y1, .int .i64 of1] 50)).heap.size (wr.alloc (.cells #[.int .i64 id1, .int .i64 kn1, .int .u8 kd1, .string x1, .string y1, .int .i64 of1] 50)) u := hb; obtain ⟨qa, qb, _, _⟩ := HBX.out u hbu; have y0 := qa.cell 0 rfl; have y1' := qa.cell 1 rfl; have y2' := qa.cell 2 rfl; have y3' := qb.cell 0 rfl; clear hb qa qb))
        obtain ⟨_, q2, q3, q4⟩ := HBX.out u hbu
        have hQ2 := Lib.hid q2
        have hQ3 := Lib.hid q3
        clear q2 q3 HBX y0 y1' y2' y3' ho hk
        go_roundw
        case rel => exact ⟨i + 1, A1, c1, by omega, by rw [HS2.out], by go_num, by rw [HS2.out]; exact hQ3, hQ2, q4⟩
        case measure => simp [intOf]; omega
      have hkn2 : ¬ known < kn1 := by omega
      go_upto_region 10 with (first | (go_at_call 85; refine (HF1.out _).mono ?_; rintro e u ⟨rfl, hb⟩; have hbu : Below (wr.alloc (.cells #[.int .i64 id1, .int .i64 kn1, .int .u8 kd1, .string x1, .string y1, .int .i64 of1] 50)).heap.size (wr.alloc (.cells #[.int .i64 id1, .int .i64 kn1, .int .u8 kd1, .string x1, .string y1, .int .i64 of1] 50)) u := hb; obtain ⟨qa, qb, _, _⟩ := HBX.out u hbu; have y0 := qa.cell 0 rfl; have y1' := qa.cell 1 rfl; have y2' := qa.cell 2 rfl; have y3' := qb.cell 0 rfl; clear hb qa qb))
      have HBU : Hid (∀ V, Below u.heap.size u V → Bk V wr.heap.size 50 #[.int .i64 id1, .int .i64 kn1, .int .u8 kd1, .string x1, .string y1, .int .i64 of1] ∧ Bk V w.heap.size 25 #[.slice (some ad) l.length c] ∧ V.ownsRow (w.heap.size + 1) 50 6 (.slice A1 fk.length c1) fk.length (rulesC fk) ∧ Below w.heap.size w V) := fun V hV => HBX.out V (hbu.trans (hV.mono hbu.size))
      have hbuu : Below u.heap.size u u := Below.refl _ _
      have HI0 := Lib.hid (HV0.out id1)
      have HIE := Lib.hid (HVE.out id1)
      clear HBX hbu y0 y1' y2' y3' hb1 d0 d1 d2 d3 d4 d5 z0 HF1
      generalize hwr : wr.heap.size = b1 at *
      go_loopw [9, 10] (fun z y wr => ∃ k : Nat, k ≤ l.length ∧ z = .bool (voidB (l.take k) known id1) ∧ y = .int .i64 k ∧ Below u.heap.size u wr) (fun _ y _ => l.length - (intOf y).toNat)
      case atStart => exact ⟨0, by omega, by rw [HI0.out], rfl, hbuu⟩
      case round =>
        obtain ⟨k, hk2, rfl, rfl, hbv⟩ := hrel
        obtain ⟨q1, q2, _, q4⟩ := HBU.out wr hbv
        have z0 := q2.cell 0 rfl
        have e0 := q1.cell 0 rfl
        by_cases hlt2 : k < l.length
        · obtain ⟨ad2, e2, _, d0, d1, d2, d3, d4, d5⟩ := rule_at (HLW.out wr q4) hlt2
          cases e2
          have HF2 := Lib.hid (HF.out _ (List.getElem_mem hlt2))
          have HVT := Lib.hid (void_take l known k hlt2 id1)
          generalize l[k] = r at *
          obtain ⟨id2, kn2, kd2, x2, y2, of2⟩ := r
          have HVT : Hid (voidB (l.take (k + 1)) known id1 = (voidB (l.take k) known id1 || (frm ⟨id2, kn2, kd2, x2, y2, of2⟩ && decide (kn2 ≤ known) && decide (kd2 = 6)) && decide (of2 = id1))) := HVT.out
          dsimp only at *
          have hb2 : Below wr.heap.size wr (wr.alloc (.cells #[.int .i64 id2, .int .i64 kn2, .int .u8 kd2, .string x2, .string y2, .int .i64 of2] 50)) := (Below.refl _ _).alloc (Nat.le_refl _) _
          have HBY : Hid (∀ V, Below (wr.alloc (.cells #[.int .i64 id2, .int .i64 kn2, .int .u8 kd2, .string x2, .string y2, .int .i64 of2] 50)).heap.size (wr.alloc (.cells #[.int .i64 id2, .int .i64 kn2, .int .u8 kd2, .string x2, .string y2, .int .i64 of2] 50)) V → Bk V wr.heap.size 50 #[.int .i64 id2, .int .i64 kn2, .int .u8 kd2, .string x2, .string y2, .int .i64 of2] ∧ Bk V b1 50 #[.int .i64 id1, .int .i64 kn1, .int .u8 kd1, .string x1, .string y1, .int .i64 of1] ∧ Below u.heap.size u V) := fun V hV => by
            have h1 : Bk (wr.alloc (.cells #[.int .i64 id2, .int .i64 kn2, .int .u8 kd2, .string x2, .string y2, .int .i64 of2] 50)) wr.heap.size 50 #[.int .i64 id2, .int .i64 kn2, .int .u8 kd2, .string x2, .string y2, .int .i64 of2] := Bk.new _ _ _
            have h2 : Below wr.heap.size wr V := hb2.trans (hV.mono hb2.size)
            have h3 : Below u.heap.size u V := hbv.trans (h2.mono hbv.size)
            exact ⟨h1.below hV h1.lt, (HBU.out V h3).1, h3⟩
          clear q1 q2 q4
          cases hB : voidB (l.take k) known id1
          · rw [hB] at HVT
            cases hf2 : frm ⟨id2, kn2, kd2, x2, y2, of2⟩
            · rw [hf2] at HF2 HVT
              have HN : Hid (voidB (l.take (k + 1)) known id1 = false) := by show _ = _; rw [HVT.out]; rfl
              clear hf2 hB HVT
              clear HVD HSK HPT HSN HF HLW HBU
              go_wp2_with (first | (go_at_call 85; refine (HF2.out _).mono ?_; rintro e u2 ⟨rfl, hb⟩; have hbu2 : Below (wr.alloc (.cells #[.int .i64 id2, .int .i64 kn2, .int .u8 kd2, .string x2, .string y2, .int .i64 of2] 50)).heap.size (wr.alloc (.cells #[.int .i64 id2, .int .i64 kn2, .int .u8 kd2, .string x2, .string y2, .int .i64 of2] 50)) u2 := hb; obtain ⟨qa, qb, qc⟩ := HBY.out u2 hbu2; have s1 := qa.cell 1 rfl; have s2 := qa.cell 2 rfl; have s5 := qa.cell 5 rfl; have s0 := qb.cell 0 rfl; clear hb qa qb))
              go_roundw
              case rel => exact ⟨k + 1, by omega, by rw [HN.out], by go_num, qc⟩
              case measure => simp [intOf]; omega
            rw [hf2] at HF2 HVT
            by_cases g6 : kd2 = 6
            case neg =>
              have g61 : (kd2 == 6) = false := by rw [beq_eq_false_iff_ne]; exact g6
              have HN : Hid (voidB (l.take (k + 1)) known id1 = false) := by show _ = _; rw [HVT.out]; simp [g6]
              clear hf2 hB HVT
              clear HVD HSK HPT HSN HF HLW HBU
              go_wp2_with (first | (go_at_call 85; refine (HF2.out _).mono ?_; rintro e u2 ⟨rfl, hb⟩; have hbu2 : Below (wr.alloc (.cells #[.int .i64 id2, .int .i64 kn2, .int .u8 kd2, .string x2, .string y2, .int .i64 of2] 50)).heap.size (wr.alloc (.cells #[.int .i64 id2, .int .i64 kn2, .int .u8 kd2, .string x2, .string y2, .int .i64 of2] 50)) u2 := hb; obtain ⟨qa, qb, qc⟩ := HBY.out u2 hbu2; have s1 := qa.cell 1 rfl; have s2 := qa.cell 2 rfl; have s5 := qa.cell 5 rfl; have s0 := qb.cell 0 rfl; clear hb qa qb))
              go_roundw
              case rel => exact ⟨k + 1, by omega, by rw [HN.out], by go_num, qc⟩
              case measure => simp [intOf]; omega
            have g61 : (kd2 == 6) = true := by rw [beq_iff_eq]; exact g6
            by_cases gk : kn2 ≤ known
            case neg =>
              have HN : Hid (voidB (l.take (k + 1)) known id1 = false) := by show _ = _; rw [HVT.out]; simp [gk]
              clear hf2 hB HVT g6
              clear HVD HSK HPT HSN HF HLW HBU
              go_wp2_with (first | (go_at_call 85; refine (HF2.out _).mono ?_; rintro e u2 ⟨rfl, hb⟩; have hbu2 : Below (wr.alloc (.cells #[.int .i64 id2, .int .i64 kn2, .int .u8 kd2, .string x2, .string y2, .int .i64 of2] 50)).heap.size (wr.alloc (.cells #[.int .i64 id2, .int .i64 kn2, .int .u8 kd2, .string x2, .string y2, .int .i64 of2] 50)) u2 := hb; obtain ⟨qa, qb, qc⟩ := HBY.out u2 hbu2; have s1 := qa.cell 1 rfl; have s2 := qa.cell 2 rfl; have s5 := qa.cell 5 rfl; have s0 := qb.cell 0 rfl; clear hb qa qb))
              go_roundw
              case rel => exact ⟨k + 1, by omega, by rw [HN.out], by go_num, qc⟩
              case measure => simp [intOf]; omega
            by_cases go : of2 = id1
            case neg =>
              have go1 : (of2 == id1) = false := by rw [beq_eq_false_iff_ne]; exact go
              have HN : Hid (voidB (l.take (k + 1)) known id1 = false) := by show _ = _; rw [HVT.out]; simp [go]
              clear hf2 hB HVT go g6
              clear HVD HSK HPT HSN HF HLW HBU
              go_wp2_with (first | (go_at_call 85; refine (HF2.out _).mono ?_; rintro e u2 ⟨rfl, hb⟩; have hbu2 : Below (wr.alloc (.cells #[.int .i64 id2, .int .i64 kn2, .int .u8 kd2, .string x2, .string y2, .int .i64 of2] 50)).heap.size (wr.alloc (.cells #[.int .i64 id2, .int .i64 kn2, .int .u8 kd2, .string x2, .string y2, .int .i64 of2] 50)) u2 := hb; obtain ⟨qa, qb, qc⟩ := HBY.out u2 hbu2; have s1 := qa.cell 1 rfl; have s2 := qa.cell 2 rfl; have s5 := qa.cell 5 rfl; have s0 := qb.cell 0 rfl; clear hb qa qb))
              go_roundw
              case rel => exact ⟨k + 1, by omega, by rw [HN.out], by go_num, qc⟩
              case measure => simp [intOf]; omega
            have go1 : (of2 == id1) = true := by rw [beq_iff_eq]; exact go
            have HN : Hid (voidB (l.take (k + 1)) known id1 = true) := by show _ = _; rw [HVT.out]; simp [gk, g6, go]
            clear hf2 hB HVT go g6
            clear HVD HSK HPT HSN HF HLW HBU
            go_wp2_with (first | (go_at_call 85; refine (HF2.out _).mono ?_; rintro e u2 ⟨rfl, hb⟩; have hbu2 : Below (wr.alloc (.cells #[.int .i64 id2, .int .i64 kn2, .int .u8 kd2, .string x2, .string y2, .int .i64 of2] 50)).heap.size (wr.alloc (.cells #[.int .i64 id2, .int .i64 kn2, .int .u8 kd2, .string x2, .string y2, .int .i64 of2] 50)) u2 := hb; obtain ⟨qa, qb, qc⟩ := HBY.out u2 hbu2; have s1 := qa.cell 1 rfl; have s2 := qa.cell 2 rfl; have s5 := qa.cell 5 rfl; have s0 := qb.cell 0 rfl; clear hb qa qb))
            go_roundw
            case rel => exact ⟨k + 1, by omega, by rw [HN.out], by go_num, qc⟩
            case measure => simp [intOf]; omega
          · rw [hB] at HVT
            have HN : Hid (voidB (l.take (k + 1)) known id1 = true) := by show _ = _; rw [HVT.out]; rfl
            clear hB HVT
            generalize frm ⟨id2, kn2, kd2, x2, y2, of2⟩ = F2 at *
            clear HVD HSK HPT HSN HF HLW HBU
            go_wp2_with (first | (go_at_call 85; refine (HF2.out _).mono ?_; rintro e u2 ⟨rfl, hb⟩; have hbu2 : Below (wr.alloc (.cells #[.int .i64 id2, .int .i64 kn2, .int .u8 kd2, .string x2, .string y2, .int .i64 of2] 50)).heap.size (wr.alloc (.cells #[.int .i64 id2, .int .i64 kn2, .int .u8 kd2, .string x2, .string y2, .int .i64 of2] 50)) u2 := hb; obtain ⟨qa, qb, qc⟩ := HBY.out u2 hbu2; have s1 := qa.cell 1 rfl; have s2 := qa.cell 2 rfl; have s5 := qa.cell 5 rfl; have s0 := qb.cell 0 rfl; clear hb qa qb))
            go_roundw
            case rel => exact ⟨k + 1, by omega, by rw [HN.out], by go_num, qc⟩
            case measure => simp [intOf]; omega
        · obtain rfl : k = l.length := by omega
          rw [HIE.out]
          cases hvv : voidB l known id1
          · rw [hvv] at HVD
            have HS2 := Lib.hid (HPT.out (by rw [HVD.out]; simp [hkn, h6]))
            obtain ⟨_, q2, q3, q4⟩ := HBU.out wr hbv
            have hQ3 := Lib.hid q3
            have hQ2 := Lib.hid q2
            have f1 := q1.cell 1 rfl
            have f2 := q1.cell 2 rfl
            have f3 := q1.cell 3 rfl
            have f4 := q1.cell 4 rfl
            have f5 := q1.cell 5 rfl
            have hQS := q4.size
            have hq2l := q2.lt
            clear hvv hfr HSK HPT HVD HBU HI0 HIE h6 q2 q3 HF
            go_wp2_with (at_builtin; refine wpList_append1h (P := Tryz.prog) rfl (.tmp 78) (.tmp 80) 23 rfl (w.heap.size + 1) 50 zeroRul 6 64 Tryz.underlying23 info50 (by decide) (by decide) (.slice A1 fk.length c1) fk.length (rulesC fk) rfl (hQ3.out.alloc _) wr.heap.size #[.int .i64 id1, .int .i64 kn1, .int .u8 kd1, .string x1, .string y1, .int .i64 of1] 50 rfl (Bk.new _ _ _) rfl ?c1 ?c2 (by decide) ?c3 ?_)
            case c1 => exact ⟨rfl, rfl, rfl, rfl, rfl, rfl⟩
            case c2 => omega
            case c3 => first | omega | (simp; omega)
            intro v' w4 ho4 _ hb4
            replace ho4 : w4.ownsRow (w.heap.size + 1) 50 6 v' (fk.length + 1) (rulesC (fk ++ [⟨id1, kn1, kd1, x1, y1, of1⟩])) := by rw [← HSN.out]; exact ho4
            obtain ⟨A4, c4, rfl, _, _⟩ := ownsSlice ho4
            have hll : (fk ++ [(⟨id1, kn1, kd1, x1, y1, of1⟩ : Rul)]).length = fk.length + 1 := by simp
            have hk4 := Lib.hid ((hQ2.out.alloc (.cells #[.int .i64 id1, .int .i64 kn1, .int .u8 kd1, .string x1, .string y1, .int .i64 of1] 50)).below hb4 (Nat.lt_succ_self _))
            have hbw4 : Below w.heap.size w w4 := (q4.alloc hQS _).trans (hb4.mono (by omega))
            have ho5 := Lib.hid ho4
            clear ho4 hb4 f1 f2 f3 f4 f5 e0 z0 q1
            go_wp2
            go_roundw
            case rel => exact ⟨i + 1, A4, c4, by omega, by rw [HS2.out, hll], by go_num, by rw [HS2.out, hll]; exact ho5, hk4, hbw4⟩
            case measure => simp [intOf]; omega
          · rw [hvv] at HVD
            have HS2 := Lib.hid (HSK.out (by rw [HVD.out]; simp))
            obtain ⟨_, q2, q3, q4⟩ := HBU.out wr hbv
            have hQ3 := Lib.hid q3
            have hQ2 := Lib.hid q2
            clear hvv hfr HSK HPT HVD HSN HBU HI0 HIE h6 q2 q3 q1
            go_wp2
            go_roundw
            case rel => exact ⟨i + 1, A1, c1, by omega, by rw [HS2.out], by go_num, by rw [HS2.out]; exact hQ3, hQ2, q4⟩
            case measure => simp [intOf]; omega
    · obtain rfl : i = l.length := by omega
      rw [HEN.out] at ho ⊢
      have hcap := ownsSlice ho.out
      have hLI := Lib.hid (ownsRow_lies ho.out)
      clear ho HEN HF HLW hk HV0 HVE
      go_wp2
      go_ret
      obtain ⟨A2, c2, e2, h1, h2⟩ := hcap
      cases e2
      exact ⟨A1, c1, rfl, hLI.out, ⟨h1, h2⟩, hbw⟩
end Go.Proofs.YtkfeagokmcakgaaGreatDoor

namespace Go.Proofs.YtkfeagokmcakgaaGreatDoor
open Go.RowKit

def aboB (r : Rul) (kind : Int) (g : List ByteArray) : Bool := decide (r.kind = kind) && decide (r.x ∈ g)
set_option maxHeartbeats 400000 in
set_option maxRecDepth 100000 in
theorem rabout_any (r : Rul) (kind : Int) (g : List ByteArray) (A : Option Addr) (c : Nat) (w : World) (hg : Lies w w.heap.size A (strsC g)) (hn : g.length ≤ 1001) :
    Calls Tryz.prog 96 #[r.agg, .int .u8 kind, .slice A g.length c] w (ShEnd (aboB r kind g) w) := by
  obtain ⟨id, kn, kd, x, y, of⟩ := r
  have hb0 : Below w.heap.size w (w.alloc (.cells #[.int .i64 id, .int .i64 kn, .int .u8 kd, .string x, .string y, .int .i64 of] 50)) := (Below.refl _ _).alloc (Nat.le_refl _) _
  have HH := Lib.hid (rhas_any g A c x (w.alloc (.cells #[.int .i64 id, .int .i64 kn, .int .u8 kd, .string x, .string y, .int .i64 of] 50)) (lies_on hg hb0) (by unfold maxLen; omega))
  have HD : Hid (aboB ⟨id, kn, kd, x, y, of⟩ kind g = (decide (kd = kind) && decide (x ∈ g))) := rfl
  have HB := Lib.hid hb0
  show Calls Tryz.prog 96 #[.agg #[.int .i64 id, .int .i64 kn, .int .u8 kd, .string x, .string y, .int .i64 of], .int .u8 kind, .slice A g.length c] w _
  generalize decide (x ∈ g) = B at *
  generalize aboB ⟨id, kn, kd, x, y, of⟩ kind g = R at *
  clear hg hb0
  by_cases hk : kd = kind
  · have hk1 : (kd == kind) = true := by rw [beq_iff_eq]; exact hk
    have HR : Hid (R = B) := by show _ = _; rw [HD.out, decide_eq_true hk]; rfl
    clear HD hk
    go_enter Tryz.func96, Tryz.ntmps96
    go_wp2_with (first | (go_at_call 77; refine HH.out.mono ?_; rintro e u ⟨rfl, hb⟩))
    go_ret
    exact sh_ret HR.out.symm (HB.out.trans (hb.mono HB.out.size))
  · have hk1 : (kd == kind) = false := by rw [beq_eq_false_iff_ne]; exact hk
    have HR : Hid (R = false) := by show _ = _; rw [HD.out, decide_eq_false hk]; rfl
    clear HD hk HH
    go_enter Tryz.func96, Tryz.ntmps96
    go_wp2
    go_ret
    exact sh_ret HR.out.symm HB.out
def fstB (l : List Rul) (kind : Int) (g : List ByteArray) : Bool := l.any fun r => aboB r kind g
theorem fstB_take {l : List Rul} {k : Nat} (hk : k < l.length) (kind : Int) (g : List ByteArray) : fstB (l.take (k + 1)) kind g = (fstB (l.take k) kind g || aboB l[k] kind g) := by
  unfold fstB
  rw [← List.take_append_getElem hk, List.any_append]; simp
theorem abt_any (l : List Rul) (x : ByteArray) (q : Rul → Bool) (kind : Int) (hk : kind = 1 ∨ kind = 2) (hq : ∀ r, ((decide (r.kind = 1) || decide (r.kind = 2)) && q r) = decide (r.kind = kind)) : (abtL l x).any q = fstB l kind (grps l x) := by
  unfold abtL fstB
  rw [List.any_filter]
  congr 1
  funext r
  unfold abtB aboB inG
  have := hq r
  rw [← this]
  cases (decide (r.kind = 1) || decide (r.kind = 2)) <;> cases q r <;> cases decide (r.x ∈ grps l x) <;> rfl
theorem stt_ref (l : List Rul) (x : ByteArray) : stt l x = (if fstB l 1 (grps l x) = true then 1 else 0) + (if fstB l 2 (grps l x) = true then 2 else 0) := by
  unfold stt sttA
  rw [abt_any l x (fun r => decide (r.kind = 1)) 1 (.inl rfl) (fun r => by by_cases h : r.kind = 1 <;> simp [h]),
    abt_any l x (fun r => !decide (r.kind = 1)) 2 (.inr rfl) (fun r => by by_cases h : r.kind = 1 <;> by_cases h2 : r.kind = 2 <;> simp [h, h2] <;> omega)]
/-- what about says of a rule, from a world on -/
structure AboK (W : World) (r : Rul) (kind : Int) (A : Option Addr) (n c : Nat) (b : Bool) : Prop where
  run : ∀ V, Below W.heap.size W V → Calls Tryz.prog 96 #[.agg #[.int .i64 r.id, .int .i64 r.known, .int .u8 r.kind, .string r.x, .string r.y, .int .i64 r.of], .int .u8 kind, .slice A n c] V (ShEnd b V)
theorem AboK.go {W V : World} {id kn kd kind of : Int} {x y : ByteArray} {A : Option Addr} {n c : Nat} {b : Bool} (h : AboK W ⟨id, kn, kd, x, y, of⟩ kind A n c b) (hb : Below W.heap.size W V) :
    Calls Tryz.prog 96 #[.agg #[.int .i64 id, .int .i64 kn, .int .u8 kd, .string x, .string y, .int .i64 of], .int .u8 kind, .slice A n c] V (ShEnd b V) := h.run V hb
set_option maxHeartbeats 1000000 in
set_option maxRecDepth 100000 in
theorem rstate_any (l : List Rul) (A : Option Addr) (c : Nat) (x : ByteArray) (w : World) (hl : Lies w w.heap.size A (rulesC l)) (hm : l.length ≤ 1000) :
    Calls Tryz.prog 92 #[.slice A l.length c, .string x] w (U8End (stt l x) w) := by
  have HG := Lib.hid (rgroups_any l A c x w hl hm)
  have HST := Lib.hid (stt_ref l x)
  have hgl := grps_len l x
  generalize grps l x = G at *
  generalize stt l x = R at *
  have HLW : Hid (∀ V, Below w.heap.size w V → Lies V V.heap.size A (rulesC l)) := fun V hV => lies_on hl hV
  have HT0 : Hid (fstB (l.take 0) 1 G = false ∧ fstB (l.take 0) 2 G = false) := ⟨rfl, rfl⟩
  have HTE : Hid (l.take l.length = l) := by show _ = _; exact List.take_length
  clear hl
  go_enter Tryz.func92, Tryz.ntmps92
  go_upto_region 5 with (first | (go_at_call 76; refine HG.out.mono ?_; rintro e w1 ⟨A1, c1, rfl, hl1, _, hb1⟩))
  have HL1 := Lib.hid hl1
  have hB1 : Below w1.heap.size w1 w1 := Below.refl _ _
  clear hl1 HG
  go_loopw [6, 7, 8] (fun p q y wr => ∃ k : Nat, k ≤ l.length ∧ p = .bool (fstB (l.take k) 1 G) ∧ q = .bool (fstB (l.take k) 2 G) ∧ y = .int .i64 k ∧ Below w1.heap.size w1 wr) (fun _ _ y _ => l.length - (intOf y).toNat)
  case atStart => exact ⟨0, by omega, by rw [HT0.out.1], by rw [HT0.out.2], rfl, hB1⟩
  case round =>
    obtain ⟨k, hk, rfl, rfl, rfl, hbw⟩ := hrel
    clear HT0 hB1
    by_cases hlt : k < l.length
    · obtain ⟨ad, rfl, _, d0, d1, d2, d3, d4, d5⟩ := rule_at (HLW.out wr (hb1.trans (hbw.mono hb1.size))) hlt
      have HD : Hid (∀ V, Below w1.heap.size w1 V → V.cell? (ad.add (k * 6)) = some (.int .i64 l[k].id) ∧ V.cell? ⟨(ad.add (k * 6)).block, (ad.add (k * 6)).off + 1, none⟩ = some (.int .i64 l[k].known) ∧ V.cell? ⟨(ad.add (k * 6)).block, (ad.add (k * 6)).off + 2, none⟩ = some (.int .u8 l[k].kind) ∧ V.cell? ⟨(ad.add (k * 6)).block, (ad.add (k * 6)).off + 3, none⟩ = some (.string l[k].x) ∧ V.cell? ⟨(ad.add (k * 6)).block, (ad.add (k * 6)).off + 4, none⟩ = some (.string l[k].y) ∧ V.cell? ⟨(ad.add (k * 6)).block, (ad.add (k * 6)).off + 5, none⟩ = some (.int .i64 l[k].of)) := fun V hV => by
        obtain ⟨ad2, e2, _, e0, e1, e3, e4, e5, e6⟩ := rule_at (HLW.out V (hb1.trans (hV.mono hb1.size))) hlt
        cases e2
        exact ⟨e0, e1, e3, e4, e5, e6⟩
      have k1 : AboK w1 l[k] 1 A1 G.length c1 (aboB l[k] 1 G) := ⟨fun V hV => rabout_any l[k] 1 G A1 c1 V (lies_on HL1.out hV) (by omega)⟩
      have k2 : AboK w1 l[k] 2 A1 G.length c1 (aboB l[k] 2 G) := ⟨fun V hV => rabout_any l[k] 2 G A1 c1 V (lies_on HL1.out hV) (by omega)⟩
      have H1 := Lib.hid (fstB_take hlt 1 G)
      have H2 := Lib.hid (fstB_take hlt 2 G)
      generalize aboB l[k] 1 G = a1 at *
      generalize aboB l[k] 2 G = a2 at *
      generalize fstB (l.take k) 1 G = p at *
      generalize fstB (l.take k) 2 G = q at *
      generalize l[k] = r at *
      obtain ⟨id, kn, kd, rx, ry, of⟩ := r
      dsimp only at *
      have HP : Hid ((p || a1) = fstB (l.take (k + 1)) 1 G) := H1.out.symm
      have HQ : Hid ((q || a2) = fstB (l.take (k + 1)) 2 G) := H2.out.symm
      clear H1 H2 HTE
      cases p
      · cases q
        · go_wp2_with (first | (go_at_call 96; refine (AboK.go (by assumption) (by assumption)).mono ?_; rintro e u ⟨rfl, hb⟩; have hbu : Below w1.heap.size w1 u := Below.trans (by assumption) (hb.mono (Below.size (by assumption))); obtain ⟨s0, s1, s2, s3, s4, s5⟩ := HD.out u hbu; clear hb))
          go_roundw
          case rel => exact ⟨k + 1, by omega, by rw [← HP.out]; simp, by rw [← HQ.out]; simp, by go_num, hbu⟩
          case measure => simp [intOf]; omega
        · go_wp2_with (first | (go_at_call 96; refine (AboK.go (by assumption) (by assumption)).mono ?_; rintro e u ⟨rfl, hb⟩; have hbu : Below w1.heap.size w1 u := Below.trans (by assumption) (hb.mono (Below.size (by assumption))); obtain ⟨s0, s1, s2, s3, s4, s5⟩ := HD.out u hbu; clear hb))
          go_roundw
          case rel => exact ⟨k + 1, by omega, by rw [← HP.out]; simp, by rw [← HQ.out]; simp, by go_num, hbu⟩
          case measure => simp [intOf]; omega
      · cases q
        · go_wp2_with (first | (go_at_call 96; refine (AboK.go (by assumption) (by assumption)).mono ?_; rintro e u ⟨rfl, hb⟩; have hbu : Below w1.heap.size w1 u := Below.trans (by assumption) (hb.mono (Below.size (by assumption))); obtain ⟨s0, s1, s2, s3, s4, s5⟩ := HD.out u hbu; clear hb))
          go_roundw
          case rel => exact ⟨k + 1, by omega, by rw [← HP.out]; simp, by rw [← HQ.out]; simp, by go_num, hbu⟩
          case measure => simp [intOf]; omega
        · go_wp2_with (first | (go_at_call 96; refine (AboK.go (by assumption) (by assumption)).mono ?_; rintro e u ⟨rfl, hb⟩; have hbu : Below w1.heap.size w1 u := Below.trans (by assumption) (hb.mono (Below.size (by assumption))); obtain ⟨s0, s1, s2, s3, s4, s5⟩ := HD.out u hbu; clear hb))
          go_roundw
          case rel => exact ⟨k + 1, by omega, by rw [← HP.out]; simp, by rw [← HQ.out]; simp, by go_num, hbu⟩
          case measure => simp [intOf]; omega
    · obtain rfl : k = l.length := by omega
      rw [HTE.out]
      have HB : Hid (Below w.heap.size w wr) := hb1.trans (hbw.mono hb1.size)
      clear HL1 HLW
      cases hp : fstB l 1 G <;> cases hq : fstB l 2 G
      all_goals (rw [hp, hq] at HST; clear hp hq; go_wp2; go_ret; exact ⟨by rw [HST.out]; rfl, HB.out⟩)
set_option maxHeartbeats 1000000 in
theorem rState_any (l : List Rul) (A : Option Addr) (c : Nat) (known : Int) (x : ByteArray) (w : World) (hl : Lies w w.heap.size A (rulesC l)) (hok : RulOK l) (hm : l.length ≤ 1000) :
    Calls Tryz.prog 43 #[.agg #[.slice A l.length c], .int .i64 known, .string x] w (U8End (stt (cntL l known) x) w) := by
  have HC : Hid (∀ W, Below w.heap.size w W → Calls Tryz.prog 39 #[.agg #[.slice A l.length c], .int .i64 known] W (SlE (cntL l known) W)) := fun W hb => rcounting_any l A c known W ((hl.below hb (Nat.le_refl _)).more hb.size) hok hm
  have HS := Lib.hid (fun A' c' W hL => rstate_any (cntL l known) A' c' x W hL (Nat.le_trans (cnt_len l known) hm))
  clear hl hok
  go_enter Tryz.func43, Tryz.ntmps43
  go_wp2_with (first | (go_at_call 39; refine (HC.out _ (by repeat (first | with_reducible exact Below.refl _ _ | with_reducible assumption | with_reducible refine Below.drew ?_ | with_reducible refine below_drewN ?_ _ | (with_reducible refine Below.alloc ?_ ?_ _; rotate_left; (try simp) <;> omega) | (with_reducible refine Below.setCell ?_ ?_ _; rotate_left; (try simp) <;> omega)))).mono ?_; rintro e w1 ⟨A1, c1, rfl, hl1, _, hb1⟩; have hB1 : Below w.heap.size w w1 := Below.trans (by repeat (first | with_reducible exact Below.refl _ _ | with_reducible assumption | with_reducible refine Below.drew ?_ | with_reducible refine below_drewN ?_ _ | (with_reducible refine Below.alloc ?_ ?_ _; rotate_left; (try simp) <;> omega) | (with_reducible refine Below.setCell ?_ ?_ _; rotate_left; (try simp) <;> omega))) (hb1.mono (by simp))) | (go_at_call 92; refine (HS.out _ _ _ hl1).mono ?_; rintro e w2 ⟨rfl, hb2⟩))
  go_ret
  exact ⟨rfl, hB1.trans (hb2.mono hB1.size)⟩
end Go.Proofs.YtkfeagokmcakgaaGreatDoor

namespace Go.Proofs.YtkfeagokmcakgaaGreatDoor
open Go.RowKit

theorem any_mem (m : List ByteArray) (s : ByteArray) : (m.any fun x => decide (s = x)) = decide (s ∈ m) := by
  rw [Bool.eq_iff_iff, List.any_eq_true, decide_eq_true_iff]
  constructor
  · rintro ⟨x, hx, h⟩
    rw [of_decide_eq_true h]; exact hx
  · intro h
    exact ⟨s, h, decide_eq_true rfl⟩
set_option maxHeartbeats 1000000 in
set_option maxRecDepth 100000 in
theorem rtwice_any (l : List ByteArray) (A : Option Addr) (c : Nat) (w : World) (hl : Lies w w.heap.size A (strsC l)) (hm : l.length ≤ 1000) (hc : l.length ≤ c) (hc2 : c ≤ maxLen) :
    Calls Tryz.prog 98 #[.slice A l.length c] w (ShEnd (twiceB l) w) := by
  unfold maxLen at hc2
  have HLW : Hid (∀ V, Below w.heap.size w V → Lies V V.heap.size A (strsC l)) := fun V hV => lies_on hl hV
  clear hl
  go_enter Tryz.func98, Tryz.ntmps98
  go_wp2
  go_loopw [3] (fun y wr => ∃ k : Nat, k ≤ l.length ∧ y = .int .i64 k ∧ Hid (∀ j (hj : j < k) (h' : j < l.length), (l.take j).any (fun x => decide (l[j] = x)) = false) ∧ Below w.heap.size w wr) (fun y _ => l.length - (intOf y).toNat)
  case atStart => exact ⟨0, by omega, rfl, fun j hj => absurd hj (by omega), Below.refl _ _⟩
  case round =>
    obtain ⟨k, hk, rfl, hg, hbw⟩ := hrel
    by_cases hlt : k < l.length
    · obtain ⟨ad, rfl, _, z0⟩ := str_at (HLW.out wr hbw) hlt
      have HZ : Hid (∀ V, Below w.heap.size w V → V.cell? (ad.add k) = some (.string l[k])) := fun V hV => by
        obtain ⟨a2, e2, _, h2⟩ := str_at (HLW.out V hV) hlt
        cases e2
        exact h2
      have HC : Hid (∀ V, Below w.heap.size w V → Calls Tryz.prog 77 #[.slice (some ad) k c, .string l[k]] V (ShEnd ((l.take k).any fun x => decide (l[k] = x)) V)) := fun V hV => by
        have h := rhas_any (l.take k) (some ad) c l[k] V (by have := (HLW.out V hV).take k; rwa [← show strsC (l.take k) = (strsC l).take k from List.map_take] at this) (by rw [List.length_take]; unfold maxLen; omega)
        rw [any_mem]; rwa [List.length_take, Nat.min_eq_left hk] at h
      have HY := Lib.hid (fun h => twiceB_yes hlt h)
      have HN : Hid ((l.take k).any (fun x => decide (l[k] = x)) = false → ∀ j (hj : j < k + 1) (h' : j < l.length), (l.take j).any (fun x => decide (l[j] = x)) = false) := fun h j hj h' => by
        by_cases e : j = k
        · subst e; exact h
        · exact hg.out j (by omega) h'
      have hkc : (k : Int) ≤ (c : Int) := by omega
      have hkl : (k : Int) < (l.length : Int) := by omega
      clear hg HLW
      generalize ((l.take k).any fun x => decide (l[k] = x)) = b at *
      generalize l[k] = s at *
      go_upto_region 4 with fail
      refine wp_region_held_drew (S := fun V => V.cell? (ad.add k) = some (.string s)) (by kernel_rfl) ?_ (fun hHeld => ?_)
      · exact HZ.out _ hbw.drew
      refine tk 0 10 ?_
      refine tk 1 11 ?_
      refine tk 2 12 ?_
      refine tk 3 13 ?_
      refine tk 4 14 ?_
      refine tk 5 15 ?_
      refine tk 6 16 ?_
      (refine held_call 7 (some 17) 77 _ rfl (by kernel_rfl) (by rfl) ?_ ((HC.out _ hbw.drew)) ?_; rotate_left; rotate_left; (simp only [List.getElem?_toArray, List.getElem?_cons_zero, List.getElem?_cons_succ, Option.map_some]; refine congrArg some ?_; go_simp))
      rintro e u ⟨rfl, hb⟩
      have hbu : Below w.heap.size w u := hbw.drew.trans (hb.mono hbw.drew.size)
      refine ⟨_, rfl, HZ.out _ hbu, fun hHeld => ?_⟩
      (try simp only [Act.put, List.setIfInBounds_toArray, List.set_cons_zero, List.set_cons_succ])
      refine wpAnyH_done (by kernel_rfl) ?_ _
      cases b
      · have H := Lib.hid (HN.out rfl)
        clear HY HN HC hHeld hb
        go_wp2
        go_roundw
        case rel => exact ⟨k + 1, by omega, by go_num, H, hbu⟩
        case measure => simp [intOf]; omega
      · have H := Lib.hid (HY.out rfl)
        clear HY HN HC hHeld hb
        go_wp2
        go_ret
        exact sh_ret H.out.symm hbu
    · obtain rfl : k = l.length := by omega
      have H : Hid (twiceB l = false) := twiceB_no (fun j hj => hg.out j hj hj)
      clear hg HLW
      go_wp2
      go_ret
      exact sh_ret H.out.symm hbw
end Go.Proofs.YtkfeagokmcakgaaGreatDoor

namespace Go.Proofs.YtkfeagokmcakgaaGreatDoor
open Go.RowKit

set_option maxRecDepth 100000 in
set_option maxHeartbeats 4000000 in
theorem rstrokes_any (l : List Rul) (A : Option Addr) (c : Nat) (known : Int) (col : List ByteArray) (Ac : Option Addr) (cc : Nat) (w : World) (hl : Lies w w.heap.size A (rulesC l)) (hok : RulOK l) (hm : l.length ≤ 1000) (hlc : Lies w w.heap.size Ac (strsC col)) (hcs : ∀ s ∈ col, s.size ≤ 100) (hcm : col.length ≤ 1000) (hcc : col.length ≤ cc ∧ cc ≤ maxLen) :
    Calls Tryz.prog 47 #[.agg #[.slice A l.length c], .int .i64 known, .slice Ac col.length cc] w (SkEnd (cntL l known) col w) := by
  have HW : Hid (Below w.heap.size w (w.alloc (.cells #[.slice A l.length c] 25))) := (Below.refl _ _).alloc (Nat.le_refl _) _
  have HK0 : Hid (Bk (w.alloc (.cells #[.slice A l.length c] 25)) w.heap.size 25 #[.slice A l.length c]) := Bk.new _ _ _
  have HWS : Hid ((w.alloc (.cells #[.slice A l.length c] 25)).heap.size = w.heap.size + 1) := by show _ = _; simp
  go_enter Tryz.func47, Tryz.ntmps47
  go_upto_region 1 with fail
  have hBW0 : Below (w.alloc (.cells #[.slice A l.length c] 25)).heap.size (w.alloc (.cells #[.slice A l.length c] 25)) (w.alloc (.cells #[.slice A l.length c] 25)) := Below.refl _ _
  have HY : Hid (∀ V, Below (w.alloc (.cells #[.slice A l.length c] 25)).heap.size (w.alloc (.cells #[.slice A l.length c] 25)) V → V.cell? ⟨w.heap.size, 0, none⟩ = some (.slice A l.length c)) := fun V hV => (HK0.out.below hV HK0.out.lt).cell 0 rfl
  have HLC : Hid (∀ V, Below (w.alloc (.cells #[.slice A l.length c] 25)).heap.size (w.alloc (.cells #[.slice A l.length c] 25)) V → Lies V V.heap.size Ac (strsC col)) := fun V hV => lies_on hlc (HW.out.trans (hV.mono (by have := HWS.out; omega)))
  have HSA : Hid (∀ V, Below (w.alloc (.cells #[.slice A l.length c] 25)).heap.size (w.alloc (.cells #[.slice A l.length c] 25)) V → ∀ s, Calls Tryz.prog 43 #[.agg #[.slice A l.length c], .int .i64 known, .string s] V (U8End (stt (cntL l known) s) V)) := fun V hV s => rState_any l A c known s V (lies_on hl (HW.out.trans (hV.mono (by have := HWS.out; omega)))) hok hm
  have HBW : Hid (∀ V, Below (w.alloc (.cells #[.slice A l.length c] 25)).heap.size (w.alloc (.cells #[.slice A l.length c] 25)) V → Below w.heap.size w V) := fun V hV => HW.out.trans (hV.mono (by have := HWS.out; omega))
  clear hl hlc HK0 HWS HW
  generalize (w.alloc (.cells #[.slice A l.length c] 25)) = W0 at *
  generalize hb0 : w.heap.size = b0 at *
  have HCS := Lib.hid hcs
  generalize cntL l known = d at *
  have HSE : Hid (skE d col = if 8 < col.length then 2 else if (col.any fun x => !nameB x) = true then 1 else if twiceB col = true then 6 else if stOK d col = true then 0 else 8) := rfl
  have HBAD : Hid (∀ (n : Int) V, skE d col = n → n ≠ 0 → Below W0.heap.size W0 V → SkEnd d col w (.returned (.tuple #[.slice none 0 0, .slice none 0 0, .int .i64 n])) V) := fun n V h1 h2 hV => sk_bad h1 h2 (by rw [hb0]; exact HBW.out V hV)
  have HB0 := Lib.hid hb0
  clear hok hm hcs hb0
  by_cases h8 : 8 < col.length
  · have HE := Lib.hid (HSE.out.trans (if_pos h8))
    have h8I : (8 : Int) < (col.length : Int) := by omega
    clear HSE h8 HSA HLC HY
    go_wp2
    refine bodyPost_ret (v := .tuple #[.slice none 0 0, .slice none 0 0, .int .i64 2]) (by simp [results, Tryz.results47, go_sem]) rfl ?_
    exact HBAD.out _ _ HE.out (by decide) hBW0
  have HS1 := Lib.hid (HSE.out.trans (if_neg h8))
  have h8I : ¬ (8 : Int) < (col.length : Int) := by omega
  have hc8 : col.length ≤ 8 := by omega
  clear HSE h8
  go_wp2
  go_loopw [9] (fun y wr => ∃ k : Nat, k ≤ col.length ∧ y = .int .i64 k ∧ Hid (∀ j (h : j < col.length), j < k → nameB col[j] = true) ∧ Below W0.heap.size W0 wr) (fun y _ => col.length - (intOf y).toNat)
  case atStart => exact ⟨0, by omega, rfl, (fun j _ h => absurd h (by omega)), hBW0⟩
  case round =>
    obtain ⟨k, hk, rfl, hg, hbw⟩ := hrel
    clear hBW0
    by_cases hlt : k < col.length
    · obtain ⟨ad, rfl, _, z0⟩ := str_at (HLC.out wr hbw) hlt
      have HNM := Lib.hid (rName_any col[k] wr (HCS.out _ (List.getElem_mem hlt)))
      cases hb : nameB col[k]
      · have HE : Hid (skE d col = 1) := by
          show _ = _
          rw [HS1.out, if_pos]
          exact List.any_eq_true.2 ⟨_, List.getElem_mem hlt, by rw [hb]; rfl⟩
        rw [hb] at HNM
        clear hb HSA HLC HY hg HCS HS1
        generalize col[k] = s at *
        go_wp2_with (first | (go_at_call 97; refine HNM.out.mono ?_; rintro e w' ⟨rfl, rfl⟩))
        refine bodyPost_ret (v := .tuple #[.slice none 0 0, .slice none 0 0, .int .i64 1]) (by simp [results, Tryz.results47, go_sem]) rfl ?_
        exact HBAD.out _ _ HE.out (by decide) hbw
      · have HG : Hid (∀ j (h : j < col.length), j < k + 1 → nameB col[j] = true) := fun j h hj => by
          by_cases e : j = k
          · subst e; exact hb
          · exact hg.out j h (by omega)
        rw [hb] at HNM
        clear hb HSA HLC HY hg HCS HS1
        generalize col[k] = s at *
        go_wp2_with (first | (go_at_call 97; refine HNM.out.mono ?_; rintro e w' ⟨rfl, rfl⟩))
        go_roundw
        case rel => exact ⟨k + 1, by omega, by go_num, HG, hbw⟩
        case measure => simp [intOf]; omega
    · obtain rfl : k = col.length := by omega
      have HS2 : Hid (skE d col = if twiceB col = true then 6 else if stOK d col = true then 0 else 8) := by
        show _ = _
        rw [HS1.out, if_neg]
        intro h
        obtain ⟨x, hx, hn⟩ := List.any_eq_true.1 h
        obtain ⟨j, hj, rfl⟩ := List.getElem_of_mem hx
        rw [hg.out j hj hj] at hn; cases hn
      have HTW := Lib.hid (rtwice_any col Ac cc wr (HLC.out wr hbw) hcm hcc.1 hcc.2)
      clear hg HS1
      by_cases h3 : twiceB col = true
      · have HE := Lib.hid (HS2.out.trans (if_pos h3))
        rw [h3] at HTW
        clear HS2 h3 HSA HLC HY HCS
        go_wp2_with (first | (go_at_call 98; refine HTW.out.mono ?_; rintro e w1 ⟨rfl, hb1⟩))
        refine bodyPost_ret (v := .tuple #[.slice none 0 0, .slice none 0 0, .int .i64 6]) (by simp [results, Tryz.results47, go_sem]) rfl ?_
        exact HBAD.out _ _ HE.out (by decide) (hbw.trans (hb1.mono hbw.size))
      have HS3 := Lib.hid (HS2.out.trans (if_neg h3))
      have h3' : twiceB col = false := by simpa using h3
      rw [h3'] at HTW
      clear HS2 h3 h3'
      go_upto_region 14 with (first | (go_at_call 98; refine HTW.out.mono ?_; rintro e w1 ⟨rfl, hb1⟩))
      have HB1 : Hid (∀ V, Below w1.heap.size w1 V → Below W0.heap.size W0 V) := fun V hV => (hbw.trans (hb1.mono hbw.size)).trans (hV.mono (Nat.le_trans hbw.size hb1.size))
      have hbw1 : Below w1.heap.size w1 w1 := Below.refl _ _
      have hBAD2 : Hid (∀ (n : Int) V, skE d col = n → n ≠ 0 → Below w1.heap.size w1 V → SkEnd d col w (.returned (.tuple #[.slice none 0 0, .slice none 0 0, .int .i64 n])) V) := fun n V h1 h2 hV => HBAD.out n V h1 h2 (HB1.out V hV)
      have HLC1 : Hid (∀ V, Below w1.heap.size w1 V → Lies V V.heap.size Ac (strsC col)) := fun V hV => HLC.out V (HB1.out V hV)
      have HSA1 : Hid (∀ V, Below w1.heap.size w1 V → ∀ s, Calls Tryz.prog 43 #[.agg #[.slice A l.length c], .int .i64 known, .string s] V (U8End (stt d s) V)) := fun V hV => HSA.out V (HB1.out V hV)
      have HY1 : Hid (∀ V, Below w1.heap.size w1 V → V.cell? ⟨b0, 0, none⟩ = some (.slice A l.length c)) := fun V hV => HY.out V (HB1.out V hV)
      have HBW1 : Hid (∀ V, Below w1.heap.size w1 V → Below b0 w V) := fun V hV => HBW.out V (HB1.out V hV)
      clear HB1 HBAD HLC HSA HY HBW HTW hbw hb1 HCS
      generalize l.length = n at *
      go_wp2
      go_loopw [12, 13, 14] (fun v6 v7 y wr => ∃ (k : Nat) (A1 : Option Addr) (c1 : Nat) (A2 : Option Addr) (c2 : Nat), k ≤ col.length ∧ v6 = .slice A1 ((col.take k).filter (isSt d 1)).length c1 ∧ v7 = .slice A2 ((col.take k).filter (isSt d 2)).length c2 ∧ y = .int .i64 k
        ∧ Hid (wr.ownsRow w1.heap.size 9 1 (.slice A1 ((col.take k).filter (isSt d 1)).length c1) ((col.take k).filter (isSt d 1)).length (strsC ((col.take k).filter (isSt d 1)))) ∧ Hid (wr.ownsRow w1.heap.size 9 1 (.slice A2 ((col.take k).filter (isSt d 2)).length c2) ((col.take k).filter (isSt d 2)).length (strsC ((col.take k).filter (isSt d 2))))
        ∧ Hid (Apart (.slice A1 ((col.take k).filter (isSt d 1)).length c1) (.slice A2 ((col.take k).filter (isSt d 2)).length c2)) ∧ Hid (∀ j (h : j < col.length), j < k → (isSt d 1 col[j] || isSt d 2 col[j]) = true) ∧ Below w1.heap.size w1 wr) (fun _ _ y _ => col.length - (intOf y).toNat)
      case atStart => exact ⟨0, none, 0, none, 0, by omega, rfl, rfl, rfl, World.ownsRow_nil _ _ _ _, World.ownsRow_nil _ _ _ _, (fun g h => by cases h), (fun j _ h => absurd h (by omega)), hbw1⟩
      case round =>
        obtain ⟨k, A1, c1, A2, c2, hk, rfl, rfl, rfl, ho1, ho2, hap, hgd, hbw⟩ := hrel
        clear hbw1
        have hbs := hbw.size
        by_cases hlt : k < col.length
        · obtain ⟨ad, rfl, _, z0⟩ := str_at (HLC1.out wr hbw) hlt
          have HZ : Hid (∀ V, Below w1.heap.size w1 V → V.cell? ⟨b0, 0, none⟩ = some (.slice A n c) ∧ V.cell? (ad.add k) = some (.string col[k])) := fun V hV => by
            obtain ⟨a2, e2, _, h2⟩ := str_at (HLC1.out V hV) hlt
            cases e2
            exact ⟨HY1.out V hV, h2⟩
          have HC1 := Lib.hid (HSA1.out wr.drew hbw.drew col[k])
          have hl1 := filtS_len col (isSt d 1) k
          have hl2 := filtS_len col (isSt d 2) k
          have HT1 := Lib.hid (fun h => filtS_take (p := isSt d 1) hlt h)
          have HT2 := Lib.hid (fun h => filtS_take (p := isSt d 2) hlt h)
          have HK1 := Lib.hid (fun h => filtS_skip (p := isSt d 1) hlt h)
          have HK2 := Lib.hid (fun h => filtS_skip (p := isSt d 2) hlt h)
          have HGS : Hid ((isSt d 1 col[k] || isSt d 2 col[k]) = true → ∀ j (h : j < col.length), j < k + 1 → (isSt d 1 col[j] || isSt d 2 col[j]) = true) := fun h j hj hjk => by
            by_cases e : j = k
            · subst e; exact h
            · exact hgd.out j hj (by omega)
          have HNO : Hid ((isSt d 1 col[k] || isSt d 2 col[k]) = false → skE d col = 8) := fun h => by
            rw [HS3.out, if_neg]
            intro ha
            have := (List.all_eq_true.1 ha) _ (List.getElem_mem hlt)
            rw [h] at this; cases this
          have e1 : isSt d 1 col[k] = decide (stt d col[k] = 1) := rfl
          have e2 : isSt d 2 col[k] = decide (stt d col[k] = 2) := rfl
          have hbd := sttA_bd (abtL d col[k])
          change stt d col[k] = 0 ∨ stt d col[k] = 1 ∨ stt d col[k] = 2 ∨ stt d col[k] = 3 at hbd
          have hkl : (k : Int) < (col.length : Int) := by omega
          clear hgd HLC1 HSA1 HY1 HS3 z0
          generalize col[k] = s at *
          generalize stt d s = st at *
          generalize (col.take k).filter (isSt d 1) = f1 at *
          generalize (col.take k).filter (isSt d 2) = f2 at *
          go_upto_region 17 with fail
          refine wp_region_held_drew (S := fun V => V.cell? ⟨b0, 0, none⟩ = some (.slice A n c) ∧ V.cell? (ad.add k) = some (.string s)) (by kernel_rfl) ?_ (fun hHeld => ?_)
          · exact HZ.out _ hbw.drew
          (refine held_take 0 (some 40) ?_ rfl (by kernel_rfl) (by kernel_rfl) (by kernel_rfl) (by rfl) (fun _ _ _ h => h) (by assumption) (fun w hSw => ?_) ?_; rotate_left; ((try dsimp only at hSw); simp only [List.getElem?_toArray, List.getElem?_cons_zero, List.getElem?_cons_succ, Option.map_some]; refine congrArg some ?_; go_simp; (try with_reducible rfl)); (try simp only [Act.put, List.setIfInBounds_toArray, List.set_cons_zero, List.set_cons_succ]))
          (refine held_take 1 (some 41) ?_ rfl (by kernel_rfl) (by kernel_rfl) (by kernel_rfl) (by rfl) (fun _ _ _ h => h) (by assumption) (fun w hSw => ?_) ?_; rotate_left; ((try dsimp only at hSw); simp only [List.getElem?_toArray, List.getElem?_cons_zero, List.getElem?_cons_succ, Option.map_some]; refine congrArg some ?_; go_simp; (try with_reducible rfl)); (try simp only [Act.put, List.setIfInBounds_toArray, List.set_cons_zero, List.set_cons_succ]))
          (refine held_take 2 (some 42) ?_ rfl (by kernel_rfl) (by kernel_rfl) (by kernel_rfl) (by rfl) (fun _ _ _ h => h) (by assumption) (fun w hSw => ?_) ?_; rotate_left; ((try dsimp only at hSw); simp only [List.getElem?_toArray, List.getElem?_cons_zero, List.getElem?_cons_succ, Option.map_some]; refine congrArg some ?_; go_simp; (try with_reducible rfl)); (try simp only [Act.put, List.setIfInBounds_toArray, List.set_cons_zero, List.set_cons_succ]))
          (refine held_take 3 (some 43) ?_ rfl (by kernel_rfl) (by kernel_rfl) (by kernel_rfl) (by rfl) (fun _ _ _ h => h) (by assumption) (fun w hSw => ?_) ?_; rotate_left; ((try dsimp only at hSw); simp only [List.getElem?_toArray, List.getElem?_cons_zero, List.getElem?_cons_succ, Option.map_some]; refine congrArg some ?_; go_simp; (try with_reducible rfl)); (try simp only [Act.put, List.setIfInBounds_toArray, List.set_cons_zero, List.set_cons_succ]))
          (refine held_take 4 (some 44) ?_ rfl (by kernel_rfl) (by kernel_rfl) (by kernel_rfl) (by rfl) (fun _ _ _ h => h) (by assumption) (fun w hSw => ?_) ?_; rotate_left; ((try dsimp only at hSw); simp only [List.getElem?_toArray, List.getElem?_cons_zero, List.getElem?_cons_succ, Option.map_some]; refine congrArg some ?_; go_simp; (try with_reducible rfl)); (try simp only [Act.put, List.setIfInBounds_toArray, List.set_cons_zero, List.set_cons_succ]))
          (refine held_take 5 (some 45) ?_ rfl (by kernel_rfl) (by kernel_rfl) (by kernel_rfl) (by rfl) (fun _ _ _ h => h) (by assumption) (fun w hSw => ?_) ?_; rotate_left; ((try dsimp only at hSw); simp only [List.getElem?_toArray, List.getElem?_cons_zero, List.getElem?_cons_succ, Option.map_some]; refine congrArg some ?_; go_simp; (try with_reducible rfl)); (try simp only [Act.put, List.setIfInBounds_toArray, List.set_cons_zero, List.set_cons_succ]))
          (refine held_call 6 (some 46) 43 _ rfl (by kernel_rfl) (by rfl) ?_ (HC1.out) ?_; rotate_left; rotate_left; (simp only [List.getElem?_toArray, List.getElem?_cons_zero, List.getElem?_cons_succ, Option.map_some]; refine congrArg some ?_; go_simp))
          rintro e w2 ⟨rfl, hb2⟩
          have hbw2 : Below w1.heap.size w1 w2 := hbw.drew.trans (hb2.mono hbw.drew.size)
          have o1 := Lib.hid (ownsRow_below (show wr.drew.ownsRow w1.heap.size 9 1 (.slice A1 f1.length c1) f1.length (strsC f1) from ho1.out) hb2 (Nat.le_refl _))
          have o2 := Lib.hid (ownsRow_below (show wr.drew.ownsRow w1.heap.size 9 1 (.slice A2 f2.length c2) f2.length (strsC f2) from ho2.out) hb2 (Nat.le_refl _))
          refine ⟨_, rfl, HZ.out _ hbw2, fun hHeld => ?_⟩
          (try simp only [Act.put, List.setIfInBounds_toArray, List.set_cons_zero, List.set_cons_succ])
          refine wpAnyH_done (by kernel_rfl) ?_ _
          obtain ⟨y0, y1⟩ := HZ.out _ hbw2
          clear HZ HC1 hHeld hb2 hbw ho1 ho2 hbs y0
          have hs2 := hbw2.size
          rcases hbd with rfl | rfl | rfl | rfl
          · have HE := Lib.hid (HNO.out (by rw [e1, e2]; rfl))
            clear HT1 HT2 HK1 HK2 HGS HNO e1 e2 o1 o2 hap
            go_wp2
            refine bodyPost_ret (v := .tuple #[.slice none 0 0, .slice none 0 0, .int .i64 8]) (by simp [results, Tryz.results47, go_sem]) rfl ?_
            exact hBAD2.out _ _ HE.out (by decide) hbw2
          · have HE1 := Lib.hid (HT1.out (by rw [e1]; rfl))
            have HE2 := Lib.hid (HK2.out (by rw [e2]; rfl))
            have HG2 := Lib.hid (HGS.out (by rw [e1, e2]; rfl))
            have HLN : Hid (f1.length + 1 = (f1 ++ [s]).length) := by show _ = _; simp
            have HSN := Lib.hid (strsC_snoc f1 s)
            clear HT1 HT2 HK1 HK2 HGS HNO e1 e2
            go_wp2_with (at_builtin; refine wpList_append2 rfl (.tmp 49) (.tmp 54) 34 rfl w1.heap.size 9 (.string ByteArray.empty) 1 16 Tryz.underlying34 info9 rfl (by decide) _ f1.length (strsC f1) rfl (o1.out.alloc _) w2.heap.size #[.string s] 9 rfl (Bk.new _ _ _) rfl ?c1 ?c2 (by decide) ?c3 w1.heap.size w1 ?c4 (Nat.le_refl _) ?_)
            case c1 => rfl
            case c2 => omega
            case c3 => first | omega | (simp; omega)
            case c4 => exact hbw2.alloc (by omega) _
            intro v' w4 ho4 hb4 hg4 hat4
            have o5 : w4.ownsRow w1.heap.size 9 1 (.slice A2 f2.length c2) f2.length (strsC f2) := (o2.out.alloc _).kept hg4 (by
              cases hv : (Value.slice A2 f2.length c2).ownBlock with
              | none => exact .inl rfl
              | some g => exact .inr (fun e => hap.out g e.symm hv))
            have hap4 : Hid (Apart v' (.slice A2 f2.length c2)) := fun g hg => (by
              rcases hat4 with h | h
              · exact hap.out g (h.symm.trans hg)
              · rw [h] at hg; cases hg; intro e; have := (o2.out.lt _ e).2; omega)
            rw [HSN.out] at ho4
            obtain ⟨A4, c4, rfl, _, _⟩ := ownsSlice ho4
            have HO4 := Lib.hid ho4
            have HO5 := Lib.hid o5
            clear o1 o2 hg4 hat4 hap ho4 o5 y1
            go_wp2
            go_roundw
            case rel => exact ⟨k + 1, A4, c4, A2, c2, by omega, by rw [HE1.out, HLN.out], by rw [HE2.out], by go_num, by rw [HE1.out, ← HLN.out]; exact HO4, by rw [HE2.out]; exact HO5, by rw [HE1.out, HE2.out, ← HLN.out]; exact hap4, HG2, hb4⟩
            case measure => simp [intOf]; omega
          · have HE1 := Lib.hid (HT2.out (by rw [e2]; rfl))
            have HE2 := Lib.hid (HK1.out (by rw [e1]; rfl))
            have HG2 := Lib.hid (HGS.out (by rw [e1, e2]; rfl))
            have HLN : Hid (f2.length + 1 = (f2 ++ [s]).length) := by show _ = _; simp
            have HSN := Lib.hid (strsC_snoc f2 s)
            clear HT1 HT2 HK1 HK2 HGS HNO e1 e2
            go_wp2_with (at_builtin; refine wpList_append2 rfl (.tmp 58) (.tmp 63) 34 rfl w1.heap.size 9 (.string ByteArray.empty) 1 16 Tryz.underlying34 info9 rfl (by decide) _ f2.length (strsC f2) rfl (o2.out.alloc _) w2.heap.size #[.string s] 9 rfl (Bk.new _ _ _) rfl ?c1 ?c2 (by decide) ?c3 w1.heap.size w1 ?c4 (Nat.le_refl _) ?_)
            case c1 => rfl
            case c2 => omega
            case c3 => first | omega | (simp; omega)
            case c4 => exact hbw2.alloc (by omega) _
            intro v' w4 ho4 hb4 hg4 hat4
            have o5 : w4.ownsRow w1.heap.size 9 1 (.slice A1 f1.length c1) f1.length (strsC f1) := (o1.out.alloc _).kept hg4 (by
              cases hv : (Value.slice A1 f1.length c1).ownBlock with
              | none => exact .inl rfl
              | some g => exact .inr (fun e => hap.out g hv e.symm))
            have hap4 : Hid (Apart (.slice A1 f1.length c1) v') := fun g hg => (by
              rcases hat4 with h | h
              · rw [h]; exact hap.out g hg
              · rw [h]; intro e; cases e; have := (o1.out.lt _ hg).2; omega)
            rw [HSN.out] at ho4
            obtain ⟨A4, c4, rfl, _, _⟩ := ownsSlice ho4
            have HO4 := Lib.hid ho4
            have HO5 := Lib.hid o5
            clear o1 o2 hg4 hat4 hap ho4 o5 y1
            go_wp2
            go_roundw
            case rel => exact ⟨k + 1, A1, c1, A4, c4, by omega, by rw [HE2.out], by rw [HE1.out, HLN.out], by go_num, by rw [HE2.out]; exact HO5, by rw [HE1.out, ← HLN.out]; exact HO4, by rw [HE1.out, HE2.out, ← HLN.out]; exact hap4, HG2, hb4⟩
            case measure => simp [intOf]; omega
          · have HE := Lib.hid (HNO.out (by rw [e1, e2]; rfl))
            clear HT1 HT2 HK1 HK2 HGS HNO e1 e2 o1 o2 hap
            go_wp2
            refine bodyPost_ret (v := .tuple #[.slice none 0 0, .slice none 0 0, .int .i64 8]) (by simp [results, Tryz.results47, go_sem]) rfl ?_
            exact hBAD2.out _ _ HE.out (by decide) hbw2
        · obtain rfl : k = col.length := by omega
          rw [List.take_length] at ho1 ho2 ⊢
          have HE : Hid (skE d col = 0) := by
            show _ = _
            rw [HS3.out, if_pos]
            rw [stOK, List.all_eq_true]
            intro x hx
            obtain ⟨j, hj, rfl⟩ := List.getElem_of_mem hx
            exact hgd.out j hj hj
          have h1 := Lib.hid (ownsRow_lies ho1.out)
          have h2 := Lib.hid (ownsRow_lies ho2.out)
          have HEND : Hid (∀ _ : Nat, Below w.heap.size w wr → SkEnd d col w (.returned (.tuple #[.slice A1 (col.filter (isSt d 1)).length c1, .slice A2 (col.filter (isSt d 2)).length c2, .int .i64 0])) wr) := fun _ hB => by
            have e : ∀ n : Nat, skF d col n = col.filter (isSt d n) := fun n => by unfold skF; rw [if_pos HE.out]
            refine ⟨A1, c1, A2, c2, ?_, ?_, ?_, hB⟩
            · rw [e, e, HE.out]
            · rw [e]; exact h1.out
            · rw [e]; exact h2.out
          clear ho1 ho2 hap hgd HS3 h1 h2 HLC1 HSA1 HY1 hBAD2
          go_wp2
          refine bodyPost_ret (v := .tuple #[.slice A1 (col.filter (isSt d 1)).length c1, .slice A2 (col.filter (isSt d 2)).length c2, .int .i64 0]) (by simp [results, Tryz.results47, go_sem]) rfl ?_
          exact HEND.out 0 (by rw [HB0.out]; exact HBW1.out _ hbw)
end Go.Proofs.YtkfeagokmcakgaaGreatDoor
