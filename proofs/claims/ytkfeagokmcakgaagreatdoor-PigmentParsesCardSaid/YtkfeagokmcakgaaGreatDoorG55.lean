/- The reference's Read (fn 37). -/
import Derived.Test.YtkfeagokmcakgaaGreatDoorG54

set_option linter.unusedVariables false
set_option linter.unusedSimpArgs false

namespace Go.Proofs.YtkfeagokmcakgaaGreatDoor
open Go.RowKit

theorem wp_call_val {o : Oper} {a : Act} {w : World} {s : ByteArray} {args : Array Value} {K : Act → World → Prop} {Q : Exit → Act → World → Prop} (he : (execOp a.eval o).run Tryz.prog w = .ok (.enter 88 args) w) (hc : Calls Tryz.prog 88 args w (ValE s w))
    (hK : K (a.put o.dst (.int .i64 (valB s))) w) : o.wp Tryz.prog a w K Q := by
  unfold Oper.wp
  rw [he]
  refine hc.mono ?_
  rintro e w' ⟨rfl, rfl⟩
  exact hK
theorem lit_eq (l : List UInt8) (y : ByteArray) : (y.toList == l) = decide (y = ⟨l.toArray⟩) := by
  have h : (⟨l.toArray⟩ : ByteArray).toList = l := by rw [ByteArray.toList_eq]
  rw [← str_eq, h]
theorem read_zero {line : ByteArray} {w w' : World} (h : rdR line = none) (hb : Below w.heap.size w w') : ReadE line w (.returned (.tuple #[rul0.agg, .int .i64 4])) w' := by
  refine ⟨?_, hb⟩
  unfold rdV rdK; rw [h]
theorem read_good {line : ByteArray} {r : Rul} {w w' : World} (h : rdR line = some r) (hb : Below w.heap.size w w') : ReadE line w (.returned (.tuple #[r.agg, .int .i64 0])) w' := by
  refine ⟨?_, hb⟩
  unfold rdV rdK; rw [h]
set_option maxHeartbeats 1000000 in
set_option maxRecDepth 100000 in
theorem rread_any (line : ByteArray) (w : World) (hs : line.size ≤ 1000) : Calls Tryz.prog 37 #[.string line] w (ReadE line w) := by
  have HSP0 : Hid (Calls Tryz.prog 67 #[.string line, .int .u8 32] (w.alloc (.cells #[.int .i64 0, .int .i64 0, .int .u8 0, .string ⟨#[]⟩, .string ⟨#[]⟩, .int .i64 0] 50)) (SplE line 32 (w.alloc (.cells #[.int .i64 0, .int .i64 0, .int .u8 0, .string ⟨#[]⟩, .string ⟨#[]⟩, .int .i64 0] 50)))) := split_any line 32 _ (by omega)
  have HK0 : Hid (Bk (w.alloc (.cells #[.int .i64 0, .int .i64 0, .int .u8 0, .string ⟨#[]⟩, .string ⟨#[]⟩, .int .i64 0] 50)) w.heap.size 50 #[.int .i64 0, .int .i64 0, .int .u8 0, .string ⟨#[]⟩, .string ⟨#[]⟩, .int .i64 0]) := Bk.new _ _ _
  have HB0 : Hid (Below w.heap.size w (w.alloc (.cells #[.int .i64 0, .int .i64 0, .int .u8 0, .string ⟨#[]⟩, .string ⟨#[]⟩, .int .i64 0] 50))) := (Below.refl _ _).alloc (Nat.le_refl _) _
  have hx0 : (w.alloc (.cells #[.int .i64 0, .int .i64 0, .int .u8 0, .string ⟨#[]⟩, .string ⟨#[]⟩, .int .i64 0] 50)).heap.size = w.heap.size + 1 := by simp
  have HSM : Hid (∀ u ∈ wdsB line, u.size ≤ 1000) := fun u hu => Nat.le_trans (wds_small hu) hs
  have HRE := Lib.hid (rrd_eq line)
  have HRD : Hid (rrd line = match wdsB line with
    | [w0, w1, w2, w3] => rdF line (rrK (valB w0) (valB w1) (kindB w2) w3 ⟨#[]⟩)
    | [w0, w1, w2, w3, w4] => rdF line (rrK (valB w0) (valB w1) (kindB w2) w3 w4)
    | _ => none) := rfl
  have HWD := Lib.hid (wds_data line)
  clear hs
  go_enter Tryz.func37, Tryz.ntmps37
  go_upto_region 1 with fail
  generalize w.alloc (.cells #[.int .i64 0, .int .i64 0, .int .u8 0, .string ⟨#[]⟩, .string ⟨#[]⟩, .int .i64 0] 50) = X at *
  go_upto_region 2 with (go_at_call 67; refine HSP0.out.mono ?_; rintro e w1 ⟨L, A, c, hmap, rfl, hlies, hcap, hlen, hbw⟩)
  obtain rfl : L = wdsB line := map_data_inj (hmap.trans HWD.out.symm)
  have HL : Hid (∀ V, Below w1.heap.size w1 V → Lies V V.heap.size A (strsC (wdsB line))) := fun V hV => (hlies.below hV (Nat.le_refl _)).more hV.size
  have HB1 : Hid (∀ V, Below w1.heap.size w1 V → Below w.heap.size w V) := fun V hV => HB0.out.trans ((hbw.mono (by omega)).trans (hV.mono (Nat.le_trans HB0.out.size hbw.size)))
  have HKR : Hid (∀ V, Below w1.heap.size w1 V → Bk V w.heap.size 50 #[.int .i64 0, .int .i64 0, .int .u8 0, .string ⟨#[]⟩, .string ⟨#[]⟩, .int .i64 0]) := fun V hV => (HK0.out.below hbw HK0.out.lt).below hV (by have := hbw.size; omega)
  have hwz : w.heap.size < w1.heap.size := by have := hbw.size; omega
  clear hmap hlies hcap hlen hbw HWD HSP0 HK0 HB0
  generalize wdsB line = WD at *
  have hRef : Below w1.heap.size w1 w1 := Below.refl _ _
  by_cases h4 : WD.length < 4 ∨ 5 < WD.length
  · have HN : Hid (rdR line = none) := by
      show _ = _
      rw [← HRE.out, HRD.out]
      match WD, h4 with
      | [], _ => rfl
      | [_], _ => rfl
      | [_, _], _ => rfl
      | [_, _, _], _ => rfl
      | [_, _, _, _], h => simp at h
      | [_, _, _, _, _], h => simp at h
      | _ :: _ :: _ :: _ :: _ :: _ :: _, _ => rfl
    have HKK := Lib.hid (HKR.out _ hRef)
    have HBE := Lib.hid (HB1.out _ hRef)
    obtain ⟨n, hn⟩ : ∃ n, n = WD.length := ⟨_, rfl⟩
    rw [← hn] at h4 ⊢
    clear HRD HRE HSM HL HB1 HKR hn hRef
    by_cases hl : n < 4
    · have hi : (n : Int) < 4 := by omega
      go_wp2_with (refine wpList_store_blk (P := Tryz.prog) rfl 50 (.tmp 2) (.tmp 18) rfl w.heap.size #[.int .i64 0, .int .i64 0, .int .u8 0, .string ⟨#[]⟩, .string ⟨#[]⟩, .int .i64 0] #[.int .i64 0, .int .i64 0, .int .u8 0, .string ⟨#[]⟩, .string ⟨#[]⟩, .int .i64 0] rfl rfl HKK.out rfl info50s (by intro v hv; simp at hv; rcases hv with rfl | rfl | rfl | rfl | rfl | rfl <;> rfl) ?_; intro W8 k8 f8)
      refine bodyPost_ret (results_row rfl _ _ w.heap.size (#[.int .i64 0, .int .i64 0, .int .u8 0, .string ⟨#[]⟩, .string ⟨#[]⟩, .int .i64 0] : Array Value).toList _ rfl k8.range Tryz.underlying50 rfl info50s) rfl ?_
      exact read_zero HN.out (f8.bel _ _ (Nat.le_refl _) HBE.out)
    · have hi : ¬ (n : Int) < 4 := by omega
      have hi5 : (5 : Int) < n := by omega
      go_wp2_with (refine wpList_store_blk (P := Tryz.prog) rfl 50 (.tmp 2) (.tmp 18) rfl w.heap.size #[.int .i64 0, .int .i64 0, .int .u8 0, .string ⟨#[]⟩, .string ⟨#[]⟩, .int .i64 0] #[.int .i64 0, .int .i64 0, .int .u8 0, .string ⟨#[]⟩, .string ⟨#[]⟩, .int .i64 0] rfl rfl HKK.out rfl info50s (by intro v hv; simp at hv; rcases hv with rfl | rfl | rfl | rfl | rfl | rfl <;> rfl) ?_; intro W8 k8 f8)
      refine bodyPost_ret (results_row rfl _ _ w.heap.size (#[.int .i64 0, .int .i64 0, .int .u8 0, .string ⟨#[]⟩, .string ⟨#[]⟩, .int .i64 0] : Array Value).toList _ rfl k8.range Tryz.underlying50 rfl info50s) rfl ?_
      exact read_zero HN.out (f8.bel _ _ (Nat.le_refl _) HBE.out)
  obtain ⟨v0, v1, v2, v3, x4, hW0, hW1, hW2, hW3, hW4, HRR⟩ : ∃ v0 v1 v2 v3 x4 : ByteArray, WD[0]? = some v0 ∧ WD[1]? = some v1 ∧ WD[2]? = some v2 ∧ WD[3]? = some v3 ∧ (if WD.length = 5 then WD[4]? = some x4 else x4 = ⟨#[]⟩) ∧ Hid (rdR line = rdF line (rrK (valB v0) (valB v1) (kindB v2) v3 x4)) := by
    match WD, h4, HRD with
    | [], h, _ => simp at h
    | [_], h, _ => simp at h
    | [_, _], h, _ => simp at h
    | [_, _, _], h, _ => simp at h
    | [a, b, c, d], _, H => exact ⟨a, b, c, d, ⟨#[]⟩, rfl, rfl, rfl, rfl, by simp, by show _ = _; rw [← HRE.out, H.out]⟩
    | [a, b, c, d, e], _, H => exact ⟨a, b, c, d, e, rfl, rfl, rfl, rfl, by simp, by show _ = _; rw [← HRE.out, H.out]⟩
    | _ :: _ :: _ :: _ :: _ :: _ :: _, h, _ => simp at h
  obtain ⟨ad, hA, _, _⟩ := str_at (HL.out _ hRef) (k := 0) (by omega)
  subst hA
  have HC : Hid (∀ (k : Nat) v, WD[k]? = some v → ∀ V, Below w1.heap.size w1 V → V.cell? (ad.add k) = some (.string v)) := fun k v hv V hV => by
    obtain ⟨hk, hv2⟩ := List.getElem?_eq_some_iff.1 hv
    obtain ⟨ad', e, _, h⟩ := str_at (HL.out V hV) hk
    cases e
    rw [h, hv2]
  have HZ : Hid (∀ (k : Nat) (v : ByteArray), WD[k]? = some v → v.size ≤ 1000) := fun k v hv => HSM.out v (List.mem_of_getElem? hv)
  have HC0 := Lib.hid (HC.out 0 v0 hW0)
  have HC1 : Hid (∀ V, Below w1.heap.size w1 V → V.cell? ⟨ad.block, ad.off + 1, none⟩ = some (.string v1)) := fun V hV => HC.out 1 v1 hW1 V hV
  have HC2 : Hid (∀ V, Below w1.heap.size w1 V → V.cell? ⟨ad.block, ad.off + 2, none⟩ = some (.string v2)) := fun V hV => HC.out 2 v2 hW2 V hV
  have HC3 : Hid (∀ V, Below w1.heap.size w1 V → V.cell? ⟨ad.block, ad.off + 3, none⟩ = some (.string v3)) := fun V hV => HC.out 3 v3 hW3 V hV
  have had : ad.add (0 : Nat) = ad := by cases ad; simp [Addr.add]
  rw [show ad.add ((0 : Nat) : Nat) = ad from had] at HC0
  have HV0 := Lib.hid (fun V => value_any v0 V (by have := HZ.out _ _ hW0; omega))
  have HV1 := Lib.hid (fun V => value_any v1 V (by have := HZ.out _ _ hW1; omega))
  have HV3 := Lib.hid (fun V => value_any v3 V (by have := HZ.out _ _ hW3; omega))
  have z3 := HZ.out _ _ hW3
  have HZ4 : Hid (x4.size ≤ 1000) := by
    show _ ≤ _
    by_cases h : WD.length = 5
    · rw [if_pos h] at hW4; exact HZ.out _ _ hW4
    · rw [if_neg h] at hW4; rw [hW4]; exact Nat.zero_le _
  have HC4 : Hid (WD.length = 5 → ∀ V, Below w1.heap.size w1 V → V.cell? ⟨ad.block, ad.off + 4, none⟩ = some (.string x4)) := fun h => by rw [if_pos h] at hW4; exact HC.out 4 x4 hW4
  have HX4 : Hid (¬ WD.length = 5 → x4 = ⟨#[]⟩) := fun h => by rw [if_neg h] at hW4; exact hW4
  have Z3 := Lib.hid z3
  obtain ⟨n, hn⟩ : ∃ n, n = WD.length := ⟨_, rfl⟩
  rw [← hn] at h4 HC4 HX4 ⊢
  clear HRD HRE HSM HL HC HZ hn hW0 hW1 hW2 hW3 hW4 had z3 hx0
  have i4 : ¬ (n : Int) < 4 := by omega
  have i5 : ¬ (5 : Int) < n := by omega
  have j1 : (1 : Int) < n := by omega
  have m0 : 0 < n := by omega
  have j0 : (0 : Int) < n := by omega
  have j2 : (2 : Int) < n := by omega
  have j3 : (3 : Int) < n := by omega
  go_upto_region 4 with fail
  go_cut [5] (fun s5 wx => ∃ g, s5 = .pointer (some ⟨g, 0, none⟩) ∧ Hid (Bk wx g 50 #[.int .i64 (valB v0), .int .i64 (valB v1), .int .u8 0, .string ⟨#[]⟩, .string ⟨#[]⟩, .int .i64 0]) ∧ w1.heap.size ≤ g ∧ Hid (Below w1.heap.size w1 wx))
  case first =>
    refine wp_region_held_drew (S := fun V => V.cell? ad = some (.string v0) ∧ V.cell? ⟨ad.block, ad.off + 1, none⟩ = some (.string v1)) (by kernel_rfl) ?_ (fun hHeld => ?_)
    · exact ⟨HC0.out _ hRef.drew, HC1.out _ hRef.drew⟩
    (refine held_take 0 (some 19) ?_ rfl (by kernel_rfl) (by kernel_rfl) (by kernel_rfl) (by rfl) (fun _ _ _ h => h) (by assumption) (fun w hSw => ?_) ?_; rotate_left; ((try dsimp only at hSw); simp only [List.getElem?_toArray, List.getElem?_cons_zero, List.getElem?_cons_succ, Option.map_some]; refine congrArg some ?_; go_simp; (try with_reducible rfl)); (try simp only [Act.put, List.setIfInBounds_toArray, List.set_cons_zero, List.set_cons_succ]))
    (refine held_take 1 (some 20) ?_ rfl (by kernel_rfl) (by kernel_rfl) (by kernel_rfl) (by rfl) (fun _ _ _ h => h) (by assumption) (fun w hSw => ?_) ?_; rotate_left; ((try dsimp only at hSw); simp only [List.getElem?_toArray, List.getElem?_cons_zero, List.getElem?_cons_succ, Option.map_some]; refine congrArg some ?_; go_simp; (try with_reducible rfl)); (try simp only [Act.put, List.setIfInBounds_toArray, List.set_cons_zero, List.set_cons_succ]))
    (refine held_take 2 (some 21) ?_ rfl (by kernel_rfl) (by kernel_rfl) (by kernel_rfl) (by rfl) (fun _ _ _ h => h) (by assumption) (fun w hSw => ?_) ?_; rotate_left; ((try dsimp only at hSw); simp only [List.getElem?_toArray, List.getElem?_cons_zero, List.getElem?_cons_succ, Option.map_some]; refine congrArg some ?_; go_simp; (try with_reducible rfl)); (try simp only [Act.put, List.setIfInBounds_toArray, List.set_cons_zero, List.set_cons_succ]))
    (refine held_take 4 (some 23) ?_ rfl (by kernel_rfl) (by kernel_rfl) (by kernel_rfl) (by rfl) (fun _ _ _ h => h) (by assumption) (fun w hSw => ?_) ?_; rotate_left; ((try dsimp only at hSw); simp only [List.getElem?_toArray, List.getElem?_cons_zero, List.getElem?_cons_succ, Option.map_some]; refine congrArg some ?_; go_simp; (try with_reducible rfl)); (try simp only [Act.put, List.setIfInBounds_toArray, List.set_cons_zero, List.set_cons_succ]))
    (refine held_take 5 (some 24) ?_ rfl (by kernel_rfl) (by kernel_rfl) (by kernel_rfl) (by rfl) (fun _ _ _ h => h) (by assumption) (fun w hSw => ?_) ?_; rotate_left; ((try dsimp only at hSw); simp only [List.getElem?_toArray, List.getElem?_cons_zero, List.getElem?_cons_succ, Option.map_some]; refine congrArg some ?_; go_simp; (try with_reducible rfl)); (try simp only [Act.put, List.setIfInBounds_toArray, List.set_cons_zero, List.set_cons_succ]))
    (refine held_take 6 (some 25) ?_ rfl (by kernel_rfl) (by kernel_rfl) (by kernel_rfl) (by rfl) (fun _ _ _ h => h) (by assumption) (fun w hSw => ?_) ?_; rotate_left; ((try dsimp only at hSw); simp only [List.getElem?_toArray, List.getElem?_cons_zero, List.getElem?_cons_succ, Option.map_some]; refine congrArg some ?_; go_simp; (try with_reducible rfl)); (try simp only [Act.put, List.setIfInBounds_toArray, List.set_cons_zero, List.set_cons_succ]))
    have hB : Below w1.heap.size w1 w1.drew := hRef.drew
    clear hHeld
    generalize w1.drew = u3 at *
    have HS := Lib.hid (And.intro (HC0.out _ hB) (HC1.out _ hB))
    have hB_v : Below w1.heap.size w1 (u3.alloc (.cells #[.int .i64 0, .int .i64 0, .int .u8 0, .string ⟨#[]⟩, .string ⟨#[]⟩, .int .i64 0] 50)) := hB.alloc hB.size _
    have box_v : Bk (u3.alloc (.cells #[.int .i64 0, .int .i64 0, .int .u8 0, .string ⟨#[]⟩, .string ⟨#[]⟩, .int .i64 0] 50)) u3.heap.size 50 #[.int .i64 0, .int .i64 0, .int .u8 0, .string ⟨#[]⟩, .string ⟨#[]⟩, .int .i64 0] := Bk.new _ _ _
    have HS_v := Lib.hid (And.intro (HC0.out _ hB_v) (HC1.out _ hB_v))
    have hgz := hB.size
    refine held_two 3 9 ⟨some 22, .call { callee := .value (.func 88), args := #[.tmp 21], argTypes := #[9] }, 3, _, _, none⟩ ⟨some 5, .alloc 50, 0, _, _, none⟩ rfl rfl (by kernel_rfl) (by rfl) (by rfl) ?_ ?_
    · refine wp_call_val (s := v0) (args := #[.string v0]) (by go_simp) (HV0.out _) ?_
      refine ⟨HS.out, ?_⟩
      (try simp only [Act.put, List.setIfInBounds_toArray, List.set_cons_zero, List.set_cons_succ])
      refine held_two 7 9 ⟨some 26, .call { callee := .value (.func 88), args := #[.tmp 25], argTypes := #[9] }, 3, _, _, none⟩ ⟨some 5, .alloc 50, 0, _, _, none⟩ rfl rfl (by kernel_rfl) (by rfl) (by rfl) ?_ ?_
      · refine wp_call_val (s := v1) (args := #[.string v1]) (by go_simp) (HV1.out _) ?_
        refine ⟨HS.out, ?_⟩
        (try simp only [Act.put, List.setIfInBounds_toArray, List.set_cons_zero, List.set_cons_succ])
        (refine held_take 8 (some 27) ?_ rfl (by kernel_rfl) (by kernel_rfl) (by kernel_rfl) (by rfl) (fun _ _ _ h => h) (by assumption) (fun w hSw => ?_) ?_; rotate_left; ((try dsimp only at hSw); simp only [List.getElem?_toArray, List.getElem?_cons_zero, List.getElem?_cons_succ, Option.map_some]; refine congrArg some ?_; go_simp; (try with_reducible rfl)); (try simp only [Act.put, List.setIfInBounds_toArray, List.set_cons_zero, List.set_cons_succ]))
        refine held_one 9 ⟨some 5, .alloc 50, 0, _, _, none⟩ rfl (by kernel_rfl) (by rfl) ?_
        unfold Oper.wp
        go_simp
        refine ⟨HS_v.out, ?_⟩
        (try simp only [Act.put, List.setIfInBounds_toArray, List.set_cons_zero, List.set_cons_succ])
        generalize u3.alloc (.cells #[.int .i64 0, .int .i64 0, .int .u8 0, .string ⟨#[]⟩, .string ⟨#[]⟩, .int .i64 0] 50) = v3' at *
        refine held_one 10 ⟨none, .store 50 (.tmp 5) (.tmp 27), _, _, _, none⟩ rfl (by kernel_rfl) (by rfl) ?_
        refine wp_store_blk 50 (.tmp 5) (.tmp 27) rfl (u3.heap.size) #[.int .i64 0, .int .i64 0, .int .u8 0, .string ⟨#[]⟩, .string ⟨#[]⟩, .int .i64 0] #[.int .i64 (valB v0), .int .i64 (valB v1), .int .u8 0, .string ⟨#[]⟩, .string ⟨#[]⟩, .int .i64 0] rfl rfl box_v rfl info50s (by intro v hv; simp at hv; rcases hv with rfl | rfl | rfl | rfl | rfl | rfl <;> rfl) ?_
        intro u k_u f_u
        have hB_u := f_u.bel _ _ hgz hB_v
        refine ⟨⟨HC0.out _ hB_u, HC1.out _ hB_u⟩, ?_⟩
        (try simp only [Act.put, List.setIfInBounds_toArray, List.set_cons_zero, List.set_cons_succ])
        refine wpAnyH_done (by kernel_rfl) ?_ _
        go_wp2_with fail
        go_meet
        exact ⟨_, rfl, Lib.hid k_u, hgz, Lib.hid hB_u⟩
      · unfold Oper.wp
        go_simp
        refine ⟨HS_v.out, ?_⟩
        (try simp only [Act.put, List.setIfInBounds_toArray, List.set_cons_zero, List.set_cons_succ])
        generalize u3.alloc (.cells #[.int .i64 0, .int .i64 0, .int .u8 0, .string ⟨#[]⟩, .string ⟨#[]⟩, .int .i64 0] 50) = v3' at *
        refine held_one 7 ⟨some 26, .call { callee := .value (.func 88), args := #[.tmp 25], argTypes := #[9] }, 3, _, _, none⟩ rfl (by kernel_rfl) (by rfl) ?_
        refine wp_call_val (s := v1) (args := #[.string v1]) (by go_simp) (HV1.out _) ?_
        refine ⟨HS_v.out, ?_⟩
        (try simp only [Act.put, List.setIfInBounds_toArray, List.set_cons_zero, List.set_cons_succ])
        (refine held_take 8 (some 27) ?_ rfl (by kernel_rfl) (by kernel_rfl) (by kernel_rfl) (by rfl) (fun _ _ _ h => h) (by assumption) (fun w hSw => ?_) ?_; rotate_left; ((try dsimp only at hSw); simp only [List.getElem?_toArray, List.getElem?_cons_zero, List.getElem?_cons_succ, Option.map_some]; refine congrArg some ?_; go_simp; (try with_reducible rfl)); (try simp only [Act.put, List.setIfInBounds_toArray, List.set_cons_zero, List.set_cons_succ]))
        refine held_one 10 ⟨none, .store 50 (.tmp 5) (.tmp 27), _, _, _, none⟩ rfl (by kernel_rfl) (by rfl) ?_
        refine wp_store_blk 50 (.tmp 5) (.tmp 27) rfl (u3.heap.size) #[.int .i64 0, .int .i64 0, .int .u8 0, .string ⟨#[]⟩, .string ⟨#[]⟩, .int .i64 0] #[.int .i64 (valB v0), .int .i64 (valB v1), .int .u8 0, .string ⟨#[]⟩, .string ⟨#[]⟩, .int .i64 0] rfl rfl box_v rfl info50s (by intro v hv; simp at hv; rcases hv with rfl | rfl | rfl | rfl | rfl | rfl <;> rfl) ?_
        intro u k_u f_u
        have hB_u := f_u.bel _ _ hgz hB_v
        refine ⟨⟨HC0.out _ hB_u, HC1.out _ hB_u⟩, ?_⟩
        (try simp only [Act.put, List.setIfInBounds_toArray, List.set_cons_zero, List.set_cons_succ])
        refine wpAnyH_done (by kernel_rfl) ?_ _
        go_wp2_with fail
        go_meet
        exact ⟨_, rfl, Lib.hid k_u, hgz, Lib.hid hB_u⟩
    · unfold Oper.wp
      go_simp
      refine ⟨HS_v.out, ?_⟩
      (try simp only [Act.put, List.setIfInBounds_toArray, List.set_cons_zero, List.set_cons_succ])
      generalize u3.alloc (.cells #[.int .i64 0, .int .i64 0, .int .u8 0, .string ⟨#[]⟩, .string ⟨#[]⟩, .int .i64 0] 50) = v3' at *
      refine held_one 3 ⟨some 22, .call { callee := .value (.func 88), args := #[.tmp 21], argTypes := #[9] }, 3, _, _, none⟩ rfl (by kernel_rfl) (by rfl) ?_
      refine wp_call_val (s := v0) (args := #[.string v0]) (by go_simp) (HV0.out _) ?_
      refine ⟨HS_v.out, ?_⟩
      (try simp only [Act.put, List.setIfInBounds_toArray, List.set_cons_zero, List.set_cons_succ])
      refine held_one 7 ⟨some 26, .call { callee := .value (.func 88), args := #[.tmp 25], argTypes := #[9] }, 3, _, _, none⟩ rfl (by kernel_rfl) (by rfl) ?_
      refine wp_call_val (s := v1) (args := #[.string v1]) (by go_simp) (HV1.out _) ?_
      refine ⟨HS_v.out, ?_⟩
      (try simp only [Act.put, List.setIfInBounds_toArray, List.set_cons_zero, List.set_cons_succ])
      (refine held_take 8 (some 27) ?_ rfl (by kernel_rfl) (by kernel_rfl) (by kernel_rfl) (by rfl) (fun _ _ _ h => h) (by assumption) (fun w hSw => ?_) ?_; rotate_left; ((try dsimp only at hSw); simp only [List.getElem?_toArray, List.getElem?_cons_zero, List.getElem?_cons_succ, Option.map_some]; refine congrArg some ?_; go_simp; (try with_reducible rfl)); (try simp only [Act.put, List.setIfInBounds_toArray, List.set_cons_zero, List.set_cons_succ]))
      refine held_one 10 ⟨none, .store 50 (.tmp 5) (.tmp 27), _, _, _, none⟩ rfl (by kernel_rfl) (by rfl) ?_
      refine wp_store_blk 50 (.tmp 5) (.tmp 27) rfl (u3.heap.size) #[.int .i64 0, .int .i64 0, .int .u8 0, .string ⟨#[]⟩, .string ⟨#[]⟩, .int .i64 0] #[.int .i64 (valB v0), .int .i64 (valB v1), .int .u8 0, .string ⟨#[]⟩, .string ⟨#[]⟩, .int .i64 0] rfl rfl box_v rfl info50s (by intro v hv; simp at hv; rcases hv with rfl | rfl | rfl | rfl | rfl | rfl <;> rfl) ?_
      intro u k_u f_u
      have hB_u := f_u.bel _ _ hgz hB_v
      refine ⟨⟨HC0.out _ hB_u, HC1.out _ hB_u⟩, ?_⟩
      (try simp only [Act.put, List.setIfInBounds_toArray, List.set_cons_zero, List.set_cons_succ])
      refine wpAnyH_done (by kernel_rfl) ?_ _
      go_wp2_with fail
      go_meet
      exact ⟨_, rfl, Lib.hid k_u, hgz, Lib.hid hB_u⟩
  case rest =>
    obtain ⟨g, e5, hkg, hgz, hbc⟩ := hcut
    subst e5
    generalize wc = wA at *
    have h1 : (v2.toList == ([102, 97, 115, 116] : List UInt8)) = decide (kindB v2 = 1) := (lit_eq _ v2).trans (decide_eq_decide.2 (kindB_iff1 v2).symm)
    have h2 : (v2.toList == ([100, 114, 121] : List UInt8)) = decide (kindB v2 = 2) := (lit_eq _ v2).trans (decide_eq_decide.2 (kindB_iff2 v2).symm)
    have h3 : (v2.toList == ([98, 101, 115, 105, 100, 101] : List UInt8)) = decide (kindB v2 = 3) := (lit_eq _ v2).trans (decide_eq_decide.2 (kindB_iff3 v2).symm)
    have h4 : (v2.toList == ([111, 118, 101, 114] : List UInt8)) = decide (kindB v2 = 4) := (lit_eq _ v2).trans (decide_eq_decide.2 (kindB_iff4 v2).symm)
    have h5 : (v2.toList == ([103, 114, 111, 117, 112] : List UInt8)) = decide (kindB v2 = 5) := (lit_eq _ v2).trans (decide_eq_decide.2 (kindB_iff5 v2).symm)
    have h6 : (v2.toList == ([118, 111, 105, 100] : List UInt8)) = decide (kindB v2 = 6) := (lit_eq _ v2).trans (decide_eq_decide.2 (kindB_iff6 v2).symm)
    have hK6 : 0 ≤ kindB v2 ∧ kindB v2 ≤ 6 := ⟨kindB_ge v2, kindB_le v2⟩
    generalize kindB v2 = K at *
    have c2 := HC2.out _ hbc.out
    have c3 := HC3.out _ hbc.out
    go_step
    go_step
    go_cut [] from 28 (fun wx => Hid (Bk wx g 50 #[.int .i64 (valB v0), .int .i64 (valB v1), .int .u8 K, .string ⟨#[]⟩, .string ⟨#[]⟩, .int .i64 (if K = 6 then valB v3 else 0)]) ∧ Hid (Below w1.heap.size w1 wx))
    case first =>
      have g2 := hkg.out.cell 2 rfl
      have f2 := hkg.out.fro 2
      have hK7 : K = 0 ∨ K = 1 ∨ K = 2 ∨ K = 3 ∨ K = 4 ∨ K = 5 ∨ K = 6 := by omega
      clear hK6
      rcases hK7 with rfl | rfl | rfl | rfl | rfl | rfl | rfl
      · have HH := Lib.hid (And.intro hkg.out hbc.out)
        replace h1 : (v2.toList == ([102, 97, 115, 116] : List UInt8)) = false := h1
        replace h2 : (v2.toList == ([100, 114, 121] : List UInt8)) = false := h2
        replace h3 : (v2.toList == ([98, 101, 115, 105, 100, 101] : List UInt8)) = false := h3
        replace h4 : (v2.toList == ([111, 118, 101, 114] : List UInt8)) = false := h4
        replace h5 : (v2.toList == ([103, 114, 111, 117, 112] : List UInt8)) = false := h5
        replace h6 : (v2.toList == ([118, 111, 105, 100] : List UInt8)) = false := h6
        clear hkg hbc
        go_wp2_with fail
        go_meet
        exact ⟨Lib.hid HH.out.1, Lib.hid HH.out.2⟩
      · have HH := Lib.hid (And.intro hkg.out hbc.out)
        replace h1 : (v2.toList == ([102, 97, 115, 116] : List UInt8)) = true := h1
        replace h2 : (v2.toList == ([100, 114, 121] : List UInt8)) = false := h2
        replace h3 : (v2.toList == ([98, 101, 115, 105, 100, 101] : List UInt8)) = false := h3
        replace h4 : (v2.toList == ([111, 118, 101, 114] : List UInt8)) = false := h4
        replace h5 : (v2.toList == ([103, 114, 111, 117, 112] : List UInt8)) = false := h5
        replace h6 : (v2.toList == ([118, 111, 105, 100] : List UInt8)) = false := h6
        clear hkg hbc
        go_wp2_with fail
        go_meet
        exact ⟨Lib.hid (HH.out.1.set 2 (.int .u8 1)), Lib.hid (HH.out.2.setCell (p := ⟨g, 2, none⟩) hgz _)⟩
      · have HH := Lib.hid (And.intro hkg.out hbc.out)
        replace h1 : (v2.toList == ([102, 97, 115, 116] : List UInt8)) = false := h1
        replace h2 : (v2.toList == ([100, 114, 121] : List UInt8)) = true := h2
        replace h3 : (v2.toList == ([98, 101, 115, 105, 100, 101] : List UInt8)) = false := h3
        replace h4 : (v2.toList == ([111, 118, 101, 114] : List UInt8)) = false := h4
        replace h5 : (v2.toList == ([103, 114, 111, 117, 112] : List UInt8)) = false := h5
        replace h6 : (v2.toList == ([118, 111, 105, 100] : List UInt8)) = false := h6
        clear hkg hbc
        go_wp2_with fail
        go_meet
        exact ⟨Lib.hid (HH.out.1.set 2 (.int .u8 2)), Lib.hid (HH.out.2.setCell (p := ⟨g, 2, none⟩) hgz _)⟩
      · have HH := Lib.hid (And.intro hkg.out hbc.out)
        replace h1 : (v2.toList == ([102, 97, 115, 116] : List UInt8)) = false := h1
        replace h2 : (v2.toList == ([100, 114, 121] : List UInt8)) = false := h2
        replace h3 : (v2.toList == ([98, 101, 115, 105, 100, 101] : List UInt8)) = true := h3
        replace h4 : (v2.toList == ([111, 118, 101, 114] : List UInt8)) = false := h4
        replace h5 : (v2.toList == ([103, 114, 111, 117, 112] : List UInt8)) = false := h5
        replace h6 : (v2.toList == ([118, 111, 105, 100] : List UInt8)) = false := h6
        clear hkg hbc
        go_wp2_with fail
        go_meet
        exact ⟨Lib.hid (HH.out.1.set 2 (.int .u8 3)), Lib.hid (HH.out.2.setCell (p := ⟨g, 2, none⟩) hgz _)⟩
      · have HH := Lib.hid (And.intro hkg.out hbc.out)
        replace h1 : (v2.toList == ([102, 97, 115, 116] : List UInt8)) = false := h1
        replace h2 : (v2.toList == ([100, 114, 121] : List UInt8)) = false := h2
        replace h3 : (v2.toList == ([98, 101, 115, 105, 100, 101] : List UInt8)) = false := h3
        replace h4 : (v2.toList == ([111, 118, 101, 114] : List UInt8)) = true := h4
        replace h5 : (v2.toList == ([103, 114, 111, 117, 112] : List UInt8)) = false := h5
        replace h6 : (v2.toList == ([118, 111, 105, 100] : List UInt8)) = false := h6
        clear hkg hbc
        go_wp2_with fail
        go_meet
        exact ⟨Lib.hid (HH.out.1.set 2 (.int .u8 4)), Lib.hid (HH.out.2.setCell (p := ⟨g, 2, none⟩) hgz _)⟩
      · have HH := Lib.hid (And.intro hkg.out hbc.out)
        replace h1 : (v2.toList == ([102, 97, 115, 116] : List UInt8)) = false := h1
        replace h2 : (v2.toList == ([100, 114, 121] : List UInt8)) = false := h2
        replace h3 : (v2.toList == ([98, 101, 115, 105, 100, 101] : List UInt8)) = false := h3
        replace h4 : (v2.toList == ([111, 118, 101, 114] : List UInt8)) = false := h4
        replace h5 : (v2.toList == ([103, 114, 111, 117, 112] : List UInt8)) = true := h5
        replace h6 : (v2.toList == ([118, 111, 105, 100] : List UInt8)) = false := h6
        clear hkg hbc
        go_wp2_with fail
        go_meet
        exact ⟨Lib.hid (HH.out.1.set 2 (.int .u8 5)), Lib.hid (HH.out.2.setCell (p := ⟨g, 2, none⟩) hgz _)⟩
      · have HH := Lib.hid (And.intro hkg.out hbc.out)
        replace h1 : (v2.toList == ([102, 97, 115, 116] : List UInt8)) = false := h1
        replace h2 : (v2.toList == ([100, 114, 121] : List UInt8)) = false := h2
        replace h3 : (v2.toList == ([98, 101, 115, 105, 100, 101] : List UInt8)) = false := h3
        replace h4 : (v2.toList == ([111, 118, 101, 114] : List UInt8)) = false := h4
        replace h5 : (v2.toList == ([103, 114, 111, 117, 112] : List UInt8)) = false := h5
        replace h6 : (v2.toList == ([118, 111, 105, 100] : List UInt8)) = true := h6
        have e2 := (hkg.out.set 2 (.int .u8 6)).cell 5 rfl
        have e3 := (hkg.out.set 2 (.int .u8 6)).fro 5
        have c4 := HC3.out _ (hbc.out.setCell (p := ⟨g, 2, none⟩) hgz (.int .u8 6))
        clear hkg hbc
        go_wp2_with (go_at_call 88; refine (HV3.out _).mono ?_; rintro e u5 ⟨rfl, rfl⟩)
        go_meet
        exact ⟨Lib.hid ((HH.out.1.set 2 (.int .u8 6)).set 5 (.int .i64 (valB v3))), Lib.hid ((HH.out.2.setCell (p := ⟨g, 2, none⟩) hgz _).setCell (p := ⟨g, 5, none⟩) hgz _)⟩
    case rest =>
      obtain ⟨hkx, hbx⟩ := hcut
      generalize wc = wB at *
      clear h1 h2 h3 h4 h5 h6 c2 c3 hkg hbc
      obtain ⟨R, hR⟩ : ∃ R, R = rrK (valB v0) (valB v1) K v3 x4 := ⟨_, rfl⟩
      rw [← hR] at HRR
      go_step
      go_step
      go_cut [] from 28 (fun wx => Hid (Bk wx g 50 R.row) ∧ Hid (Below w1.heap.size w1 wx))
      case first =>
        have HK := hkx
        have HB := hbx
        by_cases h6 : K = 6
        · subst h6
          have HRW : Hid (R.row = #[.int .i64 (valB v0), .int .i64 (valB v1), .int .u8 6, .string ⟨#[]⟩, .string ⟨#[]⟩, .int .i64 (if (6 : Int) = 6 then valB v3 else 0)]) := by show _ = _; rw [hR]; rfl
          have g2 := HK.out.cell 2 rfl
          clear hkx hbx hR
          go_wp2_with fail
          go_meet
          exact ⟨Lib.hid (by rw [HRW.out]; exact HK.out), HB⟩
        · have e6 : (K != 6) = true := by rw [bne_iff_ne]; exact h6
          have hkx2 : Bk wB g 50 #[.int .i64 (valB v0), .int .i64 (valB v1), .int .u8 K, .string ⟨#[]⟩, .string ⟨#[]⟩, .int .i64 0] := by have := HK.out; rw [if_neg h6] at this; exact this
          have g2 := hkx2.cell 2 rfl
          have g3 := hkx2.cell 3 rfl
          have f3 := hkx2.fro 3
          have z3 := HC3.out _ HB.out
          have HB3 := Lib.hid (HB.out.setCell (p := ⟨g, 3, none⟩) hgz (.string v3))
          have HK3 := Lib.hid (hkx2.set 3 (.string v3))
          have HRW : Hid (R.row = #[.int .i64 (valB v0), .int .i64 (valB v1), .int .u8 K, .string v3, .string x4, .int .i64 0]) := by show _ = _; rw [hR]; unfold rrK; rw [if_neg h6]
          clear hkx hbx hR h6 hkx2 HK
          by_cases h5 : n = 5
          · have n5 : ((n : Int) == 5) = true := by rw [beq_iff_eq]; omega
            have z4 := HC4.out h5 _ HB3.out
            have g4 := HK3.out.cell 4 rfl
            have f4 := HK3.out.fro 4
            have j4 : (4 : Int) < n := by omega
            have HK4 := Lib.hid (HK3.out.set 4 (.string x4))
            have HB4 := Lib.hid (HB3.out.setCell (p := ⟨g, 4, none⟩) hgz (.string x4))
            clear h5
            go_wp2_with fail
            go_meet
            exact ⟨Lib.hid (by rw [HRW.out]; exact HK4.out), HB4⟩
          · have n5 : ((n : Int) == 5) = false := by rw [beq_eq_false_iff_ne]; omega
            have HX5 := Lib.hid (HX4.out h5)
            clear h5
            go_wp2_with fail
            go_meet
            exact ⟨Lib.hid (by rw [HRW.out, HX5.out]; exact HK3.out), HB3⟩
      case rest =>
        obtain ⟨hkr, hbr⟩ := hcut
        generalize wc = wr at *
        have hsz : R.x.size ≤ 1000 ∧ R.y.size ≤ 1000 := by rw [hR]; unfold rrK; split; exact ⟨Nat.zero_le _, Nat.zero_le _⟩; exact ⟨Z3.out, HZ4.out⟩
        have HWR := Lib.hid (rwrite_any R wr hsz.1 hsz.2)
        have HRES := Lib.hid (HKR.out wr hbr.out)
        have c0 := hkr.out.cell 0 rfl
        have c1 := hkr.out.cell 1 rfl
        have c2 := hkr.out.cell 2 rfl
        have c3 := hkr.out.cell 3 rfl
        have c4 := hkr.out.cell 4 rfl
        have c5 := hkr.out.cell 5 rfl
        have HBR2 := Lib.hid (HB1.out _ hbr.out)
        have HKG := Lib.hid hkr.out
        clear hsz hkr hbr hkx hbx hR HKR HB1 HC0 HC1 HC2 HC3 HC4 HV0 HV1 HV3 Z3 HZ4 HX4 i4 i5 j0 j1 j2 j3 m0 hK6
        by_cases hF : frm R = true
        · have HWE : Hid (wrE R = 0) := by show wrE R = 0; unfold wrE; rw [if_pos hF]
          by_cases hL : wrB R = line
          · have HR2 : Hid (rdR line = some R) := by show _ = _; rw [HRR.out]; unfold rdF; rw [if_pos ⟨hF, hL⟩]
            have hstr : ((wrB R).toList == line.toList) = true := by rw [str_eq]; exact decide_eq_true hL
            clear hF hL HRR
            obtain ⟨i7, n7, k7, x7, y7, o7⟩ := R
            go_wp2_with (first | (go_at_call 35; refine HWR.out.mono ?_; rintro e V7 ⟨rfl, hb7⟩; rw [HWE.out]; have HB7 := Lib.hid (HBR2.out.trans (hb7.mono HBR2.out.size)); have HJ7 := Lib.hid (HRES.out.below hb7 HRES.out.lt); have HK7 := Lib.hid (HKG.out.below hb7 HKG.out.lt); have d0 := HK7.out.cell 0 rfl; have d1 := HK7.out.cell 1 rfl; have d2 := HK7.out.cell 2 rfl; have d3 := HK7.out.cell 3 rfl; have d4 := HK7.out.cell 4 rfl; have d5 := HK7.out.cell 5 rfl) | (refine wpList_store_blk (P := Tryz.prog) rfl 50 (.tmp 2) (.tmp 81) rfl w.heap.size #[.int .i64 0, .int .i64 0, .int .u8 0, .string ⟨#[]⟩, .string ⟨#[]⟩, .int .i64 0] #[.int .i64 i7, .int .i64 n7, .int .u8 k7, .string x7, .string y7, .int .i64 o7] rfl rfl HJ7.out rfl info50s (by intro v hv; simp at hv; rcases hv with rfl | rfl | rfl | rfl | rfl | rfl <;> rfl) ?_; intro W8 k8 f8))
            refine bodyPost_ret (results_row rfl _ _ w.heap.size (#[.int .i64 i7, .int .i64 n7, .int .u8 k7, .string x7, .string y7, .int .i64 o7] : Array Value).toList _ rfl k8.range Tryz.underlying50 rfl info50s) rfl ?_
            exact read_good HR2.out (f8.bel _ _ (Nat.le_refl _) HB7.out)
          · have HR2 : Hid (rdR line = none) := by show _ = _; rw [HRR.out]; unfold rdF; rw [if_neg (fun h => hL h.2)]
            have hstr : ((wrB R).toList == line.toList) = false := by rw [str_eq]; exact decide_eq_false hL
            clear hF hL HRR
            obtain ⟨i7, n7, k7, x7, y7, o7⟩ := R
            go_wp2_with (first | (go_at_call 35; refine HWR.out.mono ?_; rintro e V7 ⟨rfl, hb7⟩; rw [HWE.out]; have HB7 := Lib.hid (HBR2.out.trans (hb7.mono HBR2.out.size)); have HJ7 := Lib.hid (HRES.out.below hb7 HRES.out.lt)) | (refine wpList_store_blk (P := Tryz.prog) rfl 50 (.tmp 2) (.tmp 80) rfl w.heap.size #[.int .i64 0, .int .i64 0, .int .u8 0, .string ⟨#[]⟩, .string ⟨#[]⟩, .int .i64 0] #[.int .i64 0, .int .i64 0, .int .u8 0, .string ⟨#[]⟩, .string ⟨#[]⟩, .int .i64 0] rfl rfl HJ7.out rfl info50s (by intro v hv; simp at hv; rcases hv with rfl | rfl | rfl | rfl | rfl | rfl <;> rfl) ?_; intro W8 k8 f8))
            refine bodyPost_ret (results_row rfl _ _ w.heap.size (#[.int .i64 0, .int .i64 0, .int .u8 0, .string ⟨#[]⟩, .string ⟨#[]⟩, .int .i64 0] : Array Value).toList _ rfl k8.range Tryz.underlying50 rfl info50s) rfl ?_
            exact read_zero HR2.out (f8.bel _ _ (Nat.le_refl _) HB7.out)
        · have HWE : Hid (wrE R = 1) := by show wrE R = 1; unfold wrE; rw [if_neg hF]
          have HR2 : Hid (rdR line = none) := by show _ = _; rw [HRR.out]; unfold rdF; rw [if_neg (fun h => hF h.1)]
          clear hF HRR
          obtain ⟨i7, n7, k7, x7, y7, o7⟩ := R
          go_wp2_with (first | (go_at_call 35; refine HWR.out.mono ?_; rintro e V7 ⟨rfl, hb7⟩; rw [HWE.out]; have HB7 := Lib.hid (HBR2.out.trans (hb7.mono HBR2.out.size)); have HJ7 := Lib.hid (HRES.out.below hb7 HRES.out.lt)) | (refine wpList_store_blk (P := Tryz.prog) rfl 50 (.tmp 2) (.tmp 80) rfl w.heap.size #[.int .i64 0, .int .i64 0, .int .u8 0, .string ⟨#[]⟩, .string ⟨#[]⟩, .int .i64 0] #[.int .i64 0, .int .i64 0, .int .u8 0, .string ⟨#[]⟩, .string ⟨#[]⟩, .int .i64 0] rfl rfl HJ7.out rfl info50s (by intro v hv; simp at hv; rcases hv with rfl | rfl | rfl | rfl | rfl | rfl <;> rfl) ?_; intro W8 k8 f8))
          refine bodyPost_ret (results_row rfl _ _ w.heap.size (#[.int .i64 0, .int .i64 0, .int .u8 0, .string ⟨#[]⟩, .string ⟨#[]⟩, .int .i64 0] : Array Value).toList _ rfl k8.range Tryz.underlying50 rfl info50s) rfl ?_
          exact read_zero HR2.out (f8.bel _ _ (Nat.le_refl _) HB7.out)
end Go.Proofs.YtkfeagokmcakgaaGreatDoor
