/- giornatalaw06.PigmentStates (fn 7): its walk. Printed by gen_k8.py. -/
import Derived.Test.YtkfeagokmcakgaaGreatDoorG02
import Derived.Test.YtkfeagokmcakgaaGreatDoorG07
import Derived.Test.YtkfeagokmcakgaaGreatDoorG17
import Derived.Test.YtkfeagokmcakgaaGreatDoorG28

set_option linter.unusedVariables false
set_option linter.unusedSimpArgs false

namespace Go.Proofs.YtkfeagokmcakgaaGreatDoor
open Go.RowKit

set_option maxHeartbeats 1000000 in
set_option maxRecDepth 100000 in
theorem lawStates_any (l : List Rul) (A : Option Addr) (c : Nat) (known : Int) (x : ByteArray) (w : World) (hg : Glob w)
    (hl : Lies w w.heap.size A (rulesC l)) (hc : l.length ≤ c ∧ c ≤ maxLen) (hlw : ∀ r ∈ l, (r.x.size ≤ maxLen ∧ r.y.size ≤ maxLen) ∧ (0 ≤ r.kind ∧ r.kind ≤ 255)) (hx : x.size ≤ maxLen) :
    Calls Tryz.prog 7 #[.agg #[.slice A l.length c], .int .i64 known, .string x] w (fun e w' => e = .returned (.bool true) ∧ Below w.heap.size w w') := by
  have HW : Hid (Below w.heap.size w (w.alloc (.cells #[.slice A l.length c] 25))) := (Below.refl _ _).alloc (Nat.le_refl _) _
  have HK0 : Hid (Bk (w.alloc (.cells #[.slice A l.length c] 25)) w.heap.size 25 #[.slice A l.length c]) := Bk.new _ _ _
  have HL : Hid (∀ V, Below (w.alloc (.cells #[.slice A l.length c] 25)).heap.size (w.alloc (.cells #[.slice A l.length c] 25)) V → Lies V V.heap.size A (rulesC l)) := fun V hV => lies_on hl (HW.out.trans (hV.mono HW.out.size))
  have HR : Hid (∀ V, Below (w.alloc (.cells #[.slice A l.length c] 25)).heap.size (w.alloc (.cells #[.slice A l.length c] 25)) V → Calls Tryz.prog 17 #[] V (fun e w' => e = .returned (.bool true) ∧ Below V.heap.size V w')) := fun V hV => ruled_any V (hg.step (HW.out.trans (hV.mono HW.out.size)))
  go_enter Tryz.func7, Tryz.ntmps7
  go_upto_region 1 with fail
  have hBW0 : Below (w.alloc (.cells #[.slice A l.length c] 25)).heap.size (w.alloc (.cells #[.slice A l.length c] 25)) (w.alloc (.cells #[.slice A l.length c] 25)) := Below.refl _ _
  have HY : Hid (∀ V, Below (w.alloc (.cells #[.slice A l.length c] 25)).heap.size (w.alloc (.cells #[.slice A l.length c] 25)) V → V.cell? ⟨w.heap.size, 0, none⟩ = some (.slice A l.length c)) := fun V hV => (HK0.out.below hV HK0.out.lt).cell 0 rfl
  clear hg hl HK0
  generalize (w.alloc (.cells #[.slice A l.length c] 25)) = W0 at *
  have y0 := HY.out W0 hBW0
  generalize hb0 : w.heap.size = b0 at *
  have HSM : Hid (∀ V, Below W0.heap.size W0 V → Calls Tryz.prog 22 #[.agg #[.slice A l.length c]] V (ShEnd (smallB l) V)) := fun V hV => small_any l A c V (HL.out V hV) (fun r hr => (hlw r hr).1) (Nat.le_trans hc.1 hc.2)
  have hz2 : (x.size : Int) ≤ 9223372036854775807 := by unfold maxLen at hx; omega
  clear hx
  cases hsm : smallB l
  · rw [hsm] at HSM
    clear HL hsm
    go_wp2_with (first | (go_at_call 22; refine (HSM.out _ (by assumption)).mono ?_; rintro e w1 ⟨rfl, hb⟩; have hBw1 : Below W0.heap.size W0 w1 := Below.trans (by assumption) (hb.mono (Below.size (by assumption))); have yw1 := HY.out w1 hBw1; clear hb) | (go_at_call 17; refine (HR.out _ (by assumption)).mono ?_; rintro e z ⟨rfl, hb⟩; have hBz : Below W0.heap.size W0 z := Below.trans (by assumption) (hb.mono (Below.size (by assumption))); clear hb))
    go_ret
    subst hb0; exact ⟨rfl, HW.out.trans (hBz.mono (by have := HW.out.size; omega))⟩
  rw [hsm] at HSM
  have hO := small_ok hsm (fun r hr => (hlw r hr).2)
  clear hsm hlw
  by_cases hxs : x.size ≤ 60
  case neg =>
    have h152 : (60 : Int) < (x.size : Int) := by omega
    clear HL
    go_wp2_with (first | (go_at_call 22; refine (HSM.out _ (by assumption)).mono ?_; rintro e w1 ⟨rfl, hb⟩; have hBw1 : Below W0.heap.size W0 w1 := Below.trans (by assumption) (hb.mono (Below.size (by assumption))); have yw1 := HY.out w1 hBw1; clear hb) | (go_at_call 17; refine (HR.out _ (by assumption)).mono ?_; rintro e z ⟨rfl, hb⟩; have hBz : Below W0.heap.size W0 z := Below.trans (by assumption) (hb.mono (Below.size (by assumption))); clear hb))
    go_ret
    subst hb0; exact ⟨rfl, HW.out.trans (hBz.mono (by have := HW.out.size; omega))⟩
  have h152 : ¬ (60 : Int) < (x.size : Int) := by omega
  have hcl : (cntL l known).length ≤ 1000 := Nat.le_trans (cnt_len l known) (by have := hO.2; omega)
  have HC1 : Hid (∀ V, Below W0.heap.size W0 V → Calls Tryz.prog 38 #[.agg #[.slice A l.length c], .int .i64 known] V (SlE (cntL l known) V)) := fun V hV => counting_any l A c known V (HL.out V hV) hO.1 (by have := hO.2; omega)
  have HC2 : Hid (∀ V, Below W0.heap.size W0 V → Calls Tryz.prog 39 #[.agg #[.slice A l.length c], .int .i64 known] V (SlE (cntL l known) V)) := fun V hV => rcounting_any l A c known V (HL.out V hV) hO.1 (by have := hO.2; omega)
  have HG1 : Hid (∀ V, Below W0.heap.size W0 V → Calls Tryz.prog 41 #[.agg #[.slice A l.length c], .int .i64 known, .string x] V (GpE (inG (cntL l known) x) V)) := fun V hV => Groups_any l A c known x V (HL.out V hV) hO.1 (by have := hO.2; omega) (by omega)
  have HG2 : Hid (∀ V, Below W0.heap.size W0 V → Calls Tryz.prog 42 #[.agg #[.slice A l.length c], .int .i64 known, .string x] V (GpE (inG (cntL l known) x) V)) := fun V hV => rGroups_any l A c known x V (HL.out V hV) hO.1 (by have := hO.2; omega) (by omega)
  have HT1 : Hid (∀ V, Below W0.heap.size W0 V → Calls Tryz.prog 25 #[.agg #[.slice A l.length c], .int .i64 known, .string x] V (U8End (stt (cntL l known) x) V)) := fun V hV => State_any l A c known x V (HL.out V hV) hO.1 (by have := hO.2; omega) (by omega)
  have HT2 : Hid (∀ V, Below W0.heap.size W0 V → Calls Tryz.prog 43 #[.agg #[.slice A l.length c], .int .i64 known, .string x] V (U8End (stt (cntL l known) x) V)) := fun V hV => rState_any l A c known x V (HL.out V hV) hO.1 (by have := hO.2; omega)
  have HY1 : Hid (∀ V, Below W0.heap.size W0 V → Calls Tryz.prog 44 #[.agg #[.slice A l.length c], .int .i64 known, .string x] V (IsE (whyL (cntL l known) x) V)) := fun V hV => why_any l A c known x V (HL.out V hV) hO.1 (by have := hO.2; omega) (by omega)
  have HY2 : Hid (∀ V, Below W0.heap.size W0 V → Calls Tryz.prog 45 #[.agg #[.slice A l.length c], .int .i64 known, .string x] V (WhE (sayP (cntL l known) x) V)) := fun V hV => rwhy_any l A c known x V (HL.out V hV) hO.1 (by have := hO.2; omega)
  have HWA := Lib.hid (why_asc (cntL l known) x)
  clear HL hO
  generalize whyL (cntL l known) x = WL at *
  generalize sayP (cntL l known) x = PS at *
  generalize inG (cntL l known) x = PG at *
  generalize stt (cntL l known) x = N at *
  generalize cntL l known = D at *
  unfold SlE at HC1 HC2
  unfold GpE at HG1 HG2
  unfold IsE at HY1
  unfold WhE at HY2
  go_upto_region 3 with (first | (go_at_call 22; refine (HSM.out _ (by assumption)).mono ?_; rintro e w1 ⟨rfl, hb⟩; have hBw1 : Below W0.heap.size W0 w1 := Below.trans (by assumption) (hb.mono (Below.size (by assumption))); have yw1 := HY.out w1 hBw1; clear hb))
  have e6 : ((N : Int) == (N : Int)) = true := by simp
  clear h152 HSM
  refine wp_region_held_drew (S := fun V => V.cell? ⟨b0, 0, none⟩ = some (.slice A l.length c)) (by kernel_rfl) ?_ (fun hHeld => ?_)
  · exact HY.out _ hBw1.drew
  have hBd : Below W0.heap.size W0 w1.drew := hBw1.drew
  (refine held_call 0 (some 16) 17 _ rfl (by kernel_rfl) (by rfl) ?_ ((HR.out _ hBd)) ?_; rotate_left; rotate_left; (simp only [List.getElem?_toArray, List.getElem?_cons_zero, List.getElem?_cons_succ, Option.map_some]; refine congrArg some ?_; go_simp))
  rintro e u1 ⟨rfl, hb⟩
  have hBu1 : Below W0.heap.size W0 u1 := hBd.trans (hb.mono hBd.size)
  clear hb
  refine ⟨_, rfl, HY.out _ hBu1, fun hHeld => ?_⟩
  (try simp only [Act.put, List.setIfInBounds_toArray, List.set_cons_zero, List.set_cons_succ])
  refine tk 1 17 ?_
  refine tk 2 18 ?_
  refine tk 3 19 ?_
  refine tk 5 21 ?_
  refine tk 6 22 ?_
  (refine held_call 4 (some 20) 38 _ rfl (by kernel_rfl) (by rfl) ?_ ((HC1.out _ hBu1)) ?_; rotate_left; rotate_left; (simp only [List.getElem?_toArray, List.getElem?_cons_zero, List.getElem?_cons_succ, Option.map_some]; refine congrArg some ?_; go_simp))
  rintro e u2 ⟨A1, c1, rfl, l1, _, hb⟩
  have hBu2 : Below W0.heap.size W0 u2 := hBu1.trans (hb.mono hBu1.size)
  have n1 := Lib.hid l1
  clear l1
  clear hb
  refine ⟨_, rfl, HY.out _ hBu2, fun hHeld => ?_⟩
  (try simp only [Act.put, List.setIfInBounds_toArray, List.set_cons_zero, List.set_cons_succ])
  (refine held_call 7 (some 23) 39 _ rfl (by kernel_rfl) (by rfl) ?_ ((HC2.out _ hBu2)) ?_; rotate_left; rotate_left; (simp only [List.getElem?_toArray, List.getElem?_cons_zero, List.getElem?_cons_succ, Option.map_some]; refine congrArg some ?_; go_simp))
  rintro e u3 ⟨A2, c2, rfl, l2, _, hb⟩
  have hBu3 : Below W0.heap.size W0 u3 := hBu2.trans (hb.mono hBu2.size)
  have n2 := Lib.hid l2
  clear l2
  have n1 := Lib.hid (lies_on n1.out hb)
  clear hb
  refine ⟨_, rfl, HY.out _ hBu3, fun hHeld => ?_⟩
  (try simp only [Act.put, List.setIfInBounds_toArray, List.set_cons_zero, List.set_cons_succ])
  (refine held_call 8 (some 24) 20 _ rfl (by kernel_rfl) (by rfl) ?_ ((sameRules_any D A1 A2 c1 c2 _ n1.out n2.out (by omega))) ?_; rotate_left; rotate_left; (simp only [List.getElem?_toArray, List.getElem?_cons_zero, List.getElem?_cons_succ, Option.map_some]; refine congrArg some ?_; go_simp))
  rintro e u4 ⟨rfl, hb⟩
  have hBu4 : Below W0.heap.size W0 u4 := hBu3.trans (hb.mono hBu3.size)
  clear n1 n2
  clear hb
  refine ⟨_, rfl, HY.out _ hBu4, fun hHeld => ?_⟩
  (try simp only [Act.put, List.setIfInBounds_toArray, List.set_cons_zero, List.set_cons_succ])
  refine tk 9 25 ?_
  refine tk 10 26 ?_
  refine tk 11 27 ?_
  refine tk 12 28 ?_
  refine tk 13 29 ?_
  refine tk 15 31 ?_
  refine tk 16 32 ?_
  refine tk 17 33 ?_
  (refine held_call 14 (some 30) 41 _ rfl (by kernel_rfl) (by rfl) ?_ ((HG1.out _ hBu4)) ?_; rotate_left; rotate_left; (simp only [List.getElem?_toArray, List.getElem?_cons_zero, List.getElem?_cons_succ, Option.map_some]; refine congrArg some ?_; go_simp))
  rintro e u5 ⟨R1, A3, c3, hR1, hRl1, rfl, l1, _, hb⟩
  have hBu5 : Below W0.heap.size W0 u5 := hBu4.trans (hb.mono hBu4.size)
  have n1 := Lib.hid l1
  have p1 := Lib.hid hR1
  clear l1 hR1
  clear hb
  refine ⟨_, rfl, HY.out _ hBu5, fun hHeld => ?_⟩
  (try simp only [Act.put, List.setIfInBounds_toArray, List.set_cons_zero, List.set_cons_succ])
  (refine held_call 18 (some 34) 42 _ rfl (by kernel_rfl) (by rfl) ?_ ((HG2.out _ hBu5)) ?_; rotate_left; rotate_left; (simp only [List.getElem?_toArray, List.getElem?_cons_zero, List.getElem?_cons_succ, Option.map_some]; refine congrArg some ?_; go_simp))
  rintro e u6 ⟨R2, A4, c4, hR2, hRl2, rfl, l2, _, hb⟩
  have hBu6 : Below W0.heap.size W0 u6 := hBu5.trans (hb.mono hBu5.size)
  have hEQ : R1 = R2 := p1.out.uniq hR2
  subst hEQ
  have n2 := Lib.hid l2
  have n1 := Lib.hid (lies_on n1.out hb)
  have HQ : Hid (Calls Tryz.prog 40 #[.slice A3 R1.length c3, .slice A4 R1.length c4] u6 (ShEnd true u6)) := by
    have h := sameStrs_any R1 R1 A3 A4 c3 c4 u6 n1.out n2.out (by omega) (by omega)
    unfold sameS at h; rw [decide_eq_true rfl] at h; exact h
  clear l2 p1 hR2 hRl2 n1 n2 hRl1
  generalize R1.length = m7 at *
  clear hb
  refine ⟨_, rfl, HY.out _ hBu6, fun hHeld => ?_⟩
  (try simp only [Act.put, List.setIfInBounds_toArray, List.set_cons_zero, List.set_cons_succ])
  (refine held_call 19 (some 35) 40 _ rfl (by kernel_rfl) (by rfl) ?_ (HQ.out) ?_; rotate_left; rotate_left; (simp only [List.getElem?_toArray, List.getElem?_cons_zero, List.getElem?_cons_succ, Option.map_some]; refine congrArg some ?_; go_simp))
  rintro e u7 ⟨rfl, hb⟩
  have hBu7 : Below W0.heap.size W0 u7 := hBu6.trans (hb.mono hBu6.size)
  clear HQ
  clear hb
  refine ⟨_, rfl, HY.out _ hBu7, fun hHeld => ?_⟩
  (try simp only [Act.put, List.setIfInBounds_toArray, List.set_cons_zero, List.set_cons_succ])
  refine tk 20 36 ?_
  refine tk 21 37 ?_
  refine tk 22 38 ?_
  refine tk 23 39 ?_
  refine tk 24 40 ?_
  refine tk 26 42 ?_
  refine tk 27 43 ?_
  refine tk 28 44 ?_
  (refine held_call 25 (some 41) 25 _ rfl (by kernel_rfl) (by rfl) ?_ ((HT1.out _ hBu7)) ?_; rotate_left; rotate_left; (simp only [List.getElem?_toArray, List.getElem?_cons_zero, List.getElem?_cons_succ, Option.map_some]; refine congrArg some ?_; go_simp))
  rintro e u8 ⟨rfl, hb⟩
  have hBu8 : Below W0.heap.size W0 u8 := hBu7.trans (hb.mono hBu7.size)
  clear hb
  refine ⟨_, rfl, HY.out _ hBu8, fun hHeld => ?_⟩
  (try simp only [Act.put, List.setIfInBounds_toArray, List.set_cons_zero, List.set_cons_succ])
  (refine held_call 29 (some 45) 43 _ rfl (by kernel_rfl) (by rfl) ?_ ((HT2.out _ hBu8)) ?_; rotate_left; rotate_left; (simp only [List.getElem?_toArray, List.getElem?_cons_zero, List.getElem?_cons_succ, Option.map_some]; refine congrArg some ?_; go_simp))
  rintro e u9 ⟨rfl, hb⟩
  have hBu9 : Below W0.heap.size W0 u9 := hBu8.trans (hb.mono hBu8.size)
  clear hb
  refine ⟨_, rfl, HY.out _ hBu9, fun hHeld => ?_⟩
  (try simp only [Act.put, List.setIfInBounds_toArray, List.set_cons_zero, List.set_cons_succ])
  refine tk 30 46 ?_
  refine tk 31 47 ?_
  refine tk 32 48 ?_
  refine tk 33 49 ?_
  refine tk 34 50 ?_
  refine tk 35 51 ?_
  refine tk 37 53 ?_
  refine tk 38 54 ?_
  refine tk 39 55 ?_
  (refine held_call 36 (some 52) 44 _ rfl (by kernel_rfl) (by rfl) ?_ ((HY1.out _ hBu9)) ?_; rotate_left; rotate_left; (simp only [List.getElem?_toArray, List.getElem?_cons_zero, List.getElem?_cons_succ, Option.map_some]; refine congrArg some ?_; go_simp))
  rintro e u10 ⟨A5, c5, rfl, l1, _, hb⟩
  have hBu10 : Below W0.heap.size W0 u10 := hBu9.trans (hb.mono hBu9.size)
  have n1 := Lib.hid l1
  clear l1
  clear hb
  refine ⟨_, rfl, HY.out _ hBu10, fun hHeld => ?_⟩
  (try simp only [Act.put, List.setIfInBounds_toArray, List.set_cons_zero, List.set_cons_succ])
  (refine held_call 40 (some 56) 45 _ rfl (by kernel_rfl) (by rfl) ?_ ((HY2.out _ hBu10)) ?_; rotate_left; rotate_left; (simp only [List.getElem?_toArray, List.getElem?_cons_zero, List.getElem?_cons_succ, Option.map_some]; refine congrArg some ?_; go_simp))
  rintro e u11 ⟨R3, A6, c6, hR3, hRl3, rfl, l2, hb⟩
  have hBu11 : Below W0.heap.size W0 u11 := hBu10.trans (hb.mono hBu10.size)
  have hEQ : WL = R3 := HWA.out.uniq hR3
  subst hEQ
  have n2 := Lib.hid l2
  have n1 := Lib.hid (lies_on n1.out hb)
  have HQ : Hid (Calls Tryz.prog 33 #[.slice A5 WL.length c5, .slice A6 WL.length c6] u11 (ShEnd true u11)) := by
    have h := sameInts_any WL WL A5 A6 c5 c6 u11 n1.out n2.out (by omega) (by omega)
    unfold sameB at h; rw [decide_eq_true rfl] at h; exact h
  clear l2 HWA hR3 n1 n2 hRl3 HY1 HY2
  generalize WL.length = m8 at *
  clear hb
  refine ⟨_, rfl, HY.out _ hBu11, fun hHeld => ?_⟩
  (try simp only [Act.put, List.setIfInBounds_toArray, List.set_cons_zero, List.set_cons_succ])
  (refine held_call 41 (some 57) 33 _ rfl (by kernel_rfl) (by rfl) ?_ (HQ.out) ?_; rotate_left; rotate_left; (simp only [List.getElem?_toArray, List.getElem?_cons_zero, List.getElem?_cons_succ, Option.map_some]; refine congrArg some ?_; go_simp))
  rintro e u12 ⟨rfl, hb⟩
  have hBu12 : Below W0.heap.size W0 u12 := hBu11.trans (hb.mono hBu11.size)
  clear HQ
  clear hb
  refine ⟨_, rfl, HY.out _ hBu12, fun hHeld => ?_⟩
  (try simp only [Act.put, List.setIfInBounds_toArray, List.set_cons_zero, List.set_cons_succ])
  refine tk 42 58 ?_
  refine tk 43 6 ?_
  refine wpAnyH_done (by kernel_rfl) ?_ _
  go_wp2
  go_ret
  subst hb0
  exact ⟨rfl, HW.out.trans (hBu12.mono (by have := HW.out.size; omega))⟩
end Go.Proofs.YtkfeagokmcakgaaGreatDoor

namespace Go.Proofs.YtkfeagokmcakgaaGreatDoor
open Go.ChangeShapes Go.WideShapes Go.ChangeAt Go.RowKit Go.Deep

set_option maxHeartbeats 20000000 in
set_option maxRecDepth 100000 in
theorem states_facts : joinedFacts Tryz.prog 7 Tryz.f7 Rows.pigmentStatesSpec Rows.pigmentStatesRow = true := by
  unfold joinedFacts
  simp only [Bool.and_eq_true]
  repeat' (refine And.intro ?_ ?_)
  all_goals (as_aux_lemma => kernel_rfl)
end Go.Proofs.YtkfeagokmcakgaaGreatDoor
