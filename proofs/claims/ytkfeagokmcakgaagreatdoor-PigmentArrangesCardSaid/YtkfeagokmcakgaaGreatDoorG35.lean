/- giornatalaw06.PigmentArranges (fn 13): its walk. -/
import Derived.Test.YtkfeagokmcakgaaGreatDoorG02
import Derived.Test.YtkfeagokmcakgaaGreatDoorG07
import Derived.Test.YtkfeagokmcakgaaGreatDoorG17
import Derived.Test.YtkfeagokmcakgaaGreatDoorG34

set_option linter.unusedVariables false
set_option linter.unusedSimpArgs false

namespace Go.Proofs.YtkfeagokmcakgaaGreatDoor
open Go.RowKit

theorem arr_len (d : List Rul) (cols : List ByteArray) : (arr d cols).1.length ≤ cols.length := by
  unfold arr
  split
  · split
    · simp
    · rename_i L e
      obtain ⟨h1, t, rfl, ht⟩ := ords_sound cols.length [] L ord_nil e
      simp [ht]
  · simp
theorem stk_len (d : List Rul) (cols : List ByteArray) : (stk d cols).1.length ≤ cols.length := by
  unfold stk
  split
  · split
    · simp
    · rename_i L e
      obtain ⟨h1, _⟩ := stk_sound e
      have := nodup_len _ (List.range cols.length) h1.nd fun z hz => by simpa using h1.lt z hz
      rw [List.length_range] at this
      simpa using this
  · simp
set_option maxHeartbeats 1000000 in
set_option maxRecDepth 100000 in
theorem lawArranges_any (l : List Rul) (A : Option Addr) (c : Nat) (known : Int) (col : List ByteArray) (Ac : Option Addr) (cc : Nat) (w : World) (hg : Glob w) (hl : Lies w w.heap.size A (rulesC l)) (hc : l.length ≤ c ∧ c ≤ maxLen)
    (hlw : ∀ r ∈ l, (r.x.size ≤ maxLen ∧ r.y.size ≤ maxLen) ∧ (0 ≤ r.kind ∧ r.kind ≤ 255)) (hlc : Lies w w.heap.size Ac (strsC col)) (hcs : ∀ s ∈ col, s.size ≤ maxLen) (hcc : col.length ≤ cc ∧ cc ≤ maxLen) :
    Calls Tryz.prog 13 #[.agg #[.slice A l.length c], .int .i64 known, .slice Ac col.length cc] w (fun e w' => e = .returned (.bool true) ∧ Below w.heap.size w w') := by
  have HW : Hid (Below w.heap.size w (w.alloc (.cells #[.slice A l.length c] 25))) := (Below.refl _ _).alloc (Nat.le_refl _) _
  have HK0 : Hid (Bk (w.alloc (.cells #[.slice A l.length c] 25)) w.heap.size 25 #[.slice A l.length c]) := Bk.new _ _ _
  have HL : Hid (∀ V, Below (w.alloc (.cells #[.slice A l.length c] 25)).heap.size (w.alloc (.cells #[.slice A l.length c] 25)) V → Lies V V.heap.size A (rulesC l)) := fun V hV => lies_on hl (HW.out.trans (hV.mono HW.out.size))
  have HC : Hid (∀ V, Below (w.alloc (.cells #[.slice A l.length c] 25)).heap.size (w.alloc (.cells #[.slice A l.length c] 25)) V → Lies V V.heap.size Ac (strsC col)) := fun V hV => lies_on hlc (HW.out.trans (hV.mono HW.out.size))
  have HR : Hid (∀ V, Below (w.alloc (.cells #[.slice A l.length c] 25)).heap.size (w.alloc (.cells #[.slice A l.length c] 25)) V → Calls Tryz.prog 17 #[] V (fun e w' => e = .returned (.bool true) ∧ Below V.heap.size V w')) := fun V hV => ruled_any V (hg.step (HW.out.trans (hV.mono HW.out.size)))
  go_enter Tryz.func13, Tryz.ntmps13
  go_upto_region 1 with fail
  have hBW0 : Below (w.alloc (.cells #[.slice A l.length c] 25)).heap.size (w.alloc (.cells #[.slice A l.length c] 25)) (w.alloc (.cells #[.slice A l.length c] 25)) := Below.refl _ _
  have HY : Hid (∀ V, Below (w.alloc (.cells #[.slice A l.length c] 25)).heap.size (w.alloc (.cells #[.slice A l.length c] 25)) V → V.cell? ⟨w.heap.size, 0, none⟩ = some (.slice A l.length c)) := fun V hV => (HK0.out.below hV HK0.out.lt).cell 0 rfl
  clear hg hl hlc HK0
  generalize (w.alloc (.cells #[.slice A l.length c] 25)) = W0 at *
  have y0 := HY.out W0 hBW0
  generalize hb0 : w.heap.size = b0 at *
  have HSM : Hid (∀ V, Below W0.heap.size W0 V → Calls Tryz.prog 22 #[.agg #[.slice A l.length c]] V (ShEnd (smallB l) V)) := fun V hV => small_any l A c V (HL.out V hV) (fun r hr => (hlw r hr).1) (Nat.le_trans hc.1 hc.2)
  have HBR : Hid (∀ V, Below W0.heap.size W0 V → Calls Tryz.prog 23 #[.slice Ac col.length cc, .int .i64 12] V (ShEnd (briefB col 12) V)) := fun V hV => brief_any col Ac cc 12 V (HC.out V hV) hcs (Nat.le_trans hcc.1 hcc.2)
  have HEND : Hid (∀ V, Below W0.heap.size W0 V → Below w.heap.size w V) := fun V hV => by subst hb0; exact HW.out.trans (hV.mono (by have := HW.out.size; omega))
  clear hb0
  cases hsm : smallB l
  · rw [hsm] at HSM
    clear HBR HC HL hsm
    go_wp2_with (first | (go_at_call 22; refine (HSM.out _ (by assumption)).mono ?_; rintro e w1 ⟨rfl, hb⟩; have hBw1 : Below W0.heap.size W0 w1 := Below.trans (by assumption) (hb.mono (Below.size (by assumption))); have yw1 := HY.out w1 hBw1; clear hb) | (go_at_call 17; refine (HR.out _ (by assumption)).mono ?_; rintro e z ⟨rfl, hb⟩; have hBz : Below W0.heap.size W0 z := Below.trans (by assumption) (hb.mono (Below.size (by assumption))); clear hb))
    go_ret
    exact ⟨rfl, HEND.out _ hBz⟩
  rw [hsm] at HSM
  have hO := small_ok hsm (fun r hr => (hlw r hr).2)
  clear hsm hlw
  cases hbr : briefB col 12
  · rw [hbr] at HBR
    clear HC HL hbr hO
    go_wp2_with (first | (go_at_call 22; refine (HSM.out _ (by assumption)).mono ?_; rintro e w1 ⟨rfl, hb⟩; have hBw1 : Below W0.heap.size W0 w1 := Below.trans (by assumption) (hb.mono (Below.size (by assumption))); have yw1 := HY.out w1 hBw1; clear hb) | (go_at_call 23; refine (HBR.out _ (by assumption)).mono ?_; rintro e w2 ⟨rfl, hb⟩; have hBw2 : Below W0.heap.size W0 w2 := Below.trans (by assumption) (hb.mono (Below.size (by assumption))); have yw2 := HY.out w2 hBw2; clear hb) | (go_at_call 17; refine (HR.out _ (by assumption)).mono ?_; rintro e z ⟨rfl, hb⟩; have hBz : Below W0.heap.size W0 z := Below.trans (by assumption) (hb.mono (Below.size (by assumption))); clear hb))
    go_ret
    exact ⟨rfl, HEND.out _ hBz⟩
  rw [hbr] at HBR
  have hB := brief_ok hbr
  clear hbr
  have h12 : col.length ≤ 12 := by have := hB.2; omega
  have HA1 : Hid (∀ V, Below W0.heap.size W0 V → Calls Tryz.prog 54 #[.agg #[.slice A l.length c], .int .i64 known, .slice Ac col.length cc] V (SnE (arr (cntL l known) col) V)) := fun V hV => arrange_any l A c known col Ac cc V (HL.out V hV) hO.1 (by have := hO.2; omega) (HC.out V hV) hB.1 (by omega) hcc
  have HA2 : Hid (∀ V, Below W0.heap.size W0 V → Calls Tryz.prog 55 #[.agg #[.slice A l.length c], .int .i64 known, .slice Ac col.length cc] V (SnE (arr (cntL l known) col) V)) := fun V hV => rarrange_any l A c known col Ac cc V (HL.out V hV) hO.1 (by have := hO.2; omega) (HC.out V hV) (by omega) hcc
  have HS1 : Hid (∀ V, Below W0.heap.size W0 V → Calls Tryz.prog 56 #[.agg #[.slice A l.length c], .int .i64 known, .slice Ac col.length cc] V (SnE (stk (cntL l known) col) V)) := fun V hV => stuck_any l A c known col Ac cc V (HL.out V hV) hO.1 (by have := hO.2; omega) (HC.out V hV) hB.1 (by omega) hcc
  have HS2 : Hid (∀ V, Below W0.heap.size W0 V → Calls Tryz.prog 57 #[.agg #[.slice A l.length c], .int .i64 known, .slice Ac col.length cc] V (SnE (stk (cntL l known) col) V)) := fun V hV => rstuck_any l A c known col Ac cc V (HL.out V hV) hO.1 (by have := hO.2; omega) (HC.out V hV) (by omega) hcc
  have hn1 := arr_len (cntL l known) col
  have hn2 := stk_len (cntL l known) col
  clear hO hB HL HC hcs
  unfold SnE at HA1 HA2 HS1 HS2
  generalize arr (cntL l known) col = R1 at *
  generalize stk (cntL l known) col = R2 at *
  have HQQ : Hid (∀ (F : List ByteArray) (a b : Option Addr) (p q : Nat) (V : World), Lies V V.heap.size a (strsC F) → Lies V V.heap.size b (strsC F) → F.length ≤ 1000000 → Calls Tryz.prog 40 #[.slice a F.length p, .slice b F.length q] V (ShEnd true V)) := fun F a b p q V h1 h2 h3 => by
    have h := sameStrs_any F F a b p q V h1 h2 h3 h3
    unfold sameS at h; rw [decide_eq_true rfl] at h; exact h
  obtain ⟨F1, r1, k1⟩ := R1
  obtain ⟨F2, r2, k2⟩ := R2
  dsimp only at *
  have e1 : (r1 == r1) = true := by simp
  have e2 : (k1 == k1) = true := by simp
  have e3 : (r2 == r2) = true := by simp
  have e4 : (k2 == k2) = true := by simp
  go_upto_region 4 with (first | (go_at_call 22; refine (HSM.out _ (by assumption)).mono ?_; rintro e w1 ⟨rfl, hb⟩; have hBw1 : Below W0.heap.size W0 w1 := Below.trans (by assumption) (hb.mono (Below.size (by assumption))); have yw1 := HY.out w1 hBw1; clear hb) | (go_at_call 23; refine (HBR.out _ (by assumption)).mono ?_; rintro e w2 ⟨rfl, hb⟩; have hBw2 : Below W0.heap.size W0 w2 := Below.trans (by assumption) (hb.mono (Below.size (by assumption))); have yw2 := HY.out w2 hBw2; clear hb) | (go_at_call 54; refine (HA1.out _ (by assumption)).mono ?_; rintro e w3 ⟨A1, c1, rfl, l1, _, hb⟩; have hBw3 : Below W0.heap.size W0 w3 := Below.trans (by assumption) (hb.mono (Below.size (by assumption))); have yw3 := HY.out w3 hBw3; clear hb))
  have HX1 : Hid (∀ V, Below w3.heap.size w3 V → Lies V V.heap.size A1 (strsC F1)) := fun V hV => lies_on l1 hV
  clear l1 HSM HBR HA1 y0 hBW0
  go_upto_region 5 with (go_at_call 55; refine (HA2.out _ hBw3).mono ?_; rintro e w4 ⟨B1, d1, rfl, l1, _, hb4⟩; have hBw4 := hBw3.trans (hb4.mono hBw3.size); have yw4 := HY.out w4 hBw4)
  have HQ1 : Hid (∀ V, Below w4.heap.size w4 V → Calls Tryz.prog 40 #[.slice A1 F1.length c1, .slice B1 F1.length d1] V (ShEnd true V)) := fun V hV => HQQ.out F1 A1 B1 c1 d1 V (lies_on (HX1.out _ hb4) hV) (lies_on l1 hV) (by omega)
  clear l1 HX1 HA2 hb4 yw3 hBw3
  go_upto_region 6 with (go_at_call 56; refine (HS1.out _ hBw4).mono ?_; rintro e w5 ⟨A2, c2, rfl, l2, _, hb5⟩; have hBw5 := hBw4.trans (hb5.mono hBw4.size); have yw5 := HY.out w5 hBw5)
  have HQ1 := Lib.hid (fun V (hV : Below w5.heap.size w5 V) => HQ1.out V (hb5.trans (hV.mono hb5.size)))
  have HX2 : Hid (∀ V, Below w5.heap.size w5 V → Lies V V.heap.size A2 (strsC F2)) := fun V hV => lies_on l2 hV
  clear l2 HS1 hb5 yw4 hBw4
  go_upto_region 7 with (go_at_call 57; refine (HS2.out _ hBw5).mono ?_; rintro e w6 ⟨B2, d2, rfl, l2, _, hb6⟩; have hBw6 := hBw5.trans (hb6.mono hBw5.size))
  have HQ1 := Lib.hid (fun V (hV : Below w6.heap.size w6 V) => HQ1.out V (hb6.trans (hV.mono hb6.size)))
  have HQ2 : Hid (∀ V, Below w6.heap.size w6 V → Calls Tryz.prog 40 #[.slice A2 F2.length c2, .slice B2 F2.length d2] V (ShEnd true V)) := fun V hV => HQQ.out F2 A2 B2 c2 d2 V (lies_on (HX2.out _ hb6) hV) (lies_on l2 hV) (by omega)
  have HR := Lib.hid (fun V (hV : Below w6.heap.size w6 V) => HR.out V (hBw6.trans (hV.mono hBw6.size)))
  have HEND := Lib.hid (fun V (hV : Below w6.heap.size w6 V) => HEND.out V (hBw6.trans (hV.mono hBw6.size)))
  have hB6 : Below w6.heap.size w6 w6 := Below.refl _ _
  clear l2 HX2 HS2 hb6 yw5 hBw5 hBw6 HQQ hn1 hn2 HY
  generalize F1.length = f1 at *
  generalize F2.length = f2 at *
  go_wp2_with (first | (go_at_call 17; refine (HR.out _ hB6).mono ?_; rintro e w7 ⟨rfl, hb⟩; have hBw9 : Below w6.heap.size w6 w7 := hB6.trans (hb.mono hB6.size); clear hb hB6 HR) | (go_at_call 40; refine (HQ1.out _ hBw9).mono ?_; rintro e w8 ⟨rfl, hb⟩; have hBw10 : Below w6.heap.size w6 w8 := hBw9.trans (hb.mono hBw9.size); clear hb hBw9 HQ1) | (go_at_call 40; refine (HQ2.out _ hBw10).mono ?_; rintro e w9 ⟨rfl, hb⟩; have hBw11 : Below w6.heap.size w6 w9 := hBw10.trans (hb.mono hBw10.size); clear hb hBw10 HQ2))
  go_ret
  exact ⟨rfl, HEND.out _ hBw11⟩
end Go.Proofs.YtkfeagokmcakgaaGreatDoor

namespace Go.Proofs.YtkfeagokmcakgaaGreatDoor
open Go.ChangeShapes Go.WideShapes Go.ChangeAt Go.RowKit Go.Deep

set_option maxHeartbeats 20000000 in
set_option maxRecDepth 100000 in
theorem arranges_facts : joinedFacts Tryz.prog 13 Tryz.f13 Rows.pigmentArrangesSpec Rows.pigmentArrangesRow = true := by
  unfold joinedFacts
  simp only [Bool.and_eq_true]
  repeat' (refine And.intro ?_ ?_)
  all_goals (as_aux_lemma => kernel_rfl)
end Go.Proofs.YtkfeagokmcakgaaGreatDoor
