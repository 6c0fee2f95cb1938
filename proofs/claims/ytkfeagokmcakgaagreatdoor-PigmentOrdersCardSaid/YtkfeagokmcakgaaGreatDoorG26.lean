/- The plain law of PigmentOrders. -/
import Derived.Test.YtkfeagokmcakgaaGreatDoorG02
import Derived.Test.YtkfeagokmcakgaaGreatDoorG07
import Derived.Test.YtkfeagokmcakgaaGreatDoorG17
import Derived.Test.YtkfeagokmcakgaaGreatDoorG25

set_option linter.unusedVariables false
set_option linter.unusedSimpArgs false

namespace Go.Proofs.YtkfeagokmcakgaaGreatDoor
open Go.RowKit

theorem barM_irr (d : List Rul) (cols : List ByteArray) (i : Nat) : barM d cols i i = false := by
  unfold barM; simp
theorem barM_true {d : List Rul} {cols : List ByteArray} {i k : Nat} (h : barM d cols i k = true) : (barL d 4 (colAt cols i) (colAt cols k) false).1 = false := by
  unfold barM at h
  simp only [Bool.and_eq_true, Bool.not_eq_true'] at h
  exact h.2.2.2
theorem barM_false {d : List Rul} {cols : List ByteArray} {i k : Nat} (hi : i < cols.length) (hk : k < cols.length) (hne : i ≠ k) (h : barM d cols i k = false) : (barL d 4 (colAt cols i) (colAt cols k) false).1 = true := by
  unfold barM at h
  rw [decide_eq_true hi, decide_eq_true hk, decide_eq_true hne] at h
  simpa using h
theorem colAt_get {cols : List ByteArray} {i : Nat} (h : i < cols.length) : colAt cols i = cols[i] := by
  unfold colAt; simp [h]
theorem nodup_get {α : Type} {l : List α} (h : l.Nodup) {i j : Nat} (hi : i < l.length) (hj : j < l.length) (e : l[i] = l[j]) : i = j := by
  rcases Nat.lt_trichotomy i j with h1 | h1 | h1
  · exact absurd e (List.pairwise_iff_getElem.1 h i j hi hj h1)
  · exact h1
  · exact absurd e.symm (List.pairwise_iff_getElem.1 h j i hj hi h1)
theorem twice_nodup {l : List ByteArray} (h : twiceB l = false) : l.Nodup := by
  refine List.pairwise_iff_getElem.2 fun i j hi hj hij e => ?_
  unfold twiceB at h
  have h1 := List.any_eq_false.1 h j (by simpa using hj)
  rw [List.getElem?_eq_getElem hj] at h1
  simp only [List.any_eq_true, decide_eq_true_eq, not_exists, not_and] at h1
  exact h1 l[i] (List.mem_iff_getElem.2 ⟨i, by simp; omega, by rw [List.getElem_take]⟩) e.symm
/-- names out of others, each once -/
structure NmP (cols l : List ByteArray) : Prop where
  mem : ∀ i (h : i < l.length), l[i] ∈ cols
  one : ∀ i (h : i < l.length), l[i] ∉ l.take i
theorem nmP_map {cols : List ByteArray} (hn : cols.Nodup) {L : List Nat} (h1 : L.Nodup) (h2 : ∀ x ∈ L, x < cols.length) : NmP cols (L.map (colAt cols)) := by
  refine ⟨fun i hi => ?_, fun i hi hm => ?_⟩
  · rw [List.getElem_map]
    have hl : i < L.length := by simpa using hi
    have := h2 _ (List.getElem_mem hl)
    rw [colAt_get this]
    exact List.getElem_mem this
  · have hl : i < L.length := by simpa using hi
    have hLi := h2 _ (List.getElem_mem hl)
    rw [← List.map_take, List.getElem_map] at hm
    obtain ⟨a, ha, e⟩ := List.mem_map.1 hm
    have haL := h2 a (List.mem_of_mem_take ha)
    rw [colAt_get haL, colAt_get hLi] at e
    have hai : a = L[i] := nodup_get hn haL hLi e
    subst hai
    obtain ⟨j, hj, ej⟩ := List.getElem_of_mem ha
    rw [List.getElem_take] at ej
    have hjl : j < i := by have := hj; simp at this; omega
    have := nodup_get h1 _ hl ej
    omega
structure OrdP (d : List Rul) (cols l : List ByteArray) : Prop where
  nm : NmP cols l
  up : ∀ i k (hi : i < l.length) (hk : k < l.length), k < i → (barL d 4 l[i] l[k] false).1 = true
structure CycP (d : List Rul) (cols c : List ByteArray) : Prop where
  nm : NmP cols c
  two : 2 ≤ c.length
  cy : ∀ i (hi : i < c.length) (hj : (i + 1) % c.length < c.length), (barL d 4 c[i] c[(i + 1) % c.length] false).1 = false
theorem ordP_of {d : List Rul} {cols : List ByteArray} {L : List Nat} (hn : cols.Nodup) (h : Ord (barM d cols) cols.length L) : OrdP d cols (L.map (colAt cols)) := by
  refine ⟨nmP_map hn h.nd h.lt, fun i k hi hk hki => ?_⟩
  have hi' : i < L.length := by simpa using hi
  have hk' : k < L.length := by simpa using hk
  rw [List.getElem_map, List.getElem_map]
  refine barM_false (h.lt _ (List.getElem_mem hi')) (h.lt _ (List.getElem_mem hk')) (fun e => ?_) (List.pairwise_iff_getElem.1 h.pw k i hk' hi' hki)
  have := nodup_get h.nd hi' hk' e
  omega
theorem cycP_of {d : List Rul} {cols : List ByteArray} {C : List Nat} (hn : cols.Nodup) (h : Cyc (barM d cols) cols.length C) (h2 : 2 ≤ C.length) : CycP d cols (C.map (colAt cols)) := by
  refine ⟨nmP_map hn h.nd h.lt, by simpa using h2, fun i hi hj => ?_⟩
  have hi' : i < C.length := by simpa using hi
  have hj' : (i + 1) % C.length < C.length := Nat.mod_lt _ (by omega)
  simp only [List.getElem_map, List.length_map]
  refine barM_true ?_
  have hl := lnk_at _ h.lk i (by simp; omega)
  rw [List.getElem_append_left hi'] at hl
  by_cases e : i + 1 < C.length
  · rw [List.getElem_append_left e] at hl
    have e2 : (i + 1) % C.length = i + 1 := Nat.mod_eq_of_lt e
    simp only [e2]
    exact hl
  · have e1 : i + 1 = C.length := by omega
    have e2 : (i + 1) % C.length = 0 := by rw [e1]; exact Nat.mod_self _
    rw [List.getElem_append_right (by omega)] at hl
    simp only [e2]
    have e3 : fst C = C[0] := by unfold fst; simp [List.getD_eq_getElem?_getD, show 0 < C.length by omega]
    simpa [e1, e3] using hl
/-- what Arrange and Stuck answer together -/
theorem arr_stk {d : List Rul} {cols : List ByteArray} (h : stE cols = 0) (hn : cols.Nodup) :
    (∃ l, arr d cols = (l, true, 0) ∧ stk d cols = ([], false, 0) ∧ l.length = cols.length ∧ OrdP d cols l) ∨ (∃ c, arr d cols = ([], false, 0) ∧ stk d cols = (c, true, 0) ∧ CycP d cols c) := by
  have hso := stk_ords (bar := barM d cols) (n := cols.length) (barM_irr d cols)
  unfold arr stk
  rw [if_pos h, if_pos h]
  cases e : ordsF (barM d cols) cols.length cols.length [] with
  | some L =>
    rw [e] at hso
    obtain ⟨h1, t, rfl, ht⟩ := ords_sound cols.length [] L ord_nil e
    have e2 : stkF (barM d cols) cols.length = none := by
      cases e2 : stkF (barM d cols) cols.length with
      | none => rfl
      | some _ => rw [e2] at hso; cases hso
    rw [e2]
    exact .inl ⟨_, rfl, rfl, by simpa using ht, ordP_of hn h1⟩
  | none =>
    rw [e] at hso
    cases e2 : stkF (barM d cols) cols.length with
    | none => rw [e2] at hso; cases hso
    | some C =>
      obtain ⟨h1, h2⟩ := stk_sound e2
      exact .inr ⟨_, rfl, rfl, cycP_of hn h1 h2⟩
theorem arr_bad' {d : List Rul} {cols : List ByteArray} (h : stE cols ≠ 0) : arr d cols = ([], false, stE cols) ∧ stk d cols = ([], false, stE cols) := by
  unfold arr stk
  rw [if_neg h, if_neg h]
  exact ⟨rfl, rfl⟩
end Go.Proofs.YtkfeagokmcakgaaGreatDoor

namespace Go.Proofs.YtkfeagokmcakgaaGreatDoor
open Go.RowKit

structure CycQ (d : List Rul) (cols c : List ByteArray) : Prop where
  nm : NmP cols c
  cy : ∀ i (hi : i < c.length) (hj : (i + 1) % c.length < c.length), (barL d 4 c[i] c[(i + 1) % c.length] false).1 = false
theorem ordP_nil (d : List Rul) (cols : List ByteArray) : OrdP d cols [] := ⟨⟨fun i h => by simp at h, fun i h => by simp at h⟩, fun i k h => by simp at h⟩
theorem cycQ_nil (d : List Rul) (cols : List ByteArray) : CycQ d cols [] := ⟨⟨fun i h => by simp at h, fun i h => by simp at h⟩, fun i h => by simp at h⟩
/-- what Arrange and Stuck answer, in one -/
theorem arr_both {d : List Rul} {cols : List ByteArray} (h : stE cols = 0) (hn : cols.Nodup) : ∃ b l c, arr d cols = (l, b, 0) ∧ stk d cols = (c, !b, 0) ∧ OrdP d cols l ∧ CycQ d cols c ∧ (b = true → l.length = cols.length ∧ c.length = 0) ∧ (b = false → l.length = 0 ∧ 2 ≤ c.length) := by
  rcases arr_stk (d := d) h hn with ⟨l, h1, h2, h3, h4⟩ | ⟨c, h1, h2, h3⟩
  · exact ⟨true, l, [], h1, h2, h4, cycQ_nil d cols, (fun _ => ⟨h3, rfl⟩), (fun h => by cases h)⟩
  · exact ⟨false, [], c, h1, h2, ordP_nil d cols, ⟨h3.nm, h3.cy⟩, (fun h => by cases h), (fun _ => ⟨rfl, h3.two⟩)⟩
theorem nmP_len {cols l : List ByteArray} (h : NmP cols l) (hn : cols.length ≤ 100000) : l.length ≤ 100000 := by
  have hd : l.Nodup := List.pairwise_iff_getElem.2 fun i j hi hj hij e => h.one j hj (List.mem_iff_getElem.2 ⟨i, by simp; omega, by rw [List.getElem_take]; exact e⟩)
  have := nodup_len l cols hd fun z hz => by
    obtain ⟨i, hi, rfl⟩ := List.getElem_of_mem hz
    exact h.mem i hi
  omega
theorem barE_b {P : Bool × Int} {V w' : World} {e : Ending} {b : Bool} (h : BarE P V e w') (hb : P.1 = b) : ∃ z, e = .returned (.tuple #[.bool b, .int .i64 z]) ∧ Below V.heap.size V w' := ⟨P.2, by subst hb; exact h.1, h.2⟩
theorem stE_nodup {cols : List ByteArray} (h : stE cols = 0) : cols.Nodup := by
  refine twice_nodup ?_
  unfold stE at h
  by_cases h8 : 8 < cols.length
  · rw [if_pos h8] at h; omega
  · rw [if_neg h8] at h
    cases ht : twiceB cols with
    | false => rfl
    | true => rw [if_pos ht] at h; omega
set_option maxHeartbeats 2500000 in
set_option maxRecDepth 100000 in
theorem lawOrders_any (l : List Rul) (A : Option Addr) (c : Nat) (known : Int) (col : List ByteArray) (Ac : Option Addr) (cc : Nat) (w : World) (hg : Glob w) (hl : Lies w w.heap.size A (rulesC l)) (hc : l.length ≤ c ∧ c ≤ maxLen)
    (hlw : ∀ r ∈ l, (r.x.size ≤ maxLen ∧ r.y.size ≤ maxLen) ∧ (0 ≤ r.kind ∧ r.kind ≤ 255)) (hlc : Lies w w.heap.size Ac (strsC col)) (hcs : ∀ s ∈ col, s.size ≤ maxLen) (hcc : col.length ≤ cc ∧ cc ≤ maxLen) :
    Calls Tryz.prog 14 #[.agg #[.slice A l.length c], .int .i64 known, .slice Ac col.length cc] w (fun e w' => e = .returned (.bool true) ∧ Below w.heap.size w w') := by
  have HW : Hid (Below w.heap.size w (w.alloc (.cells #[.slice A l.length c] 25))) := (Below.refl _ _).alloc (Nat.le_refl _) _
  have HK0 : Hid (Bk (w.alloc (.cells #[.slice A l.length c] 25)) w.heap.size 25 #[.slice A l.length c]) := Bk.new _ _ _
  have HL : Hid (∀ V, Below (w.alloc (.cells #[.slice A l.length c] 25)).heap.size (w.alloc (.cells #[.slice A l.length c] 25)) V → Lies V V.heap.size A (rulesC l)) := fun V hV => lies_on hl (HW.out.trans (hV.mono HW.out.size))
  have HC : Hid (∀ V, Below (w.alloc (.cells #[.slice A l.length c] 25)).heap.size (w.alloc (.cells #[.slice A l.length c] 25)) V → Lies V V.heap.size Ac (strsC col)) := fun V hV => lies_on hlc (HW.out.trans (hV.mono HW.out.size))
  have HR : Hid (∀ V, Below (w.alloc (.cells #[.slice A l.length c] 25)).heap.size (w.alloc (.cells #[.slice A l.length c] 25)) V → Calls Tryz.prog 17 #[] V (fun e w' => e = .returned (.bool true) ∧ Below V.heap.size V w')) := fun V hV => ruled_any V (hg.step (HW.out.trans (hV.mono HW.out.size)))
  go_enter Tryz.func14, Tryz.ntmps14
  go_upto_region 1 with fail
  have hBW0 : Below (w.alloc (.cells #[.slice A l.length c] 25)).heap.size (w.alloc (.cells #[.slice A l.length c] 25)) (w.alloc (.cells #[.slice A l.length c] 25)) := Below.refl _ _
  have HY : Hid (∀ V, Below (w.alloc (.cells #[.slice A l.length c] 25)).heap.size (w.alloc (.cells #[.slice A l.length c] 25)) V → V.cell? ⟨w.heap.size, 0, none⟩ = some (.slice A l.length c)) := fun V hV => (HK0.out.below hV HK0.out.lt).cell 0 rfl
  clear hg hl hlc HK0
  generalize (w.alloc (.cells #[.slice A l.length c] 25)) = W0 at *
  have y0 := HY.out W0 hBW0
  generalize hb0 : w.heap.size = b0 at *
  have HSM : Hid (∀ V, Below W0.heap.size W0 V → Calls Tryz.prog 22 #[.agg #[.slice A l.length c]] V (ShEnd (smallB l) V)) := fun V hV => small_any l A c V (HL.out V hV) (fun r hr => (hlw r hr).1) (Nat.le_trans hc.1 hc.2)
  have HBR : Hid (∀ V, Below W0.heap.size W0 V → Calls Tryz.prog 23 #[.slice Ac col.length cc, .int .i64 8] V (ShEnd (briefB col 8) V)) := fun V hV => brief_any col Ac cc 8 V (HC.out V hV) hcs (Nat.le_trans hcc.1 hcc.2)
  have HEND : Hid (∀ V, Below W0.heap.size W0 V → Below w.heap.size w V) := fun V hV => by subst hb0; exact HW.out.trans (hV.mono (by have := HW.out.size; omega))
  clear hb0
  cases hsm : smallB l
  · rw [hsm] at HSM
    clear HBR HC HL hsm
    go_wp2_with (first | (go_at_call 22; refine (HSM.out _ (by assumption)).mono ?_; rintro e w1 ⟨rfl, hb⟩; have hBw1 : Below W0.heap.size W0 w1 := Below.trans (by assumption) (hb.mono (Below.size (by assumption))); have yw1 := HY.out w1 hBw1; clear hb) | (go_at_call 17; refine (HR.out _ (by assumption)).mono ?_; rintro e z ⟨rfl, hb⟩; have hBz : Below W0.heap.size W0 z := Below.trans (by assumption) (hb.mono (Below.size (by assumption))); clear hb))
    go_ret
    exact ⟨rfl, HEND.out _ hBz⟩
  rw [hsm] at HSM
  have hO := small_ok hsm (fun r hr => (hlw r hr).2)
  clear hsm hlw
  cases hbr : briefB col 8
  · rw [hbr] at HBR
    clear HC HL hbr hO
    go_wp2_with (first | (go_at_call 22; refine (HSM.out _ (by assumption)).mono ?_; rintro e w1 ⟨rfl, hb⟩; have hBw1 : Below W0.heap.size W0 w1 := Below.trans (by assumption) (hb.mono (Below.size (by assumption))); have yw1 := HY.out w1 hBw1; clear hb) | (go_at_call 23; refine (HBR.out _ (by assumption)).mono ?_; rintro e w2 ⟨rfl, hb⟩; have hBw2 : Below W0.heap.size W0 w2 := Below.trans (by assumption) (hb.mono (Below.size (by assumption))); have yw2 := HY.out w2 hBw2; clear hb) | (go_at_call 17; refine (HR.out _ (by assumption)).mono ?_; rintro e z ⟨rfl, hb⟩; have hBz : Below W0.heap.size W0 z := Below.trans (by assumption) (hb.mono (Below.size (by assumption))); clear hb))
    go_ret
    exact ⟨rfl, HEND.out _ hBz⟩
  rw [hbr] at HBR
  have hB := brief_ok hbr
  clear hbr
  have h8 : col.length ≤ 8 := by have := hB.2; omega
  have HA : Hid (∀ V, Below W0.heap.size W0 V → Calls Tryz.prog 54 #[.agg #[.slice A l.length c], .int .i64 known, .slice Ac col.length cc] V (SnE (arr (cntL l known) col) V)) := fun V hV => arrange_any l A c known col Ac cc V (HL.out V hV) hO.1 (by have := hO.2; omega) (HC.out V hV) hB.1 (by omega) hcc
  have HS : Hid (∀ V, Below W0.heap.size W0 V → Calls Tryz.prog 56 #[.agg #[.slice A l.length c], .int .i64 known, .slice Ac col.length cc] V (SnE (stk (cntL l known) col) V)) := fun V hV => stuck_any l A c known col Ac cc V (HL.out V hV) hO.1 (by have := hO.2; omega) (HC.out V hV) hB.1 (by omega) hcc
  have HO : Hid (∀ V, Below W0.heap.size W0 V → ∀ x y, x ∈ col → y ∈ col → Calls Tryz.prog 31 #[.agg #[.slice A l.length c], .int .i64 known, .string x, .string y] V (BarE (barL (cntL l known) 4 x y false) V)) := fun V hV x y hx hy => mayOver_any l A c known x y V (HL.out V hV) hO.1 (by have := hO.2; omega) (hB.1 x hx) (hB.1 y hy)
  have HH : Hid (∀ V, Below W0.heap.size W0 V → ∀ s, s ∈ col → Calls Tryz.prog 26 #[.slice Ac col.length cc, .string s] V (ShEnd true V)) := fun V hV s hs => by
    have h := has_any col Ac cc s V (HC.out V hV) (by unfold maxLen; omega)
    rwa [decide_eq_true hs] at h
  clear hO hB HL HC hcs
  unfold SnE at HA HS
  generalize cntL l known = d at *
  have hup : True := trivial
  by_cases h0 : stE col = 0
  · obtain ⟨b, lo, co, e1, e2, HOP, HCQ, hbt, hbf⟩ := arr_both (d := d) h0 (stE_nodup h0)
    rw [e1] at HA
    rw [e2] at HS
    have hco9 : co.length ≤ 100000 := nmP_len HCQ.nm (by omega)
    clear e1 e2 h0
    dsimp only at HA HS
    cases b with
    | true =>
      obtain ⟨g1, g2⟩ := hbt rfl
      have hn1 : ((lo.length : Int) != (col.length : Int)) = false := by rw [g1]; simp
      have hz : decide (0 < co.length) = false := decide_eq_false (by omega)
      have hlo8 : lo.length ≤ 8 := by omega
      have hco8 : co.length ≤ 8 := by omega
      clear hbt hbf g1 g2
      go_upto_region 3 with (first | (go_at_call 22; refine (HSM.out _ (by assumption)).mono ?_; rintro e w1 ⟨rfl, hb⟩; have hBw1 : Below W0.heap.size W0 w1 := Below.trans (by assumption) (hb.mono (Below.size (by assumption))); have yw1 := HY.out w1 hBw1; clear hb) | (go_at_call 23; refine (HBR.out _ (by assumption)).mono ?_; rintro e w2 ⟨rfl, hb⟩; have hBw2 : Below W0.heap.size W0 w2 := Below.trans (by assumption) (hb.mono (Below.size (by assumption))); have yw2 := HY.out w2 hBw2; clear hb))
      clear hBW0 y0 hBw1 yw1 HSM HBR
      go_upto_region 4 with (go_at_call 54; refine (HA.out _ hBw2).mono ?_; rintro e w3 ⟨A1, c1, rfl, l1, hc1, hb⟩; have hBw3 := hBw2.trans (hb.mono hBw2.size); have yw3 := HY.out w3 hBw3; clear hb)
      go_upto_region 5 with (go_at_call 56; refine (HS.out _ hBw3).mono ?_; rintro e w4 ⟨A2, c2, rfl, l2, hc2, hb4⟩; have hBw4 := hBw3.trans (hb4.mono hBw3.size))
      have HLo : Hid (∀ V, Below w4.heap.size w4 V → Lies V V.heap.size A1 (strsC lo)) := fun V hV => lies_on (lies_on l1 hb4) hV
      have HCo : Hid (∀ V, Below w4.heap.size w4 V → Lies V V.heap.size A2 (strsC co)) := fun V hV => lies_on l2 hV
      have HYv := Lib.hid (fun V (hV : Below w4.heap.size w4 V) => HY.out V (hBw4.trans (hV.mono hBw4.size)))
      have HRv := Lib.hid (fun V (hV : Below w4.heap.size w4 V) => HR.out V (hBw4.trans (hV.mono hBw4.size)))
      have HEv := Lib.hid (fun V (hV : Below w4.heap.size w4 V) => HEND.out V (hBw4.trans (hV.mono hBw4.size)))
      have HHv := Lib.hid (fun V (hV : Below w4.heap.size w4 V) => HH.out V (hBw4.trans (hV.mono hBw4.size)))
      have HM1 : Hid (∀ i k (hi : i < lo.length) (hk : k < lo.length), k < i → ∀ V, Below w4.heap.size w4 V → Calls Tryz.prog 31 #[.agg #[.slice A l.length c], .int .i64 known, .string lo[i], .string lo[k]] V (fun e w' => ∃ z, e = .returned (.tuple #[.bool true, .int .i64 z]) ∧ Below V.heap.size V w')) := fun i k hi hk hki V hV => (HO.out V (hBw4.trans (hV.mono hBw4.size)) lo[i] lo[k] (HOP.nm.mem i hi) (HOP.nm.mem k hk)).mono fun e w' h => barE_b h (HOP.up i k hi hk hki)
      have HM2 : Hid (∀ i j (hi : i < co.length) (hj : j < co.length), j = (i + 1) % co.length → ∀ V, Below w4.heap.size w4 V → Calls Tryz.prog 31 #[.agg #[.slice A l.length c], .int .i64 known, .string co[i], .string co[j]] V (fun e w' => ∃ z, e = .returned (.tuple #[.bool false, .int .i64 z]) ∧ Below V.heap.size V w')) := fun i j hi hj hij V hV => (HO.out V (hBw4.trans (hV.mono hBw4.size)) co[i] co[j] (HCQ.nm.mem i hi) (HCQ.nm.mem j hj)).mono fun e w' h => by
        subst hij; exact barE_b h (HCQ.cy i hi hj)
      have HP1 : Hid (∀ i (hi : i < lo.length) V, Below w4.heap.size w4 V → Calls Tryz.prog 26 #[.slice A1 i c1, .string lo[i]] V (ShEnd false V) ∧ lo[i] ∈ col) := fun i hi V hV => by
        have hL : Lies V V.heap.size A1 (strsC (lo.take i)) := by
          have h := HLo.out V hV
          have e : strsC lo = strsC (lo.take i) ++ strsC (lo.drop i) := by unfold strsC; rw [← List.map_append, List.take_append_drop]
          rw [e] at h; exact h.prefix
        have h := has_any (lo.take i) A1 c1 lo[i] V hL (by rw [List.length_take]; unfold maxLen; omega)
        rw [decide_eq_false (HOP.nm.one i hi), List.length_take, Nat.min_eq_left (by omega)] at h
        exact ⟨h, HOP.nm.mem i hi⟩
      have HP2 : Hid (∀ i (hi : i < co.length) V, Below w4.heap.size w4 V → Calls Tryz.prog 26 #[.slice A2 i c2, .string co[i]] V (ShEnd false V) ∧ co[i] ∈ col) := fun i hi V hV => by
        have hL : Lies V V.heap.size A2 (strsC (co.take i)) := by
          have h := HCo.out V hV
          have e : strsC co = strsC (co.take i) ++ strsC (co.drop i) := by unfold strsC; rw [← List.map_append, List.take_append_drop]
          rw [e] at h; exact h.prefix
        have h := has_any (co.take i) A2 c2 co[i] V hL (by rw [List.length_take]; unfold maxLen; omega)
        rw [decide_eq_false (HCQ.nm.one i hi), List.length_take, Nat.min_eq_left (by omega)] at h
        exact ⟨h, HCQ.nm.mem i hi⟩
      have hB4 : Below w4.heap.size w4 w4 := Below.refl _ _
      clear HA HS HY HR HEND HH HO hBw2 yw2 hBw3 yw3 hBw4 hb4 l1 l2 HOP HCQ
      go_upto_region 11 with fail
      go_wp2
      go_loopw [13] (fun y wr => ∃ i : Nat, i ≤ lo.length ∧ y = .int .i64 i ∧ Below w4.heap.size w4 wr) (fun y _ => lo.length - (intOf y).toNat)
      case atStart => exact ⟨0, by omega, rfl, hB4⟩
      case round =>
        obtain ⟨i, hi, rfl, hbw⟩ := hrel
        clear hB4
        by_cases hil : i < lo.length
        · obtain ⟨ad, e1, _, _⟩ := str_at (HLo.out wr hbw) hil
          have HEL : Hid (∀ V, Below w4.heap.size w4 V → ∀ k (hk : k < lo.length), V.cell? (ad.add k) = some (.string lo[k])) := fun V hV k hk => by
            obtain ⟨a2, e2, _, h2⟩ := str_at (HLo.out V hV) hk
            rw [e1] at e2; cases e2; exact h2
          subst e1
          have HQ := Lib.hid (fun V hV => HP1.out i hil V hV)
          have HI := Lib.hid (HHv.out)
          have HMI := Lib.hid (fun k hk hki V hV => HM1.out i k hil hk hki V hV)
          have HELi := Lib.hid (fun V hV => HEL.out V hV i hil)
          have hmem := (HP1.out i hil wr hbw).2
          have HHi := Lib.hid (fun V hV => HHv.out V hV lo[i] hmem)
          have hiI : (i : Int) < (lo.length : Int) := by omega
          have hic : (i : Int) ≤ (c1 : Int) := by omega
          have hi0 : (0 : Int) ≤ (i : Int) := by omega
          clear HM1 HM2 HP1 HP2 HCo HI hmem HRv HLo
          generalize lo[i] = s at *
          go_upto_region 14 with fail
          refine wp_region_held_drew (S := (fun V => V.cell? (ad.add i) = some (.string s))) (by kernel_rfl) ?_ (fun hHeld => ?_)
          · exact HELi.out _ hbw.drew
          have hbd := hbw.drew
          generalize World.drew _ = u0 at *
          refine tk 0 114 ?_
          refine tk 1 115 ?_
          refine tk 2 116 ?_
          refine tk 3 117 ?_
          refine tk 4 118 ?_
          (refine held_call 5 (some 119) 26 _ rfl (by kernel_rfl) (by rfl) ?_ ((HHi.out _ hbd)) ?_; rotate_left; rotate_left; (simp only [List.getElem?_toArray, List.getElem?_cons_zero, List.getElem?_cons_succ, Option.map_some]; refine congrArg some ?_; go_simp))
          rintro e u1 ⟨rfl, hb⟩
          have hbu1 := hbd.trans (hb.mono hbd.size)
          refine ⟨_, rfl, HELi.out _ hbu1, fun hHeld => ?_⟩
          clear hb
          (try simp only [Act.put, List.setIfInBounds_toArray, List.set_cons_zero, List.set_cons_succ])
          refine tk 6 120 ?_
          refine tk 7 121 ?_
          refine tk 8 122 ?_
          refine tk 9 123 ?_
          refine tk 10 124 ?_
          refine tk 11 125 ?_
          refine tk 12 126 ?_
          refine tk 13 127 ?_
          refine tk 14 128 ?_
          (refine held_call 15 (some 129) 26 _ rfl (by kernel_rfl) (by rfl) ?_ ((HQ.out _ hbu1).1) ?_; rotate_left; rotate_left; (simp only [List.getElem?_toArray, List.getElem?_cons_zero, List.getElem?_cons_succ, Option.map_some]; refine congrArg some ?_; go_simp))
          rintro e u2 ⟨rfl, hb⟩
          have hbu2 := hbu1.trans (hb.mono hbu1.size)
          refine ⟨_, rfl, HELi.out _ hbu2, fun hHeld => ?_⟩
          clear hb
          (try simp only [Act.put, List.setIfInBounds_toArray, List.set_cons_zero, List.set_cons_succ])
          refine tk 16 130 ?_
          refine wpAnyH_done (by kernel_rfl) ?_ _
          clear hHeld
          go_upto_region 17 with fail
          clear HHi HQ hbd hbu1
          go_loopw [14] (fun y wv => ∃ k : Nat, k ≤ i ∧ y = .int .i64 k ∧ Below w4.heap.size w4 wv) (fun y _ => i - (intOf y).toNat)
          case atStart => exact ⟨0, by omega, rfl, hbu2⟩
          case round =>
            obtain ⟨k, hk, rfl, hbv⟩ := hrel
            by_cases hki : k < i
            · have hkl : k < lo.length := by omega
              have HMK := Lib.hid (fun V hV => HMI.out k hkl hki V hV)
              have HELk := Lib.hid (fun V hV => HEL.out V hV k hkl)
              have hkI : (k : Int) < (lo.length : Int) := by omega
              clear HMI HEL
              generalize lo[k] = t at *
              go_upto_region 19 with fail
              refine wp_region_held_drew (S := (fun V => V.cell? ⟨b0, 0, none⟩ = some (.slice A l.length c) ∧ V.cell? (ad.add i) = some (.string s) ∧ V.cell? (ad.add k) = some (.string t))) (by kernel_rfl) ?_ (fun hHeld => ?_)
              · exact ⟨HYv.out _ hbv.drew, HELi.out _ hbv.drew, HELk.out _ hbv.drew⟩
              have hbe := hbv.drew
              generalize World.drew _ = u5 at *
              refine tk 0 137 ?_
              refine tk 1 138 ?_
              refine tk 2 139 ?_
              refine tk 3 140 ?_
              refine tk 4 141 ?_
              refine tk 5 142 ?_
              refine tk 6 143 ?_
              refine tk 7 144 ?_
              refine tk 8 145 ?_
              refine tk 9 146 ?_
              (refine held_call 10 (some 147) 31 _ rfl (by kernel_rfl) (by rfl) ?_ ((HMK.out _ hbe)) ?_; rotate_left; rotate_left; (simp only [List.getElem?_toArray, List.getElem?_cons_zero, List.getElem?_cons_succ, Option.map_some]; refine congrArg some ?_; go_simp))
              rintro e u6 ⟨z, rfl, hb⟩
              have hbf := hbe.trans (hb.mono hbe.size)
              refine ⟨_, rfl, ⟨HYv.out _ hbf, HELi.out _ hbf, HELk.out _ hbf⟩, fun hHeld => ?_⟩
              clear hb
              (try simp only [Act.put, List.setIfInBounds_toArray, List.set_cons_zero, List.set_cons_succ])
              refine tk 11 136 ?_
              refine tk 12 148 ?_
              refine tk 13 149 ?_
              refine tk 14 15 ?_
              refine tk 15 16 ?_
              refine wpAnyH_done (by kernel_rfl) ?_ _
              clear hHeld
              go_wp2
              go_roundw
              case rel => exact ⟨k + 1, by omega, by go_num, hbf⟩
              case measure => simp [intOf]; omega
            · obtain rfl : k = i := by omega
              clear HMI HEL
              go_wp2
              go_roundw
              case rel => exact ⟨k + 1, by omega, by go_num, hbv⟩
              case measure => simp [intOf]; omega
        · obtain rfl : i = lo.length := by omega
          clear HM1 HP1 HLo hil
          go_upto_region 23 with fail
          go_loopw [17] (fun y wr => ∃ i : Nat, i ≤ co.length ∧ y = .int .i64 i ∧ Below w4.heap.size w4 wr) (fun y _ => co.length - (intOf y).toNat)
          case atStart => exact ⟨0, by omega, rfl, hbw⟩
          case round =>
            obtain ⟨i, hi, rfl, hbv⟩ := hrel
            by_cases hil : i < co.length
            · obtain ⟨ad, e1, _, _⟩ := str_at (HCo.out _ hbv) hil
              have HEL : Hid (∀ V, Below w4.heap.size w4 V → ∀ k (hk : k < co.length), V.cell? (ad.add k) = some (.string co[k])) := fun V hV k hk => by
                obtain ⟨a2, e2, _, h2⟩ := str_at (HCo.out V hV) hk
                rw [e1] at e2; cases e2; exact h2
              subst e1
              have HQ := Lib.hid (fun V hV => HP2.out i hil V hV)
              obtain ⟨j, hj⟩ : ∃ j, j = (i + 1) % co.length := ⟨_, rfl⟩
              have hjl : j < co.length := by rw [hj]; exact Nat.mod_lt _ (by omega)
              have HMI := Lib.hid (fun V hV => HM2.out i j hil hjl hj V hV)
              have HELi := Lib.hid (fun V hV => HEL.out V hV i hil)
              have HELj := Lib.hid (fun V hV => HEL.out V hV j hjl)
              have hmem := (HP2.out i hil _ hbv).2
              have HHi := Lib.hid (fun V hV => HHv.out V hV co[i] hmem)
              have hiI : (i : Int) < (co.length : Int) := by omega
              have hjI : (j : Int) < (co.length : Int) := by omega
              have hic : (i : Int) ≤ (c2 : Int) := by omega
              have hi0 : (0 : Int) ≤ (i : Int) := by omega
              have hmod : (IntKind.i64.wrap ((i : Int) + 1)).tmod (co.length : Int) = (j : Int) := by rw [IntWalk.i64_in _ (by omega), Int.tmod_eq_emod_of_nonneg (by omega), hj]; simp
              have hL0 : ¬ co = [] := by intro e; rw [e] at hil; simp at hil
              clear HM2 HP2 hmem HRv HCo HEL
              generalize co[i] = s at *
              generalize co[j] = t at *
              clear hj hjl
              go_upto_region 25 with fail
              refine wp_region_held_drew (S := (fun V => V.cell? ⟨b0, 0, none⟩ = some (.slice A l.length c) ∧ V.cell? (ad.add i) = some (.string s) ∧ V.cell? (ad.add j) = some (.string t))) (by kernel_rfl) ?_ (fun hHeld => ?_)
              · exact ⟨HYv.out _ hbv.drew, HELi.out _ hbv.drew, HELj.out _ hbv.drew⟩
              have hbd := hbv.drew
              generalize World.drew _ = u0 at *
              refine tk 0 159 ?_
              refine tk 1 160 ?_
              refine tk 2 161 ?_
              refine tk 3 162 ?_
              refine tk 4 163 ?_
              refine tk 5 164 ?_
              refine tk 6 165 ?_
              refine tk 7 166 ?_
              refine tk 8 167 ?_
              refine tk 9 168 ?_
              refine tk 10 169 ?_
              refine tk 11 170 ?_
              refine tk 12 171 ?_
              refine tk 13 172 ?_
              (refine held_call 14 (some 173) 31 _ rfl (by kernel_rfl) (by rfl) ?_ ((HMI.out _ hbd)) ?_; rotate_left; rotate_left; (simp only [List.getElem?_toArray, List.getElem?_cons_zero, List.getElem?_cons_succ, Option.map_some]; refine congrArg some ?_; go_simp))
              rintro e u6 ⟨z, rfl, hb⟩
              have hbf := hbd.trans (hb.mono hbd.size)
              refine ⟨_, rfl, ⟨HYv.out _ hbf, HELi.out _ hbf, HELj.out _ hbf⟩, fun hHeld => ?_⟩
              clear hb
              (try simp only [Act.put, List.setIfInBounds_toArray, List.set_cons_zero, List.set_cons_succ])
              refine tk 15 158 ?_
              refine tk 16 174 ?_
              refine tk 17 175 ?_
              refine tk 18 18 ?_
              refine tk 19 19 ?_
              refine wpAnyH_done (by kernel_rfl) ?_ _
              clear hHeld
              go_upto_region 26 with fail
              refine wp_region_held_drew (S := (fun V => V.cell? (ad.add i) = some (.string s))) (by kernel_rfl) ?_ (fun hHeld => ?_)
              · exact HELi.out _ hbf.drew
              have hbg := hbf.drew
              clear hbd HMI HELj hmod
              generalize World.drew _ = u7 at *
              refine tk 0 176 ?_
              refine tk 1 177 ?_
              refine tk 2 178 ?_
              refine tk 3 179 ?_
              refine tk 4 180 ?_
              refine tk 5 181 ?_
              refine tk 6 182 ?_
              (refine held_call 7 (some 183) 26 _ rfl (by kernel_rfl) (by rfl) ?_ ((HHi.out _ hbg)) ?_; rotate_left; rotate_left; (simp only [List.getElem?_toArray, List.getElem?_cons_zero, List.getElem?_cons_succ, Option.map_some]; refine congrArg some ?_; go_simp))
              rintro e v1 ⟨rfl, hb⟩
              have hbu1 := hbg.trans (hb.mono hbg.size)
              refine ⟨_, rfl, HELi.out _ hbu1, fun hHeld => ?_⟩
              clear hb
              (try simp only [Act.put, List.setIfInBounds_toArray, List.set_cons_zero, List.set_cons_succ])
              refine tk 8 184 ?_
              refine tk 9 185 ?_
              refine tk 10 186 ?_
              refine tk 11 187 ?_
              refine tk 12 188 ?_
              refine tk 13 189 ?_
              refine tk 14 190 ?_
              refine tk 15 191 ?_
              refine tk 16 192 ?_
              refine tk 17 193 ?_
              (refine held_call 18 (some 194) 26 _ rfl (by kernel_rfl) (by rfl) ?_ ((HQ.out _ hbu1).1) ?_; rotate_left; rotate_left; (simp only [List.getElem?_toArray, List.getElem?_cons_zero, List.getElem?_cons_succ, Option.map_some]; refine congrArg some ?_; go_simp))
              rintro e v2 ⟨rfl, hb⟩
              have hbu2 := hbu1.trans (hb.mono hbu1.size)
              refine ⟨_, rfl, HELi.out _ hbu2, fun hHeld => ?_⟩
              clear hb
              (try simp only [Act.put, List.setIfInBounds_toArray, List.set_cons_zero, List.set_cons_succ])
              refine tk 19 195 ?_
              refine wpAnyH_done (by kernel_rfl) ?_ _
              clear hHeld
              go_wp2
              go_roundw
              case rel => exact ⟨i + 1, by omega, by go_num, hbu2⟩
              case measure => simp [intOf]; omega
            · obtain rfl : i = co.length := by omega
              clear HM2 HP2 HHv HCo hil
              go_wp2_with (go_at_call 17; refine (HRv.out _ hbv).mono ?_; rintro e z ⟨rfl, hb⟩; have hBz := hbv.trans (hb.mono hbv.size); clear hb)
              go_ret
              exact ⟨rfl, HEv.out _ hBz⟩
    | false =>
      obtain ⟨g1, g2⟩ := hbf rfl
      have hz : decide (0 < lo.length) = false := decide_eq_false (by omega)
      have h2 : decide (co.length < 2) = false := decide_eq_false (by omega)
      have h2' : decide ((co.length : Int) < 2) = false := decide_eq_false (by omega)
      have hlo8 : lo.length ≤ 8 := by omega
      have hco8 : co.length ≤ 100000 := hco9
      clear hbt hbf g1 g2 hco9
      go_upto_region 3 with (first | (go_at_call 22; refine (HSM.out _ (by assumption)).mono ?_; rintro e w1 ⟨rfl, hb⟩; have hBw1 : Below W0.heap.size W0 w1 := Below.trans (by assumption) (hb.mono (Below.size (by assumption))); have yw1 := HY.out w1 hBw1; clear hb) | (go_at_call 23; refine (HBR.out _ (by assumption)).mono ?_; rintro e w2 ⟨rfl, hb⟩; have hBw2 : Below W0.heap.size W0 w2 := Below.trans (by assumption) (hb.mono (Below.size (by assumption))); have yw2 := HY.out w2 hBw2; clear hb))
      clear hBW0 y0 hBw1 yw1 HSM HBR
      go_upto_region 4 with (go_at_call 54; refine (HA.out _ hBw2).mono ?_; rintro e w3 ⟨A1, c1, rfl, l1, hc1, hb⟩; have hBw3 := hBw2.trans (hb.mono hBw2.size); have yw3 := HY.out w3 hBw3; clear hb)
      go_upto_region 5 with (go_at_call 56; refine (HS.out _ hBw3).mono ?_; rintro e w4 ⟨A2, c2, rfl, l2, hc2, hb4⟩; have hBw4 := hBw3.trans (hb4.mono hBw3.size))
      have HLo : Hid (∀ V, Below w4.heap.size w4 V → Lies V V.heap.size A1 (strsC lo)) := fun V hV => lies_on (lies_on l1 hb4) hV
      have HCo : Hid (∀ V, Below w4.heap.size w4 V → Lies V V.heap.size A2 (strsC co)) := fun V hV => lies_on l2 hV
      have HYv := Lib.hid (fun V (hV : Below w4.heap.size w4 V) => HY.out V (hBw4.trans (hV.mono hBw4.size)))
      have HRv := Lib.hid (fun V (hV : Below w4.heap.size w4 V) => HR.out V (hBw4.trans (hV.mono hBw4.size)))
      have HEv := Lib.hid (fun V (hV : Below w4.heap.size w4 V) => HEND.out V (hBw4.trans (hV.mono hBw4.size)))
      have HHv := Lib.hid (fun V (hV : Below w4.heap.size w4 V) => HH.out V (hBw4.trans (hV.mono hBw4.size)))
      have HM1 : Hid (∀ i k (hi : i < lo.length) (hk : k < lo.length), k < i → ∀ V, Below w4.heap.size w4 V → Calls Tryz.prog 31 #[.agg #[.slice A l.length c], .int .i64 known, .string lo[i], .string lo[k]] V (fun e w' => ∃ z, e = .returned (.tuple #[.bool true, .int .i64 z]) ∧ Below V.heap.size V w')) := fun i k hi hk hki V hV => (HO.out V (hBw4.trans (hV.mono hBw4.size)) lo[i] lo[k] (HOP.nm.mem i hi) (HOP.nm.mem k hk)).mono fun e w' h => barE_b h (HOP.up i k hi hk hki)
      have HM2 : Hid (∀ i j (hi : i < co.length) (hj : j < co.length), j = (i + 1) % co.length → ∀ V, Below w4.heap.size w4 V → Calls Tryz.prog 31 #[.agg #[.slice A l.length c], .int .i64 known, .string co[i], .string co[j]] V (fun e w' => ∃ z, e = .returned (.tuple #[.bool false, .int .i64 z]) ∧ Below V.heap.size V w')) := fun i j hi hj hij V hV => (HO.out V (hBw4.trans (hV.mono hBw4.size)) co[i] co[j] (HCQ.nm.mem i hi) (HCQ.nm.mem j hj)).mono fun e w' h => by
        subst hij; exact barE_b h (HCQ.cy i hi hj)
      have HP1 : Hid (∀ i (hi : i < lo.length) V, Below w4.heap.size w4 V → Calls Tryz.prog 26 #[.slice A1 i c1, .string lo[i]] V (ShEnd false V) ∧ lo[i] ∈ col) := fun i hi V hV => by
        have hL : Lies V V.heap.size A1 (strsC (lo.take i)) := by
          have h := HLo.out V hV
          have e : strsC lo = strsC (lo.take i) ++ strsC (lo.drop i) := by unfold strsC; rw [← List.map_append, List.take_append_drop]
          rw [e] at h; exact h.prefix
        have h := has_any (lo.take i) A1 c1 lo[i] V hL (by rw [List.length_take]; unfold maxLen; omega)
        rw [decide_eq_false (HOP.nm.one i hi), List.length_take, Nat.min_eq_left (by omega)] at h
        exact ⟨h, HOP.nm.mem i hi⟩
      have HP2 : Hid (∀ i (hi : i < co.length) V, Below w4.heap.size w4 V → Calls Tryz.prog 26 #[.slice A2 i c2, .string co[i]] V (ShEnd false V) ∧ co[i] ∈ col) := fun i hi V hV => by
        have hL : Lies V V.heap.size A2 (strsC (co.take i)) := by
          have h := HCo.out V hV
          have e : strsC co = strsC (co.take i) ++ strsC (co.drop i) := by unfold strsC; rw [← List.map_append, List.take_append_drop]
          rw [e] at h; exact h.prefix
        have h := has_any (co.take i) A2 c2 co[i] V hL (by rw [List.length_take]; unfold maxLen; omega)
        rw [decide_eq_false (HCQ.nm.one i hi), List.length_take, Nat.min_eq_left (by omega)] at h
        exact ⟨h, HCQ.nm.mem i hi⟩
      have hB4 : Below w4.heap.size w4 w4 := Below.refl _ _
      clear HA HS HY HR HEND HH HO hBw2 yw2 hBw3 yw3 hBw4 hb4 l1 l2 HOP HCQ
      go_upto_region 11 with fail
      go_wp2
      go_loopw [13] (fun y wr => ∃ i : Nat, i ≤ lo.length ∧ y = .int .i64 i ∧ Below w4.heap.size w4 wr) (fun y _ => lo.length - (intOf y).toNat)
      case atStart => exact ⟨0, by omega, rfl, hB4⟩
      case round =>
        obtain ⟨i, hi, rfl, hbw⟩ := hrel
        clear hB4
        by_cases hil : i < lo.length
        · obtain ⟨ad, e1, _, _⟩ := str_at (HLo.out wr hbw) hil
          have HEL : Hid (∀ V, Below w4.heap.size w4 V → ∀ k (hk : k < lo.length), V.cell? (ad.add k) = some (.string lo[k])) := fun V hV k hk => by
            obtain ⟨a2, e2, _, h2⟩ := str_at (HLo.out V hV) hk
            rw [e1] at e2; cases e2; exact h2
          subst e1
          have HQ := Lib.hid (fun V hV => HP1.out i hil V hV)
          have HI := Lib.hid (HHv.out)
          have HMI := Lib.hid (fun k hk hki V hV => HM1.out i k hil hk hki V hV)
          have HELi := Lib.hid (fun V hV => HEL.out V hV i hil)
          have hmem := (HP1.out i hil wr hbw).2
          have HHi := Lib.hid (fun V hV => HHv.out V hV lo[i] hmem)
          have hiI : (i : Int) < (lo.length : Int) := by omega
          have hic : (i : Int) ≤ (c1 : Int) := by omega
          have hi0 : (0 : Int) ≤ (i : Int) := by omega
          clear HM1 HM2 HP1 HP2 HCo HI hmem HRv HLo
          generalize lo[i] = s at *
          go_upto_region 14 with fail
          refine wp_region_held_drew (S := (fun V => V.cell? (ad.add i) = some (.string s))) (by kernel_rfl) ?_ (fun hHeld => ?_)
          · exact HELi.out _ hbw.drew
          have hbd := hbw.drew
          generalize World.drew _ = u0 at *
          refine tk 0 114 ?_
          refine tk 1 115 ?_
          refine tk 2 116 ?_
          refine tk 3 117 ?_
          refine tk 4 118 ?_
          (refine held_call 5 (some 119) 26 _ rfl (by kernel_rfl) (by rfl) ?_ ((HHi.out _ hbd)) ?_; rotate_left; rotate_left; (simp only [List.getElem?_toArray, List.getElem?_cons_zero, List.getElem?_cons_succ, Option.map_some]; refine congrArg some ?_; go_simp))
          rintro e u1 ⟨rfl, hb⟩
          have hbu1 := hbd.trans (hb.mono hbd.size)
          refine ⟨_, rfl, HELi.out _ hbu1, fun hHeld => ?_⟩
          clear hb
          (try simp only [Act.put, List.setIfInBounds_toArray, List.set_cons_zero, List.set_cons_succ])
          refine tk 6 120 ?_
          refine tk 7 121 ?_
          refine tk 8 122 ?_
          refine tk 9 123 ?_
          refine tk 10 124 ?_
          refine tk 11 125 ?_
          refine tk 12 126 ?_
          refine tk 13 127 ?_
          refine tk 14 128 ?_
          (refine held_call 15 (some 129) 26 _ rfl (by kernel_rfl) (by rfl) ?_ ((HQ.out _ hbu1).1) ?_; rotate_left; rotate_left; (simp only [List.getElem?_toArray, List.getElem?_cons_zero, List.getElem?_cons_succ, Option.map_some]; refine congrArg some ?_; go_simp))
          rintro e u2 ⟨rfl, hb⟩
          have hbu2 := hbu1.trans (hb.mono hbu1.size)
          refine ⟨_, rfl, HELi.out _ hbu2, fun hHeld => ?_⟩
          clear hb
          (try simp only [Act.put, List.setIfInBounds_toArray, List.set_cons_zero, List.set_cons_succ])
          refine tk 16 130 ?_
          refine wpAnyH_done (by kernel_rfl) ?_ _
          clear hHeld
          go_upto_region 17 with fail
          clear HHi HQ hbd hbu1
          go_loopw [14] (fun y wv => ∃ k : Nat, k ≤ i ∧ y = .int .i64 k ∧ Below w4.heap.size w4 wv) (fun y _ => i - (intOf y).toNat)
          case atStart => exact ⟨0, by omega, rfl, hbu2⟩
          case round =>
            obtain ⟨k, hk, rfl, hbv⟩ := hrel
            by_cases hki : k < i
            · have hkl : k < lo.length := by omega
              have HMK := Lib.hid (fun V hV => HMI.out k hkl hki V hV)
              have HELk := Lib.hid (fun V hV => HEL.out V hV k hkl)
              have hkI : (k : Int) < (lo.length : Int) := by omega
              clear HMI HEL
              generalize lo[k] = t at *
              go_upto_region 19 with fail
              refine wp_region_held_drew (S := (fun V => V.cell? ⟨b0, 0, none⟩ = some (.slice A l.length c) ∧ V.cell? (ad.add i) = some (.string s) ∧ V.cell? (ad.add k) = some (.string t))) (by kernel_rfl) ?_ (fun hHeld => ?_)
              · exact ⟨HYv.out _ hbv.drew, HELi.out _ hbv.drew, HELk.out _ hbv.drew⟩
              have hbe := hbv.drew
              generalize World.drew _ = u5 at *
              refine tk 0 137 ?_
              refine tk 1 138 ?_
              refine tk 2 139 ?_
              refine tk 3 140 ?_
              refine tk 4 141 ?_
              refine tk 5 142 ?_
              refine tk 6 143 ?_
              refine tk 7 144 ?_
              refine tk 8 145 ?_
              refine tk 9 146 ?_
              (refine held_call 10 (some 147) 31 _ rfl (by kernel_rfl) (by rfl) ?_ ((HMK.out _ hbe)) ?_; rotate_left; rotate_left; (simp only [List.getElem?_toArray, List.getElem?_cons_zero, List.getElem?_cons_succ, Option.map_some]; refine congrArg some ?_; go_simp))
              rintro e u6 ⟨z, rfl, hb⟩
              have hbf := hbe.trans (hb.mono hbe.size)
              refine ⟨_, rfl, ⟨HYv.out _ hbf, HELi.out _ hbf, HELk.out _ hbf⟩, fun hHeld => ?_⟩
              clear hb
              (try simp only [Act.put, List.setIfInBounds_toArray, List.set_cons_zero, List.set_cons_succ])
              refine tk 11 136 ?_
              refine tk 12 148 ?_
              refine tk 13 149 ?_
              refine tk 14 15 ?_
              refine tk 15 16 ?_
              refine wpAnyH_done (by kernel_rfl) ?_ _
              clear hHeld
              go_wp2
              go_roundw
              case rel => exact ⟨k + 1, by omega, by go_num, hbf⟩
              case measure => simp [intOf]; omega
            · obtain rfl : k = i := by omega
              clear HMI HEL
              go_wp2
              go_roundw
              case rel => exact ⟨k + 1, by omega, by go_num, hbv⟩
              case measure => simp [intOf]; omega
        · obtain rfl : i = lo.length := by omega
          clear HM1 HP1 HLo hil
          go_upto_region 23 with fail
          go_loopw [17] (fun y wr => ∃ i : Nat, i ≤ co.length ∧ y = .int .i64 i ∧ Below w4.heap.size w4 wr) (fun y _ => co.length - (intOf y).toNat)
          case atStart => exact ⟨0, by omega, rfl, hbw⟩
          case round =>
            obtain ⟨i, hi, rfl, hbv⟩ := hrel
            by_cases hil : i < co.length
            · obtain ⟨ad, e1, _, _⟩ := str_at (HCo.out _ hbv) hil
              have HEL : Hid (∀ V, Below w4.heap.size w4 V → ∀ k (hk : k < co.length), V.cell? (ad.add k) = some (.string co[k])) := fun V hV k hk => by
                obtain ⟨a2, e2, _, h2⟩ := str_at (HCo.out V hV) hk
                rw [e1] at e2; cases e2; exact h2
              subst e1
              have HQ := Lib.hid (fun V hV => HP2.out i hil V hV)
              obtain ⟨j, hj⟩ : ∃ j, j = (i + 1) % co.length := ⟨_, rfl⟩
              have hjl : j < co.length := by rw [hj]; exact Nat.mod_lt _ (by omega)
              have HMI := Lib.hid (fun V hV => HM2.out i j hil hjl hj V hV)
              have HELi := Lib.hid (fun V hV => HEL.out V hV i hil)
              have HELj := Lib.hid (fun V hV => HEL.out V hV j hjl)
              have hmem := (HP2.out i hil _ hbv).2
              have HHi := Lib.hid (fun V hV => HHv.out V hV co[i] hmem)
              have hiI : (i : Int) < (co.length : Int) := by omega
              have hjI : (j : Int) < (co.length : Int) := by omega
              have hic : (i : Int) ≤ (c2 : Int) := by omega
              have hi0 : (0 : Int) ≤ (i : Int) := by omega
              have hmod : (IntKind.i64.wrap ((i : Int) + 1)).tmod (co.length : Int) = (j : Int) := by rw [IntWalk.i64_in _ (by omega), Int.tmod_eq_emod_of_nonneg (by omega), hj]; simp
              have hL0 : ¬ co = [] := by intro e; rw [e] at hil; simp at hil
              clear HM2 HP2 hmem HRv HCo HEL
              generalize co[i] = s at *
              generalize co[j] = t at *
              clear hj hjl
              go_upto_region 25 with fail
              refine wp_region_held_drew (S := (fun V => V.cell? ⟨b0, 0, none⟩ = some (.slice A l.length c) ∧ V.cell? (ad.add i) = some (.string s) ∧ V.cell? (ad.add j) = some (.string t))) (by kernel_rfl) ?_ (fun hHeld => ?_)
              · exact ⟨HYv.out _ hbv.drew, HELi.out _ hbv.drew, HELj.out _ hbv.drew⟩
              have hbd := hbv.drew
              generalize World.drew _ = u0 at *
              refine tk 0 159 ?_
              refine tk 1 160 ?_
              refine tk 2 161 ?_
              refine tk 3 162 ?_
              refine tk 4 163 ?_
              refine tk 5 164 ?_
              refine tk 6 165 ?_
              refine tk 7 166 ?_
              refine tk 8 167 ?_
              refine tk 9 168 ?_
              refine tk 10 169 ?_
              refine tk 11 170 ?_
              refine tk 12 171 ?_
              refine tk 13 172 ?_
              (refine held_call 14 (some 173) 31 _ rfl (by kernel_rfl) (by rfl) ?_ ((HMI.out _ hbd)) ?_; rotate_left; rotate_left; (simp only [List.getElem?_toArray, List.getElem?_cons_zero, List.getElem?_cons_succ, Option.map_some]; refine congrArg some ?_; go_simp))
              rintro e u6 ⟨z, rfl, hb⟩
              have hbf := hbd.trans (hb.mono hbd.size)
              refine ⟨_, rfl, ⟨HYv.out _ hbf, HELi.out _ hbf, HELj.out _ hbf⟩, fun hHeld => ?_⟩
              clear hb
              (try simp only [Act.put, List.setIfInBounds_toArray, List.set_cons_zero, List.set_cons_succ])
              refine tk 15 158 ?_
              refine tk 16 174 ?_
              refine tk 17 175 ?_
              refine tk 18 18 ?_
              refine tk 19 19 ?_
              refine wpAnyH_done (by kernel_rfl) ?_ _
              clear hHeld
              go_upto_region 26 with fail
              refine wp_region_held_drew (S := (fun V => V.cell? (ad.add i) = some (.string s))) (by kernel_rfl) ?_ (fun hHeld => ?_)
              · exact HELi.out _ hbf.drew
              have hbg := hbf.drew
              clear hbd HMI HELj hmod
              generalize World.drew _ = u7 at *
              refine tk 0 176 ?_
              refine tk 1 177 ?_
              refine tk 2 178 ?_
              refine tk 3 179 ?_
              refine tk 4 180 ?_
              refine tk 5 181 ?_
              refine tk 6 182 ?_
              (refine held_call 7 (some 183) 26 _ rfl (by kernel_rfl) (by rfl) ?_ ((HHi.out _ hbg)) ?_; rotate_left; rotate_left; (simp only [List.getElem?_toArray, List.getElem?_cons_zero, List.getElem?_cons_succ, Option.map_some]; refine congrArg some ?_; go_simp))
              rintro e v1 ⟨rfl, hb⟩
              have hbu1 := hbg.trans (hb.mono hbg.size)
              refine ⟨_, rfl, HELi.out _ hbu1, fun hHeld => ?_⟩
              clear hb
              (try simp only [Act.put, List.setIfInBounds_toArray, List.set_cons_zero, List.set_cons_succ])
              refine tk 8 184 ?_
              refine tk 9 185 ?_
              refine tk 10 186 ?_
              refine tk 11 187 ?_
              refine tk 12 188 ?_
              refine tk 13 189 ?_
              refine tk 14 190 ?_
              refine tk 15 191 ?_
              refine tk 16 192 ?_
              refine tk 17 193 ?_
              (refine held_call 18 (some 194) 26 _ rfl (by kernel_rfl) (by rfl) ?_ ((HQ.out _ hbu1).1) ?_; rotate_left; rotate_left; (simp only [List.getElem?_toArray, List.getElem?_cons_zero, List.getElem?_cons_succ, Option.map_some]; refine congrArg some ?_; go_simp))
              rintro e v2 ⟨rfl, hb⟩
              have hbu2 := hbu1.trans (hb.mono hbu1.size)
              refine ⟨_, rfl, HELi.out _ hbu2, fun hHeld => ?_⟩
              clear hb
              (try simp only [Act.put, List.setIfInBounds_toArray, List.set_cons_zero, List.set_cons_succ])
              refine tk 19 195 ?_
              refine wpAnyH_done (by kernel_rfl) ?_ _
              clear hHeld
              go_wp2
              go_roundw
              case rel => exact ⟨i + 1, by omega, by go_num, hbu2⟩
              case measure => simp [intOf]; omega
            · obtain rfl : i = co.length := by omega
              clear HM2 HP2 HHv HCo hil
              go_wp2_with (go_at_call 17; refine (HRv.out _ hbv).mono ?_; rintro e z ⟨rfl, hb⟩; have hBz := hbv.trans (hb.mono hbv.size); clear hb)
              go_ret
              exact ⟨rfl, HEv.out _ hBz⟩
  · obtain ⟨e1, e2⟩ := arr_bad' (d := d) h0
    rw [e1] at HA
    rw [e2] at HS
    have HE := Lib.hid h0
    clear e1 e2 h0 HO HH
    dsimp only at HA HS
    generalize stE col = E at *
    have hE1 : (E == 0) = false := by have := HE.out; simpa using this
    have hE2 : (E != 0) = true := by rw [bne, hE1]; rfl
    have hE3 : (E != E) = false := by simp
    go_upto_region 3 with (first | (go_at_call 22; refine (HSM.out _ (by assumption)).mono ?_; rintro e w1 ⟨rfl, hb⟩; have hBw1 : Below W0.heap.size W0 w1 := Below.trans (by assumption) (hb.mono (Below.size (by assumption))); have yw1 := HY.out w1 hBw1; clear hb) | (go_at_call 23; refine (HBR.out _ (by assumption)).mono ?_; rintro e w2 ⟨rfl, hb⟩; have hBw2 : Below W0.heap.size W0 w2 := Below.trans (by assumption) (hb.mono (Below.size (by assumption))); have yw2 := HY.out w2 hBw2; clear hb))
    clear hBW0 y0 hBw1 yw1 HSM HBR
    go_upto_region 4 with (go_at_call 54; refine (HA.out _ hBw2).mono ?_; rintro e w3 ⟨A1, c1, rfl, _, _, hb⟩; have hBw3 := hBw2.trans (hb.mono hBw2.size); have yw3 := HY.out w3 hBw3; clear hb)
    go_upto_region 5 with (go_at_call 56; refine (HS.out _ hBw3).mono ?_; rintro e w4 ⟨A2, c2, rfl, _, _, hb⟩; have hBw4 := hBw3.trans (hb.mono hBw3.size); clear hb)
    clear hBw2 yw2 hBw3 yw3 HA HS
    go_wp2_with (go_at_call 17; refine (HR.out _ hBw4).mono ?_; rintro e z ⟨rfl, hb⟩; have hBz := hBw4.trans (hb.mono hBw4.size); clear hb)
    go_ret
    exact ⟨rfl, HEND.out _ hBz⟩
end Go.Proofs.YtkfeagokmcakgaaGreatDoor

namespace Go.Proofs.YtkfeagokmcakgaaGreatDoor
open Go.ChangeShapes Go.WideShapes Go.ChangeAt Go.RowKit Go.Deep

set_option maxHeartbeats 20000000 in
set_option maxRecDepth 100000 in
theorem orders_facts : joinedFacts Tryz.prog 14 Tryz.f14 Rows.pigmentOrdersSpec Rows.pigmentOrdersRow = true := by
  unfold joinedFacts
  simp only [Bool.and_eq_true]
  repeat' (refine And.intro ?_ ?_)
  all_goals (as_aux_lemma => kernel_rfl)
end Go.Proofs.YtkfeagokmcakgaaGreatDoor
