/- pigment.Stuck (fn 56). -/
import Derived.Test.YtkfeagokmcakgaaGreatDoorG02
import Derived.Test.YtkfeagokmcakgaaGreatDoorG13
import Derived.Test.YtkfeagokmcakgaaGreatDoorG16
import Derived.Test.YtkfeagokmcakgaaGreatDoorG17
import Derived.Test.YtkfeagokmcakgaaGreatDoorG28

set_option linter.unusedVariables false
set_option linter.unusedSimpArgs false

namespace Go.Proofs.YtkfeagokmcakgaaGreatDoor
open Go.RowKit

/-- a list of colours, whether there is one, an error -/
def SnE (v : List ByteArray × Bool × Int) (w : World) (e : Ending) (w' : World) : Prop := ∃ A c, e = .returned (.tuple #[.slice A v.1.length c, .bool v.2.1, .int .i64 v.2.2]) ∧ Lies w' w'.heap.size A (strsC v.1) ∧ (v.1.length ≤ c ∧ c ≤ maxLen) ∧ Below w.heap.size w w'
theorem SnE.none_ {v : List ByteArray × Bool × Int} {w w' : World} {b : Bool} {k : Int} (h : v = ([], b, k)) (hb : Below w.heap.size w w') : SnE v w (.returned (.tuple #[.slice none 0 0, .bool b, .int .i64 k])) w' := by
  subst h
  exact ⟨none, 0, rfl, fun hn => absurd rfl hn, ⟨Nat.le_refl _, Nat.zero_le _⟩, hb⟩
/-- what Stuck returns -/
def stk (d : List Rul) (cols : List ByteArray) : List ByteArray × Bool × Int := if stE cols = 0 then (match stkF (barM d cols) cols.length with
  | none => ([], false, 0)
  | some L => (L.map (colAt cols), true, 0)) else ([], false, stE cols)
theorem stE_len {cols : List ByteArray} (h : stE cols = 0) : cols.length ≤ 8 := by
  unfold stE at h
  by_cases h8 : 8 < cols.length
  · rw [if_pos h8] at h; omega
  · omega
theorem stkF_top (bar : Nat → Nat → Bool) (n : Nat) : stkF bar n = firstF (fun q => firstF (fun i => crcF bar n (q - 1) [i]) 0 n) 2 (n + 1 - 2) := by
  unfold stkF; congr 1
set_option maxRecDepth 100000 in
set_option maxHeartbeats 2500000 in
theorem stuck_any (l : List Rul) (A : Option Addr) (c : Nat) (known : Int) (cols : List ByteArray) (Ac : Option Addr) (cc : Nat) (w : World) (hl : Lies w w.heap.size A (rulesC l)) (hok : RulOK l) (hm : l.length ≤ 1000) (hlc : Lies w w.heap.size Ac (strsC cols)) (hcs : ∀ s ∈ cols, s.size ≤ 100) (hcm : cols.length ≤ 1000) (hcc : cols.length ≤ cc ∧ cc ≤ maxLen) :
    Calls Tryz.prog 56 #[.agg #[.slice A l.length c], .int .i64 known, .slice Ac cols.length cc] w (SnE (stk (cntL l known) cols) w) := by
  have HW : Hid (Below w.heap.size w (w.alloc (.cells #[.slice A l.length c] 25))) := (Below.refl _ _).alloc (Nat.le_refl _) _
  have HST := Lib.hid (stacked_any l A c known cols Ac cc (w.alloc (.cells #[.slice A l.length c] 25)) ((hl.below HW.out (Nat.le_refl _)).more HW.out.size) hok hm ((hlc.below HW.out (Nat.le_refl _)).more HW.out.size) hcs hcm hcc)
  have HLC : Hid (∀ V, Below (w.alloc (.cells #[.slice A l.length c] 25)).heap.size (w.alloc (.cells #[.slice A l.length c] 25)) V → Lies V V.heap.size Ac (strsC cols)) := fun V hV => by
    have hb := HW.out.trans (hV.mono HW.out.size)
    exact (hlc.below hb (Nat.le_refl _)).more hb.size
  have HEND : Hid (∀ V, Below (w.alloc (.cells #[.slice A l.length c] 25)).heap.size (w.alloc (.cells #[.slice A l.length c] 25)) V → Below w.heap.size w V) := fun V hV => HW.out.trans (hV.mono HW.out.size)
  have x0 : (w.alloc (.cells #[.slice A l.length c] 25)).cell? ⟨w.heap.size, 0, none⟩ = some (.slice A l.length c) := (Bk.new w 25 #[.slice A l.length c]).cell 0 rfl
  clear hl hlc hok hm hcs hcc
  generalize cntL l known = d at *
  go_enter Tryz.func56, Tryz.ntmps56
  go_upto_region 1 with fail
  have hB0 : Below (w.alloc (.cells #[.slice A l.length c] 25)).heap.size (w.alloc (.cells #[.slice A l.length c] 25)) (w.alloc (.cells #[.slice A l.length c] 25)) := Below.refl _ _
  clear HW
  generalize w.alloc (.cells #[.slice A l.length c] 25) = W0 at *
  by_cases h0 : stE cols = 0
  · have h8 := stE_len h0
    have HR0 : Hid (stk d cols = match stkF (barM d cols) cols.length with
        | none => ([], false, 0)
        | some L => (L.map (colAt cols), true, 0)) := by show _ = _; unfold stk; rw [if_pos h0]
    have HTOP := Lib.hid (stkF_top (barM d cols) cols.length)
    have HSND : Hid (∀ r i L, i < cols.length → crcF (barM d cols) cols.length r [i] = some L → (∀ j ∈ L, j < cols.length) ∧ L.length ≤ 1000) := fun r i L hi h => by
      obtain ⟨h1, t, rfl, ht⟩ := crc_sound r [i] L (by simp) (by simp) (by simp; exact hi) trivial h
      refine ⟨h1.lt, ?_⟩
      have := nodup_len _ (List.range cols.length) h1.nd fun z hz => by simpa using h1.lt z hz
      rw [List.length_range] at this; omega
    have HRND := Lib.hid (fun bs q r m l ad cl W h1 h2 h3 h4 h5 h6 h7 => round_any (bs := bs) (c := cc) (A := Ac) (bar := barM d cols) h8 q r m l ad cl W h1 h2 h3 h4 h5 h6 h7)
    have H0 := Lib.hid h0
    clear h0
    go_upto_region 4 with (go_at_call 100; refine HST.out.mono ?_; rintro e w1 ⟨(⟨h, _⟩ | ⟨_, bs, rfl, hstk⟩), hb1⟩; (first | (exact absurd H0.out h) | skip))
    have HB1 : Hid (∀ V, Below w1.heap.size w1 V → Below w.heap.size w V) := fun V hV => HEND.out V (hb1.trans (hV.mono hb1.size))
    have HS : Hid (∀ V, Below w1.heap.size w1 V → StkW bs Ac cols.length cc (barM d cols) V) := fun V hV => hstk.below hV (cell_lt hstk.col)
    have HNM : Hid (∀ V, Below w1.heap.size w1 V → ∀ (L : List Nat) A' c', Lies V V.heap.size A' (nats L) → (∀ j ∈ L, j < cols.length) → L.length ≤ 1000 → Calls Tryz.prog 102 #[.pointer (some ⟨bs, 0, none⟩), .slice A' L.length c'] V (NmE (L.map (colAt cols)) V)) := fun V hV L A' c' h1 h2 h3 => colNamed_any L A' c' V (HS.out V hV).col (HLC.out V (hb1.trans (hV.mono hb1.size))) h1 h2 h3 hcm
    have HRN : Hid (∀ (q i : Nat) V, 2 ≤ q → q ≤ 9 → i < cols.length → Below w1.heap.size w1 V → Calls Tryz.prog 105 #[.pointer (some ⟨bs, 0, none⟩), .slice (some ⟨V.heap.size, 0, none⟩) 1 1, .int .i64 q] (V.alloc (.cells #[.int .i64 i] 3)) (RndE (crcF (barM d cols) cols.length (q - 1) [i]) (V.alloc (.cells #[.int .i64 i] 3)))) := fun q i V h1 h2 h3 hV =>
      HRND.out bs q (q - 1) 0 [i] ⟨V.heap.size, 0, none⟩ 1 _ rfl (by omega) (HS.out _ (hV.alloc hV.size _)) ((Bk.new V 3 #[.int .i64 i]).lies (by simp)) (fun j hj => by simp at hj; omega) ⟨by omega, by unfold maxLen; omega⟩ (by omega)
    have hB1 : Below w1.heap.size w1 w1 := Below.refl _ _
    have hnq := fun V (a : Option Addr) (n c : Nat) => run_neq_slice_nil_any (P := Tryz.prog) V 42 3 a n c 0 0 Tryz.underlying42
    clear hstk hb1 HST HRND HLC HEND hB0 x0
    generalize barM d cols = bar at *
    generalize hcl : cols.length = n at *
    have HFA : Hid (∀ q, q < n + 1 → firstF (fun q => firstF (fun i => crcF bar n (q - 1) [i]) 0 n) q (n + 1 - q) = match firstF (fun i => crcF bar n (q - 1) [i]) 0 n with
      | some v => some v
      | none => firstF (fun q => firstF (fun i => crcF bar n (q - 1) [i]) 0 n) (q + 1) (n + 1 - (q + 1))) := fun q hq => firstF_at (f := fun q => firstF (fun i => crcF bar n (q - 1) [i]) 0 n) hq
    have HFZ : Hid (∀ q, n < q → firstF (fun q => firstF (fun i => crcF bar n (q - 1) [i]) 0 n) q (n + 1 - q) = none) := fun q hq => by
      rw [show n + 1 - q = 0 by omega]; rfl
    generalize (fun q => firstF (fun i => crcF bar n (q - 1) [i]) 0 n) = G at *
    go_wp2
    go_loopw [11] (fun y wr => ∃ q : Nat, 2 ≤ q ∧ q ≤ n + 2 ∧ y = .int .i64 q ∧ Hid (stkF bar n = firstF G q (n + 1 - q)) ∧ Below w1.heap.size w1 wr) (fun y _ => n + 2 - (intOf y).toNat)
    case atStart => exact ⟨2, by omega, by omega, rfl, HTOP, hB1⟩
    case round =>
      obtain ⟨q, hq2, hqn, rfl, HQ, hbw⟩ := hrel
      clear HTOP hB1
      by_cases hqq : q ≤ n
      · have HF1 := Lib.hid (HFA.out q (by omega))
        have HIA : Hid (∀ k, k < n → firstF (fun i => crcF bar n (q - 1) [i]) k (n - k) = match crcF bar n (q - 1) [k] with
          | some v => some v
          | none => firstF (fun i => crcF bar n (q - 1) [i]) (k + 1) (n - (k + 1))) := fun k hk => firstF_at (f := fun i => crcF bar n (q - 1) [i]) hk
        have HIZ : Hid (firstF (fun i => crcF bar n (q - 1) [i]) n (n - n) = none) := by show _ = _; rw [Nat.sub_self]; rfl
        have HI0 : Hid (firstF (fun i => crcF bar n (q - 1) [i]) 0 n = firstF (fun i => crcF bar n (q - 1) [i]) 0 (n - 0)) := rfl
        clear HFA HFZ
        generalize (fun i => crcF bar n (q - 1) [i]) = F at *
        go_wp2
        go_loopw [32] (fun y wv => ∃ k : Nat, k ≤ n ∧ y = .int .i64 k ∧ Hid (firstF F 0 n = firstF F k (n - k)) ∧ Below w1.heap.size w1 wv) (fun y _ => n - (intOf y).toNat)
        case atStart => exact ⟨0, by omega, rfl, HI0, hbw⟩
        case round =>
          obtain ⟨k, hk, rfl, HK, hbv⟩ := hrel
          clear HI0
          by_cases hkk : k < n
          · have HK1 := Lib.hid (HIA.out k hkk)
            have HC := Lib.hid (HRN.out q k _ hq2 (by omega) hkk hbv)
            have HSN := Lib.hid (fun L h => HSND.out (q - 1) k L hkk h)
            clear HIA HIZ HRN HSND
            have hb2 : Below w1.heap.size w1 (Go.World.alloc _ (.cells #[.int .i64 k] 3)) := hbv.alloc hbv.size (.cells #[.int .i64 k] 3)
            cases hO : crcF bar n (q - 1) [k] with
            | none =>
              have HN : Hid (firstF F 0 n = firstF F (k + 1) (n - (k + 1))) := by show _ = _; rw [HK.out, HK1.out, hO]
              rw [hO] at HC
              clear HSN HK HK1 hO HNM HQ HF1
              go_wp2_with (go_at_call 105; refine HC.out.mono ?_; rintro e w5 ⟨hb5, rfl⟩)
              go_roundw
              case rel => exact ⟨k + 1, by omega, by go_num, HN, hb2.trans (hb5.mono hb2.size)⟩
              case measure => simp [intOf]; omega
            | some L =>
              have HR : Hid (stk d cols = (L.map (colAt cols), true, 0)) := by
                show _ = _
                rw [HR0.out, HQ.out, HF1.out, HK.out, HK1.out, hO]
              have HL := Lib.hid (HSN.out L hO)
              rw [hO] at HC
              clear HSN HK HK1 hO HQ HF1 HR0
              go_upto_region 12 with (go_at_call 105; refine HC.out.mono ?_; rintro e w5 ⟨hb5, a5, c5, rfl, l5, h5⟩)
              have hb6 := hb2.trans (hb5.mono hb2.size)
              have HC2 := Lib.hid (HNM.out w5 hb6 L (some a5) c5 l5 HL.out.1 HL.out.2)
              clear l5 hb5 HNM HC
              go_wp2_with (go_at_call 102; refine HC2.out.mono ?_; rintro e w7 ⟨A7, c7, rfl, l7, h7, hb7, _⟩)
              have HL7 := Lib.hid l7
              clear l7
              refine bodyPost_ret (v := .tuple #[.slice A7 (L.map (colAt cols)).length c7, .bool true, .int .i64 0]) (by simp [results, Tryz.results56, go_sem]) rfl ?_
              exact ⟨A7, c7, by rw [HR.out], by rw [HR.out]; exact HL7.out, by rw [HR.out]; exact h7, HB1.out _ (hb6.trans (hb7.mono hb6.size))⟩
          · obtain rfl : k = n := by omega
            have HN : Hid (stkF bar k = firstF G (q + 1) (k + 1 - (q + 1))) := by show _ = _; rw [HQ.out, HF1.out, HK.out, HIZ.out]
            clear HIA HIZ HK HQ HF1 HRN HSND HNM
            go_wp2
            go_roundw
            case rel => exact ⟨q + 1, by omega, by omega, by go_num, HN, hbv⟩
            case measure => simp [intOf]; omega
      · have HN : Hid (stk d cols = ([], false, 0)) := by show _ = _; rw [HR0.out, HQ.out, HFZ.out q (by omega)]
        clear HFA HFZ HQ HRN HSND HNM HR0
        go_wp2
        refine bodyPost_ret (v := .tuple #[.slice none 0 0, .bool false, .int .i64 0]) (by simp [results, Tryz.results56, go_sem]) rfl ?_
        exact SnE.none_ HN.out (HB1.out _ hbw)
  · have HR : Hid (stk d cols = ([], false, stE cols)) := by show _ = _; unfold stk; rw [if_neg h0]
    have HE := Lib.hid h0
    have hR' : (stE cols == 0) = false := by simpa using h0
    have hR2 : (stE cols != 0) = true := by rw [bne, hR']; rfl
    clear h0
    go_wp2_with (go_at_call 100; refine HST.out.mono ?_; rintro e w1 ⟨(⟨_, rfl⟩ | ⟨h, _⟩), hb1⟩; (first | (exact absurd h HE.out) | skip))
    refine bodyPost_ret (v := .tuple #[.slice none 0 0, .bool false, .int .i64 (stE cols)]) (by simp [results, Tryz.results56, go_sem]) rfl ?_
    exact SnE.none_ HR.out (HEND.out _ hb1)
end Go.Proofs.YtkfeagokmcakgaaGreatDoor

namespace Go.Proofs.YtkfeagokmcakgaaGreatDoor
open Go.RowKit

theorem barM_irr (d : List Rul) (cols : List ByteArray) (i : Nat) : barM d cols i i = false := by
  unfold barM; simp
theorem barM_true {d : List Rul} {cols : List ByteArray} {i k : Nat} (h : barM d cols i k = true) : (barL d 4 (colAt cols i) (colAt cols k) false).1 = false := by
  unfold barM at h
  simp only [Bool.and_eq_true, Bool.not_eq_true'] at h
  exact h.2.2.2
theorem barM_false {d : List Rul} {cols : List ByteArray} {i k : Nat} (hi : i < cols.length) (hk : k < cols.length) (hne : i ≠ k) (h : barM d cols i k = false) : (barL d 4 (colAt cols i) (colAt cols k) false).1 = true := by
  unfold barM at h
  rw [decide_eq_true hi, decide_eq_true hk, decide_eq_true hne] at h
  simpa using h
theorem colAt_get {cols : List ByteArray} {i : Nat} (h : i < cols.length) : colAt cols i = cols[i] := by
  unfold colAt; simp [h]
theorem nodup_get {α : Type} {l : List α} (h : l.Nodup) {i j : Nat} (hi : i < l.length) (hj : j < l.length) (e : l[i] = l[j]) : i = j := by
  rcases Nat.lt_trichotomy i j with h1 | h1 | h1
  · exact absurd e (List.pairwise_iff_getElem.1 h i j hi hj h1)
  · exact h1
  · exact absurd e.symm (List.pairwise_iff_getElem.1 h j i hj hi h1)
theorem twice_nodup {l : List ByteArray} (h : twiceB l = false) : l.Nodup := by
  refine List.pairwise_iff_getElem.2 fun i j hi hj hij e => ?_
  unfold twiceB at h
  have h1 := List.any_eq_false.1 h j (by simpa using hj)
  rw [List.getElem?_eq_getElem hj] at h1
  simp only [List.any_eq_true, decide_eq_true_eq, not_exists, not_and] at h1
  exact h1 l[i] (List.mem_iff_getElem.2 ⟨i, by simp; omega, by rw [List.getElem_take]⟩) e.symm
/-- names out of others, each once -/
structure NmP (cols l : List ByteArray) : Prop where
  mem : ∀ i (h : i < l.length), l[i] ∈ cols
  one : ∀ i (h : i < l.length), l[i] ∉ l.take i
theorem nmP_map {cols : List ByteArray} (hn : cols.Nodup) {L : List Nat} (h1 : L.Nodup) (h2 : ∀ x ∈ L, x < cols.length) : NmP cols (L.map (colAt cols)) := by
  refine ⟨fun i hi => ?_, fun i hi hm => ?_⟩
  · rw [List.getElem_map]
    have hl : i < L.length := by simpa using hi
    have := h2 _ (List.getElem_mem hl)
    rw [colAt_get this]
    exact List.getElem_mem this
  · have hl : i < L.length := by simpa using hi
    have hLi := h2 _ (List.getElem_mem hl)
    rw [← List.map_take, List.getElem_map] at hm
    obtain ⟨a, ha, e⟩ := List.mem_map.1 hm
    have haL := h2 a (List.mem_of_mem_take ha)
    rw [colAt_get haL, colAt_get hLi] at e
    have hai : a = L[i] := nodup_get hn haL hLi e
    subst hai
    obtain ⟨j, hj, ej⟩ := List.getElem_of_mem ha
    rw [List.getElem_take] at ej
    have hjl : j < i := by have := hj; simp at this; omega
    have := nodup_get h1 _ hl ej
    omega
structure OrdP (d : List Rul) (cols l : List ByteArray) : Prop where
  nm : NmP cols l
  up : ∀ i k (hi : i < l.length) (hk : k < l.length), k < i → (barL d 4 l[i] l[k] false).1 = true
structure CycP (d : List Rul) (cols c : List ByteArray) : Prop where
  nm : NmP cols c
  two : 2 ≤ c.length
  cy : ∀ i (hi : i < c.length) (hj : (i + 1) % c.length < c.length), (barL d 4 c[i] c[(i + 1) % c.length] false).1 = false
theorem ordP_of {d : List Rul} {cols : List ByteArray} {L : List Nat} (hn : cols.Nodup) (h : Ord (barM d cols) cols.length L) : OrdP d cols (L.map (colAt cols)) := by
  refine ⟨nmP_map hn h.nd h.lt, fun i k hi hk hki => ?_⟩
  have hi' : i < L.length := by simpa using hi
  have hk' : k < L.length := by simpa using hk
  rw [List.getElem_map, List.getElem_map]
  refine barM_false (h.lt _ (List.getElem_mem hi')) (h.lt _ (List.getElem_mem hk')) (fun e => ?_) (List.pairwise_iff_getElem.1 h.pw k i hk' hi' hki)
  have := nodup_get h.nd hi' hk' e
  omega
theorem cycP_of {d : List Rul} {cols : List ByteArray} {C : List Nat} (hn : cols.Nodup) (h : Cyc (barM d cols) cols.length C) (h2 : 2 ≤ C.length) : CycP d cols (C.map (colAt cols)) := by
  refine ⟨nmP_map hn h.nd h.lt, by simpa using h2, fun i hi hj => ?_⟩
  have hi' : i < C.length := by simpa using hi
  have hj' : (i + 1) % C.length < C.length := Nat.mod_lt _ (by omega)
  simp only [List.getElem_map, List.length_map]
  refine barM_true ?_
  have hl := lnk_at _ h.lk i (by simp; omega)
  rw [List.getElem_append_left hi'] at hl
  by_cases e : i + 1 < C.length
  · rw [List.getElem_append_left e] at hl
    have e2 : (i + 1) % C.length = i + 1 := Nat.mod_eq_of_lt e
    simp only [e2]
    exact hl
  · have e1 : i + 1 = C.length := by omega
    have e2 : (i + 1) % C.length = 0 := by rw [e1]; exact Nat.mod_self _
    rw [List.getElem_append_right (by omega)] at hl
    simp only [e2]
    have e3 : fst C = C[0] := by unfold fst; simp [List.getD_eq_getElem?_getD, show 0 < C.length by omega]
    simpa [e1, e3] using hl
/-- what Arrange and Stuck answer together -/
theorem arr_stk {d : List Rul} {cols : List ByteArray} (h : stE cols = 0) (hn : cols.Nodup) :
    (∃ l, arr d cols = (l, true, 0) ∧ stk d cols = ([], false, 0) ∧ l.length = cols.length ∧ OrdP d cols l) ∨ (∃ c, arr d cols = ([], false, 0) ∧ stk d cols = (c, true, 0) ∧ CycP d cols c) := by
  have hso := stk_ords (bar := barM d cols) (n := cols.length) (barM_irr d cols)
  unfold arr stk
  rw [if_pos h, if_pos h]
  cases e : ordsF (barM d cols) cols.length cols.length [] with
  | some L =>
    rw [e] at hso
    obtain ⟨h1, t, rfl, ht⟩ := ords_sound cols.length [] L ord_nil e
    have e2 : stkF (barM d cols) cols.length = none := by
      cases e2 : stkF (barM d cols) cols.length with
      | none => rfl
      | some _ => rw [e2] at hso; cases hso
    rw [e2]
    exact .inl ⟨_, rfl, rfl, by simpa using ht, ordP_of hn h1⟩
  | none =>
    rw [e] at hso
    cases e2 : stkF (barM d cols) cols.length with
    | none => rw [e2] at hso; cases hso
    | some C =>
      obtain ⟨h1, h2⟩ := stk_sound e2
      exact .inr ⟨_, rfl, rfl, cycP_of hn h1 h2⟩
theorem arr_bad' {d : List Rul} {cols : List ByteArray} (h : stE cols ≠ 0) : arr d cols = ([], false, stE cols) ∧ stk d cols = ([], false, stE cols) := by
  unfold arr stk
  rw [if_neg h, if_neg h]
  exact ⟨rfl, rfl⟩
end Go.Proofs.YtkfeagokmcakgaaGreatDoor

namespace Go.Proofs.YtkfeagokmcakgaaGreatDoor
open Go.RowKit

set_option maxHeartbeats 400000 in
set_option maxRecDepth 100000 in
theorem rhas_any (l : List ByteArray) (A : Option Addr) (c : Nat) (s : ByteArray) (w : World) (hl : Lies w w.heap.size A (strsC l)) (hn : l.length ≤ maxLen) :
    Calls Tryz.prog 77 #[.slice A l.length c, .string s] w (ShEnd (decide (s ∈ l)) w) := by
  have HS1 : Hid (∀ k (hk : k < l.length), l[k] = s → decide (s ∈ l) = true) := fun k hk h => by rw [decide_eq_true]; subst h; exact List.getElem_mem hk
  have HS2 : Hid ((∀ j (hj : j < l.length), l[j] ≠ s) → decide (s ∈ l) = false) := fun h => by
    rw [decide_eq_false]
    intro hm
    obtain ⟨j, hj, e⟩ := List.mem_iff_getElem.1 hm
    exact h j hj e
  have hn2 : (l.length : Int) ≤ 9223372036854775807 := by unfold maxLen at hn; omega
  generalize decide (s ∈ l) = R at *
  clear hn
  go_enter Tryz.func77, Tryz.ntmps77
  go_wp2
  go_loopw [5] (fun y wr => ∃ k : Nat, k ≤ l.length ∧ y = .int .i64 k ∧ Hid (∀ j, j < k → ∀ (hj : j < l.length), l[j] ≠ s) ∧ Below w.heap.size w wr) (fun y _ => l.length - (intOf y).toNat)
  case atStart => exact ⟨0, by omega, rfl, fun j hj => absurd hj (by omega), Below.refl _ _⟩
  case round =>
    obtain ⟨k, hk, rfl, hf, hbw⟩ := hrel
    by_cases hlt : k < l.length
    · have HB := Lib.hid (HS1.out k hlt)
      have HT := Lib.hid (fun (h : l[k] ≠ s) => show Hid (∀ j, j < k + 1 → ∀ (hj : j < l.length), l[j] ≠ s) from fun j hj h1 => by
        by_cases e : j = k
        · subst e; exact h
        · exact hf.out j (by omega) h1)
      obtain ⟨ad, rfl, _, c0⟩ := str_at (hl.below hbw (Nat.le_refl _)) hlt
      clear hf hl HS1 HS2
      generalize l[k] = x at *
      by_cases hx : x = s
      · have hx1 : (x.toList == s.toList) = true := by rw [str_eq]; exact decide_eq_true hx
        have H := Lib.hid (HB.out hx)
        clear HB HT hx
        go_wp2
        go_ret
        exact sh_ret H.out.symm hbw
      · have hx1 : (x.toList == s.toList) = false := by rw [str_eq]; exact decide_eq_false hx
        have H := Lib.hid (HT.out hx)
        clear HB HT hx
        go_wp2
        go_roundw
        case rel => exact ⟨k + 1, by omega, by go_num, H, hbw⟩
        case measure => simp [intOf]; omega
    · obtain rfl : k = l.length := by omega
      have H := Lib.hid (HS2.out (fun j hj => hf.out j hj hj))
      clear hf hl HS1 HS2
      go_wp2
      go_ret
      exact sh_ret H.out.symm hbw
end Go.Proofs.YtkfeagokmcakgaaGreatDoor

namespace Go.Proofs.YtkfeagokmcakgaaGreatDoor
open Go.RowKit

theorem any_mem (m : List ByteArray) (s : ByteArray) : (m.any fun x => decide (s = x)) = decide (s ∈ m) := by
  rw [Bool.eq_iff_iff, List.any_eq_true, decide_eq_true_iff]
  constructor
  · rintro ⟨x, hx, h⟩
    rw [of_decide_eq_true h]; exact hx
  · intro h
    exact ⟨s, h, decide_eq_true rfl⟩
set_option maxHeartbeats 1000000 in
set_option maxRecDepth 100000 in
theorem rtwice_any (l : List ByteArray) (A : Option Addr) (c : Nat) (w : World) (hl : Lies w w.heap.size A (strsC l)) (hm : l.length ≤ 1000) (hc : l.length ≤ c) (hc2 : c ≤ maxLen) :
    Calls Tryz.prog 98 #[.slice A l.length c] w (ShEnd (twiceB l) w) := by
  unfold maxLen at hc2
  have HLW : Hid (∀ V, Below w.heap.size w V → Lies V V.heap.size A (strsC l)) := fun V hV => lies_on hl hV
  clear hl
  go_enter Tryz.func98, Tryz.ntmps98
  go_wp2
  go_loopw [3] (fun y wr => ∃ k : Nat, k ≤ l.length ∧ y = .int .i64 k ∧ Hid (∀ j (hj : j < k) (h' : j < l.length), (l.take j).any (fun x => decide (l[j] = x)) = false) ∧ Below w.heap.size w wr) (fun y _ => l.length - (intOf y).toNat)
  case atStart => exact ⟨0, by omega, rfl, fun j hj => absurd hj (by omega), Below.refl _ _⟩
  case round =>
    obtain ⟨k, hk, rfl, hg, hbw⟩ := hrel
    by_cases hlt : k < l.length
    · obtain ⟨ad, rfl, _, z0⟩ := str_at (HLW.out wr hbw) hlt
      have HZ : Hid (∀ V, Below w.heap.size w V → V.cell? (ad.add k) = some (.string l[k])) := fun V hV => by
        obtain ⟨a2, e2, _, h2⟩ := str_at (HLW.out V hV) hlt
        cases e2
        exact h2
      have HC : Hid (∀ V, Below w.heap.size w V → Calls Tryz.prog 77 #[.slice (some ad) k c, .string l[k]] V (ShEnd ((l.take k).any fun x => decide (l[k] = x)) V)) := fun V hV => by
        have h := rhas_any (l.take k) (some ad) c l[k] V (by have := (HLW.out V hV).take k; rwa [← show strsC (l.take k) = (strsC l).take k from List.map_take] at this) (by rw [List.length_take]; unfold maxLen; omega)
        rw [any_mem]; rwa [List.length_take, Nat.min_eq_left hk] at h
      have HY := Lib.hid (fun h => twiceB_yes hlt h)
      have HN : Hid ((l.take k).any (fun x => decide (l[k] = x)) = false → ∀ j (hj : j < k + 1) (h' : j < l.length), (l.take j).any (fun x => decide (l[j] = x)) = false) := fun h j hj h' => by
        by_cases e : j = k
        · subst e; exact h
        · exact hg.out j (by omega) h'
      have hkc : (k : Int) ≤ (c : Int) := by omega
      have hkl : (k : Int) < (l.length : Int) := by omega
      clear hg HLW
      generalize ((l.take k).any fun x => decide (l[k] = x)) = b at *
      generalize l[k] = s at *
      go_upto_region 4 with fail
      refine wp_region_held_drew (S := fun V => V.cell? (ad.add k) = some (.string s)) (by kernel_rfl) ?_ (fun hHeld => ?_)
      · exact HZ.out _ hbw.drew
      refine tk 0 10 ?_
      refine tk 1 11 ?_
      refine tk 2 12 ?_
      refine tk 3 13 ?_
      refine tk 4 14 ?_
      refine tk 5 15 ?_
      refine tk 6 16 ?_
      (refine held_call 7 (some 17) 77 _ rfl (by kernel_rfl) (by rfl) ?_ ((HC.out _ hbw.drew)) ?_; rotate_left; rotate_left; (simp only [List.getElem?_toArray, List.getElem?_cons_zero, List.getElem?_cons_succ, Option.map_some]; refine congrArg some ?_; go_simp))
      rintro e u ⟨rfl, hb⟩
      have hbu : Below w.heap.size w u := hbw.drew.trans (hb.mono hbw.drew.size)
      refine ⟨_, rfl, HZ.out _ hbu, fun hHeld => ?_⟩
      (try simp only [Act.put, List.setIfInBounds_toArray, List.set_cons_zero, List.set_cons_succ])
      refine wpAnyH_done (by kernel_rfl) ?_ _
      cases b
      · have H := Lib.hid (HN.out rfl)
        clear HY HN HC hHeld hb
        go_wp2
        go_roundw
        case rel => exact ⟨k + 1, by omega, by go_num, H, hbu⟩
        case measure => simp [intOf]; omega
      · have H := Lib.hid (HY.out rfl)
        clear HY HN HC hHeld hb
        go_wp2
        go_ret
        exact sh_ret H.out.symm hbu
    · obtain rfl : k = l.length := by omega
      have H : Hid (twiceB l = false) := twiceB_no (fun j hj => hg.out j hj hj)
      clear hg HLW
      go_wp2
      go_ret
      exact sh_ret H.out.symm hbw
end Go.Proofs.YtkfeagokmcakgaaGreatDoor

namespace Go.Proofs.YtkfeagokmcakgaaGreatDoor
open Go.RowKit

structure NmK (s : ByteArray) (b : Bool) : Prop where
  run : ∀ V, Calls Tryz.prog 97 #[.string s] V (BoolEnd b V)
theorem NmK.go {s : ByteArray} {b : Bool} (h : NmK s b) (V : World) : Calls Tryz.prog 97 #[.string s] V (BoolEnd b V) := h.run V
theorem size_nil (y : ByteArray) (h : y.size = 0) : (y.toList == ([] : List UInt8)) = true := by
  rw [ByteArray.toList_eq]
  have : y.data.toList.length = 0 := by rw [Array.length_toList]; exact h
  rw [List.eq_nil_of_length_eq_zero this]; rfl
theorem size_cons (y : ByteArray) (h : ¬ y.size = 0) : (y.toList == ([] : List UInt8)) = false := by
  rw [ByteArray.toList_eq]
  cases hl : y.data.toList with
  | nil => exact absurd (by have : y.data.toList.length = y.size := by rw [Array.length_toList]; rfl
                            rw [← this, hl]; rfl) h
  | cons a b => rfl
set_option maxHeartbeats 1000000 in
set_option maxRecDepth 100000 in
theorem rformed_any (r : Rul) (w : World) (hx : r.x.size ≤ 100) (hy : r.y.size ≤ 100) : Calls Tryz.prog 85 #[r.agg] w (ShEnd (frm r) w) := by
  obtain ⟨id, kn, kd, x, y, of⟩ := r
  have hxs : x.size ≤ 100 := hx
  have hys : y.size ≤ 100 := hy
  clear hx hy
  have HB : Hid (frm ⟨id, kn, kd, x, y, of⟩ = (decide (1 ≤ id) && decide (id ≤ 1000000) && decide (0 ≤ kn) && decide (kn ≤ 100000) && shpB ⟨id, kn, kd, x, y, of⟩)) := rfl
  show Calls Tryz.prog 85 #[.agg #[.int .i64 id, .int .i64 kn, .int .u8 kd, .string x, .string y, .int .i64 of]] w _
  by_cases h1 : 1 ≤ id
  case neg =>
    have R : Hid (frm ⟨id, kn, kd, x, y, of⟩ = false) := by show _ = _; rw [HB.out]; simp [h1]
    have g1 : id < 1 := by omega
    clear HB
    go_enter Tryz.func85, Tryz.ntmps85
    go_wp2_with (first | (go_at_call 97; refine (NmK.go (by assumption) _).mono ?_; rintro e u ⟨rfl, rfl⟩))
    go_ret
    exact sh_ret R.out.symm (by exact (by repeat (first | with_reducible exact Below.refl _ _ | with_reducible assumption | with_reducible refine Below.drew ?_ | with_reducible refine below_drewN ?_ _ | (with_reducible refine Below.alloc ?_ ?_ _; rotate_left; (try simp) <;> omega) | (with_reducible refine Below.setCell ?_ ?_ _; rotate_left; (try simp) <;> omega))))
  have g1 : ¬ id < 1 := by omega
  by_cases h2 : id ≤ 1000000
  case neg =>
    have R : Hid (frm ⟨id, kn, kd, x, y, of⟩ = false) := by show _ = _; rw [HB.out]; simp [h2]
    have g2 : (1000000 : Int) < id := by omega
    clear HB
    go_enter Tryz.func85, Tryz.ntmps85
    go_wp2_with (first | (go_at_call 97; refine (NmK.go (by assumption) _).mono ?_; rintro e u ⟨rfl, rfl⟩))
    go_ret
    exact sh_ret R.out.symm (by exact (by repeat (first | with_reducible exact Below.refl _ _ | with_reducible assumption | with_reducible refine Below.drew ?_ | with_reducible refine below_drewN ?_ _ | (with_reducible refine Below.alloc ?_ ?_ _; rotate_left; (try simp) <;> omega) | (with_reducible refine Below.setCell ?_ ?_ _; rotate_left; (try simp) <;> omega))))
  have g2 : ¬ (1000000 : Int) < id := by omega
  by_cases h3 : 0 ≤ kn
  case neg =>
    have R : Hid (frm ⟨id, kn, kd, x, y, of⟩ = false) := by show _ = _; rw [HB.out]; simp [h3]
    have g3 : kn < 0 := by omega
    clear HB
    go_enter Tryz.func85, Tryz.ntmps85
    go_wp2_with (first | (go_at_call 97; refine (NmK.go (by assumption) _).mono ?_; rintro e u ⟨rfl, rfl⟩))
    go_ret
    exact sh_ret R.out.symm (by exact (by repeat (first | with_reducible exact Below.refl _ _ | with_reducible assumption | with_reducible refine Below.drew ?_ | with_reducible refine below_drewN ?_ _ | (with_reducible refine Below.alloc ?_ ?_ _; rotate_left; (try simp) <;> omega) | (with_reducible refine Below.setCell ?_ ?_ _; rotate_left; (try simp) <;> omega))))
  have g3 : ¬ kn < 0 := by omega
  by_cases h4 : kn ≤ 100000
  case neg =>
    have R : Hid (frm ⟨id, kn, kd, x, y, of⟩ = false) := by show _ = _; rw [HB.out]; simp [h4]
    have g4 : (100000 : Int) < kn := by omega
    clear HB
    go_enter Tryz.func85, Tryz.ntmps85
    go_wp2_with (first | (go_at_call 97; refine (NmK.go (by assumption) _).mono ?_; rintro e u ⟨rfl, rfl⟩))
    go_ret
    exact sh_ret R.out.symm (by exact (by repeat (first | with_reducible exact Below.refl _ _ | with_reducible assumption | with_reducible refine Below.drew ?_ | with_reducible refine below_drewN ?_ _ | (with_reducible refine Below.alloc ?_ ?_ _; rotate_left; (try simp) <;> omega) | (with_reducible refine Below.setCell ?_ ?_ _; rotate_left; (try simp) <;> omega))))
  have g4 : ¬ (100000 : Int) < kn := by omega
  have HB : Hid (frm ⟨id, kn, kd, x, y, of⟩ = shpB ⟨id, kn, kd, x, y, of⟩) := by show _ = _; rw [HB.out]; simp [h1, h2, h3, h4]
  clear h1 h2 h3 h4
  by_cases hk : 1 ≤ kd ∧ kd ≤ 6
  case neg =>
    have R : Hid (frm ⟨id, kn, kd, x, y, of⟩ = false) := by show _ = _; rw [HB.out]; exact shpB_0 _ hk
    have nx : NmK x (nameB x) := ⟨fun V => rName_any x V hxs⟩
    have ny : NmK y (nameB y) := ⟨fun V => rName_any y V hys⟩
    have k1 : (kd == 1) = false := by rw [beq_eq_false_iff_ne]; omega
    have k2 : (kd == 2) = false := by rw [beq_eq_false_iff_ne]; omega
    have k3 : (kd == 3) = false := by rw [beq_eq_false_iff_ne]; omega
    have k4 : (kd == 4) = false := by rw [beq_eq_false_iff_ne]; omega
    have k5 : (kd == 5) = false := by rw [beq_eq_false_iff_ne]; omega
    have k6 : (kd == 6) = false := by rw [beq_eq_false_iff_ne]; omega
    clear HB hk
    go_enter Tryz.func85, Tryz.ntmps85
    go_wp2_with (first | (go_at_call 97; refine (NmK.go (by assumption) _).mono ?_; rintro e u ⟨rfl, rfl⟩))
    go_ret
    exact sh_ret R.out.symm (by exact (by repeat (first | with_reducible exact Below.refl _ _ | with_reducible assumption | with_reducible refine Below.drew ?_ | with_reducible refine below_drewN ?_ _ | (with_reducible refine Below.alloc ?_ ?_ _; rotate_left; (try simp) <;> omega) | (with_reducible refine Below.setCell ?_ ?_ _; rotate_left; (try simp) <;> omega))))
  have hk6 : kd = 1 ∨ kd = 2 ∨ kd = 3 ∨ kd = 4 ∨ kd = 5 ∨ kd = 6 := by omega
  clear hk
  rcases hk6 with rfl | rfl | rfl | rfl | rfl | rfl
  · have HB : Hid (frm ⟨id, kn, 1, x, y, of⟩ = shp1 ⟨id, kn, 1, x, y, of⟩) := by show _ = _; rw [HB.out]; exact shpB_1 _ (.inl rfl)
    have ny : NmK y (nameB y) := ⟨fun V => rName_any y V hys⟩
    cases hx : nameB x
    · have R : Hid (frm ⟨id, kn, 1, x, y, of⟩ = false) := by show _ = _; rw [HB.out]; simp [shp1, hx]
      have nx : NmK x false := ⟨fun V => by have h := rName_any x V hxs; rw [hx] at h; exact h⟩
      clear HB hx
      go_enter Tryz.func85, Tryz.ntmps85
      go_wp2_with (first | (go_at_call 97; refine (NmK.go (by assumption) _).mono ?_; rintro e u ⟨rfl, rfl⟩))
      go_ret
      exact sh_ret R.out.symm (by exact (by repeat (first | with_reducible exact Below.refl _ _ | with_reducible assumption | with_reducible refine Below.drew ?_ | with_reducible refine below_drewN ?_ _ | (with_reducible refine Below.alloc ?_ ?_ _; rotate_left; (try simp) <;> omega) | (with_reducible refine Below.setCell ?_ ?_ _; rotate_left; (try simp) <;> omega))))
    · have nx : NmK x true := ⟨fun V => by have h := rName_any x V hxs; rw [hx] at h; exact h⟩
      by_cases hye : y.size = 0
      case neg =>
        have R : Hid (frm ⟨id, kn, 1, x, y, of⟩ = false) := by show _ = _; rw [HB.out]; simp [shp1, hx, hye]
        have gye : (y.toList == ([] : List UInt8)) = false := size_cons y hye
        clear HB
        go_enter Tryz.func85, Tryz.ntmps85
        go_wp2_with (first | (go_at_call 97; refine (NmK.go (by assumption) _).mono ?_; rintro e u ⟨rfl, rfl⟩))
        go_ret
        exact sh_ret R.out.symm (by exact (by repeat (first | with_reducible exact Below.refl _ _ | with_reducible assumption | with_reducible refine Below.drew ?_ | with_reducible refine below_drewN ?_ _ | (with_reducible refine Below.alloc ?_ ?_ _; rotate_left; (try simp) <;> omega) | (with_reducible refine Below.setCell ?_ ?_ _; rotate_left; (try simp) <;> omega))))
      have gye : (y.toList == ([] : List UInt8)) = true := size_nil y hye
      by_cases hof : of = 0
      case neg =>
        have R : Hid (frm ⟨id, kn, 1, x, y, of⟩ = false) := by show _ = _; rw [HB.out]; simp [shp1, hx, hye, hof]
        have gof : (of == 0) = false := by rw [beq_eq_false_iff_ne]; exact hof
        clear HB
        go_enter Tryz.func85, Tryz.ntmps85
        go_wp2_with (first | (go_at_call 97; refine (NmK.go (by assumption) _).mono ?_; rintro e u ⟨rfl, rfl⟩))
        go_ret
        exact sh_ret R.out.symm (by exact (by repeat (first | with_reducible exact Below.refl _ _ | with_reducible assumption | with_reducible refine Below.drew ?_ | with_reducible refine below_drewN ?_ _ | (with_reducible refine Below.alloc ?_ ?_ _; rotate_left; (try simp) <;> omega) | (with_reducible refine Below.setCell ?_ ?_ _; rotate_left; (try simp) <;> omega))))
      have gof : (of == 0) = true := by rw [beq_iff_eq]; exact hof
      have R : Hid (frm ⟨id, kn, 1, x, y, of⟩ = true) := by show _ = _; rw [HB.out]; simp [shp1, hx, hye, hof]
      clear HB
      go_enter Tryz.func85, Tryz.ntmps85
      go_wp2_with (first | (go_at_call 97; refine (NmK.go (by assumption) _).mono ?_; rintro e u ⟨rfl, rfl⟩))
      go_ret
      exact sh_ret R.out.symm (by exact (by repeat (first | with_reducible exact Below.refl _ _ | with_reducible assumption | with_reducible refine Below.drew ?_ | with_reducible refine below_drewN ?_ _ | (with_reducible refine Below.alloc ?_ ?_ _; rotate_left; (try simp) <;> omega) | (with_reducible refine Below.setCell ?_ ?_ _; rotate_left; (try simp) <;> omega))))
  · have HB : Hid (frm ⟨id, kn, 2, x, y, of⟩ = shp1 ⟨id, kn, 2, x, y, of⟩) := by show _ = _; rw [HB.out]; exact shpB_1 _ (.inr rfl)
    have ny : NmK y (nameB y) := ⟨fun V => rName_any y V hys⟩
    cases hx : nameB x
    · have R : Hid (frm ⟨id, kn, 2, x, y, of⟩ = false) := by show _ = _; rw [HB.out]; simp [shp1, hx]
      have nx : NmK x false := ⟨fun V => by have h := rName_any x V hxs; rw [hx] at h; exact h⟩
      clear HB hx
      go_enter Tryz.func85, Tryz.ntmps85
      go_wp2_with (first | (go_at_call 97; refine (NmK.go (by assumption) _).mono ?_; rintro e u ⟨rfl, rfl⟩))
      go_ret
      exact sh_ret R.out.symm (by exact (by repeat (first | with_reducible exact Below.refl _ _ | with_reducible assumption | with_reducible refine Below.drew ?_ | with_reducible refine below_drewN ?_ _ | (with_reducible refine Below.alloc ?_ ?_ _; rotate_left; (try simp) <;> omega) | (with_reducible refine Below.setCell ?_ ?_ _; rotate_left; (try simp) <;> omega))))
    · have nx : NmK x true := ⟨fun V => by have h := rName_any x V hxs; rw [hx] at h; exact h⟩
      by_cases hye : y.size = 0
      case neg =>
        have R : Hid (frm ⟨id, kn, 2, x, y, of⟩ = false) := by show _ = _; rw [HB.out]; simp [shp1, hx, hye]
        have gye : (y.toList == ([] : List UInt8)) = false := size_cons y hye
        clear HB
        go_enter Tryz.func85, Tryz.ntmps85
        go_wp2_with (first | (go_at_call 97; refine (NmK.go (by assumption) _).mono ?_; rintro e u ⟨rfl, rfl⟩))
        go_ret
        exact sh_ret R.out.symm (by exact (by repeat (first | with_reducible exact Below.refl _ _ | with_reducible assumption | with_reducible refine Below.drew ?_ | with_reducible refine below_drewN ?_ _ | (with_reducible refine Below.alloc ?_ ?_ _; rotate_left; (try simp) <;> omega) | (with_reducible refine Below.setCell ?_ ?_ _; rotate_left; (try simp) <;> omega))))
      have gye : (y.toList == ([] : List UInt8)) = true := size_nil y hye
      by_cases hof : of = 0
      case neg =>
        have R : Hid (frm ⟨id, kn, 2, x, y, of⟩ = false) := by show _ = _; rw [HB.out]; simp [shp1, hx, hye, hof]
        have gof : (of == 0) = false := by rw [beq_eq_false_iff_ne]; exact hof
        clear HB
        go_enter Tryz.func85, Tryz.ntmps85
        go_wp2_with (first | (go_at_call 97; refine (NmK.go (by assumption) _).mono ?_; rintro e u ⟨rfl, rfl⟩))
        go_ret
        exact sh_ret R.out.symm (by exact (by repeat (first | with_reducible exact Below.refl _ _ | with_reducible assumption | with_reducible refine Below.drew ?_ | with_reducible refine below_drewN ?_ _ | (with_reducible refine Below.alloc ?_ ?_ _; rotate_left; (try simp) <;> omega) | (with_reducible refine Below.setCell ?_ ?_ _; rotate_left; (try simp) <;> omega))))
      have gof : (of == 0) = true := by rw [beq_iff_eq]; exact hof
      have R : Hid (frm ⟨id, kn, 2, x, y, of⟩ = true) := by show _ = _; rw [HB.out]; simp [shp1, hx, hye, hof]
      clear HB
      go_enter Tryz.func85, Tryz.ntmps85
      go_wp2_with (first | (go_at_call 97; refine (NmK.go (by assumption) _).mono ?_; rintro e u ⟨rfl, rfl⟩))
      go_ret
      exact sh_ret R.out.symm (by exact (by repeat (first | with_reducible exact Below.refl _ _ | with_reducible assumption | with_reducible refine Below.drew ?_ | with_reducible refine below_drewN ?_ _ | (with_reducible refine Below.alloc ?_ ?_ _; rotate_left; (try simp) <;> omega) | (with_reducible refine Below.setCell ?_ ?_ _; rotate_left; (try simp) <;> omega))))
  · have HB : Hid (frm ⟨id, kn, 3, x, y, of⟩ = shp2 ⟨id, kn, 3, x, y, of⟩) := by show _ = _; rw [HB.out]; exact shpB_3 _ (.inl rfl)
    cases hx : nameB x
    · have R : Hid (frm ⟨id, kn, 3, x, y, of⟩ = false) := by show _ = _; rw [HB.out]; simp [shp2, hx]
      have nx : NmK x false := ⟨fun V => by have h := rName_any x V hxs; rw [hx] at h; exact h⟩
      have ny : NmK y (nameB y) := ⟨fun V => rName_any y V hys⟩
      clear HB hx
      go_enter Tryz.func85, Tryz.ntmps85
      go_wp2_with (first | (go_at_call 97; refine (NmK.go (by assumption) _).mono ?_; rintro e u ⟨rfl, rfl⟩))
      go_ret
      exact sh_ret R.out.symm (by exact (by repeat (first | with_reducible exact Below.refl _ _ | with_reducible assumption | with_reducible refine Below.drew ?_ | with_reducible refine below_drewN ?_ _ | (with_reducible refine Below.alloc ?_ ?_ _; rotate_left; (try simp) <;> omega) | (with_reducible refine Below.setCell ?_ ?_ _; rotate_left; (try simp) <;> omega))))
    · have nx : NmK x true := ⟨fun V => by have h := rName_any x V hxs; rw [hx] at h; exact h⟩
      cases hy : nameB y
      · have R : Hid (frm ⟨id, kn, 3, x, y, of⟩ = false) := by show _ = _; rw [HB.out]; simp [shp2, hx, hy]
        have ny : NmK y false := ⟨fun V => by have h := rName_any y V hys; rw [hy] at h; exact h⟩
        clear HB hy
        go_enter Tryz.func85, Tryz.ntmps85
        go_wp2_with (first | (go_at_call 97; refine (NmK.go (by assumption) _).mono ?_; rintro e u ⟨rfl, rfl⟩))
        go_ret
        exact sh_ret R.out.symm (by exact (by repeat (first | with_reducible exact Below.refl _ _ | with_reducible assumption | with_reducible refine Below.drew ?_ | with_reducible refine below_drewN ?_ _ | (with_reducible refine Below.alloc ?_ ?_ _; rotate_left; (try simp) <;> omega) | (with_reducible refine Below.setCell ?_ ?_ _; rotate_left; (try simp) <;> omega))))
      · have ny : NmK y true := ⟨fun V => by have h := rName_any y V hys; rw [hy] at h; exact h⟩
        by_cases hof : of = 0
        case neg =>
          have R : Hid (frm ⟨id, kn, 3, x, y, of⟩ = false) := by show _ = _; rw [HB.out]; simp [shp2, hx, hy, hof]
          have gof : (of == 0) = false := by rw [beq_eq_false_iff_ne]; exact hof
          clear HB
          go_enter Tryz.func85, Tryz.ntmps85
          go_wp2_with (first | (go_at_call 97; refine (NmK.go (by assumption) _).mono ?_; rintro e u ⟨rfl, rfl⟩))
          go_ret
          exact sh_ret R.out.symm (by exact (by repeat (first | with_reducible exact Below.refl _ _ | with_reducible assumption | with_reducible refine Below.drew ?_ | with_reducible refine below_drewN ?_ _ | (with_reducible refine Below.alloc ?_ ?_ _; rotate_left; (try simp) <;> omega) | (with_reducible refine Below.setCell ?_ ?_ _; rotate_left; (try simp) <;> omega))))
        have gof : (of == 0) = true := by rw [beq_iff_eq]; exact hof
        have R : Hid (frm ⟨id, kn, 3, x, y, of⟩ = true) := by show _ = _; rw [HB.out]; simp [shp2, hx, hy, hof]
        clear HB
        go_enter Tryz.func85, Tryz.ntmps85
        go_wp2_with (first | (go_at_call 97; refine (NmK.go (by assumption) _).mono ?_; rintro e u ⟨rfl, rfl⟩))
        go_ret
        exact sh_ret R.out.symm (by exact (by repeat (first | with_reducible exact Below.refl _ _ | with_reducible assumption | with_reducible refine Below.drew ?_ | with_reducible refine below_drewN ?_ _ | (with_reducible refine Below.alloc ?_ ?_ _; rotate_left; (try simp) <;> omega) | (with_reducible refine Below.setCell ?_ ?_ _; rotate_left; (try simp) <;> omega))))
  · have HB : Hid (frm ⟨id, kn, 4, x, y, of⟩ = shp2 ⟨id, kn, 4, x, y, of⟩) := by show _ = _; rw [HB.out]; exact shpB_3 _ (.inr rfl)
    cases hx : nameB x
    · have R : Hid (frm ⟨id, kn, 4, x, y, of⟩ = false) := by show _ = _; rw [HB.out]; simp [shp2, hx]
      have nx : NmK x false := ⟨fun V => by have h := rName_any x V hxs; rw [hx] at h; exact h⟩
      have ny : NmK y (nameB y) := ⟨fun V => rName_any y V hys⟩
      clear HB hx
      go_enter Tryz.func85, Tryz.ntmps85
      go_wp2_with (first | (go_at_call 97; refine (NmK.go (by assumption) _).mono ?_; rintro e u ⟨rfl, rfl⟩))
      go_ret
      exact sh_ret R.out.symm (by exact (by repeat (first | with_reducible exact Below.refl _ _ | with_reducible assumption | with_reducible refine Below.drew ?_ | with_reducible refine below_drewN ?_ _ | (with_reducible refine Below.alloc ?_ ?_ _; rotate_left; (try simp) <;> omega) | (with_reducible refine Below.setCell ?_ ?_ _; rotate_left; (try simp) <;> omega))))
    · have nx : NmK x true := ⟨fun V => by have h := rName_any x V hxs; rw [hx] at h; exact h⟩
      cases hy : nameB y
      · have R : Hid (frm ⟨id, kn, 4, x, y, of⟩ = false) := by show _ = _; rw [HB.out]; simp [shp2, hx, hy]
        have ny : NmK y false := ⟨fun V => by have h := rName_any y V hys; rw [hy] at h; exact h⟩
        clear HB hy
        go_enter Tryz.func85, Tryz.ntmps85
        go_wp2_with (first | (go_at_call 97; refine (NmK.go (by assumption) _).mono ?_; rintro e u ⟨rfl, rfl⟩))
        go_ret
        exact sh_ret R.out.symm (by exact (by repeat (first | with_reducible exact Below.refl _ _ | with_reducible assumption | with_reducible refine Below.drew ?_ | with_reducible refine below_drewN ?_ _ | (with_reducible refine Below.alloc ?_ ?_ _; rotate_left; (try simp) <;> omega) | (with_reducible refine Below.setCell ?_ ?_ _; rotate_left; (try simp) <;> omega))))
      · have ny : NmK y true := ⟨fun V => by have h := rName_any y V hys; rw [hy] at h; exact h⟩
        by_cases hof : of = 0
        case neg =>
          have R : Hid (frm ⟨id, kn, 4, x, y, of⟩ = false) := by show _ = _; rw [HB.out]; simp [shp2, hx, hy, hof]
          have gof : (of == 0) = false := by rw [beq_eq_false_iff_ne]; exact hof
          clear HB
          go_enter Tryz.func85, Tryz.ntmps85
          go_wp2_with (first | (go_at_call 97; refine (NmK.go (by assumption) _).mono ?_; rintro e u ⟨rfl, rfl⟩))
          go_ret
          exact sh_ret R.out.symm (by exact (by repeat (first | with_reducible exact Below.refl _ _ | with_reducible assumption | with_reducible refine Below.drew ?_ | with_reducible refine below_drewN ?_ _ | (with_reducible refine Below.alloc ?_ ?_ _; rotate_left; (try simp) <;> omega) | (with_reducible refine Below.setCell ?_ ?_ _; rotate_left; (try simp) <;> omega))))
        have gof : (of == 0) = true := by rw [beq_iff_eq]; exact hof
        have R : Hid (frm ⟨id, kn, 4, x, y, of⟩ = true) := by show _ = _; rw [HB.out]; simp [shp2, hx, hy, hof]
        clear HB
        go_enter Tryz.func85, Tryz.ntmps85
        go_wp2_with (first | (go_at_call 97; refine (NmK.go (by assumption) _).mono ?_; rintro e u ⟨rfl, rfl⟩))
        go_ret
        exact sh_ret R.out.symm (by exact (by repeat (first | with_reducible exact Below.refl _ _ | with_reducible assumption | with_reducible refine Below.drew ?_ | with_reducible refine below_drewN ?_ _ | (with_reducible refine Below.alloc ?_ ?_ _; rotate_left; (try simp) <;> omega) | (with_reducible refine Below.setCell ?_ ?_ _; rotate_left; (try simp) <;> omega))))
  · have HB : Hid (frm ⟨id, kn, 5, x, y, of⟩ = shp5 ⟨id, kn, 5, x, y, of⟩) := by show _ = _; rw [HB.out]; exact shpB_5 _ rfl
    cases hx : nameB x
    · have R : Hid (frm ⟨id, kn, 5, x, y, of⟩ = false) := by show _ = _; rw [HB.out]; simp [shp5, shp2, hx]
      have nx : NmK x false := ⟨fun V => by have h := rName_any x V hxs; rw [hx] at h; exact h⟩
      have ny : NmK y (nameB y) := ⟨fun V => rName_any y V hys⟩
      clear HB hx
      go_enter Tryz.func85, Tryz.ntmps85
      go_wp2_with (first | (go_at_call 97; refine (NmK.go (by assumption) _).mono ?_; rintro e u ⟨rfl, rfl⟩))
      go_ret
      exact sh_ret R.out.symm (by exact (by repeat (first | with_reducible exact Below.refl _ _ | with_reducible assumption | with_reducible refine Below.drew ?_ | with_reducible refine below_drewN ?_ _ | (with_reducible refine Below.alloc ?_ ?_ _; rotate_left; (try simp) <;> omega) | (with_reducible refine Below.setCell ?_ ?_ _; rotate_left; (try simp) <;> omega))))
    · have nx : NmK x true := ⟨fun V => by have h := rName_any x V hxs; rw [hx] at h; exact h⟩
      cases hy : nameB y
      · have R : Hid (frm ⟨id, kn, 5, x, y, of⟩ = false) := by show _ = _; rw [HB.out]; simp [shp5, shp2, hx, hy]
        have ny : NmK y false := ⟨fun V => by have h := rName_any y V hys; rw [hy] at h; exact h⟩
        clear HB hy
        go_enter Tryz.func85, Tryz.ntmps85
        go_wp2_with (first | (go_at_call 97; refine (NmK.go (by assumption) _).mono ?_; rintro e u ⟨rfl, rfl⟩))
        go_ret
        exact sh_ret R.out.symm (by exact (by repeat (first | with_reducible exact Below.refl _ _ | with_reducible assumption | with_reducible refine Below.drew ?_ | with_reducible refine below_drewN ?_ _ | (with_reducible refine Below.alloc ?_ ?_ _; rotate_left; (try simp) <;> omega) | (with_reducible refine Below.setCell ?_ ?_ _; rotate_left; (try simp) <;> omega))))
      · have ny : NmK y true := ⟨fun V => by have h := rName_any y V hys; rw [hy] at h; exact h⟩
        by_cases hne : ¬ x = y
        case neg =>
          have ene : x = y := Classical.not_not.1 hne
          have R : Hid (frm ⟨id, kn, 5, x, y, of⟩ = false) := by show _ = _; rw [HB.out]; simp [shp5, shp2, hx, hy, ene]
          have gne : (x.toList == y.toList) = true := by rw [str_eq]; exact decide_eq_true (Classical.not_not.1 hne)
          clear HB ene
          go_enter Tryz.func85, Tryz.ntmps85
          go_wp2_with (first | (go_at_call 97; refine (NmK.go (by assumption) _).mono ?_; rintro e u ⟨rfl, rfl⟩))
          go_ret
          exact sh_ret R.out.symm (by exact (by repeat (first | with_reducible exact Below.refl _ _ | with_reducible assumption | with_reducible refine Below.drew ?_ | with_reducible refine below_drewN ?_ _ | (with_reducible refine Below.alloc ?_ ?_ _; rotate_left; (try simp) <;> omega) | (with_reducible refine Below.setCell ?_ ?_ _; rotate_left; (try simp) <;> omega))))
        have gne : (x.toList == y.toList) = false := by rw [str_eq]; exact decide_eq_false hne
        by_cases hof : of = 0
        case neg =>
          have R : Hid (frm ⟨id, kn, 5, x, y, of⟩ = false) := by show _ = _; rw [HB.out]; simp [shp5, shp2, hx, hy, hne, hof]
          have gof : (of == 0) = false := by rw [beq_eq_false_iff_ne]; exact hof
          clear HB
          go_enter Tryz.func85, Tryz.ntmps85
          go_wp2_with (first | (go_at_call 97; refine (NmK.go (by assumption) _).mono ?_; rintro e u ⟨rfl, rfl⟩))
          go_ret
          exact sh_ret R.out.symm (by exact (by repeat (first | with_reducible exact Below.refl _ _ | with_reducible assumption | with_reducible refine Below.drew ?_ | with_reducible refine below_drewN ?_ _ | (with_reducible refine Below.alloc ?_ ?_ _; rotate_left; (try simp) <;> omega) | (with_reducible refine Below.setCell ?_ ?_ _; rotate_left; (try simp) <;> omega))))
        have gof : (of == 0) = true := by rw [beq_iff_eq]; exact hof
        have R : Hid (frm ⟨id, kn, 5, x, y, of⟩ = true) := by show _ = _; rw [HB.out]; simp [shp5, shp2, hx, hy, hne, hof]
        clear HB
        go_enter Tryz.func85, Tryz.ntmps85
        go_wp2_with (first | (go_at_call 97; refine (NmK.go (by assumption) _).mono ?_; rintro e u ⟨rfl, rfl⟩))
        go_ret
        exact sh_ret R.out.symm (by exact (by repeat (first | with_reducible exact Below.refl _ _ | with_reducible assumption | with_reducible refine Below.drew ?_ | with_reducible refine below_drewN ?_ _ | (with_reducible refine Below.alloc ?_ ?_ _; rotate_left; (try simp) <;> omega) | (with_reducible refine Below.setCell ?_ ?_ _; rotate_left; (try simp) <;> omega))))
  · have HB : Hid (frm ⟨id, kn, 6, x, y, of⟩ = shp6 ⟨id, kn, 6, x, y, of⟩) := by show _ = _; rw [HB.out]; exact shpB_6 _ rfl
    have nx : NmK x (nameB x) := ⟨fun V => rName_any x V hxs⟩
    have ny : NmK y (nameB y) := ⟨fun V => rName_any y V hys⟩
    by_cases hxe : x.size = 0
    case neg =>
      have R : Hid (frm ⟨id, kn, 6, x, y, of⟩ = false) := by show _ = _; rw [HB.out]; simp [shp6, idB, hxe]
      have gxe : (x.toList == ([] : List UInt8)) = false := size_cons x hxe
      clear HB
      go_enter Tryz.func85, Tryz.ntmps85
      go_wp2_with (first | (go_at_call 97; refine (NmK.go (by assumption) _).mono ?_; rintro e u ⟨rfl, rfl⟩))
      go_ret
      exact sh_ret R.out.symm (by exact (by repeat (first | with_reducible exact Below.refl _ _ | with_reducible assumption | with_reducible refine Below.drew ?_ | with_reducible refine below_drewN ?_ _ | (with_reducible refine Below.alloc ?_ ?_ _; rotate_left; (try simp) <;> omega) | (with_reducible refine Below.setCell ?_ ?_ _; rotate_left; (try simp) <;> omega))))
    have gxe : (x.toList == ([] : List UInt8)) = true := size_nil x hxe
    by_cases hye : y.size = 0
    case neg =>
      have R : Hid (frm ⟨id, kn, 6, x, y, of⟩ = false) := by show _ = _; rw [HB.out]; simp [shp6, idB, hxe, hye]
      have gye : (y.toList == ([] : List UInt8)) = false := size_cons y hye
      clear HB
      go_enter Tryz.func85, Tryz.ntmps85
      go_wp2_with (first | (go_at_call 97; refine (NmK.go (by assumption) _).mono ?_; rintro e u ⟨rfl, rfl⟩))
      go_ret
      exact sh_ret R.out.symm (by exact (by repeat (first | with_reducible exact Below.refl _ _ | with_reducible assumption | with_reducible refine Below.drew ?_ | with_reducible refine below_drewN ?_ _ | (with_reducible refine Below.alloc ?_ ?_ _; rotate_left; (try simp) <;> omega) | (with_reducible refine Below.setCell ?_ ?_ _; rotate_left; (try simp) <;> omega))))
    have gye : (y.toList == ([] : List UInt8)) = true := size_nil y hye
    by_cases ho1 : 1 ≤ of
    case neg =>
      have R : Hid (frm ⟨id, kn, 6, x, y, of⟩ = false) := by show _ = _; rw [HB.out]; simp [shp6, idB, hxe, hye, ho1]
      have go1 : ¬ (1 : Int) ≤ of := ho1
      clear HB
      go_enter Tryz.func85, Tryz.ntmps85
      go_wp2_with (first | (go_at_call 97; refine (NmK.go (by assumption) _).mono ?_; rintro e u ⟨rfl, rfl⟩))
      go_ret
      exact sh_ret R.out.symm (by exact (by repeat (first | with_reducible exact Below.refl _ _ | with_reducible assumption | with_reducible refine Below.drew ?_ | with_reducible refine below_drewN ?_ _ | (with_reducible refine Below.alloc ?_ ?_ _; rotate_left; (try simp) <;> omega) | (with_reducible refine Below.setCell ?_ ?_ _; rotate_left; (try simp) <;> omega))))
    by_cases ho2 : of ≤ 1000000
    case neg =>
      have R : Hid (frm ⟨id, kn, 6, x, y, of⟩ = false) := by show _ = _; rw [HB.out]; simp [shp6, idB, hxe, hye, ho1, ho2]
      have go2 : ¬ of ≤ 1000000 := ho2
      clear HB
      go_enter Tryz.func85, Tryz.ntmps85
      go_wp2_with (first | (go_at_call 97; refine (NmK.go (by assumption) _).mono ?_; rintro e u ⟨rfl, rfl⟩))
      go_ret
      exact sh_ret R.out.symm (by exact (by repeat (first | with_reducible exact Below.refl _ _ | with_reducible assumption | with_reducible refine Below.drew ?_ | with_reducible refine below_drewN ?_ _ | (with_reducible refine Below.alloc ?_ ?_ _; rotate_left; (try simp) <;> omega) | (with_reducible refine Below.setCell ?_ ?_ _; rotate_left; (try simp) <;> omega))))
    by_cases ho3 : ¬ of = id
    case neg =>
      have eo3 : of = id := Classical.not_not.1 ho3
      have R : Hid (frm ⟨id, kn, 6, x, y, of⟩ = false) := by show _ = _; rw [HB.out]; simp [shp6, idB, hxe, hye, ho1, ho2, eo3]
      have go3 : (of != id) = false := by rw [bne_eq_false_iff_eq]; exact Classical.not_not.1 ho3
      clear HB eo3
      go_enter Tryz.func85, Tryz.ntmps85
      go_wp2_with (first | (go_at_call 97; refine (NmK.go (by assumption) _).mono ?_; rintro e u ⟨rfl, rfl⟩))
      go_ret
      exact sh_ret R.out.symm (by exact (by repeat (first | with_reducible exact Below.refl _ _ | with_reducible assumption | with_reducible refine Below.drew ?_ | with_reducible refine below_drewN ?_ _ | (with_reducible refine Below.alloc ?_ ?_ _; rotate_left; (try simp) <;> omega) | (with_reducible refine Below.setCell ?_ ?_ _; rotate_left; (try simp) <;> omega))))
    have go3 : (of != id) = true := by rw [bne_iff_ne]; exact ho3
    have R : Hid (frm ⟨id, kn, 6, x, y, of⟩ = true) := by show _ = _; rw [HB.out]; simp [shp6, idB, hxe, hye, ho1, ho2, ho3]
    clear HB
    go_enter Tryz.func85, Tryz.ntmps85
    go_wp2_with (first | (go_at_call 97; refine (NmK.go (by assumption) _).mono ?_; rintro e u ⟨rfl, rfl⟩))
    go_ret
    exact sh_ret R.out.symm (by exact (by repeat (first | with_reducible exact Below.refl _ _ | with_reducible assumption | with_reducible refine Below.drew ?_ | with_reducible refine below_drewN ?_ _ | (with_reducible refine Below.alloc ?_ ?_ _; rotate_left; (try simp) <;> omega) | (with_reducible refine Below.setCell ?_ ?_ _; rotate_left; (try simp) <;> omega))))
end Go.Proofs.YtkfeagokmcakgaaGreatDoor
