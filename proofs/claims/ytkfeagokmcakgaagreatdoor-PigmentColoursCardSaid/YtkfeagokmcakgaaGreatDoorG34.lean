/- pigment.FirstFault (fn 48). -/
import Derived.Test.YtkfeagokmcakgaaGreatDoorG02
import Derived.Test.YtkfeagokmcakgaaGreatDoorG07
import Derived.Test.YtkfeagokmcakgaaGreatDoorG08
import Derived.Test.YtkfeagokmcakgaaGreatDoorG13
import Derived.Test.YtkfeagokmcakgaaGreatDoorG17
import Derived.Test.YtkfeagokmcakgaaGreatDoorG31
import Derived.Test.YtkfeagokmcakgaaGreatDoorG33

set_option linter.unusedVariables false
set_option linter.unusedSimpArgs false

namespace Go.Proofs.YtkfeagokmcakgaaGreatDoor
open Go.RowKit

def ffst {α : Type} (f : Nat → Option α) : Nat → Option α
  | 0 => none
  | n + 1 => match ffst f n with | some v => some v | none => f n
theorem ffst_none {α : Type} {f : Nat → Option α} : ∀ {n : Nat}, (∀ j, j < n → f j = none) → ffst f n = none
  | 0, _ => rfl
  | n + 1, h => by unfold ffst; rw [ffst_none (fun j hj => h j (by omega))]; exact h n (by omega)
theorem ffst_hit {α : Type} {f : Nat → Option α} {k : Nat} {v : α} : ∀ {n : Nat}, k < n → (∀ j, j < k → f j = none) → f k = some v → ffst f n = some v
  | 0, h, _, _ => absurd h (by omega)
  | n + 1, h, h0, h1 => by
    unfold ffst
    by_cases e : k = n
    · subst e; rw [ffst_none h0]; exact h1
    · rw [ffst_hit (by omega) h0 h1]
/-- what FirstFault says of two colours of a list -/
def ff1 (d : List Rul) (x y : ByteArray) : Option Int := if (barL d 4 x y false).1 = false then some (barL d 4 x y false).2 else if (barL d 3 x y true).1 = false then some (barL d 3 x y true).2 else none
def ffC (d : List Rul) (col : List ByteArray) (i j : Nat) : Option Int := ff1 d (col.getD i ByteArray.empty) (col.getD j ByteArray.empty)
def FF (d : List Rul) (col : List ByteArray) : Int × Int × Bool := match ffst (fun i => ffst (fun j => (ffC d col i j).map fun v => ((i : Int), v)) i) (min col.length 8) with | some (i, v) => (i, v, true) | none => (0, 0, false)
theorem ff_hit {d : List Rul} {col : List ByteArray} {i j : Nat} {v : Int} (hi : i < min col.length 8) (hj : j < i) (h0 : ∀ i', i' < i → ∀ j', j' < i' → ffC d col i' j' = none) (h1 : ∀ j', j' < j → ffC d col i j' = none) (hv : ffC d col i j = some v) : FF d col = ((i : Int), v, true) := by
  have e : ffst (fun i => ffst (fun j => (ffC d col i j).map fun v => ((i : Int), v)) i) (min col.length 8) = some ((i : Int), v) :=
    ffst_hit hi (fun i' hi' => ffst_none (fun j' hj' => by rw [h0 i' hi' j' hj']; rfl)) (ffst_hit hj (fun j' hj' => by rw [h1 j' hj']; rfl) (by rw [hv]; rfl))
  unfold FF
  rw [e]
theorem ff_none {d : List Rul} {col : List ByteArray} (h : ∀ i, i < min col.length 8 → ∀ j, j < i → ffC d col i j = none) : FF d col = (0, 0, false) := by
  unfold FF
  rw [ffst_none (fun i hi => ffst_none (fun j hj => by rw [h i hi j hj]; rfl))]
theorem ffC_at (d : List Rul) {col : List ByteArray} {i j : Nat} (hi : i < col.length) (hj : j < col.length) : ffC d col i j = ff1 d col[i] col[j] := by
  unfold ffC
  simp [List.getD, List.getElem?_eq_getElem hi, List.getElem?_eq_getElem hj]
def FltE (R : Int × Int × Bool) (w : World) (e : Ending) (w' : World) : Prop := e = .returned (.tuple #[.int .i64 R.1, .int .i64 R.2.1, .bool R.2.2]) ∧ Below w.heap.size w w'
set_option maxRecDepth 100000 in
set_option maxHeartbeats 4000000 in
theorem firstFault_any (l : List Rul) (A : Option Addr) (c : Nat) (known : Int) (col : List ByteArray) (Ac : Option Addr) (cc : Nat) (w : World) (hl : Lies w w.heap.size A (rulesC l)) (hok : RulOK l) (hm : l.length ≤ 1000) (hlc : Lies w w.heap.size Ac (strsC col)) (hcs : ∀ s ∈ col, s.size ≤ 100) (hcm : col.length ≤ 1000) (hcc : col.length ≤ cc ∧ cc ≤ maxLen) :
    Calls Tryz.prog 48 #[.agg #[.slice A l.length c], .int .i64 known, .slice Ac col.length cc] w (FltE (FF (cntL l known) col) w) := by
  have hb1 : Below w.heap.size w (w.alloc (.cells #[.slice A l.length c] 25)) := (by repeat (first | with_reducible exact Below.refl _ _ | with_reducible assumption | with_reducible refine Below.drew ?_ | with_reducible refine below_drewN ?_ _ | (with_reducible refine Below.alloc ?_ ?_ _; rotate_left; (try simp) <;> omega) | (with_reducible refine Below.setCell ?_ ?_ _; rotate_left; (try simp) <;> omega)))
  have HC := Lib.hid (counting_any l A c known (w.alloc (.cells #[.slice A l.length c] 25)) ((hl.below hb1 (Nat.le_refl _)).more hb1.size) hok hm)
  have hokd := hok.sub (cnt_sub l known)
  have hmd := Nat.le_trans (cnt_len l known) hm
  have HLC : Hid (∀ W, Below w.heap.size w W → Lies W W.heap.size Ac (strsC col)) := fun W hb => lies_on hlc hb
  have HB1 := Lib.hid hb1
  have HCS := Lib.hid hcs
  generalize cntL l known = d at *
  have HHIT : Hid (∀ i j v, i < min col.length 8 → j < i → (∀ i', i' < i → ∀ j', j' < i' → ffC d col i' j' = none) → (∀ j', j' < j → ffC d col i j' = none) → ffC d col i j = some v → FF d col = ((i : Int), v, true)) := fun i j v h1 h2 h3 h4 h5 => ff_hit h1 h2 h3 h4 h5
  have HNO : Hid ((∀ i, i < min col.length 8 → ∀ j, j < i → ffC d col i j = none) → FF d col = (0, 0, false)) := fun h => ff_none h
  have HAT : Hid (∀ i j (hi : i < col.length) (hj : j < col.length), ffC d col i j = ff1 d col[i] col[j]) := fun i j hi hj => ffC_at d hi hj
  generalize FF d col = R at *
  generalize ffC d col = F at *
  have hcc2 : (cc : Int) ≤ 9223372036854775807 := by have := hcc.2; unfold maxLen at this; omega
  have hcc1 := hcc.1
  have hmm : min col.length 8 ≤ col.length := Nat.min_le_left _ _
  have hmi : min (col.length : Int) 8 = ((min col.length 8 : Nat) : Int) := by omega
  have hmz : min col.length 8 ≤ 8 := Nat.min_le_right _ _
  generalize min col.length 8 = m at *
  clear hl hok hm hlc hcs hcc hb1
  go_enter Tryz.func48, Tryz.ntmps48
  go_upto_region 2 with (first | (go_at_call 38; refine HC.out.mono ?_; rintro e w1 ⟨Ad, cd, rfl, hld, _, hbd⟩))
  have HBW : Hid (∀ V, Below w1.heap.size w1 V → Below w.heap.size w V) := fun V hV => (HB1.out.trans (hbd.mono HB1.out.size)).trans (hV.mono (Nat.le_trans HB1.out.size hbd.size))
  have HBR : Hid (∀ V, Below w1.heap.size w1 V → ∀ (kind : Int) (x y : ByteArray) (back : Bool), x.size ≤ 100 → y.size ≤ 100 → Calls Tryz.prog 79 #[.slice Ad d.length cd, .int .u8 kind, .string x, .string y, .bool back] V (BarE (barL d kind x y back) V)) := fun V hV kind x y back h1 h2 => bars_any d Ad cd kind x y back V (lies_on hld hV) hokd hmd h1 h2
  have hbw1 : Below w1.heap.size w1 w1 := Below.refl _ _
  have HLC1 : Hid (∀ V, Below w1.heap.size w1 V → Lies V V.heap.size Ac (strsC col)) := fun V hV => HLC.out V (HBW.out V hV)
  clear HC HB1 HLC hld hbd hokd hmd
  generalize d.length = nd at *
  go_wp2
  go_loopw [27] (fun v wr => ∃ i : Nat, i ≤ m ∧ v = .int .i64 i ∧ Hid (∀ i', i' < i → ∀ j', j' < i' → F i' j' = none) ∧ Below w1.heap.size w1 wr) (fun v _ => m - (intOf v).toNat)
  case atStart => exact ⟨0, by omega, rfl, (fun i' h => absurd h (by omega)), hbw1⟩
  case round =>
    obtain ⟨i, hi, rfl, hg, hbw⟩ := hrel
    clear hbw1
    by_cases him : i < m
    · have hil : i < col.length := by omega
      obtain ⟨ad, rfl, _, z0⟩ := str_at (HLC1.out wr hbw) hil
      have hic : (i : Int) ≤ (cc : Int) := by omega
      have hiI : (i : Int) < (m : Int) := by omega
      have hsi := HCS.out _ (List.getElem_mem hil)
      have HAT1 := Lib.hid (fun j hj => HAT.out i j hil hj)
      generalize col[i] = s at *
      go_wp2
      go_loopw [36] (fun v wr => ∃ j : Nat, j ≤ i ∧ v = .int .i64 j ∧ Hid (∀ j', j' < j → F i j' = none) ∧ Below w1.heap.size w1 wr) (fun v _ => i - (intOf v).toNat)
      case atStart => exact ⟨0, by omega, rfl, (fun j' h => absurd h (by omega)), hbw⟩
      case round =>
        obtain ⟨j, hj, rfl, hq, hbv⟩ := hrel
        clear hbw z0
        by_cases hji : j < i
        · have hjl : j < col.length := by omega
          obtain ⟨a2, e2, _, z0⟩ := str_at (HLC1.out _ hbv) hjl
          cases e2
          have hjI : (j : Int) < (i : Int) := by omega
          have hsj := HCS.out _ (List.getElem_mem hjl)
          have HV := Lib.hid (HAT1.out j hjl)
          have HH := Lib.hid (fun v => HHIT.out i j v him hji hg.out hq.out)
          have HN : Hid (F i j = none → ∀ j', j' < j + 1 → F i j' = none) := fun h j' h' => by
            by_cases e : j' = j
            · subst e; exact h
            · exact hq.out j' (by omega)
          have H4 : Hid (∀ V, Below w1.heap.size w1 V → Calls Tryz.prog 79 #[.slice Ad nd cd, .int .u8 4, .string s, .string col[j], .bool false] V (BarE (barL d 4 s col[j] false) V)) := fun V hV => HBR.out V hV 4 s col[j] false hsi hsj
          have H3 : Hid (∀ V, Below w1.heap.size w1 V → Calls Tryz.prog 79 #[.slice Ad nd cd, .int .u8 3, .string s, .string col[j], .bool true] V (BarE (barL d 3 s col[j] true) V)) := fun V hV => HBR.out V hV 3 s col[j] true hsi hsj
          unfold ff1 at HV
          clear HHIT HNO HAT HAT1 HBR HLC1 HCS hg hq
          generalize col[j] = t at *
          generalize F i j = fv at *
          generalize barL d 4 s t false = p4 at *
          generalize barL d 3 s t true = p3 at *
          obtain ⟨b4, i4⟩ := p4
          obtain ⟨b3, i3⟩ := p3
          dsimp only at *
          cases b4
          · have HR := Lib.hid (HH.out i4 (by rw [HV.out]; rfl))
            clear HH HN HV H3
            go_wp2_with (go_at_call 79; refine (H4.out _ (by assumption)).mono ?_; rintro e u4 ⟨rfl, hb⟩; have hbu4 : Below w1.heap.size w1 u4 := hbv.trans (hb.mono hbv.size); clear hb H4)
            refine bodyPost_ret (v := .tuple #[.int .i64 i, .int .i64 i4, .bool true]) (by simp [results, Tryz.results48, go_sem]) rfl ?_
            exact ⟨by rw [HR.out], HBW.out _ hbu4⟩
          · cases b3
            · have HR := Lib.hid (HH.out i3 (by rw [HV.out]; rfl))
              clear HH HN HV
              go_wp2_with (first | (go_at_call 79; refine (H4.out _ (by assumption)).mono ?_; rintro e u4 ⟨rfl, hb⟩; have hbu4 : Below w1.heap.size w1 u4 := Below.trans (by assumption) (hb.mono (Below.size (by assumption))); clear hb H4) | (go_at_call 79; refine (H3.out _ (by assumption)).mono ?_; rintro e u3 ⟨rfl, hb⟩; have hbu3 : Below w1.heap.size w1 u3 := Below.trans (by assumption) (hb.mono (Below.size (by assumption))); clear hb H3))
              refine bodyPost_ret (v := .tuple #[.int .i64 i, .int .i64 i3, .bool true]) (by simp [results, Tryz.results48, go_sem]) rfl ?_
              exact ⟨by rw [HR.out], HBW.out _ hbu3⟩
            · have HN2 := Lib.hid (HN.out (by rw [HV.out]; rfl))
              clear HH HN HV
              go_wp2_with (first | (go_at_call 79; refine (H4.out _ (by assumption)).mono ?_; rintro e u4 ⟨rfl, hb⟩; have hbu4 : Below w1.heap.size w1 u4 := Below.trans (by assumption) (hb.mono (Below.size (by assumption))); clear hb H4) | (go_at_call 79; refine (H3.out _ (by assumption)).mono ?_; rintro e u3 ⟨rfl, hb⟩; have hbu3 : Below w1.heap.size w1 u3 := Below.trans (by assumption) (hb.mono (Below.size (by assumption))); clear hb H3))
              go_roundw
              case rel => exact ⟨j + 1, by omega, by go_num, HN2, hbu3⟩
              case measure => simp [intOf]; omega
        · obtain rfl : j = i := by omega
          have HG : Hid (∀ i', i' < j + 1 → ∀ j', j' < i' → F i' j' = none) := fun i' h' j' hj' => by
            by_cases e : i' = j
            · subst e; exact hq.out j' hj'
            · exact hg.out i' (by omega) j' hj'
          clear HHIT HNO HAT HAT1 HBR HLC1 HCS hg hq
          go_wp2
          go_roundw
          case rel => exact ⟨j + 1, by omega, by go_num, HG, hbv⟩
          case measure => simp [intOf]; omega
    · obtain rfl : i = m := by omega
      have HR := Lib.hid (HNO.out hg.out)
      clear HHIT HNO HAT HBR HLC1 HCS hg
      go_wp2
      refine bodyPost_ret (v := .tuple #[.int .i64 0, .int .i64 0, .bool false]) (by simp [results, Tryz.results48, go_sem]) rfl ?_
      exact ⟨by rw [HR.out], HBW.out _ hbw⟩
end Go.Proofs.YtkfeagokmcakgaaGreatDoor

namespace Go.Proofs.YtkfeagokmcakgaaGreatDoor
open Go.RowKit

set_option maxRecDepth 100000 in
set_option maxHeartbeats 4000000 in
theorem rfirstFault_any (l : List Rul) (A : Option Addr) (c : Nat) (known : Int) (col : List ByteArray) (Ac : Option Addr) (cc : Nat) (w : World) (hl : Lies w w.heap.size A (rulesC l)) (hok : RulOK l) (hm : l.length ≤ 1000) (hlc : Lies w w.heap.size Ac (strsC col)) (hcm : col.length ≤ 1000) :
    Calls Tryz.prog 49 #[.agg #[.slice A l.length c], .int .i64 known, .slice Ac col.length cc] w (FltE (FF (cntL l known) col) w) := by
  have HW : Hid (Below w.heap.size w (w.alloc (.cells #[.slice A l.length c] 25))) := (Below.refl _ _).alloc (Nat.le_refl _) _
  have HK0 : Hid (Bk (w.alloc (.cells #[.slice A l.length c] 25)) w.heap.size 25 #[.slice A l.length c]) := Bk.new _ _ _
  have HWS : Hid ((w.alloc (.cells #[.slice A l.length c] 25)).heap.size = w.heap.size + 1) := by show _ = _; simp
  go_enter Tryz.func49, Tryz.ntmps49
  go_upto_region 1 with fail
  have hBW0 : Below (w.alloc (.cells #[.slice A l.length c] 25)).heap.size (w.alloc (.cells #[.slice A l.length c] 25)) (w.alloc (.cells #[.slice A l.length c] 25)) := Below.refl _ _
  have HY : Hid (∀ V, Below (w.alloc (.cells #[.slice A l.length c] 25)).heap.size (w.alloc (.cells #[.slice A l.length c] 25)) V → V.cell? ⟨w.heap.size, 0, none⟩ = some (.slice A l.length c)) := fun V hV => (HK0.out.below hV HK0.out.lt).cell 0 rfl
  have HLC : Hid (∀ V, Below (w.alloc (.cells #[.slice A l.length c] 25)).heap.size (w.alloc (.cells #[.slice A l.length c] 25)) V → Lies V V.heap.size Ac (strsC col)) := fun V hV => lies_on hlc (HW.out.trans (hV.mono (by have := HWS.out; omega)))
  have HOV : Hid (∀ V, Below (w.alloc (.cells #[.slice A l.length c] 25)).heap.size (w.alloc (.cells #[.slice A l.length c] 25)) V → ∀ x y, Calls Tryz.prog 32 #[.agg #[.slice A l.length c], .int .i64 known, .string x, .string y] V (BarE (barL (cntL l known) 4 x y false) V)) := fun V hV x y => rmayOver_any l A c known x y V (lies_on hl (HW.out.trans (hV.mono (by have := HWS.out; omega)))) hok hm
  have HBE : Hid (∀ V, Below (w.alloc (.cells #[.slice A l.length c] 25)).heap.size (w.alloc (.cells #[.slice A l.length c] 25)) V → ∀ x y, Calls Tryz.prog 30 #[.agg #[.slice A l.length c], .int .i64 known, .string x, .string y] V (BarE (barL (cntL l known) 3 x y true) V)) := fun V hV x y => rmayBeside_any l A c known x y V (lies_on hl (HW.out.trans (hV.mono (by have := HWS.out; omega)))) hok hm
  have HBW : Hid (∀ V, Below (w.alloc (.cells #[.slice A l.length c] 25)).heap.size (w.alloc (.cells #[.slice A l.length c] 25)) V → Below w.heap.size w V) := fun V hV => HW.out.trans (hV.mono (by have := HWS.out; omega))
  clear hl hlc HK0 HWS HW
  generalize (w.alloc (.cells #[.slice A l.length c] 25)) = W0 at *
  generalize hb0 : w.heap.size = b0 at *
  have HB0 := Lib.hid hb0
  clear hb0 hm hok
  generalize cntL l known = d at *
  generalize l.length = n at *
  have HHIT : Hid (∀ i j v, i < min col.length 8 → j < i → (∀ i', i' < i → ∀ j', j' < i' → ffC d col i' j' = none) → (∀ j', j' < j → ffC d col i j' = none) → ffC d col i j = some v → FF d col = ((i : Int), v, true)) := fun i j v h1 h2 h3 h4 h5 => ff_hit h1 h2 h3 h4 h5
  have HNO : Hid ((∀ i, i < min col.length 8 → ∀ j, j < i → ffC d col i j = none) → FF d col = (0, 0, false)) := fun h => ff_none h
  have HAT : Hid (∀ i j (hi : i < col.length) (hj : j < col.length), ffC d col i j = ff1 d col[i] col[j]) := fun i j hi hj => ffC_at d hi hj
  generalize FF d col = R at *
  generalize ffC d col = F at *
  have hmm : min col.length 8 ≤ col.length := Nat.min_le_left _ _
  have hmz : min col.length 8 ≤ 8 := Nat.min_le_right _ _
  have HMX : Hid (min col.length 8 = col.length ∨ min col.length 8 = 8) := by show _ ∨ _; omega
  generalize min col.length 8 = m at *
  go_wp2
  go_loopw [9] (fun v wr => ∃ i : Nat, i ≤ m ∧ v = .int .i64 i ∧ Hid (∀ i', i' < i → ∀ j', j' < i' → F i' j' = none) ∧ Below W0.heap.size W0 wr) (fun v _ => m - (intOf v).toNat)
  case atStart => exact ⟨0, by omega, rfl, (fun i' h => absurd h (by omega)), hBW0⟩
  case round =>
    obtain ⟨i, hi, rfl, hg, hbw⟩ := hrel
    clear hBW0
    by_cases him : i < m
    · have hil : i < col.length := by omega
      obtain ⟨ad, rfl, _, z0⟩ := str_at (HLC.out wr hbw) hil
      have HZI : Hid (∀ V, Below W0.heap.size W0 V → V.cell? (ad.add i) = some (.string col[i])) := fun V hV => by
        obtain ⟨a2, e2, _, h2⟩ := str_at (HLC.out V hV) hil
        cases e2
        exact h2
      have hiI : (i : Int) < (col.length : Int) := by omega
      have hi8 : (i : Int) < 8 := by omega
      have HAT1 := Lib.hid (fun j hj => HAT.out i j hil hj)
      generalize col[i] = s at *
      clear z0
      go_wp2
      go_loopw [10] (fun v wr => ∃ j : Nat, j ≤ i ∧ v = .int .i64 j ∧ Hid (∀ j', j' < j → F i j' = none) ∧ Below W0.heap.size W0 wr) (fun v _ => i - (intOf v).toNat)
      case atStart => exact ⟨0, by omega, rfl, (fun j' h => absurd h (by omega)), hbw⟩
      case round =>
        obtain ⟨j, hj, rfl, hq, hbv⟩ := hrel
        clear hbw
        by_cases hji : j < i
        · have hjl : j < col.length := by omega
          have HZ : Hid (∀ V, Below W0.heap.size W0 V → V.cell? ⟨b0, 0, none⟩ = some (.slice A n c) ∧ V.cell? (ad.add i) = some (.string s) ∧ V.cell? (ad.add j) = some (.string col[j])) := fun V hV => by
            obtain ⟨a2, e2, _, h2⟩ := str_at (HLC.out V hV) hjl
            cases e2
            exact ⟨HY.out V hV, HZI.out V hV, h2⟩
          have hjI : (j : Int) < (i : Int) := by omega
          have hjL : (j : Int) < (col.length : Int) := by omega
          have HV := Lib.hid (HAT1.out j hjl)
          have HH := Lib.hid (fun v => HHIT.out i j v him hji hg.out hq.out)
          have HN : Hid (F i j = none → ∀ j', j' < j + 1 → F i j' = none) := fun h j' h' => by
            by_cases e : j' = j
            · subst e; exact h
            · exact hq.out j' (by omega)
          have H4 : Hid (∀ V, Below W0.heap.size W0 V → Calls Tryz.prog 32 #[.agg #[.slice A n c], .int .i64 known, .string s, .string col[j]] V (BarE (barL d 4 s col[j] false) V)) := fun V hV => HOV.out V hV s col[j]
          have H3 : Hid (∀ V, Below W0.heap.size W0 V → Calls Tryz.prog 30 #[.agg #[.slice A n c], .int .i64 known, .string s, .string col[j]] V (BarE (barL d 3 s col[j] true) V)) := fun V hV => HBE.out V hV s col[j]
          unfold ff1 at HV
          clear HHIT HNO HAT HAT1 HOV HBE HLC hg hq HY HZI HMX
          generalize col[j] = t at *
          generalize F i j = fv at *
          generalize barL d 4 s t false = p4 at *
          generalize barL d 3 s t true = p3 at *
          obtain ⟨b4, i4⟩ := p4
          obtain ⟨b3, i3⟩ := p3
          dsimp only at *
          go_upto_region 7 with fail
          refine wp_region_held_drew (S := (fun V => V.cell? ⟨b0, 0, none⟩ = some (.slice A n c) ∧ V.cell? (ad.add i) = some (.string s) ∧ V.cell? (ad.add j) = some (.string t))) (by kernel_rfl) ?_ (fun hHeld => ?_)
          · exact HZ.out _ hbv.drew
          (refine held_take 0 (some 31) ?_ rfl (by kernel_rfl) (by kernel_rfl) (by kernel_rfl) (by rfl) (fun _ _ _ h => h) (by assumption) (fun w hSw => ?_) ?_; rotate_left; ((try dsimp only at hSw); simp only [List.getElem?_toArray, List.getElem?_cons_zero, List.getElem?_cons_succ, Option.map_some]; refine congrArg some ?_; go_simp; (try with_reducible rfl)); (try simp only [Act.put, List.setIfInBounds_toArray, List.set_cons_zero, List.set_cons_succ]))
          (refine held_take 1 (some 32) ?_ rfl (by kernel_rfl) (by kernel_rfl) (by kernel_rfl) (by rfl) (fun _ _ _ h => h) (by assumption) (fun w hSw => ?_) ?_; rotate_left; ((try dsimp only at hSw); simp only [List.getElem?_toArray, List.getElem?_cons_zero, List.getElem?_cons_succ, Option.map_some]; refine congrArg some ?_; go_simp; (try with_reducible rfl)); (try simp only [Act.put, List.setIfInBounds_toArray, List.set_cons_zero, List.set_cons_succ]))
          (refine held_take 2 (some 33) ?_ rfl (by kernel_rfl) (by kernel_rfl) (by kernel_rfl) (by rfl) (fun _ _ _ h => h) (by assumption) (fun w hSw => ?_) ?_; rotate_left; ((try dsimp only at hSw); simp only [List.getElem?_toArray, List.getElem?_cons_zero, List.getElem?_cons_succ, Option.map_some]; refine congrArg some ?_; go_simp; (try with_reducible rfl)); (try simp only [Act.put, List.setIfInBounds_toArray, List.set_cons_zero, List.set_cons_succ]))
          (refine held_take 3 (some 34) ?_ rfl (by kernel_rfl) (by kernel_rfl) (by kernel_rfl) (by rfl) (fun _ _ _ h => h) (by assumption) (fun w hSw => ?_) ?_; rotate_left; ((try dsimp only at hSw); simp only [List.getElem?_toArray, List.getElem?_cons_zero, List.getElem?_cons_succ, Option.map_some]; refine congrArg some ?_; go_simp; (try with_reducible rfl)); (try simp only [Act.put, List.setIfInBounds_toArray, List.set_cons_zero, List.set_cons_succ]))
          (refine held_take 4 (some 35) ?_ rfl (by kernel_rfl) (by kernel_rfl) (by kernel_rfl) (by rfl) (fun _ _ _ h => h) (by assumption) (fun w hSw => ?_) ?_; rotate_left; ((try dsimp only at hSw); simp only [List.getElem?_toArray, List.getElem?_cons_zero, List.getElem?_cons_succ, Option.map_some]; refine congrArg some ?_; go_simp; (try with_reducible rfl)); (try simp only [Act.put, List.setIfInBounds_toArray, List.set_cons_zero, List.set_cons_succ]))
          (refine held_take 5 (some 36) ?_ rfl (by kernel_rfl) (by kernel_rfl) (by kernel_rfl) (by rfl) (fun _ _ _ h => h) (by assumption) (fun w hSw => ?_) ?_; rotate_left; ((try dsimp only at hSw); simp only [List.getElem?_toArray, List.getElem?_cons_zero, List.getElem?_cons_succ, Option.map_some]; refine congrArg some ?_; go_simp; (try with_reducible rfl)); (try simp only [Act.put, List.setIfInBounds_toArray, List.set_cons_zero, List.set_cons_succ]))
          (refine held_take 6 (some 37) ?_ rfl (by kernel_rfl) (by kernel_rfl) (by kernel_rfl) (by rfl) (fun _ _ _ h => h) (by assumption) (fun w hSw => ?_) ?_; rotate_left; ((try dsimp only at hSw); simp only [List.getElem?_toArray, List.getElem?_cons_zero, List.getElem?_cons_succ, Option.map_some]; refine congrArg some ?_; go_simp; (try with_reducible rfl)); (try simp only [Act.put, List.setIfInBounds_toArray, List.set_cons_zero, List.set_cons_succ]))
          (refine held_take 7 (some 38) ?_ rfl (by kernel_rfl) (by kernel_rfl) (by kernel_rfl) (by rfl) (fun _ _ _ h => h) (by assumption) (fun w hSw => ?_) ?_; rotate_left; ((try dsimp only at hSw); simp only [List.getElem?_toArray, List.getElem?_cons_zero, List.getElem?_cons_succ, Option.map_some]; refine congrArg some ?_; go_simp; (try with_reducible rfl)); (try simp only [Act.put, List.setIfInBounds_toArray, List.set_cons_zero, List.set_cons_succ]))
          (refine held_take 8 (some 39) ?_ rfl (by kernel_rfl) (by kernel_rfl) (by kernel_rfl) (by rfl) (fun _ _ _ h => h) (by assumption) (fun w hSw => ?_) ?_; rotate_left; ((try dsimp only at hSw); simp only [List.getElem?_toArray, List.getElem?_cons_zero, List.getElem?_cons_succ, Option.map_some]; refine congrArg some ?_; go_simp; (try with_reducible rfl)); (try simp only [Act.put, List.setIfInBounds_toArray, List.set_cons_zero, List.set_cons_succ]))
          (refine held_take 9 (some 40) ?_ rfl (by kernel_rfl) (by kernel_rfl) (by kernel_rfl) (by rfl) (fun _ _ _ h => h) (by assumption) (fun w hSw => ?_) ?_; rotate_left; ((try dsimp only at hSw); simp only [List.getElem?_toArray, List.getElem?_cons_zero, List.getElem?_cons_succ, Option.map_some]; refine congrArg some ?_; go_simp; (try with_reducible rfl)); (try simp only [Act.put, List.setIfInBounds_toArray, List.set_cons_zero, List.set_cons_succ]))
          (refine held_call 10 (some 41) 32 _ rfl (by kernel_rfl) (by rfl) ?_ ((H4.out _ hbv.drew)) ?_; rotate_left; rotate_left; (simp only [List.getElem?_toArray, List.getElem?_cons_zero, List.getElem?_cons_succ, Option.map_some]; refine congrArg some ?_; go_simp))
          rintro e u4 ⟨rfl, hb⟩
          have hbu4 : Below W0.heap.size W0 u4 := hbv.drew.trans (hb.mono hbv.drew.size)
          clear hb H4
          refine ⟨_, rfl, HZ.out _ hbu4, fun hHeld => ?_⟩
          (try simp only [Act.put, List.setIfInBounds_toArray, List.set_cons_zero, List.set_cons_succ])
          (refine held_take 11 (some 30) ?_ rfl (by kernel_rfl) (by kernel_rfl) (by kernel_rfl) (by rfl) (fun _ _ _ h => h) (by assumption) (fun w hSw => ?_) ?_; rotate_left; ((try dsimp only at hSw); simp only [List.getElem?_toArray, List.getElem?_cons_zero, List.getElem?_cons_succ, Option.map_some]; refine congrArg some ?_; go_simp; (try with_reducible rfl)); (try simp only [Act.put, List.setIfInBounds_toArray, List.set_cons_zero, List.set_cons_succ]))
          (refine held_take 12 (some 42) ?_ rfl (by kernel_rfl) (by kernel_rfl) (by kernel_rfl) (by rfl) (fun _ _ _ h => h) (by assumption) (fun w hSw => ?_) ?_; rotate_left; ((try dsimp only at hSw); simp only [List.getElem?_toArray, List.getElem?_cons_zero, List.getElem?_cons_succ, Option.map_some]; refine congrArg some ?_; go_simp; (try with_reducible rfl)); (try simp only [Act.put, List.setIfInBounds_toArray, List.set_cons_zero, List.set_cons_succ]))
          (refine held_take 13 (some 43) ?_ rfl (by kernel_rfl) (by kernel_rfl) (by kernel_rfl) (by rfl) (fun _ _ _ h => h) (by assumption) (fun w hSw => ?_) ?_; rotate_left; ((try dsimp only at hSw); simp only [List.getElem?_toArray, List.getElem?_cons_zero, List.getElem?_cons_succ, Option.map_some]; refine congrArg some ?_; go_simp; (try with_reducible rfl)); (try simp only [Act.put, List.setIfInBounds_toArray, List.set_cons_zero, List.set_cons_succ]))
          (refine held_take 14 (some 11) ?_ rfl (by kernel_rfl) (by kernel_rfl) (by kernel_rfl) (by rfl) (fun _ _ _ h => h) (by assumption) (fun w hSw => ?_) ?_; rotate_left; ((try dsimp only at hSw); simp only [List.getElem?_toArray, List.getElem?_cons_zero, List.getElem?_cons_succ, Option.map_some]; refine congrArg some ?_; go_simp; (try with_reducible rfl)); (try simp only [Act.put, List.setIfInBounds_toArray, List.set_cons_zero, List.set_cons_succ]))
          (refine held_take 15 (some 12) ?_ rfl (by kernel_rfl) (by kernel_rfl) (by kernel_rfl) (by rfl) (fun _ _ _ h => h) (by assumption) (fun w hSw => ?_) ?_; rotate_left; ((try dsimp only at hSw); simp only [List.getElem?_toArray, List.getElem?_cons_zero, List.getElem?_cons_succ, Option.map_some]; refine congrArg some ?_; go_simp; (try with_reducible rfl)); (try simp only [Act.put, List.setIfInBounds_toArray, List.set_cons_zero, List.set_cons_succ]))
          refine wpAnyH_done (by kernel_rfl) ?_ _
          clear hHeld hbv
          cases b4
          · have HR := Lib.hid (HH.out i4 (by rw [HV.out]; rfl))
            clear HH HN HV H3
            go_wp2
            refine bodyPost_ret (v := .tuple #[.int .i64 i, .int .i64 i4, .bool true]) (by simp [results, Tryz.results49, go_sem]) rfl ?_
            exact ⟨by rw [HR.out], by rw [HB0.out]; exact HBW.out _ hbu4⟩
          · go_upto_region 10 with fail
            refine wp_region_held_drew (S := (fun V => V.cell? ⟨b0, 0, none⟩ = some (.slice A n c) ∧ V.cell? (ad.add i) = some (.string s) ∧ V.cell? (ad.add j) = some (.string t))) (by kernel_rfl) ?_ (fun hHeld => ?_)
            · exact HZ.out _ hbu4.drew
            (refine held_take 0 (some 49) ?_ rfl (by kernel_rfl) (by kernel_rfl) (by kernel_rfl) (by rfl) (fun _ _ _ h => h) (by assumption) (fun w hSw => ?_) ?_; rotate_left; ((try dsimp only at hSw); simp only [List.getElem?_toArray, List.getElem?_cons_zero, List.getElem?_cons_succ, Option.map_some]; refine congrArg some ?_; go_simp; (try with_reducible rfl)); (try simp only [Act.put, List.setIfInBounds_toArray, List.set_cons_zero, List.set_cons_succ]))
            (refine held_take 1 (some 50) ?_ rfl (by kernel_rfl) (by kernel_rfl) (by kernel_rfl) (by rfl) (fun _ _ _ h => h) (by assumption) (fun w hSw => ?_) ?_; rotate_left; ((try dsimp only at hSw); simp only [List.getElem?_toArray, List.getElem?_cons_zero, List.getElem?_cons_succ, Option.map_some]; refine congrArg some ?_; go_simp; (try with_reducible rfl)); (try simp only [Act.put, List.setIfInBounds_toArray, List.set_cons_zero, List.set_cons_succ]))
            (refine held_take 2 (some 51) ?_ rfl (by kernel_rfl) (by kernel_rfl) (by kernel_rfl) (by rfl) (fun _ _ _ h => h) (by assumption) (fun w hSw => ?_) ?_; rotate_left; ((try dsimp only at hSw); simp only [List.getElem?_toArray, List.getElem?_cons_zero, List.getElem?_cons_succ, Option.map_some]; refine congrArg some ?_; go_simp; (try with_reducible rfl)); (try simp only [Act.put, List.setIfInBounds_toArray, List.set_cons_zero, List.set_cons_succ]))
            (refine held_take 3 (some 52) ?_ rfl (by kernel_rfl) (by kernel_rfl) (by kernel_rfl) (by rfl) (fun _ _ _ h => h) (by assumption) (fun w hSw => ?_) ?_; rotate_left; ((try dsimp only at hSw); simp only [List.getElem?_toArray, List.getElem?_cons_zero, List.getElem?_cons_succ, Option.map_some]; refine congrArg some ?_; go_simp; (try with_reducible rfl)); (try simp only [Act.put, List.setIfInBounds_toArray, List.set_cons_zero, List.set_cons_succ]))
            (refine held_take 4 (some 53) ?_ rfl (by kernel_rfl) (by kernel_rfl) (by kernel_rfl) (by rfl) (fun _ _ _ h => h) (by assumption) (fun w hSw => ?_) ?_; rotate_left; ((try dsimp only at hSw); simp only [List.getElem?_toArray, List.getElem?_cons_zero, List.getElem?_cons_succ, Option.map_some]; refine congrArg some ?_; go_simp; (try with_reducible rfl)); (try simp only [Act.put, List.setIfInBounds_toArray, List.set_cons_zero, List.set_cons_succ]))
            (refine held_take 5 (some 54) ?_ rfl (by kernel_rfl) (by kernel_rfl) (by kernel_rfl) (by rfl) (fun _ _ _ h => h) (by assumption) (fun w hSw => ?_) ?_; rotate_left; ((try dsimp only at hSw); simp only [List.getElem?_toArray, List.getElem?_cons_zero, List.getElem?_cons_succ, Option.map_some]; refine congrArg some ?_; go_simp; (try with_reducible rfl)); (try simp only [Act.put, List.setIfInBounds_toArray, List.set_cons_zero, List.set_cons_succ]))
            (refine held_take 6 (some 55) ?_ rfl (by kernel_rfl) (by kernel_rfl) (by kernel_rfl) (by rfl) (fun _ _ _ h => h) (by assumption) (fun w hSw => ?_) ?_; rotate_left; ((try dsimp only at hSw); simp only [List.getElem?_toArray, List.getElem?_cons_zero, List.getElem?_cons_succ, Option.map_some]; refine congrArg some ?_; go_simp; (try with_reducible rfl)); (try simp only [Act.put, List.setIfInBounds_toArray, List.set_cons_zero, List.set_cons_succ]))
            (refine held_take 7 (some 56) ?_ rfl (by kernel_rfl) (by kernel_rfl) (by kernel_rfl) (by rfl) (fun _ _ _ h => h) (by assumption) (fun w hSw => ?_) ?_; rotate_left; ((try dsimp only at hSw); simp only [List.getElem?_toArray, List.getElem?_cons_zero, List.getElem?_cons_succ, Option.map_some]; refine congrArg some ?_; go_simp; (try with_reducible rfl)); (try simp only [Act.put, List.setIfInBounds_toArray, List.set_cons_zero, List.set_cons_succ]))
            (refine held_take 8 (some 57) ?_ rfl (by kernel_rfl) (by kernel_rfl) (by kernel_rfl) (by rfl) (fun _ _ _ h => h) (by assumption) (fun w hSw => ?_) ?_; rotate_left; ((try dsimp only at hSw); simp only [List.getElem?_toArray, List.getElem?_cons_zero, List.getElem?_cons_succ, Option.map_some]; refine congrArg some ?_; go_simp; (try with_reducible rfl)); (try simp only [Act.put, List.setIfInBounds_toArray, List.set_cons_zero, List.set_cons_succ]))
            (refine held_take 9 (some 58) ?_ rfl (by kernel_rfl) (by kernel_rfl) (by kernel_rfl) (by rfl) (fun _ _ _ h => h) (by assumption) (fun w hSw => ?_) ?_; rotate_left; ((try dsimp only at hSw); simp only [List.getElem?_toArray, List.getElem?_cons_zero, List.getElem?_cons_succ, Option.map_some]; refine congrArg some ?_; go_simp; (try with_reducible rfl)); (try simp only [Act.put, List.setIfInBounds_toArray, List.set_cons_zero, List.set_cons_succ]))
            (refine held_call 10 (some 59) 30 _ rfl (by kernel_rfl) (by rfl) ?_ ((H3.out _ hbu4.drew)) ?_; rotate_left; rotate_left; (simp only [List.getElem?_toArray, List.getElem?_cons_zero, List.getElem?_cons_succ, Option.map_some]; refine congrArg some ?_; go_simp))
            rintro e u3 ⟨rfl, hb⟩
            have hbu3 : Below W0.heap.size W0 u3 := hbu4.drew.trans (hb.mono hbu4.drew.size)
            clear hb H3
            refine ⟨_, rfl, HZ.out _ hbu3, fun hHeld => ?_⟩
            (try simp only [Act.put, List.setIfInBounds_toArray, List.set_cons_zero, List.set_cons_succ])
            (refine held_take 11 (some 48) ?_ rfl (by kernel_rfl) (by kernel_rfl) (by kernel_rfl) (by rfl) (fun _ _ _ h => h) (by assumption) (fun w hSw => ?_) ?_; rotate_left; ((try dsimp only at hSw); simp only [List.getElem?_toArray, List.getElem?_cons_zero, List.getElem?_cons_succ, Option.map_some]; refine congrArg some ?_; go_simp; (try with_reducible rfl)); (try simp only [Act.put, List.setIfInBounds_toArray, List.set_cons_zero, List.set_cons_succ]))
            (refine held_take 12 (some 60) ?_ rfl (by kernel_rfl) (by kernel_rfl) (by kernel_rfl) (by rfl) (fun _ _ _ h => h) (by assumption) (fun w hSw => ?_) ?_; rotate_left; ((try dsimp only at hSw); simp only [List.getElem?_toArray, List.getElem?_cons_zero, List.getElem?_cons_succ, Option.map_some]; refine congrArg some ?_; go_simp; (try with_reducible rfl)); (try simp only [Act.put, List.setIfInBounds_toArray, List.set_cons_zero, List.set_cons_succ]))
            (refine held_take 13 (some 61) ?_ rfl (by kernel_rfl) (by kernel_rfl) (by kernel_rfl) (by rfl) (fun _ _ _ h => h) (by assumption) (fun w hSw => ?_) ?_; rotate_left; ((try dsimp only at hSw); simp only [List.getElem?_toArray, List.getElem?_cons_zero, List.getElem?_cons_succ, Option.map_some]; refine congrArg some ?_; go_simp; (try with_reducible rfl)); (try simp only [Act.put, List.setIfInBounds_toArray, List.set_cons_zero, List.set_cons_succ]))
            (refine held_take 14 (some 13) ?_ rfl (by kernel_rfl) (by kernel_rfl) (by kernel_rfl) (by rfl) (fun _ _ _ h => h) (by assumption) (fun w hSw => ?_) ?_; rotate_left; ((try dsimp only at hSw); simp only [List.getElem?_toArray, List.getElem?_cons_zero, List.getElem?_cons_succ, Option.map_some]; refine congrArg some ?_; go_simp; (try with_reducible rfl)); (try simp only [Act.put, List.setIfInBounds_toArray, List.set_cons_zero, List.set_cons_succ]))
            (refine held_take 15 (some 14) ?_ rfl (by kernel_rfl) (by kernel_rfl) (by kernel_rfl) (by rfl) (fun _ _ _ h => h) (by assumption) (fun w hSw => ?_) ?_; rotate_left; ((try dsimp only at hSw); simp only [List.getElem?_toArray, List.getElem?_cons_zero, List.getElem?_cons_succ, Option.map_some]; refine congrArg some ?_; go_simp; (try with_reducible rfl)); (try simp only [Act.put, List.setIfInBounds_toArray, List.set_cons_zero, List.set_cons_succ]))
            refine wpAnyH_done (by kernel_rfl) ?_ _
            clear hHeld hbu4
            cases b3
            · have HR := Lib.hid (HH.out i3 (by rw [HV.out]; rfl))
              clear HH HN HV
              go_wp2
              refine bodyPost_ret (v := .tuple #[.int .i64 i, .int .i64 i3, .bool true]) (by simp [results, Tryz.results49, go_sem]) rfl ?_
              exact ⟨by rw [HR.out], by rw [HB0.out]; exact HBW.out _ hbu3⟩
            · have HN2 := Lib.hid (HN.out (by rw [HV.out]; rfl))
              clear HH HN HV
              go_wp2
              go_roundw
              case rel => exact ⟨j + 1, by omega, by go_num, HN2, hbu3⟩
              case measure => simp [intOf]; omega
        · obtain rfl : j = i := by omega
          have HG : Hid (∀ i', i' < j + 1 → ∀ j', j' < i' → F i' j' = none) := fun i' h' j' hj' => by
            by_cases e : i' = j
            · subst e; exact hq.out j' hj'
            · exact hg.out i' (by omega) j' hj'
          clear HHIT HNO HAT HAT1 HOV HBE HLC hg hq HY HZI HMX
          go_wp2
          go_roundw
          case rel => exact ⟨j + 1, by omega, by go_num, HG, hbv⟩
          case measure => simp [intOf]; omega
    · obtain rfl : i = m := by omega
      have HR := Lib.hid (HNO.out hg.out)
      clear HHIT HNO HAT HOV HBE HLC hg HY
      rcases HMX.out with h8 | h8
      · have h9 : ¬ (i : Int) < (col.length : Int) := by omega
        clear h8 HMX
        go_wp2
        refine bodyPost_ret (v := .tuple #[.int .i64 0, .int .i64 0, .bool false]) (by simp [results, Tryz.results49, go_sem]) rfl ?_
        exact ⟨by rw [HR.out], by rw [HB0.out]; exact HBW.out _ hbw⟩
      · have h9 : ¬ (i : Int) < 8 := by omega
        clear h8 HMX
        by_cases h10 : (i : Int) < (col.length : Int)
        · go_wp2
          refine bodyPost_ret (v := .tuple #[.int .i64 0, .int .i64 0, .bool false]) (by simp [results, Tryz.results49, go_sem]) rfl ?_
          exact ⟨by rw [HR.out], by rw [HB0.out]; exact HBW.out _ hbw⟩
        · go_wp2
          refine bodyPost_ret (v := .tuple #[.int .i64 0, .int .i64 0, .bool false]) (by simp [results, Tryz.results49, go_sem]) rfl ?_
          exact ⟨by rw [HR.out], by rw [HB0.out]; exact HBW.out _ hbw⟩
end Go.Proofs.YtkfeagokmcakgaaGreatDoor

namespace Go.Proofs.YtkfeagokmcakgaaGreatDoor
open Go.RowKit

theorem skF_le (l : List Rul) (col : List ByteArray) (n : Nat) : (skF l col n).length ≤ col.length := by
  unfold skF
  split
  · exact List.length_filter_le _ _
  · exact Nat.zero_le _
set_option maxHeartbeats 1000000 in
set_option maxRecDepth 100000 in
theorem lawColours_any (l : List Rul) (A : Option Addr) (c : Nat) (known : Int) (col : List ByteArray) (Ac : Option Addr) (cc : Nat) (w : World) (hg : Glob w) (hl : Lies w w.heap.size A (rulesC l)) (hc : l.length ≤ c ∧ c ≤ maxLen)
    (hlw : ∀ r ∈ l, (r.x.size ≤ maxLen ∧ r.y.size ≤ maxLen) ∧ (0 ≤ r.kind ∧ r.kind ≤ 255)) (hlc : Lies w w.heap.size Ac (strsC col)) (hcs : ∀ s ∈ col, s.size ≤ maxLen) (hcc : col.length ≤ cc ∧ cc ≤ maxLen) :
    Calls Tryz.prog 9 #[.agg #[.slice A l.length c], .int .i64 known, .slice Ac col.length cc] w (fun e w' => e = .returned (.bool true) ∧ Below w.heap.size w w') := by
  have HW : Hid (Below w.heap.size w (w.alloc (.cells #[.slice A l.length c] 25))) := (Below.refl _ _).alloc (Nat.le_refl _) _
  have HK0 : Hid (Bk (w.alloc (.cells #[.slice A l.length c] 25)) w.heap.size 25 #[.slice A l.length c]) := Bk.new _ _ _
  have HL : Hid (∀ V, Below (w.alloc (.cells #[.slice A l.length c] 25)).heap.size (w.alloc (.cells #[.slice A l.length c] 25)) V → Lies V V.heap.size A (rulesC l)) := fun V hV => lies_on hl (HW.out.trans (hV.mono HW.out.size))
  have HC : Hid (∀ V, Below (w.alloc (.cells #[.slice A l.length c] 25)).heap.size (w.alloc (.cells #[.slice A l.length c] 25)) V → Lies V V.heap.size Ac (strsC col)) := fun V hV => lies_on hlc (HW.out.trans (hV.mono HW.out.size))
  have HR : Hid (∀ V, Below (w.alloc (.cells #[.slice A l.length c] 25)).heap.size (w.alloc (.cells #[.slice A l.length c] 25)) V → Calls Tryz.prog 17 #[] V (fun e w' => e = .returned (.bool true) ∧ Below V.heap.size V w')) := fun V hV => ruled_any V (hg.step (HW.out.trans (hV.mono HW.out.size)))
  go_enter Tryz.func9, Tryz.ntmps9
  go_upto_region 1 with fail
  have hBW0 : Below (w.alloc (.cells #[.slice A l.length c] 25)).heap.size (w.alloc (.cells #[.slice A l.length c] 25)) (w.alloc (.cells #[.slice A l.length c] 25)) := Below.refl _ _
  have HY : Hid (∀ V, Below (w.alloc (.cells #[.slice A l.length c] 25)).heap.size (w.alloc (.cells #[.slice A l.length c] 25)) V → V.cell? ⟨w.heap.size, 0, none⟩ = some (.slice A l.length c)) := fun V hV => (HK0.out.below hV HK0.out.lt).cell 0 rfl
  clear hg hl hlc HK0
  generalize (w.alloc (.cells #[.slice A l.length c] 25)) = W0 at *
  have y0 := HY.out W0 hBW0
  generalize hb0 : w.heap.size = b0 at *
  have HSM : Hid (∀ V, Below W0.heap.size W0 V → Calls Tryz.prog 22 #[.agg #[.slice A l.length c]] V (ShEnd (smallB l) V)) := fun V hV => small_any l A c V (HL.out V hV) (fun r hr => (hlw r hr).1) (Nat.le_trans hc.1 hc.2)
  have HBR : Hid (∀ V, Below W0.heap.size W0 V → Calls Tryz.prog 23 #[.slice Ac col.length cc, .int .i64 12] V (ShEnd (briefB col 12) V)) := fun V hV => brief_any col Ac cc 12 V (HC.out V hV) hcs (Nat.le_trans hcc.1 hcc.2)
  have HEND : Hid (∀ V, Below W0.heap.size W0 V → Below w.heap.size w V) := fun V hV => by subst hb0; exact HW.out.trans (hV.mono (by have := HW.out.size; omega))
  clear hb0
  cases hsm : smallB l
  · rw [hsm] at HSM
    clear HBR HC HL hsm
    go_wp2_with (first | (go_at_call 22; refine (HSM.out _ (by assumption)).mono ?_; rintro e w1 ⟨rfl, hb⟩; have hBw1 : Below W0.heap.size W0 w1 := Below.trans (by assumption) (hb.mono (Below.size (by assumption))); have yw1 := HY.out w1 hBw1; clear hb) | (go_at_call 17; refine (HR.out _ (by assumption)).mono ?_; rintro e z ⟨rfl, hb⟩; have hBz : Below W0.heap.size W0 z := Below.trans (by assumption) (hb.mono (Below.size (by assumption))); clear hb))
    go_ret
    exact ⟨rfl, HEND.out _ hBz⟩
  rw [hsm] at HSM
  have hO := small_ok hsm (fun r hr => (hlw r hr).2)
  clear hsm hlw
  cases hbr : briefB col 12
  · rw [hbr] at HBR
    clear HC HL hbr hO
    go_wp2_with (first | (go_at_call 22; refine (HSM.out _ (by assumption)).mono ?_; rintro e w1 ⟨rfl, hb⟩; have hBw1 : Below W0.heap.size W0 w1 := Below.trans (by assumption) (hb.mono (Below.size (by assumption))); have yw1 := HY.out w1 hBw1; clear hb) | (go_at_call 23; refine (HBR.out _ (by assumption)).mono ?_; rintro e w2 ⟨rfl, hb⟩; have hBw2 : Below W0.heap.size W0 w2 := Below.trans (by assumption) (hb.mono (Below.size (by assumption))); have yw2 := HY.out w2 hBw2; clear hb) | (go_at_call 17; refine (HR.out _ (by assumption)).mono ?_; rintro e z ⟨rfl, hb⟩; have hBz : Below W0.heap.size W0 z := Below.trans (by assumption) (hb.mono (Below.size (by assumption))); clear hb))
    go_ret
    exact ⟨rfl, HEND.out _ hBz⟩
  rw [hbr] at HBR
  have hB := brief_ok hbr
  clear hbr
  have h12 : col.length ≤ 12 := by have := hB.2; omega
  have HSK : Hid (∀ V, Below W0.heap.size W0 V → Calls Tryz.prog 24 #[.agg #[.slice A l.length c], .int .i64 known, .slice Ac col.length cc] V (SkEnd (cntL l known) col V)) := fun V hV => strokes_any l A c known col Ac cc V (HL.out V hV) hO.1 (by have := hO.2; omega) (HC.out V hV) hB.1 (by omega) hcc
  have HSR : Hid (∀ V, Below W0.heap.size W0 V → Calls Tryz.prog 47 #[.agg #[.slice A l.length c], .int .i64 known, .slice Ac col.length cc] V (SkEnd (cntL l known) col V)) := fun V hV => rstrokes_any l A c known col Ac cc V (HL.out V hV) hO.1 (by have := hO.2; omega) (HC.out V hV) hB.1 (by omega) hcc
  have HFF : Hid (∀ V, Below W0.heap.size W0 V → Calls Tryz.prog 48 #[.agg #[.slice A l.length c], .int .i64 known, .slice Ac col.length cc] V (FltE (FF (cntL l known) col) V)) := fun V hV => firstFault_any l A c known col Ac cc V (HL.out V hV) hO.1 (by have := hO.2; omega) (HC.out V hV) hB.1 (by omega) hcc
  have HFR : Hid (∀ V, Below W0.heap.size W0 V → Calls Tryz.prog 49 #[.agg #[.slice A l.length c], .int .i64 known, .slice Ac col.length cc] V (FltE (FF (cntL l known) col) V)) := fun V hV => rfirstFault_any l A c known col Ac cc V (HL.out V hV) hO.1 (by have := hO.2; omega) (HC.out V hV) (by omega)
  clear hO hB HL hcs
  generalize cntL l known = L at *
  unfold SkEnd at HSK HSR
  unfold FltE at HFF HFR
  have hn1 := skF_le L col 1
  have hn2 := skF_le L col 2
  have hd1 : decide (skF L col 1 = skF L col 1) = true := decide_eq_true rfl
  have HQQ : Hid (∀ (F : List ByteArray) (a b : Option Addr) (p q : Nat) (V : World), Lies V V.heap.size a (strsC F) → Lies V V.heap.size b (strsC F) → F.length ≤ 1000000 → Calls Tryz.prog 40 #[.slice a F.length p, .slice b F.length q] V (ShEnd true V)) := fun F a b p q V h1 h2 h3 => by
    have h := sameStrs_any F F a b p q V h1 h2 h3 h3
    unfold sameS at h; rw [decide_eq_true rfl] at h; exact h
  generalize skE L col = E at *
  generalize skF L col 1 = F1 at *
  generalize skF L col 2 = F2 at *
  generalize FF L col = R at *
  obtain ⟨r1, r2, r3⟩ := R
  dsimp only at *
  clear hd1
  have e1 : (E == E) = true := by simp
  have e2 : (r1 == r1) = true := by simp
  have e3 : (r2 == r2) = true := by simp
  have e4 : (r3 == r3) = true := by simp
  go_upto_region 4 with (first | (go_at_call 22; refine (HSM.out _ (by assumption)).mono ?_; rintro e w1 ⟨rfl, hb⟩; have hBw1 : Below W0.heap.size W0 w1 := Below.trans (by assumption) (hb.mono (Below.size (by assumption))); have yw1 := HY.out w1 hBw1; clear hb) | (go_at_call 23; refine (HBR.out _ (by assumption)).mono ?_; rintro e w2 ⟨rfl, hb⟩; have hBw2 : Below W0.heap.size W0 w2 := Below.trans (by assumption) (hb.mono (Below.size (by assumption))); have yw2 := HY.out w2 hBw2; clear hb) | (go_at_call 24; refine (HSK.out _ (by assumption)).mono ?_; rintro e w3 ⟨A1, c1, A2, c2, rfl, l1, l2, hb⟩; have hBw3 : Below W0.heap.size W0 w3 := Below.trans (by assumption) (hb.mono (Below.size (by assumption))); have yw3 := HY.out w3 hBw3; clear hb))
  have HX1 := Lib.hid l1
  have HX2 := Lib.hid l2
  clear l1 l2 HSM HBR HSK y0
  have HY := Lib.hid (fun V (hV : Below w3.heap.size w3 V) => HY.out V (hBw3.trans (hV.mono hBw3.size)))
  have HSR := Lib.hid (fun V (hV : Below w3.heap.size w3 V) => HSR.out V (hBw3.trans (hV.mono hBw3.size)))
  have HFF := Lib.hid (fun V (hV : Below w3.heap.size w3 V) => HFF.out V (hBw3.trans (hV.mono hBw3.size)))
  have HFR := Lib.hid (fun V (hV : Below w3.heap.size w3 V) => HFR.out V (hBw3.trans (hV.mono hBw3.size)))
  have HR := Lib.hid (fun V (hV : Below w3.heap.size w3 V) => HR.out V (hBw3.trans (hV.mono hBw3.size)))
  have HEND := Lib.hid (fun V (hV : Below w3.heap.size w3 V) => HEND.out V (hBw3.trans (hV.mono hBw3.size)))
  have hBw4 : Below w3.heap.size w3 w3 := Below.refl _ _
  clear hBw3
  go_upto_region 5 with (go_at_call 47; refine (HSR.out _ (by assumption)).mono ?_; rintro e w4 ⟨B1, d1, B2, d2, rfl, l1, l2, hb⟩; have hBw5 : Below w3.heap.size w3 w4 := Below.trans (by assumption) (hb.mono (Below.size (by assumption))); have yw4 := HY.out w4 hBw5; clear hb)
  have HQ1 : Hid (∀ V, Below w4.heap.size w4 V → Calls Tryz.prog 40 #[.slice A1 F1.length c1, .slice B1 F1.length d1] V (ShEnd true V)) := fun V hV => HQQ.out F1 A1 B1 c1 d1 V (lies_on (lies_on HX1.out hBw5) hV) (lies_on l1 hV) (by omega)
  have HQ2 : Hid (∀ V, Below w4.heap.size w4 V → Calls Tryz.prog 40 #[.slice A2 F2.length c2, .slice B2 F2.length d2] V (ShEnd true V)) := fun V hV => HQQ.out F2 A2 B2 c2 d2 V (lies_on (lies_on HX2.out hBw5) hV) (lies_on l2 hV) (by omega)
  clear l1 l2 HQQ HX1 HX2 HSR hn1 hn2
  have HY := Lib.hid (fun V (hV : Below w4.heap.size w4 V) => HY.out V (hBw5.trans (hV.mono hBw5.size)))
  have HFF := Lib.hid (fun V (hV : Below w4.heap.size w4 V) => HFF.out V (hBw5.trans (hV.mono hBw5.size)))
  have HFR := Lib.hid (fun V (hV : Below w4.heap.size w4 V) => HFR.out V (hBw5.trans (hV.mono hBw5.size)))
  have HR := Lib.hid (fun V (hV : Below w4.heap.size w4 V) => HR.out V (hBw5.trans (hV.mono hBw5.size)))
  have HEND := Lib.hid (fun V (hV : Below w4.heap.size w4 V) => HEND.out V (hBw5.trans (hV.mono hBw5.size)))
  have hBw6 : Below w4.heap.size w4 w4 := Below.refl _ _
  clear hBw5 hBw4
  generalize F1.length = f1 at *
  generalize F2.length = f2 at *
  go_upto_region 6 with (go_at_call 48; refine (HFF.out _ (by assumption)).mono ?_; rintro e w5 ⟨rfl, hb⟩; have hBw7 : Below w4.heap.size w4 w5 := Below.trans (by assumption) (hb.mono (Below.size (by assumption))); have yw5 := HY.out w5 hBw7; clear hb)
  go_upto_region 7 with (go_at_call 49; refine (HFR.out _ (by assumption)).mono ?_; rintro e w6 ⟨rfl, hb⟩; have hBw8 : Below w4.heap.size w4 w6 := hBw7.trans (hb.mono hBw7.size); clear hb)
  clear HFF HFR HY yw4 yw5 hBw7 hBw6
  go_wp2_with (first | (go_at_call 17; refine (HR.out _ (by assumption)).mono ?_; rintro e w7 ⟨rfl, hb⟩; have hBw9 : Below w4.heap.size w4 w7 := hBw8.trans (hb.mono hBw8.size); clear hb hBw8 HR) | (go_at_call 40; refine (HQ1.out _ (by assumption)).mono ?_; rintro e w8 ⟨rfl, hb⟩; have hBw10 : Below w4.heap.size w4 w8 := hBw9.trans (hb.mono hBw9.size); clear hb hBw9 HQ1) | (go_at_call 40; refine (HQ2.out _ (by assumption)).mono ?_; rintro e w9 ⟨rfl, hb⟩; have hBw11 : Below w4.heap.size w4 w9 := hBw10.trans (hb.mono hBw10.size); clear hb hBw10 HQ2))
  go_ret
  exact ⟨rfl, HEND.out _ hBw11⟩
end Go.Proofs.YtkfeagokmcakgaaGreatDoor

namespace Go.Proofs.YtkfeagokmcakgaaGreatDoor
open Go.ChangeShapes Go.WideShapes Go.ChangeAt Go.RowKit Go.Deep

set_option maxHeartbeats 20000000 in
set_option maxRecDepth 100000 in
theorem colours_facts : joinedFacts Tryz.prog 9 Tryz.f9 Rows.pigmentColoursSpec Rows.pigmentColoursRow = true := by
  unfold joinedFacts
  simp only [Bool.and_eq_true]
  repeat' (refine And.intro ?_ ?_)
  all_goals (as_aux_lemma => kernel_rfl)
end Go.Proofs.YtkfeagokmcakgaaGreatDoor
