/- The reference's listed (fn 103) and over (fn 104). -/
import Derived.Test.YtkfeagokmcakgaaGreatDoorG02
import Derived.Test.YtkfeagokmcakgaaGreatDoorG14
import Derived.Test.YtkfeagokmcakgaaGreatDoorG29
import Derived.Test.YtkfeagokmcakgaaGreatDoorG32

set_option linter.unusedVariables false
set_option linter.unusedSimpArgs false

namespace Go.Proofs.YtkfeagokmcakgaaGreatDoor
open Go.RowKit

set_option maxHeartbeats 400000 in
theorem listed_any (cols : List ByteArray) (A : Option Addr) (c : Nat) (w : World) (hl : Lies w w.heap.size A (strsC cols)) (hm : cols.length ≤ 1000) (hc : cols.length ≤ c ∧ c ≤ maxLen) : Calls Tryz.prog 103 #[.slice A cols.length c] w (IntEnd (stE cols) w) := by
  have HT := Lib.hid (rtwice_any cols A c w hl hm hc.1 hc.2)
  have HS : Hid (stE cols = if 8 < cols.length then 2 else if twiceB cols = true then 6 else 0) := rfl
  clear hl
  generalize twiceB cols = tb at *
  generalize stE cols = E at *
  go_enter Tryz.func103, Tryz.ntmps103
  by_cases h8 : 8 < cols.length
  · have h8I : (8 : Int) < (cols.length : Int) := by omega
    have HE := Lib.hid (HS.out.trans (if_pos h8))
    clear HT HS h8
    go_wp2
    go_ret
    exact ⟨by rw [HE.out]; rfl, by exact (by repeat (first | with_reducible exact Below.refl _ _ | with_reducible assumption | with_reducible refine Below.drew ?_ | with_reducible refine below_drewN ?_ _ | (with_reducible refine Below.alloc ?_ ?_ _; rotate_left; (try simp) <;> omega) | (with_reducible refine Below.setCell ?_ ?_ _; rotate_left; (try simp) <;> omega)))⟩
  · have h8I : ¬ (8 : Int) < (cols.length : Int) := by omega
    have HE := Lib.hid (HS.out.trans (if_neg h8))
    clear HS h8
    cases tb with
    | true =>
      go_wp2_with (go_at_call 98; refine HT.out.mono ?_; rintro e w1 ⟨rfl, hb1⟩)
      go_ret
      exact ⟨by rw [HE.out]; rfl, hb1⟩
    | false =>
      go_wp2_with (go_at_call 98; refine HT.out.mono ?_; rintro e w1 ⟨rfl, hb1⟩)
      go_ret
      exact ⟨by rw [HE.out]; rfl, hb1⟩
/-- what is barred, as cells: before colour i over colour k -/
def OvQ (bar : Nat → Nat → Bool) (i k : Nat) (C : Array Value) : Prop := C.size = 64 ∧ ∀ a b, a < 8 → b < 8 → C[a * 8 + b]? = some (.bool (decide (a < i ∨ a = i ∧ b < k) && bar a b))
def OvC (bar : Nat → Nat → Bool) (C : Array Value) : Prop := C.size = 64 ∧ ∀ a b, a < 8 → b < 8 → C[a * 8 + b]? = some (.bool (bar a b))
def z64 : Array Value := (List.replicate 64 (Value.bool false)).toArray
theorem ovq_0 (bar : Nat → Nat → Bool) : OvQ bar 0 0 z64 := by
  unfold z64
  refine ⟨by simp, fun a b ha hb => ?_⟩
  have hj : a * 8 + b < 64 := by omega
  rw [List.getElem?_toArray, List.getElem?_replicate, if_pos hj]
  simp
theorem ovq_put {bar : Nat → Nat → Bool} {i k : Nat} {C : Array Value} (h : OvQ bar i k C) (hi : i < 8) (hk : k < 8) : OvQ bar i (k + 1) (C.setIfInBounds (i * 8 + k) (.bool (bar i k))) := by
  refine ⟨by simpa using h.1, fun a b ha hb => ?_⟩
  by_cases e : a * 8 + b = i * 8 + k
  · have e1 : a = i := by omega
    have e2 : b = k := by omega
    subst e1; subst e2
    rw [Array.getElem?_setIfInBounds_self_of_lt (by rw [h.1]; omega)]
    simp
  · rw [Array.getElem?_setIfInBounds_ne (by omega), h.2 a b ha hb]
    have : (a < i ∨ a = i ∧ b < k) ↔ (a < i ∨ a = i ∧ b < k + 1) := by omega
    simp only [this]
theorem ovq_row {bar : Nat → Nat → Bool} {i n : Nat} {C : Array Value} (hout : ∀ a b, ¬ (a < n ∧ b < n) → bar a b = false) (h : OvQ bar i n C) : OvQ bar (i + 1) 0 C := by
  refine ⟨h.1, fun a b ha hb => ?_⟩
  rw [h.2 a b ha hb]
  by_cases hbn : b < n
  · have : (a < i ∨ a = i ∧ b < n) ↔ (a < i + 1 ∨ a = i + 1 ∧ b < 0) := by omega
    simp only [this]
  · rw [hout a b (fun h => hbn h.2)]; simp
theorem ovq_done {bar : Nat → Nat → Bool} {n : Nat} {C : Array Value} (hout : ∀ a b, ¬ (a < n ∧ b < n) → bar a b = false) (h : OvQ bar n 0 C) : OvC bar C := by
  refine ⟨h.1, fun a b ha hb => ?_⟩
  rw [h.2 a b ha hb]
  by_cases han : a < n
  · rw [decide_eq_true (.inl han)]; simp
  · rw [hout a b (fun h => han h.1)]; simp
theorem OvC.one {bar : Nat → Nat → Bool} {C : Array Value} (h : OvC bar C) : ∀ v ∈ C.toList, v.oneCell' = true := by
  intro v hv
  obtain ⟨j, hj, rfl⟩ := List.getElem_of_mem hv
  have hj' : j < 64 := by rw [← h.1]; simpa using hj
  have := h.2 (j / 8) (j % 8) (by omega) (by omega)
  rw [show j / 8 * 8 + j % 8 = j by omega, Array.getElem?_eq_getElem (by rw [h.1]; exact hj')] at this
  rw [Array.getElem_toList, Option.some.inj this]; rfl
def OvE (bar : Nat → Nat → Bool) (w : World) (e : Ending) (w' : World) : Prop := ∃ C, e = .returned (.agg C) ∧ OvC bar C ∧ Below w.heap.size w w'
theorem info130 : (Tryz.prog.info? 130).map (·.size) = some 64 := by kernel_rfl
/-- over's memory while it fills its array -/
structure OvI (w : World) (b : Value) (bar : Nat → Nat → Bool) (i k : Nat) (C : Array Value) (V : World) : Prop where
  bel : Below w.heap.size w V
  k1 : Bk V w.heap.size 25 #[b]
  k2 : Bk V (w.heap.size + 1) 130 z64
  k3 : Bk V (w.heap.size + 1 + 1) 130 C
  q : OvQ bar i k C
section
variable {w V V' : World} {b : Value} {bar : Nat → Nat → Bool} {i k : Nat} {C : Array Value}
theorem OvI.step (h : OvI w b bar i k C V) (hb : Below V.heap.size V V') : OvI w b bar i k C V' := ⟨h.bel.trans (hb.mono h.bel.size), h.k1.below hb h.k1.lt, h.k2.below hb h.k2.lt, h.k3.below hb h.k3.lt, h.q⟩
theorem OvI.put (h : OvI w b bar i k C V) (hi : i < 8) (hk : k < 8) {v : Bool} (hv : v = bar i k) : OvI w b bar i (k + 1) (C.setIfInBounds (i * 8 + k) (.bool (bar i k))) (V.setCell ⟨w.heap.size + 1 + 1, i * 8 + k, none⟩ (.bool v)) := by
  subst hv
  exact ⟨h.bel.setCell (p := ⟨w.heap.size + 1 + 1, i * 8 + k, none⟩) (by show w.heap.size ≤ w.heap.size + 1 + 1; omega) _, h.k1.far (p := ⟨w.heap.size + 1 + 1, i * 8 + k, none⟩) (by show w.heap.size ≠ w.heap.size + 1 + 1; omega) _, h.k2.far (p := ⟨w.heap.size + 1 + 1, i * 8 + k, none⟩) (by show w.heap.size + 1 ≠ w.heap.size + 1 + 1; omega) _, h.k3.set _ _, ovq_put h.q hi hk⟩
theorem OvI.row {n : Nat} (hout : ∀ a b, ¬ (a < n ∧ b < n) → bar a b = false) (h : OvI w b bar i n C V) : OvI w b bar (i + 1) 0 C V := ⟨h.bel, h.k1, h.k2, h.k3, ovq_row hout h.q⟩
end
set_option maxRecDepth 100000 in
set_option maxHeartbeats 2500000 in
theorem over_any (l : List Rul) (A : Option Addr) (c : Nat) (known : Int) (cols : List ByteArray) (Ac : Option Addr) (cc : Nat) (w : World) (hl : Lies w w.heap.size A (rulesC l)) (hok : RulOK l) (hm : l.length ≤ 1000) (hlc : Lies w w.heap.size Ac (strsC cols)) (h8 : cols.length ≤ 8) :
    Calls Tryz.prog 104 #[.agg #[.slice A l.length c], .int .i64 known, .slice Ac cols.length cc] w (OvE (barM (cntL l known) cols) w) := by
  have HMO : Hid (∀ V, Below w.heap.size w V → ∀ x y, Calls Tryz.prog 32 #[.agg #[.slice A l.length c], .int .i64 known, .string x, .string y] V (BarE (barL (cntL l known) 4 x y false) V)) := fun V hV x y => rmayOver_any l A c known x y V ((hl.below hV (Nat.le_refl _)).more hV.size) hok hm
  have HLC : Hid (∀ V, Below w.heap.size w V → Lies V V.heap.size Ac (strsC cols)) := fun V hV => (hlc.below hV (Nat.le_refl _)).more hV.size
  have HOUT : Hid (∀ a b, ¬ (a < cols.length ∧ b < cols.length) → barM (cntL l known) cols a b = false) := fun a b h => barM_out h
  have HQ0 := Lib.hid (ovq_0 (barM (cntL l known) cols))
  generalize cntL l known = d at *
  clear hl hlc hok hm
  go_enter Tryz.func104, Tryz.ntmps104
  go_upto_region 3 with fail
  generalize hW : World.alloc (World.alloc (World.alloc w _) _) _ = W0
  have HX1 : Hid (Bk W0 w.heap.size 25 #[.slice A l.length c]) := Lib.hid (by rw [← hW]; exact ((Bk.new _ _ _).alloc _).alloc _)
  have HX2 : Hid (Bk W0 (w.heap.size + 1) 130 z64) := Lib.hid (by
    rw [← hW]
    have h := (Bk.new (w.alloc (.cells #[.slice A l.length c] 25)) 130 z64).alloc (.cells z64 130)
    rw [show (w.alloc (.cells #[.slice A l.length c] 25)).heap.size = w.heap.size + 1 by simp] at h
    exact h)
  have HX3 : Hid (Bk W0 (w.heap.size + 1 + 1) 130 z64) := Lib.hid (by
    rw [← hW]
    have h := Bk.new ((w.alloc (.cells #[.slice A l.length c] 25)).alloc (.cells z64 130)) 130 z64
    rw [show ((w.alloc (.cells #[.slice A l.length c] 25)).alloc (.cells z64 130)).heap.size = w.heap.size + 1 + 1 by simp] at h
    exact h)
  have HBW : Hid (Below w.heap.size w W0) := Lib.hid (by rw [← hW]; exact (((Below.refl _ _).alloc (Nat.le_refl _) _).alloc (by simp) _).alloc (by simp; omega) _)
  have HSZ : W0.heap.size = w.heap.size + 3 := by rw [← hW]; simp
  clear hW
  have HI : Hid (OvI w (.slice A l.length c) (barM d cols) 0 0 z64 W0) := ⟨HBW.out, HX1.out, HX2.out, HX3.out, HQ0.out⟩
  clear HX1 HX2 HX3 HBW HSZ HQ0
  have HBT : Hid (∀ i k, i < cols.length → k < cols.length → barM d cols i k = (decide (i ≠ k) && !(barL d 4 (colAt cols i) (colAt cols k) false).1)) := fun i k hi hk => by
    unfold barM; rw [decide_eq_true hi, decide_eq_true hk]; rfl
  go_loopw [8] (fun y wr => ∃ (i : Nat) (C : Array Value), i ≤ cols.length ∧ y = .int .i64 i ∧ Hid (OvI w (.slice A l.length c) (barM d cols) i 0 C wr)) (fun y _ => cols.length - (intOf y).toNat)
  case atStart => exact ⟨0, z64, by omega, rfl, HI⟩
  case round =>
    obtain ⟨i, C, hi, rfl, HJ⟩ := hrel
    clear HI
    by_cases hil : i < cols.length
    · have hi8 : (i : Int) < 8 := by omega
      go_upto_region 6 with fail
      go_loopw [9] (fun y wr => ∃ (k : Nat) (C : Array Value), k ≤ cols.length ∧ y = .int .i64 k ∧ Hid (OvI w (.slice A l.length c) (barM d cols) i k C wr)) (fun y _ => cols.length - (intOf y).toNat)
      case atStart => exact ⟨0, C, by omega, rfl, HJ⟩
      case round =>
        obtain ⟨k, D, hk, rfl, HK⟩ := hrel
        clear HJ
        by_cases hkl : k < cols.length
        · have hk8 : (k : Int) < 8 := by omega
          obtain ⟨ad, e1, _, _⟩ := str_at (HLC.out _ HK.out.bel) hil
          have HEL : Hid (∀ V, Below w.heap.size w V → ∀ j (hj : j < cols.length), V.cell? (ad.add j) = some (.string cols[j])) := fun V hV j hj => by
            obtain ⟨a2, e2, _, h2⟩ := str_at (HLC.out V hV) hj
            rw [e1] at e2; cases e2; exact h2
          subst e1
          have HE1 := Lib.hid (fun V hV => HEL.out V hV i hil)
          have HE2 := Lib.hid (fun V hV => HEL.out V hV k hkl)
          have HB := Lib.hid (HBT.out i k hil hkl)
          rw [colAt_get hil, colAt_get hkl] at HB
          have HM := Lib.hid (fun V hV => HMO.out V hV cols[i] cols[k])
          have hiI : (i : Int) < (cols.length : Int) := by omega
          have hkI : (k : Int) < (cols.length : Int) := by omega
          clear HEL HMO HLC HBT HOUT
          generalize cols[i] = s at *
          generalize cols[k] = t at *
          generalize barL d 4 s t false = P at *
          obtain ⟨p1, p2⟩ := P
          dsimp only at *
          go_upto_region 8 with fail
          refine wp_region_held_drew (S := (fun V => V.cell? ⟨w.heap.size, 0, none⟩ = some (.slice A l.length c) ∧ V.cell? (ad.add i) = some (.string s) ∧ V.cell? (ad.add k) = some (.string t))) (by kernel_rfl) ?_ (fun hHeld => ?_)
          · exact ⟨HK.out.k1.cell 0 rfl, HE1.out _ HK.out.bel.drew, HE2.out _ HK.out.bel.drew⟩
          have HK0 := Lib.hid (HK.out.step (Below.refl _ _).drew)
          clear HK
          generalize World.drew _ = u0 at *
          refine tk 0 25 ?_
          refine tk 1 26 ?_
          refine tk 2 27 ?_
          refine tk 3 28 ?_
          refine tk 4 29 ?_
          refine tk 5 30 ?_
          refine tk 6 31 ?_
          refine tk 7 32 ?_
          refine tk 8 33 ?_
          refine tk 9 34 ?_
          (refine held_call 10 (some 35) 32 _ rfl (by kernel_rfl) (by rfl) ?_ ((HM.out _ HK0.out.bel)) ?_; rotate_left; rotate_left; (simp only [List.getElem?_toArray, List.getElem?_cons_zero, List.getElem?_cons_succ, Option.map_some]; refine congrArg some ?_; go_simp))
          rintro e u1 ⟨rfl, hb⟩
          have HK1 := Lib.hid (HK0.out.step hb)
          clear hb
          refine ⟨_, rfl, ⟨HK1.out.k1.cell 0 rfl, HE1.out _ HK1.out.bel, HE2.out _ HK1.out.bel⟩, fun hHeld => ?_⟩
          (try simp only [Act.put, List.setIfInBounds_toArray, List.set_cons_zero, List.set_cons_succ])
          refine tk 11 24 ?_
          refine tk 12 36 ?_
          refine tk 13 37 ?_
          refine tk 14 10 ?_
          refine tk 15 11 ?_
          refine wpAnyH_done (by kernel_rfl) ?_ _
          clear hHeld HK0 HM HE1 HE2
          have x9 := HK1.out.k3.cell (i * 8 + k) (HK1.out.q.2 i k (by omega) (by omega))
          have f9 := HK1.out.k3.fro (i * 8 + k)
          by_cases hik : i = k
          · have hne : ((i : Int) != (k : Int)) = false := by rw [hik]; simp
            have hee : ((i : Int) == (k : Int)) = true := by rw [hik]; simp
            have HN := Lib.hid (HK1.out.put (v := false) (by omega) (by omega) (by rw [HB.out]; simp [hik]))
            clear HK1 HB hik
            go_wp2
            go_roundw
            case rel => exact ⟨k + 1, _, by omega, by go_num, HN⟩
            case measure => simp [intOf]; omega
          · have hne : ((i : Int) != (k : Int)) = true := by simp; omega
            have hee : ((i : Int) == (k : Int)) = false := by rw [beq_eq_false_iff_ne]; omega
            have HN := Lib.hid (HK1.out.put (v := !p1) (by omega) (by omega) (by rw [HB.out]; simp [hik]))
            clear HK1 HB hik
            go_wp2
            go_roundw
            case rel => exact ⟨k + 1, _, by omega, by go_num, HN⟩
            case measure => simp [intOf]; omega
        · obtain rfl : k = cols.length := by omega
          have HN := Lib.hid (HK.out.row HOUT.out)
          clear HMO HLC HBT HOUT HK
          go_wp2
          go_roundw
          case rel => exact ⟨i + 1, D, by omega, by go_num, HN⟩
          case measure => simp [intOf]; omega
    · obtain rfl : i = cols.length := by omega
      have HQ := Lib.hid (ovq_done HOUT.out HJ.out.q)
      have HZ := Lib.hid HQ.out.one
      clear HMO HLC HBT HOUT
      have HL64 : Hid ((Tryz.prog.info? 130).map (·.size) = some C.toList.length) := Lib.hid (by rw [Array.length_toList, HJ.out.q.1]; exact info130)
      have HS64 : Hid ((Tryz.prog.info? 130).map (·.size) = some C.size) := Lib.hid (by rw [HJ.out.q.1]; exact info130)
      have HZ64 : Hid (z64.size = C.size) := Lib.hid (by rw [HJ.out.q.1]; rfl)
      go_wp2_with (first | (refine wpList_load_guard (P := Tryz.prog) (by rfl) 130 (.tmp 7) rfl (w.heap.size + 1 + 1) 0 rfl C.toList _ HJ.out.k3.range Tryz.underlying130 rfl HL64.out ?_) | (refine wpList_store_blk (P := Tryz.prog) rfl 130 (.tmp 6) (.tmp 49) rfl (w.heap.size + 1) z64 C rfl rfl HJ.out.k2 HZ64.out HS64.out HZ.out ?_; intro W8 k8 f8))
      refine bodyPost_ret (results_cell rfl _ _ (w.heap.size + 1) C.toList _ rfl k8.range Tryz.underlying130 rfl HL64.out) rfl ?_
      exact ⟨C, rfl, HQ.out, f8.bel _ _ (by omega) HJ.out.bel⟩
end Go.Proofs.YtkfeagokmcakgaaGreatDoor

namespace Go.Proofs.YtkfeagokmcakgaaGreatDoor
open Go.RowKit

/-- the least place of k .. k + m - 1 where p holds; -1: none -/
def nxd (p : Nat → Bool) : Nat → Nat → Int
  | 0, _ => -1
  | m + 1, k => if p k = true then (k : Int) else nxd p m (k + 1)
theorem nxd_cases (p : Nat → Bool) : ∀ (m k : Nat), (∃ i, k ≤ i ∧ i < k + m ∧ p i = true ∧ (∀ q, k ≤ q → q < i → p q = false) ∧ nxd p m k = (i : Int)) ∨ ((∀ i, k ≤ i → i < k + m → p i = false) ∧ nxd p m k = -1)
  | 0, k => .inr ⟨fun i h1 h2 => by omega, rfl⟩
  | m + 1, k => by
    unfold nxd
    cases hp : p k with
    | true => exact .inl ⟨k, Nat.le_refl _, by omega, hp, (fun q h1 h2 => by omega), by simp⟩
    | false =>
      rcases nxd_cases p m (k + 1) with ⟨i, h1, h2, h3, h4, h5⟩ | ⟨h1, h2⟩
      · exact .inl ⟨i, by omega, by omega, h3, (fun q q1 q2 => by
          by_cases e : q = k
          · subst e; exact hp
          · exact h4 q (by omega) q2), by simpa using h5⟩
      · exact .inr ⟨(fun i i1 i2 => by
          by_cases e : i = k
          · subst e; exact hp
          · exact h1 i (by omega) (by omega)), by simpa using h2⟩
theorem nxd_nxt (bar : Nat → Nat → Bool) (n : Nat) (l : List Nat) : (∃ i, nxt bar n l = some i ∧ i < n ∧ i ∉ l ∧ nxd (freeB bar n l) n 0 = (i : Int)) ∨ (nxt bar n l = none ∧ nxd (freeB bar n l) n 0 = -1) := by
  cases e : nxt bar n l with
  | some i =>
    obtain ⟨h1, h2, h3⟩ := nxt_some e
    refine .inl ⟨i, rfl, h1, (freeB_iff.1 h2).1, ?_⟩
    rcases nxd_cases (freeB bar n l) n 0 with ⟨j, g1, g2, g3, g4, g5⟩ | ⟨g1, _⟩
    · rw [g5]
      rcases Nat.lt_trichotomy i j with h | h | h
      · have := g4 i (by omega) h; rw [h2] at this; cases this
      · rw [h]
      · have := h3 j h; rw [g3] at this; cases this
    · have := g1 i (by omega) (by omega); rw [h2] at this; cases this
  | none =>
    refine .inr ⟨rfl, ?_⟩
    rcases nxd_cases (freeB bar n l) n 0 with ⟨j, g1, g2, g3, _⟩ | ⟨_, g2⟩
    · have := nxt_none e (i := j) (by omega); rw [g3] at this; cases this
    · exact g2
/-- whether place i is free, by the first k colours -/
def frB (bar : Nat → Nat → Bool) (l : List Nat) (i k : Nat) : Bool := decide (i ∉ l) && (List.range k).all fun j => decide (j ∈ l) || !bar j i
theorem frB_zero (bar : Nat → Nat → Bool) (l : List Nat) (i : Nat) : frB bar l i 0 = !decide (i ∈ l) := by
  unfold frB; simp
theorem frB_step (bar : Nat → Nat → Bool) (l : List Nat) (i k : Nat) : frB bar l i (k + 1) = (frB bar l i k && (decide (k ∈ l) || !bar k i)) := by
  unfold frB; rw [List.range_succ, List.all_append]; simp [Bool.and_assoc]
theorem frB_full (bar : Nat → Nat → Bool) (n : Nat) (l : List Nat) (i : Nat) : frB bar l i n = freeB bar n l i := rfl
/-- the cells of what is done -/
def dnC (l : List Nat) : Array Value := ((List.range 8).map fun j => Value.bool (decide (j ∈ l))).toArray
theorem dnC_size (l : List Nat) : (dnC l).size = 8 := by unfold dnC; simp
theorem dnC_at (l : List Nat) {j : Nat} (hj : j < 8) : (dnC l)[j]? = some (.bool (decide (j ∈ l))) := by
  unfold dnC; simp [hj]
theorem dnC_nil : dnC [] = #[.bool false, .bool false, .bool false, .bool false, .bool false, .bool false, .bool false, .bool false] := by kernel_rfl
theorem dnC_set (l : List Nat) {j : Nat} (hj : j < 8) : (dnC l).setIfInBounds j (.bool true) = dnC (l ++ [j]) := by
  apply Array.ext_getElem?
  intro i
  by_cases hi : i < 8
  · rw [dnC_at _ hi]
    by_cases e : j = i
    · subst e
      rw [Array.getElem?_setIfInBounds_self_of_lt (by rw [dnC_size]; exact hj)]; simp
    · rw [Array.getElem?_setIfInBounds_ne e, dnC_at _ hi]
      have : (i ∈ l ++ [j]) ↔ i ∈ l := by simp [Ne.symm e]
      simp only [this]
  · rw [Array.getElem?_eq_none (by simp [dnC_size]; omega), Array.getElem?_eq_none (by simp [dnC_size]; omega)]
theorem grd_step {bar : Nat → Nat → Bool} {n i : Nat} {l : List Nat} (h : l.length < n) (e : nxt bar n l = some i) : grd bar n (n - l.length) l = grd bar n (n - (l ++ [i]).length) (l ++ [i]) := by
  rw [show n - l.length = (n - (l ++ [i]).length) + 1 by simp; omega]
  conv => lhs; unfold grd
  rw [e]
theorem grd_stop {bar : Nat → Nat → Bool} {n : Nat} {l : List Nat} (h : l.length < n) (e : nxt bar n l = none) : grd bar n (n - l.length) l = none := by
  rw [show n - l.length = (n - l.length - 1) + 1 by omega]
  unfold grd
  rw [e]
theorem grd_end {bar : Nat → Nat → Bool} {n : Nat} {l : List Nat} (h : l.length = n) : grd bar n (n - l.length) l = some l := by
  rw [show n - l.length = 0 by omega]; rfl
/-- the reference's Arrange while it goes on -/
structure AgI (w : World) (b10 b11 : Nat) (C : Array Value) (cols : List ByteArray) (L : List Nat) (A : Option Addr) (c : Nat) (V : World) : Prop where
  bel : Below w.heap.size w V
  k10 : Bk V b10 130 C
  k11 : Bk V b11 129 (dnC L)
  own : V.ownsRow (b11 + 1) 9 1 (.slice A L.length c) L.length (strsC (L.map (colAt cols)))
  hz : b11 + 1 ≤ V.heap.size
section
variable {w V V' : World} {b10 b11 : Nat} {C : Array Value} {cols : List ByteArray} {L : List Nat} {A : Option Addr} {c : Nat}
theorem AgI.step (h : AgI w b10 b11 C cols L A c V) (hb : Below V.heap.size V V') : AgI w b10 b11 C cols L A c V' := ⟨h.bel.trans (hb.mono h.bel.size), h.k10.below hb h.k10.lt, h.k11.below hb h.k11.lt, ownsRow_below h.own hb (Nat.le_refl _), Nat.le_trans h.hz hb.size⟩
theorem AgI.done (h : AgI w b10 b11 C cols L A c V) (hb : b10 < b11) (hw : w.heap.size ≤ b11) {i : Nat} (hi : i < 8) : Below w.heap.size w (V.setCell ⟨b11, i, none⟩ (.bool true)) ∧ Bk (V.setCell ⟨b11, i, none⟩ (.bool true)) b10 130 C ∧ Bk (V.setCell ⟨b11, i, none⟩ (.bool true)) b11 129 (dnC (L ++ [i])) ∧ (V.setCell ⟨b11, i, none⟩ (.bool true)).ownsRow (b11 + 1) 9 1 (.slice A L.length c) L.length (strsC (L.map (colAt cols))) ∧ b11 + 1 ≤ (V.setCell ⟨b11, i, none⟩ (.bool true)).heap.size :=
  ⟨h.bel.setCell (p := ⟨b11, i, none⟩) hw _, h.k10.far (p := ⟨b11, i, none⟩) (by show b10 ≠ b11; omega) _, by have := h.k11.set i (.bool true); rwa [dnC_set L hi] at this, (far_setCells b11 [.bool true] i V).own h.own (Nat.lt_succ_self _), by have := h.hz; simpa [World.setCell] using this⟩
end
end Go.Proofs.YtkfeagokmcakgaaGreatDoor

namespace Go.Proofs.YtkfeagokmcakgaaGreatDoor
open Go.RowKit

def slM : Value → Nat
  | .slice _ n _ => n
  | _ => 0

set_option maxRecDepth 100000 in
set_option maxHeartbeats 2500000 in
theorem rarrange_any (l : List Rul) (A : Option Addr) (c : Nat) (known : Int) (cols : List ByteArray) (Ac : Option Addr) (cc : Nat) (w : World) (hl : Lies w w.heap.size A (rulesC l)) (hok : RulOK l) (hm : l.length ≤ 1000) (hlc : Lies w w.heap.size Ac (strsC cols)) (hcm : cols.length ≤ 1000) (hcc : cols.length ≤ cc ∧ cc ≤ maxLen) :
    Calls Tryz.prog 55 #[.agg #[.slice A l.length c], .int .i64 known, .slice Ac cols.length cc] w (SnE (arr (cntL l known) cols) w) := by
  have HW : Hid (Below w.heap.size w (w.alloc (.cells #[.slice A l.length c] 25))) := (Below.refl _ _).alloc (Nat.le_refl _) _
  have HLC : Hid (∀ V, Below w.heap.size w V → Lies V V.heap.size Ac (strsC cols)) := fun V hV => (hlc.below hV (Nat.le_refl _)).more hV.size
  have HLS : Hid (∀ V, Below w.heap.size w V → Calls Tryz.prog 103 #[.slice Ac cols.length cc] V (IntEnd (stE cols) V)) := fun V hV => listed_any cols Ac cc V (HLC.out V hV) hcm hcc
  have HBX : Hid (∀ V, Below (w.alloc (.cells #[.slice A l.length c] 25)).heap.size (w.alloc (.cells #[.slice A l.length c] 25)) V → V.cell? ⟨w.heap.size, 0, none⟩ = some (.slice A l.length c)) := fun V hV => ((Bk.new w 25 #[.slice A l.length c]).below hV (Bk.new w 25 _).lt).cell 0 rfl
  have hBB : Below (w.alloc (.cells #[.slice A l.length c] 25)).heap.size (w.alloc (.cells #[.slice A l.length c] 25)) (w.alloc (.cells #[.slice A l.length c] 25)) := Below.refl _ _
  go_enter Tryz.func55, Tryz.ntmps55
  go_upto_region 1 with fail
  generalize w.alloc (.cells #[.slice A l.length c] 25) = Wb at *
  by_cases h0 : stE cols = 0
  case neg =>
    have HE := Lib.hid h0
    have HR : Hid (arr (cntL l known) cols = ([], false, stE cols)) := by show _ = _; unfold arr; rw [if_neg h0]
    have hR' : (stE cols == 0) = false := by simpa using h0
    have hR2 : (stE cols != 0) = true := by rw [bne, hR']; rfl
    clear h0
    go_wp2_with (go_at_call 103; refine (HLS.out _ HW.out).mono ?_; rintro e w1 ⟨rfl, hb1⟩)
    refine bodyPost_ret (v := .tuple #[.slice none 0 0, .bool false, .int .i64 (stE cols)]) (by simp [results, Tryz.results55, go_sem]) rfl ?_
    exact SnE.none_ HR.out (HW.out.trans (hb1.mono HW.out.size))
  have h8 := stE_len h0
  have HOV : Hid (∀ V, Below w.heap.size w V → Calls Tryz.prog 104 #[.agg #[.slice A l.length c], .int .i64 known, .slice Ac cols.length cc] V (OvE (barM (cntL l known) cols) V)) := fun V hV => over_any l A c known cols Ac cc V ((hl.below hV (Nat.le_refl _)).more hV.size) hok hm (HLC.out V hV) h8
  have HAR : Hid (arr (cntL l known) cols = match grd (barM (cntL l known) cols) cols.length cols.length [] with
      | none => ([], false, 0)
      | some L => (L.map (colAt cols), true, 0)) := by
    show _ = _
    unfold arr
    rw [if_pos h0, ords_grd0 (barM_irr _ _)]
    rfl
  rw [h0] at HLS
  clear hl hlc hok h0 hcm hcc
  generalize cntL l known = d at *
  generalize barM d cols = bar at *
  generalize arr d cols = R at *
  go_upto_region 4 with (go_at_call 103; refine (HLS.out _ HW.out).mono ?_; rintro e w1 ⟨rfl, hb1⟩)
  have hB1 := HW.out.trans (hb1.mono HW.out.size)
  have x1 := HBX.out w1 (hBB.trans (hb1.mono hBB.size))
  clear hb1 hBB HLS
  go_upto_region 6 with (first
    | (go_at_call 104; refine (HOV.out _ hB1).mono ?_; rintro e w2 ⟨C, rfl, HQ0, hb2⟩; have HQ := Lib.hid HQ0; clear HQ0; have HZ := Lib.hid HQ.out.one; have HS64 : Hid ((Tryz.prog.info? 130).map (·.size) = some C.size) := Lib.hid (by rw [HQ.out.1]; exact info130); have HZ64 : Hid (z64.size = C.size) := Lib.hid (by rw [HQ.out.1]; rfl); have HB2 := Lib.hid (hB1.trans (hb2.mono hB1.size)); clear hb2)
    | (refine wpList_store_blk (P := Tryz.prog) rfl 130 (.tmp 10) (.tmp 25) rfl w2.heap.size z64 C rfl rfl (Bk.new w2 130 z64) HZ64.out HS64.out HZ.out ?_; intro W8 k8 f8))
  have hsz8 : W8.heap.size = w2.heap.size + 1 := by rw [f8.size]; simp
  have HI : Hid (AgI w w2.heap.size W8.heap.size C cols [] none 0 (W8.alloc (.cells #[.bool false, .bool false, .bool false, .bool false, .bool false, .bool false, .bool false, .bool false] 129))) := by
    have hb8 : Below w.heap.size w W8 := f8.bel _ _ HB2.out.size (HB2.out.alloc HB2.out.size _)
    refine ⟨hb8.alloc hb8.size _, k8.alloc _, ?_, World.ownsRow_nil _ _ _ _, by simp⟩
    rw [dnC_nil]; exact Bk.new _ _ _
  have hb10 : w2.heap.size < W8.heap.size := by omega
  have hwb : w.heap.size ≤ W8.heap.size := by have := HB2.out.size; omega
  clear k8 f8 hsz8 hB1 x1 HOV HBX HB2 HZ HS64 HZ64 HW
  generalize W8.alloc _ = W0 at *
  generalize hg10 : w2.heap.size = b10 at *
  generalize hg11 : W8.heap.size = b11 at *
  clear hg10 hg11
  have HX0 : Hid (∀ x ∈ ([] : List Nat), x < cols.length) := fun x hx => by cases hx
  go_wp2
  go_loopw [12] (fun y wr => ∃ (L : List Nat) (A' : Option Addr) (c' : Nat), L.length ≤ cols.length ∧ y = .slice A' L.length c' ∧ Hid (AgI w b10 b11 C cols L A' c' wr) ∧ Hid (∀ x ∈ L, x < cols.length) ∧ Hid (grd bar cols.length cols.length [] = grd bar cols.length (cols.length - L.length) L)) (fun y _ => cols.length - slM y)
  case atStart => exact ⟨[], none, 0, by simp, rfl, HI, HX0, Lib.hid rfl⟩
  case round =>
    obtain ⟨L, A', c', hL, rfl, HJ, HX, HG⟩ := hrel
    clear HI HX0
    by_cases hlt : L.length < cols.length
    · have hltI : (L.length : Int) < (cols.length : Int) := by omega
      have hw1 : wrap64 ((cols.length : Int) - 1) = (cols.length : Int) - 1 := by unfold wrap64; omega
      have HD := Lib.hid (fun (wv : World) (h : AgI w b10 b11 C cols L A' c' wv) (j : Nat) (hj : j < cols.length) => show wv.cell? ⟨b11, j, none⟩ = some (.bool (decide (j ∈ L))) from h.k11.cell j (dnC_at L (by omega)))
      have HN := Lib.hid (fun (wv : World) (h : AgI w b10 b11 C cols L A' c' wv) (j i : Nat) (hj : j < cols.length) (hi : i < cols.length) => show wv.cell? ⟨b10, j * 8 + i, none⟩ = some (.bool (bar j i)) from h.k10.cell _ (HQ.out.2 j i (by omega) (by omega)))
      have HZ0 : Hid (nxd (freeB bar cols.length L) (cols.length - cols.length) cols.length = -1) := by show _ = _; rw [Nat.sub_self]; rfl
      go_upto_region 10 with fail
      go_loopw [13, 14] (fun y z wv => ∃ (k : Nat) (q : Int), k ≤ cols.length ∧ y = .int .i64 (nxd (freeB bar cols.length L) (cols.length - k) k) ∧ z = .int .i64 q ∧ q = (k : Int) - 1 ∧ Hid (AgI w b10 b11 C cols L A' c' wv)) (fun _ z _ => (intOf z + 1).toNat)
      case atStart => exact ⟨cols.length, _, Nat.le_refl _, by rw [HZ0.out], rfl, by omega, HJ⟩
      case round =>
        obtain ⟨k, q, hk, rfl, rfl, hq, HK⟩ := hrel
        clear HJ HZ0 hw1
        by_cases hk0 : k = 0
        · subst hk0
          have hq0 : ¬ (0 : Int) ≤ q := by omega
          have hq1 : q < 0 := by omega
          clear hq
          have hAG := Lib.hid HK.out
          rcases nxd_nxt bar cols.length L with ⟨i, h1, h2, h3, h4⟩ | ⟨h1, h2⟩
          · have HG2 : Hid (grd bar cols.length cols.length [] = grd bar cols.length (cols.length - (L ++ [i]).length) (L ++ [i])) := by show _ = _; rw [HG.out, grd_step hlt h1]
            have HX2 : Hid (∀ x ∈ L ++ [i], x < cols.length) := fun x hx => by
              rcases List.mem_append.1 hx with hx | hx
              · exact HX.out x hx
              · simp at hx; omega
            have x9 := HD.out _ HK.out i h2
            have f9 := HK.out.k11.fro i
            obtain ⟨g1, g2, g3, g4, g5⟩ := HK.out.done hb10 hwb (show i < 8 by omega)
            obtain ⟨ad, e1, hadb, e0⟩ := str_at (HLC.out _ g1) h2
            have hsn : strsC (L.map (colAt cols)) ++ [Value.string cols[i]] = strsC ((L ++ [i]).map (colAt cols)) := by
              rw [List.map_append]; simp [strsC, colAt_get h2]
            have HSN := Lib.hid hsn
            have hll : (L ++ [i]).length = L.length + 1 := by simp
            have hiI : (i : Int) < 8 := by omega
            have hiI2 : (i : Int) < (cols.length : Int) := by omega
            rw [Nat.sub_zero, h4]
            subst e1
            have G1 := Lib.hid g1
            have G2 := Lib.hid g2
            have G3 := Lib.hid g3
            have G4 := Lib.hid g4
            have hm100 : L.length < 100000 := by omega
            clear HD HN HK hAG HG HX HLC h1 h3 h4 hsn g1 g2 g3 g4 hadb
            generalize cols[i] = s at *
            go_upto_region 23 with fail
            generalize wr.setCell _ _ = w3 at *
            go_wp2_with (at_builtin; refine wpList_append1g (P := Tryz.prog) rfl (.tmp 65) (.tmp 70) 34 rfl (b11 + 1) 9 (.string ByteArray.empty) 1 16 Tryz.underlying34 info9 (by decide) (by decide) (.slice A' L.length c') L.length (strsC (L.map (colAt cols))) rfl (G4.out.alloc _) w3.heap.size #[.string s] 9 rfl (Bk.new _ _ _) rfl ?c1 hm100 (by decide) ?c2 ?_)
            case c1 => rfl
            case c2 => first | omega | (simp; omega)
            intro v4 w4 ho4 hg4
            have hgr : ∀ k, (Value.slice A' L.length c').ownBlock = some k → b11 + 1 ≤ k := fun k hk => (G4.out.lt k hk).1
            have hs3 : (w3.alloc (.cells #[.string s] 9)).heap.size = w3.heap.size + 1 := by simp
            have hb4 : Below w.heap.size w w4 := Below.grown (G1.out.alloc G1.out.size _) hg4 (by rw [hs3]; have := G1.out.size; omega) (fun g e => by have := hgr g e; omega)
            obtain ⟨A4, c4, rfl, _, _⟩ := ownsSlice ho4
            have HAI : Hid (AgI w b10 b11 C cols (L ++ [i]) A4 c4 w4) := by
              refine ⟨hb4, (G2.out.alloc _).grown hg4 (fun e => by have := hgr b10 e.symm; omega), (G3.out.alloc _).grown hg4 (fun e => by have := hgr b11 e.symm; omega), ?_, ?_⟩
              · have h := ho4
                rw [show strsC (L.map (colAt cols)) ++ (#[Value.string s] : Array Value).toList = strsC ((L ++ [i]).map (colAt cols)) from HSN.out] at h
                rw [hll]; exact h
              · have := hg4.size; rw [hs3] at this; omega
            clear ho4 hg4 hgr hb4 G1 G2 G3 G4 HSN
            go_wp2
            go_roundw
            case rel => exact ⟨L ++ [i], A4, c4, by omega, by rw [hll], HAI, HX2, HG2⟩
            case measure => simp [slM]; omega
          · have HR : Hid (R = ([], false, 0)) := by show _ = _; rw [HAR.out, HG.out, grd_stop hlt h1]
            rw [Nat.sub_zero, h2]
            have hbel := HK.out.bel
            have hm1 : ((-1 : Int) < 0) := by omega
            clear HD HN HK hAG HG HX HLC h1 h2 HAR
            go_wp2
            refine bodyPost_ret (v := .tuple #[.slice none 0 0, .bool false, .int .i64 0]) (by simp [results, Tryz.results55, go_sem]) rfl ?_
            exact SnE.none_ HR.out hbel
        · obtain ⟨i, rfl⟩ : ∃ i, k = i + 1 := ⟨k - 1, by omega⟩
          obtain rfl : q = (i : Int) := by omega
          have hil : i < cols.length := by omega
          have hi8 : (i : Int) < 8 := by omega
          have hi0 : (0 : Int) ≤ (i : Int) := by omega
          have HNX : Hid (nxd (freeB bar cols.length L) (cols.length - i) i = if freeB bar cols.length L i = true then (i : Int) else nxd (freeB bar cols.length L) (cols.length - (i + 1)) (i + 1)) := by
            show _ = _
            rw [show cols.length - i = (cols.length - (i + 1)) + 1 by omega]
            rfl
          have HF0 := Lib.hid (frB_zero bar L i)
          have HFS := Lib.hid (fun j => frB_step bar L i j)
          have HFF := Lib.hid (frB_full bar cols.length L i)
          have x5 := HD.out _ HK.out i hil
          have HDI := HD
          have HNI := Lib.hid (fun (wv : World) (h : AgI w b10 b11 C cols L A' c' wv) (j : Nat) (hj : j < cols.length) => HN.out wv h j i hj hil)
          clear HN HG HX hq
          generalize hdk : decide (i ∈ L) = di at *
          clear hdk
          go_upto_region 14 with fail
          rw [← HF0.out]
          go_loopw [15, 16] (fun y z wx => ∃ j : Nat, j ≤ cols.length ∧ y = .bool (frB bar L i j) ∧ z = .int .i64 j ∧ Hid (AgI w b10 b11 C cols L A' c' wx)) (fun _ z _ => cols.length - (intOf z).toNat)
          case atStart => exact ⟨0, by omega, rfl, rfl, HK⟩
          case round =>
            obtain ⟨j, hj, rfl, rfl, HX⟩ := hrel
            clear HK x5
            by_cases hjl : j < cols.length
            · have hj8 : (j : Int) < 8 := by omega
              have hjI : (j : Int) < (cols.length : Int) := by omega
              have y1 := HDI.out _ HX.out j hjl
              have y2 := HNI.out _ HX.out j hjl
              have HSJ := Lib.hid (HFS.out j)
              clear HDI HNI HFS HNX HFF HF0
              generalize frB bar L i j = f0 at *
              generalize decide (j ∈ L) = dj at *
              cases dj with
              | true =>
                have HE : Hid (frB bar L i (j + 1) = f0) := by show _ = _; rw [HSJ.out]; simp
                clear HSJ
                go_wp2
                go_roundw
                case rel => exact ⟨j + 1, by omega, by rw [HE.out], by go_num, HX⟩
                case measure => simp [intOf]; omega
              | false =>
                cases hbj : bar j i with
                | true =>
                  rw [hbj] at y2 HSJ
                  have HE : Hid (frB bar L i (j + 1) = false) := by show _ = _; rw [HSJ.out]; simp
                  clear HSJ hbj
                  go_wp2
                  go_roundw
                  case rel => exact ⟨j + 1, by omega, by rw [HE.out], by go_num, HX⟩
                  case measure => simp [intOf]; omega
                | false =>
                  rw [hbj] at y2 HSJ
                  have HE : Hid (frB bar L i (j + 1) = f0) := by show _ = _; rw [HSJ.out]; simp
                  clear HSJ hbj
                  go_wp2
                  go_roundw
                  case rel => exact ⟨j + 1, by omega, by rw [HE.out], by go_num, HX⟩
                  case measure => simp [intOf]; omega
            · obtain rfl : j = cols.length := by omega
              rw [HFF.out]
              clear HDI HNI HFS HFF HF0 hjl
              cases hfb : freeB bar cols.length L i with
              | true =>
                have HE : Hid (nxd (freeB bar cols.length L) (cols.length - i) i = (i : Int)) := by show _ = _; rw [HNX.out, if_pos hfb]
                clear HNX hfb
                go_wp2
                go_roundw
                case rel => exact ⟨i, (i : Int) - 1, by omega, by rw [HE.out], by go_num, rfl, HX⟩
                case measure => simp [intOf]
              | false =>
                have HE : Hid (nxd (freeB bar cols.length L) (cols.length - i) i = nxd (freeB bar cols.length L) (cols.length - (i + 1)) (i + 1)) := by show _ = _; rw [HNX.out, if_neg (by simp [hfb])]
                clear HNX hfb
                go_wp2
                go_roundw
                case rel => exact ⟨i, (i : Int) - 1, by omega, by rw [HE.out], by go_num, rfl, HX⟩
                case measure => simp [intOf]
    · have hLn : L.length = cols.length := by omega
      have HR : Hid (R = (L.map (colAt cols), true, 0)) := by show _ = _; rw [HAR.out, HG.out, grd_end hLn]
      have hlI : ¬ (L.length : Int) < (cols.length : Int) := by omega
      have HBL := Lib.hid HJ.out.bel
      have HOW := Lib.hid (ownsRow_lies HJ.out.own)
      have hcap := ownsSlice HJ.out.own
      clear HAR HG HJ HX HLC hLn hlt hL
      go_wp2
      refine bodyPost_ret (v := .tuple #[.slice A' L.length c', .bool true, .int .i64 0]) (by simp [results, Tryz.results55, go_sem]) rfl ?_
      obtain ⟨A7, c7, e7, h1, h2⟩ := hcap
      cases e7
      exact ⟨A', c', by rw [HR.out, List.length_map], by rw [HR.out]; exact HOW.out, by rw [HR.out, List.length_map]; exact ⟨h1, h2⟩, HBL.out⟩
end Go.Proofs.YtkfeagokmcakgaaGreatDoor
