/- Arrange's iterator (fn 101). -/
import Derived.Sort.OwnSortedInts
import Derived.Lib.OwnBridge
import Derived.Test.YtkfeagokmcakgaaGreatDoorG21
import Derived.Test.YtkfeagokmcakgaaGreatDoorG23
import Derived.Test.YtkfeagokmcakgaaGreatDoorG29

set_option linter.unusedVariables false
set_option linter.unusedSimpArgs false

namespace Go.Proofs.YtkfeagokmcakgaaGreatDoor
open Go.RowKit
attribute [local go_sem] Oper.semAt_some

set_option maxRecDepth 100000 in
set_option maxHeartbeats 1000000 in
theorem orders_seq (m : Nat) {bs n c : Nat} {A : Option Addr} {bar : Nat → Nat → Bool} (w : World) (hn : n ≤ 8) (hs : StkW bs A n c bar w) :
    SeqO Fence.wide m Tryz.prog 101 #[.pointer (some ⟨bs, 0, none⟩)] #[] (fun x : El => #[x.v]) (PreX n) (ordsF bar n n [] = none) (fun x => ordsF bar n n [] = some x.L) w := by
  intro lb J Jx W _ hW hJ hY h0
  refine callsIn_wide.2 ?_
  let C : Value := .func (.func 132) #[] #[.pointer (some ⟨W.heap.size + 2, 0, none⟩), .pointer (some ⟨W.heap.size, 0, none⟩), .pointer (some ⟨W.heap.size + 1, 0, none⟩), .pointer (some ⟨W.heap.size + 3, 0, none⟩)]
  let V1 : World := W.alloc (.cells #[.pointer (some ⟨bs, 0, none⟩)] 123)
  let V2 : World := V1.alloc (.cells #[.func (.yield lb) #[] #[]] 154)
  let V3 : World := V2.alloc (.cells #[.slice none 0 0] 42)
  let V4 : World := V3.alloc (.cells #[C] 22)
  have hbs := cell_lt hs.col
  have hz := hW.size
  have hbs2 : bs < w.heap.size := hbs
  have z4 : V4.heap.size = W.heap.size + 4 := by simp [V4, V3, V2, V1]
  have hb : Below W.heap.size W V4 := ((((Below.refl _ W).alloc (Nat.le_refl _) _).alloc (by simp) _).alloc (by simp; omega) _).alloc (by simp; omega) _
  have k0 : Bk V4 W.heap.size 123 #[.pointer (some ⟨bs, 0, none⟩)] := (((Bk.new W 123 _).alloc _).alloc _).alloc _
  have k1 : Bk V4 (W.heap.size + 1) 154 #[.func (.yield lb) #[] #[]] := by have h := ((Bk.new V1 154 #[.func (.yield lb) #[] #[]]).alloc (.cells #[.slice none 0 0] 42)).alloc (.cells #[C] 22); simpa [V1] using h
  have k2 : Bk V4 (W.heap.size + 2) 42 #[.slice none 0 0] := by have h := (Bk.new V2 42 #[.slice none 0 0]).alloc (.cells #[C] 22); simpa [V2, V1] using h
  have k3 : Bk V4 (W.heap.size + 3) 22 #[C] := by have h := Bk.new V3 22 #[C]; simpa [V3, V2, V1] using h
  have hst : StkW bs A n c bar V4 := (hs.below hW hbs).below (hb.mono (Nat.le_refl _)) (by omega)
  have hj4 : J V4 := hJ.alloc _ (hJ.alloc _ (hJ.alloc _ (hJ.alloc _ h0)))
  have hC : WC (W.heap.size + 2) W.heap.size (W.heap.size + 1) (W.heap.size + 3) lb bs A n c bar J V4 := ⟨k0.cell 0 rfl, k1.cell 0 rfl, k3.cell 0 rfl, hst, hj4⟩
  have hL : WL (W.heap.size + 2) (W.heap.size + 4) [] none 0 V4 := ⟨k2, World.ownsRow_nil _ _ _ _⟩
  have HWK := Lib.hid (walk132 m (base := W.heap.size) (rb := W.heap.size + 4) (Jx := Jx) ⟨by omega, by omega, by omega, by omega, by omega, by omega, by omega, by omega, by omega, by omega, by omega⟩ hn hJ hY n [] none 0 V4 (by simp) (by simp) (by omega) hC hL)
  have hrs := fun (a : Addr) (m : Mode) (W : World) (cs : Array Value) => run_store Tryz.prog W a (.func (.func 132) #[] cs) m rfl
  have hmf : ∀ (fn : Fn) (first cap : Array Value) (w : World), (Instr.makeFunc fn first cap).run Tryz.prog w = .ok (.func fn first cap) w := fun _ _ _ _ => rfl
  clear hY hJ h0 hj4 hC hL hst k0 k1 k2 k3 hs hW hb z4 hbs
  go_enter Tryz.func101, Tryz.ntmps101
  go_wp2_with fail
  refine HWK.out.mono ?_
  rintro e w6 (⟨ho, rfl, A2, c2, hC, hL, hr⟩ | ⟨x, ho, rfl, hx⟩)
  · have HO := Lib.hid ho
    have HJ6 := Lib.hid hC.out.j
    clear ho hC hL HWK
    dsimp only
    go_wp2_with fail
    go_end0
    exact ⟨⟨_, rfl⟩, .inl ⟨HO.out, HJ6.out⟩⟩
  · have HO := Lib.hid ho
    have HX6 := Lib.hid hx
    clear ho hx HWK
    dsimp only
    go_wp2_with fail
    go_end0
    exact ⟨⟨_, rfl⟩, .inr ⟨x, HO.out, HX6.out⟩⟩
end Go.Proofs.YtkfeagokmcakgaaGreatDoor

namespace Go.Proofs.YtkfeagokmcakgaaGreatDoor
open Go.RowKit

def NmE (xs : List ByteArray) (w : World) (e : Ending) (w' : World) : Prop := ∃ A c, e = .returned (.slice A xs.length c) ∧ Lies w' w'.heap.size A (strsC xs) ∧ (xs.length ≤ c ∧ c ≤ maxLen) ∧ Below w.heap.size w w' ∧ ∀ ad, A = some ad → w.heap.size ≤ ad.block
theorem str_at {w : World} {B : Nat} {A : Option Addr} {l : List ByteArray} (h : Lies w B A (strsC l)) {k : Nat} (hk : k < l.length) : ∃ ad, A = some ad ∧ ad.block < B ∧ w.cell? (ad.add k) = some (.string l[k]) := by
  obtain ⟨ad, u, h1, h2, h3, h4⟩ := h.at_ (k := k) (by simpa [strsC] using hk)
  obtain rfl : u = .string l[k] := by simp [strsC, List.getElem?_eq_getElem hk] at h3; exact h3.symm
  exact ⟨ad, h1, h2, h4⟩
def colAt (cols : List ByteArray) (i : Nat) : ByteArray := cols.getD i ⟨#[]⟩
set_option maxHeartbeats 1000000 in
theorem colNamed_any {bs c : Nat} {A : Option Addr} {cols : List ByteArray} (l : List Nat) (A' : Option Addr) (c' : Nat) (w : World) (hs : w.cell? ⟨bs, 0, none⟩ = some (.slice A cols.length c)) (hcol : Lies w w.heap.size A (strsC cols)) (hl : Lies w w.heap.size A' (nats l)) (hln : ∀ j ∈ l, j < cols.length) (hm : l.length ≤ 1000) (hm2 : cols.length ≤ 1000) :
    Calls Tryz.prog 102 #[.pointer (some ⟨bs, 0, none⟩), .slice A' l.length c'] w (NmE (l.map (colAt cols)) w) := by
  have hbs := cell_lt hs
  have hbs2 : bs < w.heap.size := hbs
  have HS : Hid (∀ V, Below w.heap.size w V → V.cell? ⟨bs, 0, none⟩ = some (.slice A cols.length c)) := fun V hV => (hV.cell hbs).trans hs
  have HC := Lib.hid hcol
  have HL := Lib.hid hl
  have HLN := Lib.hid hln
  have HT : Hid (strsC ((l.map (colAt cols)).take 0) = []) := by show strsC _ = _; simp [strsC]
  have HALL : Hid ((l.map (colAt cols)).take l.length = l.map (colAt cols)) := by show _ = _; rw [List.take_of_length_le (by simp)]
  have HLEN : Hid ((l.map (colAt cols)).length = l.length) := by show _ = _; simp
  clear hs hcol hl hln hbs
  go_enter Tryz.func102, Tryz.ntmps102
  go_wp2
  go_loopw [5, 10] (fun yo y wr => ∃ (k : Nat) (A2 : Option Addr) (c2 : Nat), k ≤ l.length ∧ y = .int .i64 k ∧ yo = .slice A2 k c2 ∧ Hid (wr.ownsRow w.heap.size 9 1 (.slice A2 k c2) k (strsC ((l.map (colAt cols)).take k))) ∧ Below w.heap.size w wr) (fun _ y _ => l.length - (intOf y).toNat)
  case atStart => exact ⟨0, none, 0, by omega, rfl, rfl, by rw [HT.out]; exact World.ownsRow_nil _ _ _ _, Below.refl _ _⟩
  case round =>
    obtain ⟨k, A2, c2, hk, rfl, rfl, ho, hbw⟩ := hrel
    have hbz := hbw.size
    by_cases hlt : k < l.length
    · obtain ⟨ad, rfl, hadb, x0⟩ := nat_at (HL.out.below hbw (Nat.le_refl _)) hlt
      have hj := HLN.out l[k] (List.getElem_mem hlt)
      obtain ⟨ad2, rfl, hadb2, x1⟩ := str_at (HC.out.below hbw (Nat.le_refl _)) hj
      have x2 := HS.out wr hbw
      have hkI : (k : Int) < (l.length : Int) := by omega
      have hjI : (l[k] : Int) < (cols.length : Int) := by omega
      have HNX : Hid (strsC ((l.map (colAt cols)).take k) ++ [Value.string cols[l[k]]] = strsC ((l.map (colAt cols)).take (k + 1))) := by
        show _ = _
        rw [← List.take_append_getElem (by simpa using hlt : k < (l.map (colAt cols)).length)]
        simp [strsC, colAt, hj]
      have HO3 : Hid ((wr.alloc (.cells #[.string cols[l[k]]] 9)).ownsRow w.heap.size 9 1 (.slice A2 k c2) k (strsC ((l.map (colAt cols)).take k))) := ownsRow_below ho.out ((Below.refl wr.heap.size wr).alloc (Nat.le_refl _) _) (Nat.le_refl _)
      have HB3 : Hid (Below w.heap.size w (wr.alloc (.cells #[.string cols[l[k]]] 9))) := hbw.alloc hbz _
      have HR3 : Hid (Bk (wr.alloc (.cells #[.string cols[l[k]]] 9)) wr.heap.size 9 #[.string cols[l[k]]]) := Bk.new _ _ _
      generalize cols[l[k]] = s at *
      generalize l[k] = jj at *
      clear ho
      go_wp2_with (first | (at_builtin; refine wpList_append1 (P := Tryz.prog) rfl (.tmp 14) (.tmp 22) 34 rfl w.heap.size 9 (.string ByteArray.empty) 1 16 Tryz.underlying34 info9 (by decide) (by decide) (.slice A2 k c2) k (strsC ((l.map (colAt cols)).take k)) rfl HO3.out wr.heap.size #[.string s] 9 rfl HR3.out rfl (by intro u hu; simp at hu; subst hu; rfl) (by omega) (by decide) HB3.out.size w.heap.size w HB3.out (Nat.le_refl _) ?_; intro v8 V8 own8 bel8 _; obtain ⟨A8, c8, rfl, hc8⟩ := ownsSlice own8))
      have HO8 : Hid (V8.ownsRow w.heap.size 9 1 (.slice A8 (k + 1) c8) (k + 1) (strsC ((l.map (colAt cols)).take (k + 1)))) := by
        show World.ownsRow _ _ _ _ _ _ _
        rw [← HNX.out]; exact own8
      go_roundw
      case rel => exact ⟨k + 1, A8, c8, by omega, by go_num, rfl, HO8, bel8⟩
      case measure => simp [intOf]; omega
    · obtain rfl : k = l.length := by omega
      have hc2 : l.length ≤ c2 ∧ c2 ≤ maxLen := by
        obtain ⟨a1, a2, e, h⟩ := ownsSlice ho.out
        cases e; exact h
      have HLI := Lib.hid (ownsRow_lies ho.out)
      have HGE := Lib.hid (own_ge ho.out)
      clear ho
      go_wp2_with fail
      go_ret
      refine ⟨A2, c2, by rw [HLEN.out]; rfl, ?_, by rw [HLEN.out]; exact hc2, hbw, HGE.out⟩
      have := HLI.out
      rwa [HALL.out] at this
end Go.Proofs.YtkfeagokmcakgaaGreatDoor

namespace Go.Proofs.YtkfeagokmcakgaaGreatDoor
open Go.RowKit

def barM (d : List Rul) (cols : List ByteArray) (i k : Nat) : Bool := decide (i < cols.length) && (decide (k < cols.length) && (decide (i ≠ k) && !(barL d 4 (colAt cols i) (colAt cols k) false).1))
def stE (cols : List ByteArray) : Int := if 8 < cols.length then 2 else if twiceB cols = true then 6 else 0
def StE (d : List Rul) (cols : List ByteArray) (Ac : Option Addr) (cc : Nat) (w : World) (e : Ending) (w' : World) : Prop := (stE cols ≠ 0 ∧ e = .returned (.tuple #[.pointer none, .int .i64 (stE cols)]) ∨ stE cols = 0 ∧ ∃ bs, e = .returned (.tuple #[.pointer (some ⟨bs, 0, none⟩), .int .i64 0]) ∧ StkW bs Ac cols.length cc (barM d cols) w') ∧ Below w.heap.size w w'
/-- the stack's cells while it is filled: before colour i over colour k -/
def StQ (d : List Rul) (cols : List ByteArray) (Ac : Option Addr) (cc i k : Nat) (C : Array Value) : Prop := C.size = 65 ∧ C[0]? = some (.slice Ac cols.length cc) ∧ ∀ a b, a < 8 → b < 8 → C[1 + (a * 8 + b)]? = some (.bool (decide (a < i ∨ a = i ∧ b < k) && barM d cols a b))
theorem zero153 : Tryz.zeroCells153 = (.slice none 0 0 :: List.replicate 64 (.bool false)).toArray := by kernel_rfl
theorem stq_0 (d : List Rul) (cols : List ByteArray) (Ac : Option Addr) (cc : Nat) : StQ d cols Ac cc 0 0 (Tryz.zeroCells153.setIfInBounds 0 (.slice Ac cols.length cc)) := by
  rw [zero153]
  refine ⟨by simp, by simp, fun a b ha hb => ?_⟩
  rw [Array.getElem?_setIfInBounds_ne (by omega)]
  have hj : a * 8 + b < 64 := by omega
  rw [List.getElem?_toArray, Nat.add_comm 1, List.getElem?_cons_succ, List.getElem?_replicate, if_pos hj]
  simp
theorem stq_put {d : List Rul} {cols : List ByteArray} {Ac : Option Addr} {cc i k : Nat} {C : Array Value} (h : StQ d cols Ac cc i k C) (hi : i < 8) (hk : k < 8) : StQ d cols Ac cc i (k + 1) (C.setIfInBounds (1 + (i * 8 + k)) (.bool (barM d cols i k))) := by
  refine ⟨by simpa using h.1, by rw [Array.getElem?_setIfInBounds_ne (by omega)]; exact h.2.1, fun a b ha hb => ?_⟩
  by_cases e : a * 8 + b = i * 8 + k
  · have e1 : a = i := by omega
    have e2 : b = k := by omega
    subst e1; subst e2
    rw [Array.getElem?_setIfInBounds_self_of_lt (by rw [h.1]; omega)]
    simp
  · rw [Array.getElem?_setIfInBounds_ne (by omega), h.2.2 a b ha hb]
    have : (a < i ∨ a = i ∧ b < k) ↔ (a < i ∨ a = i ∧ b < k + 1) := by omega
    simp only [this]
theorem barM_out {d : List Rul} {cols : List ByteArray} {a b : Nat} (h : ¬ (a < cols.length ∧ b < cols.length)) : barM d cols a b = false := by
  unfold barM
  by_cases h1 : a < cols.length
  · rw [decide_eq_false (fun h2 => h ⟨h1, h2⟩)]; simp
  · rw [decide_eq_false h1]; simp
theorem stq_row {d : List Rul} {cols : List ByteArray} {Ac : Option Addr} {cc i : Nat} {C : Array Value} (h : StQ d cols Ac cc i cols.length C) : StQ d cols Ac cc (i + 1) 0 C := by
  refine ⟨h.1, h.2.1, fun a b ha hb => ?_⟩
  rw [h.2.2 a b ha hb]
  by_cases hb2 : b < cols.length
  · have : (a < i ∨ a = i ∧ b < cols.length) ↔ (a < i + 1 ∨ a = i + 1 ∧ b < 0) := by omega
    simp only [this]
  · rw [barM_out (fun h => hb2 h.2)]; simp
theorem stq_done {d : List Rul} {cols : List ByteArray} {Ac : Option Addr} {cc : Nat} {C : Array Value} {bs : Nat} {w : World} (h : StQ d cols Ac cc cols.length 0 C) (hk : Bk w bs 153 C) : StkW bs Ac cols.length cc (barM d cols) w := by
  refine ⟨hk.cell 0 h.2.1, fun a b ha hb => hk.cell _ ?_⟩
  rw [h.2.2 a b ha hb]
  by_cases h2 : a < cols.length
  · rw [decide_eq_true (.inl h2)]; simp
  · rw [barM_out (fun h => h2 h.1)]; simp
set_option maxHeartbeats 1000000 in
set_option maxRecDepth 100000 in
theorem stacked_any (l : List Rul) (A : Option Addr) (c : Nat) (known : Int) (cols : List ByteArray) (Ac : Option Addr) (cc : Nat) (w : World) (hl : Lies w w.heap.size A (rulesC l)) (hok : RulOK l) (hm : l.length ≤ 1000) (hlc : Lies w w.heap.size Ac (strsC cols)) (hcs : ∀ s ∈ cols, s.size ≤ 100) (hcm : cols.length ≤ 1000) (hcc : cols.length ≤ cc ∧ cc ≤ maxLen) :
    Calls Tryz.prog 100 #[.agg #[.slice A l.length c], .int .i64 known, .slice Ac cols.length cc] w (StE (cntL l known) cols Ac cc w) := by
  have HC : Hid (∀ W, Below w.heap.size w W → Calls Tryz.prog 38 #[.agg #[.slice A l.length c], .int .i64 known] W (SlE (cntL l known) W)) := fun W hb => counting_any l A c known W ((hl.below hb (Nat.le_refl _)).more hb.size) hok hm
  have hokd := hok.sub (cnt_sub l known)
  have hmd := Nat.le_trans (cnt_len l known) hm
  have HLC : Hid (∀ W, Below w.heap.size w W → Lies W W.heap.size Ac (strsC cols)) := fun W hb => (hlc.below hb (Nat.le_refl _)).more hb.size
  have HTW : Hid (∀ W, Below w.heap.size w W → Calls Tryz.prog 74 #[.slice Ac cols.length cc] W (BoolEnd (twiceB cols) W)) := fun W hb => twice_any cols Ac cc W (HLC.out W hb) hcm hcc.1 hcc.2
  generalize cntL l known = d at *
  have HSE : Hid (stE cols = if 8 < cols.length then 2 else if twiceB cols = true then 6 else 0) := rfl
  have hb1 : Below w.heap.size w (w.alloc (.cells #[.slice A l.length c] 25)) := (Below.refl _ _).alloc (Nat.le_refl _) _
  have HB1 := Lib.hid hb1
  by_cases h8 : 8 < cols.length
  · have HE : Hid (stE cols = 2) := HSE.out.trans (if_pos h8)
    have h8I : (8 : Int) < (cols.length : Int) := by omega
    clear HSE h8 HC HTW hb1 hl hok hlc hcs hokd
    go_enter Tryz.func100, Tryz.ntmps100
    go_wp2
    go_ret2
    exact ⟨.inl ⟨by rw [HE.out]; decide, by rw [HE.out]; rfl⟩, HB1.out⟩
  have HS1 := Lib.hid (HSE.out.trans (if_neg h8))
  have h8I : ¬ (8 : Int) < (cols.length : Int) := by omega
  have hc8 : cols.length ≤ 8 := by omega
  clear HSE h8
  by_cases h6 : twiceB cols = true
  · have HE : Hid (stE cols = 6) := HS1.out.trans (if_pos h6)
    rw [h6] at HTW
    have HT1 := Lib.hid (HTW.out _ hb1)
    clear HS1 h6 HC hb1 HTW hl hok hlc hcs hokd
    go_enter Tryz.func100, Tryz.ntmps100
    go_wp2_with (go_at_call 74; refine HT1.out.mono ?_; rintro e w' ⟨rfl, rfl⟩)
    go_ret2
    exact ⟨.inl ⟨by rw [HE.out]; decide, by rw [HE.out]; rfl⟩, HB1.out⟩
  have HE : Hid (stE cols = 0) := HS1.out.trans (if_neg h6)
  have h6' : twiceB cols = false := by simpa using h6
  rw [h6'] at HTW
  have HT1 := Lib.hid (HTW.out _ hb1)
  have HC1 := Lib.hid (HC.out _ hb1)
  have HOKD := Lib.hid hokd
  have HCS := Lib.hid hcs
  clear HS1 h6 h6' HC hb1 HTW hl hok hlc hcs hokd
  go_enter Tryz.func100, Tryz.ntmps100
  go_upto_region 6 with (first | (go_at_call 74; refine HT1.out.mono ?_; rintro e w' ⟨rfl, rfl⟩) | (go_at_call 38; refine HC1.out.mono ?_; rintro e w1 ⟨A1, c1, rfl, hl1, _, hb1⟩))
  go_wp2
  have HQ0 : Hid (StQ d cols Ac cc 0 0 (Tryz.zeroCells153.setIfInBounds 0 (.slice Ac cols.length cc))) := stq_0 d cols Ac cc
  have HBW : Hid (Below w.heap.size w w1) := HB1.out.trans (hb1.mono (by simp))
  have HLC1 := Lib.hid (HLC.out w1 HBW.out)
  have HLD := Lib.hid hl1
  have HK0 : Hid (Bk (w1.alloc (.cells (Tryz.zeroCells153.setIfInBounds 0 (.slice Ac cols.length cc)) 153)) w1.heap.size 153 (Tryz.zeroCells153.setIfInBounds 0 (.slice Ac cols.length cc))) := Bk.new _ _ _
  have HB0 : Hid (Below w1.heap.size w1 (w1.alloc (.cells (Tryz.zeroCells153.setIfInBounds 0 (.slice Ac cols.length cc)) 153))) := (Below.refl _ _).alloc (Nat.le_refl _) _
  have HBR : Hid (∀ x y V, x ∈ cols → y ∈ cols → Below w1.heap.size w1 V → Calls Tryz.prog 79 #[.slice A1 d.length c1, .int .u8 4, .string x, .string y, .bool false] V (BarE (barL d 4 x y false) V)) := fun x y V hx hy hV => bars_any d A1 c1 4 x y false V ((HLD.out.below hV (Nat.le_refl _)).more hV.size) HOKD.out hmd (HCS.out x hx) (HCS.out y hy)
  clear hb1 hl1 HC1 HT1 HB1
  generalize Tryz.zeroCells153.setIfInBounds 0 (.slice Ac cols.length cc) = C0 at *
  generalize w1.alloc (.cells C0 153) = w2 at *
  go_loopw [29] (fun y wr => ∃ (i : Nat) (C : Array Value), i ≤ cols.length ∧ y = .int .i64 i ∧ Hid (StQ d cols Ac cc i 0 C) ∧ Hid (Bk wr w1.heap.size 153 C) ∧ Hid (Below w1.heap.size w1 wr)) (fun y _ => cols.length - (intOf y).toNat)
  case atStart => exact ⟨0, C0, by omega, rfl, HQ0, HK0, HB0⟩
  case round =>
    clear HQ0 HK0 HB0
    obtain ⟨i, C, hi, rfl, hq, hk, hb⟩ := hrel
    by_cases hlt : i < cols.length
    · obtain ⟨ad, rfl, hadb, x0⟩ := str_at (HLC1.out.below hb.out (Nat.le_refl _)) hlt
      have hlI : (i : Int) < (cols.length : Int) := by omega
      generalize wr = wa at *
      go_upto_region 11 with fail
      have HX := Lib.hid (List.getElem_mem hlt)
      have HCA : Hid (colAt cols i = cols[i]) := by show _ = _; unfold colAt; simp [hlt]
      have HQI := hq
      have HKI := hk
      have HBI := hb
      clear hq hk hb x0 hadb
      generalize cols[i] = xi at *
      go_loopw [36] (fun y wr => ∃ (k : Nat) (C : Array Value), k ≤ cols.length ∧ y = .int .i64 k ∧ Hid (StQ d cols (some ad) cc i k C) ∧ Hid (Bk wr w1.heap.size 153 C) ∧ Hid (Below w1.heap.size w1 wr)) (fun y _ => cols.length - (intOf y).toNat)
      case atStart => exact ⟨0, C, by omega, rfl, HQI, HKI, HBI⟩
      case round =>
        clear HQI HKI HBI
        obtain ⟨k, D, hk0, rfl, hq, hk, hb⟩ := hrel
        by_cases hkt : k < cols.length
        · obtain ⟨ad', e', hadb, x1⟩ := str_at (HLC1.out.below hb.out (Nat.le_refl _)) hkt
          cases e'
          have hkI : (k : Int) < (cols.length : Int) := by omega
          have hi8 : (i : Int) < 8 := by omega
          have hk8 : (k : Int) < 8 := by omega
          have HCK : Hid (colAt cols k = cols[k]) := by show _ = _; unfold colAt; simp [hkt]
          have HB1 := Lib.hid (HBR.out xi cols[k] wr HX.out (List.getElem_mem hkt) hb.out)
          have HBM : Hid (i ≠ k → barM d cols i k = !(barL d 4 xi cols[k] false).1) := fun h => by
            unfold barM
            rw [decide_eq_true hlt, decide_eq_true hkt, decide_eq_true h, HCA.out, HCK.out]; rfl
          have HBN : Hid (i = k → barM d cols i k = false) := fun h => by
            unfold barM
            rw [decide_eq_false (not_not_intro h)]; simp
          have HPUT := Lib.hid (stq_put hq.out (by omega : i < 8) (by omega : k < 8))
          have HCC : Hid (∀ V, Below wr.heap.size wr V → ∃ b9, V.cell? ⟨w1.heap.size, 1 + i * 8 + k, none⟩ = some (.bool b9)) := fun V hV => by
            rw [Nat.add_assoc]
            exact ⟨_, (hk.out.below hV hk.out.lt).cell _ (hq.out.2.2 i k (by omega) (by omega))⟩
          have HNE : Hid (1 + (i * 8 + k) = 1 + i * 8 + k) := by show _ = _; omega
          generalize barL d 4 xi cols[k] false = RB at *
          generalize cols[k] = xk at *
          obtain ⟨rb, ri⟩ := RB
          dsimp only at *
          by_cases hik : i = k
          · have hne : ((i : Int) != (k : Int)) = false := by rw [hik]; simp
            have hee : ((i : Int) == (k : Int)) = true := by rw [hik]; simp
            have HBV := Lib.hid (HBN.out hik)
            rw [HBV.out] at HPUT
            clear HBM HBN hik
            go_wp2_with (first | (go_at_call 79; refine HB1.out.mono ?_; rintro e V9 ⟨rfl, hb9⟩; obtain ⟨b9, c9⟩ := HCC.out V9 hb9; have f9 := (hk.out.below hb9 hk.out.lt).fro (1 + i * 8 + k)))
            go_roundw
            case rel => exact ⟨k + 1, _, by omega, by go_num, HPUT, by rw [HNE.out]; exact (hk.out.below hb9 hk.out.lt).set _ _, (hb.out.trans (hb9.mono hb.out.size)).setCell (p := ⟨w1.heap.size, 1 + i * 8 + k, none⟩) (Nat.le_refl _) _⟩
            case measure => simp [intOf]; omega
          · have hne : ((i : Int) != (k : Int)) = true := by simp; omega
            have hee : ((i : Int) == (k : Int)) = false := by rw [beq_eq_false_iff_ne]; omega
            have HBV := Lib.hid (HBM.out hik)
            rw [HBV.out] at HPUT
            clear HBM HBN hik
            go_wp2_with (first | (go_at_call 79; refine HB1.out.mono ?_; rintro e V9 ⟨rfl, hb9⟩; obtain ⟨b9, c9⟩ := HCC.out V9 hb9; have f9 := (hk.out.below hb9 hk.out.lt).fro (1 + i * 8 + k)))
            go_roundw
            case rel => exact ⟨k + 1, _, by omega, by go_num, HPUT, by rw [HNE.out]; exact (hk.out.below hb9 hk.out.lt).set _ _, (hb.out.trans (hb9.mono hb.out.size)).setCell (p := ⟨w1.heap.size, 1 + i * 8 + k, none⟩) (Nat.le_refl _) _⟩
            case measure => simp [intOf]; omega
        · obtain rfl : k = cols.length := by omega
          have HROW := Lib.hid (stq_row hq.out)
          clear hq
          go_wp2_with fail
          go_roundw
          case rel => exact ⟨i + 1, D, by omega, by go_num, HROW, hk, hb⟩
          case measure => simp [intOf]; omega
    · obtain rfl : i = cols.length := by omega
      have HS := Lib.hid (stq_done hq.out hk.out)
      have HBE : Hid (Below w.heap.size w wr) := HBW.out.trans (hb.out.mono HBW.out.size)
      clear hq hk hb HBR HLC1 HLD HLC
      go_wp2
      go_ret2
      exact ⟨.inr ⟨HE.out, _, rfl, HS.out⟩, HBE.out⟩
end Go.Proofs.YtkfeagokmcakgaaGreatDoor

namespace Go.Proofs.YtkfeagokmcakgaaGreatDoor
open Go.RowKit
attribute [local go_sem] Oper.semAt_some

theorem leaves_mark {F : Fence} {n : Nat} {P : Program} {fn : Func} {R : Ending → World → Prop} {a : Act} {w : World} {D : Nat} {v : Value} (hD : w.heap[D]? = some (.deferred (some []))) (hd : a.defers = [{ target := .collected D, args := #[] }])
    (hr : (results fn a.tmps).run P (w.putObj D (.deferred none)) = .ok v (w.putObj D (.deferred none))) (hR : R (.returned v) (w.putObj D (.deferred none))) : bodyPostM F n P fn R .ret a w := by
  show LeavesInM F n P fn a.tmps R a.defers .returning w
  rw [hd]
  refine ⟨by simp, .inl ⟨_, _, rfl, run_takeDeferred hD, ?_⟩⟩
  exact ⟨v, hr, hR⟩
theorem Bk.putObj {w : World} {g t D : Nat} {cs : Array Value} (h : Bk w g t cs) (hne : g ≠ D) (o : Obj) : Bk (w.putObj D o) g t cs := (World.putObj_heap_other hne).trans h
theorem below_putObj {a w : World} {D : Nat} (h : Below a.heap.size a w) (hD : a.heap.size ≤ D) (o : Obj) : Below a.heap.size a (w.putObj D o) := h.grown (grownBy_putObj' w D o) h.size (fun k e => by cases e; exact hD)
theorem lies_putObj {w : World} {l : Nat} {o : Obj} {A : Option Addr} {cs : List Value} (h : Lies w w.heap.size A cs) (ho : w.heap[l]? = some o) (hc : o.isCells = false) (o' : Obj) : Lies (w.putObj l o') (w.putObj l o').heap.size A cs := fun hn => by
  obtain ⟨ad, e, hb, h1⟩ := h hn
  refine ⟨ad, e, by simpa using hb, fun j u hu => ?_⟩
  have h2 := h1 j u hu
  refine Eq.trans (World.cell?_of_block ?_) h2
  refine World.putObj_heap_other ?_
  intro e2
  unfold World.cell? at h2
  rw [e2, ho] at h2
  cases o <;> first | (simp at h2; done) | cases hc
theorem callsIn_round {n l : Nat} {P : Program} {f : FuncId} {args : Array Value} {w : World} {R : Ending → World → Prop} (h : Calls P f args w R) : CallsIn (Fence.wide.inRound l) n P f args w R := (callsIn_wide (n := n)).2 h
theorem keeps_below {B : Nat} {W W' : World} (h : Below W.heap.size W W') : KeepsFrom B W W' := ⟨h.size, fun k _ _ h1 _ => (h.block k (Array.getElem?_eq_some_iff.1 h1).1).trans h1⟩
/-- what Arrange returns -/
def arr (d : List Rul) (cols : List ByteArray) : List ByteArray × Bool × Int := if stE cols = 0 then (match ordsF (barM d cols) cols.length cols.length [] with
  | none => ([], false, 0)
  | some L => (L.map (colAt cols), true, 0)) else ([], false, stE cols)
def ArrE (d : List Rul) (cols : List ByteArray) (w : World) (e : Ending) (w' : World) : Prop := ∃ A c, e = .returned (.tuple #[.slice A (arr d cols).1.length c, .bool (arr d cols).2.1, .int .i64 (arr d cols).2.2]) ∧ Lies w' w'.heap.size A (strsC (arr d cols).1) ∧ ((arr d cols).1.length ≤ c ∧ c ≤ maxLen) ∧ Below w.heap.size w w'
theorem arr_bad {d : List Rul} {cols : List ByteArray} {w w' : World} {b : Bool} {k : Int} (h : arr d cols = ([], b, k)) (hb : Below w.heap.size w w') : ArrE d cols w (.returned (.tuple #[.slice none 0 0, .bool b, .int .i64 k])) w' := by
  refine ⟨none, 0, ?_, ?_, ?_, hb⟩
  · rw [h]; rfl
  · rw [h]; intro hn; exact absurd rfl hn
  · rw [h]; exact ⟨Nat.le_refl _, Nat.zero_le _⟩
set_option maxHeartbeats 2000000 in
set_option maxRecDepth 100000 in
theorem arrange_any (l : List Rul) (A : Option Addr) (c : Nat) (known : Int) (cols : List ByteArray) (Ac : Option Addr) (cc : Nat) (w : World) (hl : Lies w w.heap.size A (rulesC l)) (hok : RulOK l) (hm : l.length ≤ 1000) (hlc : Lies w w.heap.size Ac (strsC cols)) (hcs : ∀ s ∈ cols, s.size ≤ 100) (hcm : cols.length ≤ 1000) (hcc : cols.length ≤ cc ∧ cc ≤ maxLen) :
    Calls Tryz.prog 54 #[.agg #[.slice A l.length c], .int .i64 known, .slice Ac cols.length cc] w (ArrE (cntL l known) cols w) := by
  have HST : Hid (∀ W, Below w.heap.size w W → Calls Tryz.prog 100 #[.agg #[.slice A l.length c], .int .i64 known, .slice Ac cols.length cc] W (StE (cntL l known) cols Ac cc W)) := fun W hb => stacked_any l A c known cols Ac cc W ((hl.below hb (Nat.le_refl _)).more hb.size) hok hm ((hlc.below hb (Nat.le_refl _)).more hb.size) hcs hcm hcc
  have HLC := Lib.hid hlc
  clear hl hok hlc hcs
  generalize cntL l known = d at *
  have HX1 : Hid (Bk ((((w.alloc (.cells #[.slice A l.length c] 25)).alloc (.cells #[.slice none 0 0] 34)).alloc (.cells #[.bool false] 4)).alloc (.cells #[.int .i64 0] 26)) (w.heap.size + 1) 34 #[.slice none 0 0]) := Lib.hid (by have h := ((Bk.new (w.alloc (.cells #[.slice A l.length c] 25)) 34 #[.slice none 0 0]).alloc (.cells #[.bool false] 4)).alloc (.cells #[.int .i64 0] 26); simpa using h)
  have HX2 : Hid (Bk ((((w.alloc (.cells #[.slice A l.length c] 25)).alloc (.cells #[.slice none 0 0] 34)).alloc (.cells #[.bool false] 4)).alloc (.cells #[.int .i64 0] 26)) (w.heap.size + 1 + 1) 4 #[.bool false]) := Lib.hid (by have h := (Bk.new ((w.alloc (.cells #[.slice A l.length c] 25)).alloc (.cells #[.slice none 0 0] 34)) 4 #[.bool false]).alloc (.cells #[.int .i64 0] 26); simpa using h)
  have HX3 : Hid (Bk ((((w.alloc (.cells #[.slice A l.length c] 25)).alloc (.cells #[.slice none 0 0] 34)).alloc (.cells #[.bool false] 4)).alloc (.cells #[.int .i64 0] 26)) (w.heap.size + 1 + 1 + 1) 26 #[.int .i64 0]) := Lib.hid (by have h := Bk.new (((w.alloc (.cells #[.slice A l.length c] 25)).alloc (.cells #[.slice none 0 0] 34)).alloc (.cells #[.bool false] 4)) 26 #[.int .i64 0]; simpa using h)
  have HXS : Hid (((((w.alloc (.cells #[.slice A l.length c] 25)).alloc (.cells #[.slice none 0 0] 34)).alloc (.cells #[.bool false] 4)).alloc (.cells #[.int .i64 0] 26)).heap.size = w.heap.size + 4) := by show ((((w.alloc (.cells #[.slice A l.length c] 25)).alloc (.cells #[.slice none 0 0] 34)).alloc (.cells #[.bool false] 4)).alloc (.cells #[.int .i64 0] 26)).heap.size = _; simp
  have HXB : Hid (Below w.heap.size w ((((w.alloc (.cells #[.slice A l.length c] 25)).alloc (.cells #[.slice none 0 0] 34)).alloc (.cells #[.bool false] 4)).alloc (.cells #[.int .i64 0] 26))) := ((((Below.refl _ _).alloc (Nat.le_refl _) _).alloc (by simp) _).alloc (by simp; omega) _).alloc (by simp; omega) _
  have HSX := Lib.hid (HST.out ((((w.alloc (.cells #[.slice A l.length c] 25)).alloc (.cells #[.slice none 0 0] 34)).alloc (.cells #[.bool false] 4)).alloc (.cells #[.int .i64 0] 26)) HXB.out)
  clear HST
  by_cases h0 : stE cols = 0
  · have H0 := Lib.hid h0
    have h8 : cols.length ≤ 8 := by
      unfold stE at h0
      by_cases h : 8 < cols.length
      · rw [if_pos h] at h0; omega
      · omega
    clear h0
    refine (callsIn_wide (n := 3)).1 ?_
    refine callsIn_of_wp_marks Tryz.func54 rfl trivial ?_ rfl
    simp only [Tryz.ntmps54, List.size_toArray, List.length_cons, List.length_nil, Nat.reduceAdd, Nat.reduceSub, Array.replicate_succ, Array.replicate_zero, List.push_toArray, List.append_toArray, List.nil_append, List.cons_append]
    refine wpIn_wide.2 ?_
    go_wp2_with fail
    refine HSX.out.mono ?_
    rintro e w1 ⟨⟨h, _⟩ | ⟨_, bs, rfl, hstk⟩, hb1⟩
    · exact absurd H0.out h
    have k1 := HX1.out.below hb1 HX1.out.lt
    have k2 := HX2.out.below hb1 HX2.out.lt
    have k3 := HX3.out.below hb1 HX3.out.lt
    have hB1 : Below w.heap.size w w1 := HXB.out.trans (hb1.mono HXB.out.size)
    have hz1 : w.heap.size + 4 ≤ w1.heap.size := by have := hb1.size; have := HXS.out; omega
    have HK1 := Lib.hid k1
    have HK2 := Lib.hid k2
    have HK3 := Lib.hid k3
    have HB1 := Lib.hid hB1
    have HSTK := Lib.hid hstk
    clear k1 k2 k3 hb1 hB1 hstk HX1 HX2 HX3 HXB HXS HSX
    have hmf : ∀ (fn : Fn) (first cap : Array Value) (w : World), (Instr.makeFunc fn first cap).run Tryz.prog w = .ok (.func fn first cap) w := fun _ _ _ _ => rfl
    dsimp only
    go_wp2_with fail
    have hbs := cell_lt HSTK.out.col
    have hbs2 : bs < w1.heap.size := hbs
    have J1 := Lib.hid (HK1.out.alloc (.cells #[.pointer (some ⟨bs, 0, none⟩)] 123))
    have J2 := Lib.hid (HK2.out.alloc (.cells #[.pointer (some ⟨bs, 0, none⟩)] 123))
    have J3 := Lib.hid (HK3.out.alloc (.cells #[.pointer (some ⟨bs, 0, none⟩)] 123))
    have J9 : Hid (Bk (w1.alloc (.cells #[.pointer (some ⟨bs, 0, none⟩)] 123)) w1.heap.size 123 #[.pointer (some ⟨bs, 0, none⟩)]) := Bk.new _ _ _
    have JS := Lib.hid (HSTK.out.below ((Below.refl w1.heap.size w1).alloc (Nat.le_refl _) (.cells #[.pointer (some ⟨bs, 0, none⟩)] 123)) hbs2)
    have JB : Hid (Below w.heap.size w (w1.alloc (.cells #[.pointer (some ⟨bs, 0, none⟩)] 123))) := HB1.out.alloc HB1.out.size _
    have hz0 : (w1.alloc (.cells #[.pointer (some ⟨bs, 0, none⟩)] 123)).heap.size = w1.heap.size + 1 := by simp
    have JL := Lib.hid ((HLC.out.below JB.out (Nat.le_refl _)).more JB.out.size)
    clear HK1 HK2 HK3 HSTK HB1 hmf hbs
    generalize w1.alloc (.cells #[.pointer (some ⟨bs, 0, none⟩)] 123) = W0 at *
    refine (wpIn_wide (n := 3)).1 ?_
    refine rangeFunc_once (n := 3) rfl (by omega) (gf := 101) (fa := #[.pointer (some ⟨bs, 0, none⟩)]) (lb := #[]) rfl trivial (enters_of Tryz.func101 (by kernel_rfl) rfl) (encs := fun x : El => #[x.v]) (w0 := W0) (orders_seq 2 (c := cc) (A := Ac) (bar := barM d cols) W0 h8 JS.out) (Below.refl _ _) (fun _ => rfl)
      (fun W => Below W0.heap.size W0 W) (fun x W => Below w.heap.size w W ∧ (∃ A2 c2, Bk W (w.heap.size + 1) 34 #[.slice A2 (x.L.map (colAt cols)).length c2] ∧ Lies W W.heap.size A2 (strsC (x.L.map (colAt cols))) ∧ ((x.L.map (colAt cols)).length ≤ c2 ∧ c2 ≤ maxLen)) ∧ Bk W (w.heap.size + 1 + 1) 4 #[.bool true] ∧ Bk W (w.heap.size + 1 + 1 + 1) 26 #[.int .i64 0]) ?own ?ownx ?pre (Below.refl _ _)
      (fun x => { tmps := #[.agg #[.slice A l.length c], .int .i64 known, .slice Ac cols.length cc, .pointer (some ⟨w.heap.size, 0, none⟩), undef, undef, .pointer (some ⟨w.heap.size + 1, 0, none⟩), .pointer (some ⟨w.heap.size + 1 + 1, 0, none⟩), .pointer (some ⟨w.heap.size + 1 + 1 + 1, 0, none⟩), .pointer (some ⟨w1.heap.size, 0, none⟩), .int .i64 0, x.v, .tuple #[.pointer (some ⟨bs, 0, none⟩), .int .i64 0], .agg #[.slice A l.length c], .int .i64 known, .slice Ac cols.length cc, .tuple #[.pointer (some ⟨bs, 0, none⟩), .int .i64 0], .pointer (some ⟨bs, 0, none⟩), .int .i64 0, .int .i64 0, .bool false, undef, .pointer (some ⟨bs, 0, none⟩), .func (.func 101) #[.pointer (some ⟨bs, 0, none⟩)] #[], x.v, undef, undef, undef], defers := [] }) ?assign ?body ?done ?stop
    case own => exact fun W W' row h hg hr => h.grown hg h.size hr
    case ownx =>
      rintro x W l' o o' ⟨h1, ⟨A2, c2, h2, h3, h4⟩, h5, h6⟩ hl' ho hc
      exact ⟨below_putObj h1 (by omega) _, ⟨A2, c2, h2.putObj (by omega) _, lies_putObj h3 ho hc _, h4⟩, h5.putObj (by omega) _, h6.putObj (by omega) _⟩
    case pre =>
      rintro x W l' o o' ⟨h1, h2⟩ ho hc
      exact ⟨lies_putObj h1 ho hc _, h2⟩
    case assign =>
      intro lb x W K hK
      gi_wp2
      exact hK
    case body =>
      rintro lb x W hI ⟨hat, hxn, hxl⟩
      have hzi := hI.size
      have HNM := Lib.hid (colNamed_any (bs := bs) (c := cc) (A := Ac) (cols := cols) x.L x.A x.c W (JS.out.below hI (by have := JS.out.col; exact cell_lt this)).col ((JL.out.below hI (Nat.le_refl _)).more hzi) hat hxn (by omega) hcm)
      have j1 := J1.out.below hI J1.out.lt
      have j2 := J2.out.below hI J2.out.lt
      have j3 := J3.out.below hI J3.out.lt
      have j9 := J9.out.below hI J9.out.lt
      have y9 := j9.cell 0 rfl
      have HL1 := Lib.hid j1
      have HL2 := Lib.hid j2
      have HL3 := Lib.hid j3
      have HBW : Hid (Below w.heap.size w W) := JB.out.trans (hI.mono JB.out.size)
      clear j1 j2 j3 j9 hat hxn hxl
      unfold El.v
      gi_wp2
      refine ⟨trivial, ?_⟩
      refine CallsIn.mono (callsIn_round HNM.out) ?_
      rintro e w5 ⟨A5, c5, rfl, hl5, hc5, hb5, hg5⟩
      have m1 := HL1.out.below hb5 HL1.out.lt
      have m2 := HL2.out.below hb5 HL2.out.lt
      have m3 := HL3.out.below hb5 HL3.out.lt
      have d1 : w5.cell? ⟨w.heap.size + 1, 0, none⟩ = some (.slice none 0 0) := m1.cell 0 rfl
      have e1 := m1.fro 0
      have d2 : w5.cell? ⟨w.heap.size + 1 + 1, 0, none⟩ = some (.bool false) := m2.cell 0 rfl
      have e2 := m2.fro 0
      have d3 : w5.cell? ⟨w.heap.size + 1 + 1 + 1, 0, none⟩ = some (.int .i64 0) := m3.cell 0 rfl
      have e3 := m3.fro 0
      have HM1 := Lib.hid m1
      have HM2 := Lib.hid m2
      have HM3 := Lib.hid m3
      have HB5 := Lib.hid hb5
      have HL5 := Lib.hid hl5
      clear m1 m2 m3 hb5 hl5
      have hz5 := HB5.out.size
      have hA5 : ∀ j, j < W.heap.size → ∀ ad, A5 = some ad → ad.block ≠ j := fun j hj ad e h => by have := hg5 ad e; omega
      have q1 : Bk (((w5.setCell ⟨w.heap.size + 1, 0, none⟩ (.slice A5 (x.L.map (colAt cols)).length c5)).setCell ⟨w.heap.size + 1 + 1, 0, none⟩ (.bool true)).setCell ⟨w.heap.size + 1 + 1 + 1, 0, none⟩ (.int .i64 0)) (w.heap.size + 1) 34 #[.slice A5 (x.L.map (colAt cols)).length c5] := (((HM1.out.set 0 (.slice A5 (x.L.map (colAt cols)).length c5)).far (p := ⟨w.heap.size + 1 + 1, 0, none⟩) (by dsimp only; omega) (.bool true)).far (p := ⟨w.heap.size + 1 + 1 + 1, 0, none⟩) (by dsimp only; omega) (.int .i64 0))
      have q2 : Bk (((w5.setCell ⟨w.heap.size + 1, 0, none⟩ (.slice A5 (x.L.map (colAt cols)).length c5)).setCell ⟨w.heap.size + 1 + 1, 0, none⟩ (.bool true)).setCell ⟨w.heap.size + 1 + 1 + 1, 0, none⟩ (.int .i64 0)) (w.heap.size + 1 + 1) 4 #[.bool true] := (((HM2.out.far (p := ⟨w.heap.size + 1, 0, none⟩) (by dsimp only; omega) (.slice A5 (x.L.map (colAt cols)).length c5)).set 0 (.bool true)).far (p := ⟨w.heap.size + 1 + 1 + 1, 0, none⟩) (by dsimp only; omega) (.int .i64 0))
      have q3 : Bk (((w5.setCell ⟨w.heap.size + 1, 0, none⟩ (.slice A5 (x.L.map (colAt cols)).length c5)).setCell ⟨w.heap.size + 1 + 1, 0, none⟩ (.bool true)).setCell ⟨w.heap.size + 1 + 1 + 1, 0, none⟩ (.int .i64 0)) (w.heap.size + 1 + 1 + 1) 26 #[.int .i64 0] := (((HM3.out.far (p := ⟨w.heap.size + 1, 0, none⟩) (by dsimp only; omega) (.slice A5 (x.L.map (colAt cols)).length c5)).far (p := ⟨w.heap.size + 1 + 1, 0, none⟩) (by dsimp only; omega) (.bool true)).set 0 (.int .i64 0))
      have hL3 := set_lies (v := .int .i64 0) (set_lies (v := .bool true) (set_lies (v := .slice A5 (x.L.map (colAt cols)).length c5) HL5.out (hA5 (w.heap.size + 1) (by omega))) (hA5 (w.heap.size + 1 + 1) (by omega))) (hA5 (w.heap.size + 1 + 1 + 1) (by omega))
      have hBF : Below w.heap.size w (((w5.setCell ⟨w.heap.size + 1, 0, none⟩ (.slice A5 (x.L.map (colAt cols)).length c5)).setCell ⟨w.heap.size + 1 + 1, 0, none⟩ (.bool true)).setCell ⟨w.heap.size + 1 + 1 + 1, 0, none⟩ (.int .i64 0)) := (((HBW.out.trans (HB5.out.mono HBW.out.size)).setCell (p := ⟨w.heap.size + 1, 0, none⟩) (by dsimp only; omega) _).setCell (p := ⟨w.heap.size + 1 + 1, 0, none⟩) (by dsimp only; omega) _).setCell (p := ⟨w.heap.size + 1 + 1 + 1, 0, none⟩) (by dsimp only; omega) _
      have hKF : KeepsFrom W0.heap.size W (((w5.setCell ⟨w.heap.size + 1, 0, none⟩ (.slice A5 (x.L.map (colAt cols)).length c5)).setCell ⟨w.heap.size + 1 + 1, 0, none⟩ (.bool true)).setCell ⟨w.heap.size + 1 + 1 + 1, 0, none⟩ (.int .i64 0)) := ((keeps_below HB5.out).trans (((KeepsOthers.setCell _ _ _).trans ((KeepsOthers.setCell _ _ _).trans (KeepsOthers.setCell _ _ _))).from _))
      have HFIN := Lib.hid (And.intro hKF (And.intro hBF (And.intro (show ∃ A2 c2, Bk (((w5.setCell ⟨w.heap.size + 1, 0, none⟩ (.slice A5 (x.L.map (colAt cols)).length c5)).setCell ⟨w.heap.size + 1 + 1, 0, none⟩ (.bool true)).setCell ⟨w.heap.size + 1 + 1 + 1, 0, none⟩ (.int .i64 0)) (w.heap.size + 1) 34 #[.slice A2 (x.L.map (colAt cols)).length c2] ∧ Lies (((w5.setCell ⟨w.heap.size + 1, 0, none⟩ (.slice A5 (x.L.map (colAt cols)).length c5)).setCell ⟨w.heap.size + 1 + 1, 0, none⟩ (.bool true)).setCell ⟨w.heap.size + 1 + 1 + 1, 0, none⟩ (.int .i64 0)) (((w5.setCell ⟨w.heap.size + 1, 0, none⟩ (.slice A5 (x.L.map (colAt cols)).length c5)).setCell ⟨w.heap.size + 1 + 1, 0, none⟩ (.bool true)).setCell ⟨w.heap.size + 1 + 1 + 1, 0, none⟩ (.int .i64 0)).heap.size A2 (strsC (x.L.map (colAt cols))) ∧ ((x.L.map (colAt cols)).length ≤ c2 ∧ c2 ≤ maxLen) from ⟨A5, c5, q1, hL3, hc5⟩) (And.intro q2 q3))))
      clear q1 q2 q3 hL3 hBF hKF hA5 hg5 hc5
      gi_wp2
      have h9 := HFIN.out
      simpa [hz0] using h9
    case done =>
      intro D W hwD hS hI hK
      have hzi := hI.size
      have j1 := J1.out.below hI J1.out.lt
      have j2 := J2.out.below hI J2.out.lt
      have j3 := J3.out.below hI J3.out.lt
      have d1 : W.cell? ⟨w.heap.size + 1, 0, none⟩ = some (.slice none 0 0) := j1.cell 0 rfl
      have e1 := j1.fro 0
      have d2 : W.cell? ⟨w.heap.size + 1 + 1, 0, none⟩ = some (.bool false) := j2.cell 0 rfl
      have e2 := j2.fro 0
      have d3 : W.cell? ⟨w.heap.size + 1 + 1 + 1, 0, none⟩ = some (.int .i64 0) := j3.cell 0 rfl
      have e3 := j3.fro 0
      have q1 := Lib.hid (show Bk ((((W.setCell ⟨w.heap.size + 1, 0, none⟩ (.slice none 0 0)).setCell ⟨w.heap.size + 1 + 1, 0, none⟩ (.bool false)).setCell ⟨w.heap.size + 1 + 1 + 1, 0, none⟩ (.int .i64 0)).putObj D (.deferred none)) (w.heap.size + 1) 34 #[.slice none 0 0] from ((((j1.set 0 (.slice none 0 0)).far (p := ⟨w.heap.size + 1 + 1, 0, none⟩) (by dsimp only; omega) (.bool false)).far (p := ⟨w.heap.size + 1 + 1 + 1, 0, none⟩) (by dsimp only; omega) (.int .i64 0)).putObj (D := D) (by omega) (.deferred none)))
      have q2 := Lib.hid (show Bk ((((W.setCell ⟨w.heap.size + 1, 0, none⟩ (.slice none 0 0)).setCell ⟨w.heap.size + 1 + 1, 0, none⟩ (.bool false)).setCell ⟨w.heap.size + 1 + 1 + 1, 0, none⟩ (.int .i64 0)).putObj D (.deferred none)) (w.heap.size + 1 + 1) 4 #[.bool false] from ((((j2.far (p := ⟨w.heap.size + 1, 0, none⟩) (by dsimp only; omega) (.slice none 0 0)).set 0 (.bool false)).far (p := ⟨w.heap.size + 1 + 1 + 1, 0, none⟩) (by dsimp only; omega) (.int .i64 0)).putObj (D := D) (by omega) (.deferred none)))
      have q3 := Lib.hid (show Bk ((((W.setCell ⟨w.heap.size + 1, 0, none⟩ (.slice none 0 0)).setCell ⟨w.heap.size + 1 + 1, 0, none⟩ (.bool false)).setCell ⟨w.heap.size + 1 + 1 + 1, 0, none⟩ (.int .i64 0)).putObj D (.deferred none)) (w.heap.size + 1 + 1 + 1) 26 #[.int .i64 0] from ((((j3.far (p := ⟨w.heap.size + 1, 0, none⟩) (by dsimp only; omega) (.slice none 0 0)).far (p := ⟨w.heap.size + 1 + 1, 0, none⟩) (by dsimp only; omega) (.bool false)).set 0 (.int .i64 0)).putObj (D := D) (by omega) (.deferred none)))
      have HBF := Lib.hid (below_putObj ((((JB.out.trans (hI.mono JB.out.size)).setCell (p := ⟨w.heap.size + 1, 0, none⟩) (by dsimp only; omega) (.slice none 0 0)).setCell (p := ⟨w.heap.size + 1 + 1, 0, none⟩) (by dsimp only; omega) (.bool false)).setCell (p := ⟨w.heap.size + 1 + 1 + 1, 0, none⟩) (by dsimp only; omega) (.int .i64 0)) (D := D) (by omega) (.deferred none))
      have HD : Hid ((((W.setCell ⟨w.heap.size + 1, 0, none⟩ (.slice none 0 0)).setCell ⟨w.heap.size + 1 + 1, 0, none⟩ (.bool false)).setCell ⟨w.heap.size + 1 + 1 + 1, 0, none⟩ (.int .i64 0)).heap[D]? = some (.deferred (some []))) := (Below.heap_setCell _ _ _ _ (by dsimp only; omega)).trans ((Below.heap_setCell _ _ _ _ (by dsimp only; omega)).trans ((Below.heap_setCell _ _ _ _ (by dsimp only; omega)).trans hK))
      have HAA : Hid (arr d cols = ([], false, 0)) := by show _ = _; unfold arr; rw [if_pos H0.out, hS]
      clear j1 j2 j3 hI hK hS
      go_wp2_with fail
      refine leaves_mark (v := .tuple #[.slice none 0 0, .bool false, .int .i64 0]) (D := D) HD.out rfl ?_ ?_
      · have x1 := q1.out.cell 0 rfl
        have x2 := q2.out.cell 0 rfl
        have x3 := q3.out.cell 0 rfl
        generalize World.putObj _ D (.deferred none) = w9 at *
        simp [results, Tryz.results54, go_sem, x1, x2, x3]
      · exact arr_bad HAA.out HBF.out
    case stop =>
      rintro D x W hwD hS ⟨hB, ⟨A2, c2, h1, h2, h3⟩, h4, h5⟩ hK
      gi_wp2
      have g1 := h1.putObj (D := D) (by omega) (.deferred none)
      have g2 := h4.putObj (D := D) (by omega) (.deferred none)
      have g3 := h5.putObj (D := D) (by omega) (.deferred none)
      have gb := below_putObj hB (D := D) (by omega) (.deferred none)
      have gl := lies_putObj h2 hK rfl (.deferred none)
      refine leaves_mark (v := .tuple #[.slice A2 (x.L.map (colAt cols)).length c2, .bool true, .int .i64 0]) (D := D) hK rfl ?_ ?_
      · have x1 := g1.cell 0 rfl
        have x2 := g2.cell 0 rfl
        have x3 := g3.cell 0 rfl
        generalize World.putObj _ D (.deferred none) = w9 at *
        simp [results, Tryz.results54, go_sem, x1, x2, x3]
      · have ha : arr d cols = (x.L.map (colAt cols), true, 0) := by unfold arr; rw [if_pos H0.out, hS]
        exact ⟨A2, c2, by rw [ha], by rw [ha]; exact gl, by rw [ha]; exact h3, gb⟩
  · have HA : Hid (arr d cols = ([], false, stE cols)) := by show _ = _; unfold arr; rw [if_neg h0]
    have H0 := Lib.hid h0
    have hR' : (stE cols == 0) = false := by simpa using h0
    have hR2 : (stE cols != 0) = true := by rw [bne, hR']; rfl
    clear h0
    go_enter Tryz.func54, Tryz.ntmps54
    go_wp2_with fail
    refine HSX.out.mono ?_
    rintro e w1 ⟨⟨_, rfl⟩ | ⟨h, _⟩, hb1⟩
    · have k1 := HX1.out.below hb1 HX1.out.lt
      have k2 := HX2.out.below hb1 HX2.out.lt
      have k3 := HX3.out.below hb1 HX3.out.lt
      have hB1 : Below w.heap.size w w1 := HXB.out.trans (hb1.mono HXB.out.size)
      have HK1 := Lib.hid k1
      have HK2 := Lib.hid k2
      have HK3 := Lib.hid k3
      have HB1 := Lib.hid hB1
      have hz1 : w.heap.size + 4 ≤ w1.heap.size := by have := hb1.size; have := HXS.out; omega
      have c1 : (w1.alloc (.cells #[.pointer none] 123)).cell? ⟨w.heap.size + 1, 0, none⟩ = some (.slice none 0 0) := (k1.alloc _).cell 0 rfl
      have f1 : (w1.alloc (.cells #[.pointer none] 123)).frozen? ⟨w.heap.size + 1, 0, none⟩ = false := (k1.alloc _).fro 0
      have c2 : (w1.alloc (.cells #[.pointer none] 123)).cell? ⟨w.heap.size + 1 + 1, 0, none⟩ = some (.bool false) := (k2.alloc _).cell 0 rfl
      have f2 : (w1.alloc (.cells #[.pointer none] 123)).frozen? ⟨w.heap.size + 1 + 1, 0, none⟩ = false := (k2.alloc _).fro 0
      have c3 : (w1.alloc (.cells #[.pointer none] 123)).cell? ⟨w.heap.size + 1 + 1 + 1, 0, none⟩ = some (.int .i64 0) := (k3.alloc _).cell 0 rfl
      have f3 : (w1.alloc (.cells #[.pointer none] 123)).frozen? ⟨w.heap.size + 1 + 1 + 1, 0, none⟩ = false := (k3.alloc _).fro 0
      clear k1 k2 k3 hb1 hB1 HX1 HX2 HX3 HXB HXS HSX
      dsimp only
      go_wp2_with fail
      have q1 : Bk ((((w1.alloc (.cells #[.pointer none] 123)).setCell ⟨w.heap.size + 1, 0, none⟩ (.slice none 0 0)).setCell ⟨w.heap.size + 1 + 1, 0, none⟩ (.bool false)).setCell ⟨w.heap.size + 1 + 1 + 1, 0, none⟩ (.int .i64 (stE cols))) (w.heap.size + 1) 34 #[.slice none 0 0] := ((((HK1.out.alloc (.cells #[.pointer none] 123)).set 0 (.slice none 0 0)).far (p := ⟨w.heap.size + 1 + 1, 0, none⟩) (by dsimp only; omega) (.bool false)).far (p := ⟨w.heap.size + 1 + 1 + 1, 0, none⟩) (by dsimp only; omega) (.int .i64 (stE cols)))
      have q2 : Bk ((((w1.alloc (.cells #[.pointer none] 123)).setCell ⟨w.heap.size + 1, 0, none⟩ (.slice none 0 0)).setCell ⟨w.heap.size + 1 + 1, 0, none⟩ (.bool false)).setCell ⟨w.heap.size + 1 + 1 + 1, 0, none⟩ (.int .i64 (stE cols))) (w.heap.size + 1 + 1) 4 #[.bool false] := ((((HK2.out.alloc (.cells #[.pointer none] 123)).far (p := ⟨w.heap.size + 1, 0, none⟩) (by dsimp only; omega) (.slice none 0 0)).set 0 (.bool false)).far (p := ⟨w.heap.size + 1 + 1 + 1, 0, none⟩) (by dsimp only; omega) (.int .i64 (stE cols)))
      have q3 : Bk ((((w1.alloc (.cells #[.pointer none] 123)).setCell ⟨w.heap.size + 1, 0, none⟩ (.slice none 0 0)).setCell ⟨w.heap.size + 1 + 1, 0, none⟩ (.bool false)).setCell ⟨w.heap.size + 1 + 1 + 1, 0, none⟩ (.int .i64 (stE cols))) (w.heap.size + 1 + 1 + 1) 26 #[.int .i64 (stE cols)] := ((((HK3.out.alloc (.cells #[.pointer none] 123)).far (p := ⟨w.heap.size + 1, 0, none⟩) (by dsimp only; omega) (.slice none 0 0)).far (p := ⟨w.heap.size + 1 + 1, 0, none⟩) (by dsimp only; omega) (.bool false)).set 0 (.int .i64 (stE cols)))
      have HBF : Hid (Below w.heap.size w ((((w1.alloc (.cells #[.pointer none] 123)).setCell ⟨w.heap.size + 1, 0, none⟩ (.slice none 0 0)).setCell ⟨w.heap.size + 1 + 1, 0, none⟩ (.bool false)).setCell ⟨w.heap.size + 1 + 1 + 1, 0, none⟩ (.int .i64 (stE cols)))) := (((HB1.out.alloc HB1.out.size _).setCell (p := ⟨w.heap.size + 1, 0, none⟩) (by dsimp only; omega) _).setCell (p := ⟨w.heap.size + 1 + 1, 0, none⟩) (by dsimp only; omega) _).setCell (p := ⟨w.heap.size + 1 + 1 + 1, 0, none⟩) (by dsimp only; omega) _
      clear c1 c2 c3 f1 f2 f3
      generalize ((((w1.alloc (.cells #[.pointer none] 123)).setCell ⟨w.heap.size + 1, 0, none⟩ (.slice none 0 0)).setCell ⟨w.heap.size + 1 + 1, 0, none⟩ (.bool false)).setCell ⟨w.heap.size + 1 + 1 + 1, 0, none⟩ (.int .i64 (stE cols))) = WF at *
      have x1 := q1.cell 0 rfl
      have x2 := q2.cell 0 rfl
      have x3 := q3.cell 0 rfl
      refine bodyPost_ret (v := .tuple #[.slice none 0 0, .bool false, .int .i64 (stE cols)]) (by simp [results, Tryz.results54, go_sem, x1, x2, x3]) rfl ?_
      exact arr_bad HA.out HBF.out
    · exact absurd h H0.out
end Go.Proofs.YtkfeagokmcakgaaGreatDoor

namespace Go.Proofs.YtkfeagokmcakgaaGreatDoor
open Go.RowKit

theorem below_grown {w w' : World} {base : Nat} {row : Option Nat} (h : w.grownBy w' row) (hr : ∀ g, row = some g → base ≤ g) (hb : base ≤ w.heap.size) : Below base w w' := Below.grown (Below.refl _ _) h hb hr
theorem sortI_own {w : World} {base n c : Nat} {A : Option Addr} {L : List Int} (h : w.ownsRow base 3 1 (.slice A n c) n (ints L)) (hn : n = L.length) (hm : n ≤ 100000) (hb : base ≤ w.heap.size) :
    Calls Tryz.prog 94 #[.slice A n c] w fun e w' => e = .returned (.tuple #[]) ∧ w'.ownsRow base 3 1 (.slice A n c) n (ints (L.mergeSort fun x y => decide (x ≤ y))) ∧ Below base w w' := by
  subst hn
  rcases h.2 with ⟨h1, h2⟩ | ⟨g, cap, cur, h1, hbg, hg, h2, h3, h4, h5⟩
  · have hL : L = [] := List.eq_nil_of_length_eq_zero h2
    subst hL
    refine (Tryz.slices_Sort_int_none A c w).mono ?_
    rintro e w' ⟨rfl, rfl⟩
    exact ⟨rfl, by simpa using h, Below.refl _ _⟩
  · cases h1
    have hH : Go.Sort.Holds (Value.int .i64) w g 0 L.toArray := holds_of_blockI hg (by rw [Nat.mul_one] at h5; exact h5)
    refine (Tryz.slices_Sort_int g 0 c L w hH (Array.getElem?_eq_some_iff.1 hg).1 (by omega)).mono ?_
    rintro e w' ⟨rfl, m, os, rfl⟩
    refine ⟨rfl, ownsRow_sortedI (by simp) hbg hg h2 h3 h4, below_grown (grownBy_sortedI _) (fun k e => by cases e; exact hbg) hb⟩
theorem compI_own {w : World} {base n c : Nat} {A : Option Addr} {L : List Int} (h : w.ownsRow base 3 1 (.slice A n c) n (ints L)) (hn : n = L.length) (hm : n ≤ 100000) (hb : base ≤ w.heap.size) (hcl : (Lib.compact L).length ≤ L.length) :
    Calls Tryz.prog 95 #[.slice A n c] w fun e w' => e = .returned (.slice A (Lib.compact L).length c) ∧ w'.ownsRow base 3 1 (.slice A (Lib.compact L).length c) (Lib.compact L).length (ints (Lib.compact L)) ∧ Below base w w' := by
  subst hn
  rcases h.2 with ⟨h1, h2⟩ | ⟨g, cap, cur, h1, hbg, hg, h2, h3, h4, h5⟩
  · have hL : L = [] := List.eq_nil_of_length_eq_zero h2
    subst hL
    have hc : (Lib.compact ([] : List Int)) = [] := List.eq_nil_of_length_eq_zero (Nat.le_zero.1 hcl)
    rw [hc]
    refine (Tryz.slices_Compact_int_empty A c w).mono ?_
    rintro e w' ⟨rfl, rfl⟩
    exact ⟨rfl, h, Below.refl _ _⟩
  · cases h1
    have hH : Go.Sort.Holds (Value.int .i64) w g 0 L.toArray := holds_of_blockI hg (by rw [Nat.mul_one] at h5; exact h5)
    refine (Tryz.slices_Compact_int g 0 c L w hH (by omega) h2).mono ?_
    rintro e w' ⟨rfl, q, rfl⟩
    refine ⟨rfl, ?_, Lib.below_putRow (Below.refl _ _) hbg⟩
    have := Lib.ownsRow_putRow (enc := Value.int .i64) (q := q) (k := (Lib.compact L).length) h (ys := Lib.compact L ++ List.replicate (L.length - (Lib.compact L).length) 0) (by simp; omega) hcl
    rw [List.take_left] at this
    exact this
theorem compactUpTo_len (d : Array Int) : ∀ m, (Lib.compactUpTo d m).length ≤ m
  | 0 => by simp [Lib.compactUpTo]
  | m + 1 => by
    rw [Lib.compactUpTo_succ, List.length_append]
    have := compactUpTo_len d m
    split <;> simp <;> omega
theorem compact_len (L : List Int) : (Lib.compact L).length ≤ L.length := compactUpTo_len _ _
/-- the ids that decide a state -/
def whyL (l : List Rul) (x : ByteArray) : List Int := Lib.compact (((abtL l x).map Rul.id).mergeSort fun a b => decide (a ≤ b))
def IsE (L : List Int) (w : World) (e : Ending) (w' : World) : Prop := ∃ A c, e = .returned (.slice A L.length c) ∧ Lies w' w'.heap.size A (ints L) ∧ (L.length ≤ c ∧ c ≤ maxLen) ∧ Below w.heap.size w w'
set_option maxRecDepth 100000 in
set_option maxHeartbeats 2500000 in
theorem why_any (l : List Rul) (A : Option Addr) (c : Nat) (known : Int) (x : ByteArray) (w : World) (hl : Lies w w.heap.size A (rulesC l)) (hok : RulOK l) (hm : l.length ≤ 1000) (hxs : x.size ≤ 100) :
    Calls Tryz.prog 44 #[.agg #[.slice A l.length c], .int .i64 known, .string x] w (IsE (whyL (cntL l known) x) w) := by
  have HC : Hid (∀ W, Below w.heap.size w W → Calls Tryz.prog 38 #[.agg #[.slice A l.length c], .int .i64 known] W (SlE (cntL l known) W)) := fun W hb => counting_any l A c known W ((hl.below hb (Nat.le_refl _)).more hb.size) hok hm
  have HA := Lib.hid (fun A' c' W hL => about_any (cntL l known) A' c' x W hL (hok.sub (cnt_sub l known)) (Nat.le_trans (cnt_len l known) hm) hxs)
  have HWH : Hid (whyL (cntL l known) x = Lib.compact (((abtL (cntL l known) x).map Rul.id).mergeSort fun a b => decide (a ≤ b))) := rfl
  have hml : (abtL (cntL l known) x).length ≤ 1000 := Nat.le_trans (abt_len _ _) (Nat.le_trans (cnt_len l known) hm)
  have hb1 : Below w.heap.size w (w.alloc (.cells #[.slice A l.length c] 25)) := (by repeat (first | with_reducible exact Below.refl _ _ | with_reducible assumption | with_reducible refine Below.drew ?_ | with_reducible refine below_drewN ?_ _ | (with_reducible refine Below.alloc ?_ ?_ _; rotate_left; (try simp) <;> omega) | (with_reducible refine Below.setCell ?_ ?_ _; rotate_left; (try simp) <;> omega)))
  have HB1 := Lib.hid hb1
  generalize whyL (cntL l known) x = WL at *
  generalize abtL (cntL l known) x = m at *
  clear hl hok hb1
  go_enter Tryz.func44, Tryz.ntmps44
  go_wp2_with (first | (go_at_call 38; refine (HC.out _ HB1.out).mono ?_; rintro e w1 ⟨A1, c1, rfl, hl1, _, hb1⟩) | (go_at_call 93; refine (HA.out _ _ _ hl1).mono ?_; rintro e w2 ⟨A2, c2, rfl, hl2, _, hb2⟩))
  have HBW : Hid (∀ W, Below w2.heap.size w2 W → Below w.heap.size w W) := fun W hb => by
    have h1 : Below w.heap.size w w1 := HB1.out.trans (hb1.mono (by simp))
    exact (h1.trans (hb2.mono h1.size)).trans (hb.mono (Nat.le_trans h1.size hb2.size))
  have HL := Lib.hid hl2
  have HEN : Hid ((m.map Rul.id).take m.length = m.map Rul.id) := by show _ = _; rw [List.take_of_length_le (by simp)]
  clear hl1 hl2 hb1 hb2 HC HA
  go_loopw [7, 16] (fun v y wr => ∃ (k : Nat) (A' : Option Addr) (c' : Nat), k ≤ m.length ∧ v = .slice A' k c' ∧ y = .int .i64 k ∧ wr.ownsRow w2.heap.size 3 1 (.slice A' k c') k (ints ((m.map Rul.id).take k)) ∧ Below w2.heap.size w2 wr) (fun _ y _ => m.length - (intOf y).toNat)
  case atStart => exact ⟨0, none, 0, by omega, rfl, rfl, by simpa [ints] using World.ownsRow_nil _ _ _ _, Below.refl _ _⟩
  case round =>
    obtain ⟨k, A', c', hk, rfl, rfl, ho, hbw⟩ := hrel
    have hbs := hbw.size
    by_cases hlt : k < m.length
    · obtain ⟨ad, rfl, hadb, c0, c1, c2, c3, c4, c5⟩ := rule_at ((HL.out.below hbw (Nat.le_refl _)).more hbs) hlt
      have HSN : Hid (ints ((m.map Rul.id).take k) ++ [.int .i64 m[k].id] = ints ((m.map Rul.id).take (k + 1))) := by
        show _ = _
        rw [← List.take_append_getElem (l := m.map Rul.id) (by simpa using hlt), ints_snoc]; simp
      generalize m[k] = r at *
      obtain ⟨id, kn, kd, rx, ry, of⟩ := r
      dsimp only at *
      go_wp2_with (at_builtin; refine wpList_append1 rfl (.tmp 20) (.tmp 23) 42 rfl w2.heap.size 3 (.int .i64 0) 1 8 Tryz.underlying42 info3 rfl (by decide) _ k (ints ((m.map Rul.id).take k)) rfl ((ho.alloc _).alloc _) (wr.heap.size + 1) #[.int .i64 id] 3 rfl ?c0 rfl ?c1 ?c2 (by decide) ?c3 w2.heap.size w2 ?c4 (Nat.le_refl _) ?_)
      case c0 => simpa using Bk.new (wr.alloc (.cells #[.int .i64 id, .int .i64 kn, .int .u8 kd, .string rx, .string ry, .int .i64 of] 50)) 3 #[.int .i64 id]
      case c1 => rfl
      case c2 => omega
      case c3 => first | omega | (simp; omega)
      case c4 => exact (hbw.alloc hbs _).alloc (by first | omega | (simp; omega)) _
      intro v' w4 ho4 hb4 _
      replace ho4 : w4.ownsRow w2.heap.size 3 1 v' (k + 1) (ints ((m.map Rul.id).take (k + 1))) := by rw [← HSN.out]; exact ho4
      obtain ⟨A4, c4, rfl, _, _⟩ := ownsSlice ho4
      clear ho
      go_wp2
      go_roundw
      case rel => exact ⟨k + 1, A4, c4, by omega, rfl, by go_num, ho4, hb4⟩
      case measure => simp [intOf]; omega
    · obtain rfl : k = m.length := by omega
      rw [HEN.out] at ho
      have HS := Lib.hid (sortI_own ho (by simp) (by omega) hbs)
      clear HL
      go_wp2_with (first | (go_at_call 94; refine HS.out.mono ?_; rintro e w5 ⟨rfl, ho5, hb5⟩; have HCC := Lib.hid (compI_own ho5 (by simp) (by omega) (Nat.le_trans hbs hb5.size) (compact_len _))) | (go_at_call 95; refine HCC.out.mono ?_; rintro e w6 ⟨rfl, ho6, hb6⟩))
      rw [← HWH.out] at ho6 ⊢
      have HLI := Lib.hid (ownsRow_lies ho6)
      have hcap := ownsSlice ho6
      have HBE := Lib.hid (HBW.out _ ((hbw.trans hb5).trans hb6))
      clear ho ho5 ho6 HS HCC
      go_ret
      obtain ⟨A7, c7, e7, h1, h2⟩ := hcap
      cases e7
      exact ⟨_, _, rfl, HLI.out, ⟨h1, h2⟩, HBE.out⟩
end Go.Proofs.YtkfeagokmcakgaaGreatDoor
