/- The plain law of PigmentLimit: a book of 200 rules is accepted, and the next rule is refused. -/
import Derived.Maps.RangeWalk
import Derived.Sort.OwnSorted
import Derived.Maps.Range
import Derived.Test.YtkfeagokmcakgaaGreatDoorG02
import Derived.Test.YtkfeagokmcakgaaGreatDoorG07
import Derived.Test.YtkfeagokmcakgaaGreatDoorG12
import Derived.Test.YtkfeagokmcakgaaGreatDoorG13
import Derived.Test.YtkfeagokmcakgaaGreatDoorG16
import Derived.Test.YtkfeagokmcakgaaGreatDoorG17

set_option linter.unusedVariables false
set_option linter.unusedSimpArgs false

namespace Go.Proofs.YtkfeagokmcakgaaGreatDoor

def limR (k : Nat) : Rul := ⟨(k : Int) + 1, 0, 1, ⟨#[111, 99, 104, 114, 101]⟩, ByteArray.empty, 0⟩
def limL (n : Nat) : List Rul := (List.range n).map limR
theorem limL_length (n : Nat) : (limL n).length = n := by simp [limL]
theorem limL_succ (n : Nat) : limL (n + 1) = limL n ++ [limR n] := by simp [limL, List.range_succ]
theorem limL_take {n k : Nat} (h : k ≤ n) : (limL n).take k = limL k := by
  unfold limL; rw [← List.map_take, List.take_range, Nat.min_eq_left h]
theorem limL_get {n k : Nat} (h : k < (limL n).length) : (limL n)[k] = limR k := by simp [limL]
theorem lim_shp (k : Nat) : shpB (limR k) = true := by
  have h : nameB ⟨#[111, 99, 104, 114, 101]⟩ = true := by decide +kernel
  unfold shpB limR
  simp [h]
theorem lim_frm {k : Nat} (h : k < 1000000) : frm (limR k) = true := by
  have h1 := lim_shp k
  unfold frm
  rw [h1, decide_eq_true (show (1 : Int) ≤ (limR k).id from (by show (1 : Int) ≤ (k : Int) + 1; omega)), decide_eq_true (show (limR k).id ≤ 1000000 from (by show (k : Int) + 1 ≤ 1000000; omega))]
  rfl
theorem limL_mem {n : Nat} {r : Rul} (h : r ∈ limL n) : ∃ k, k < n ∧ r = limR k := by
  obtain ⟨k, hk, e⟩ := List.mem_map.1 h
  exact ⟨k, List.mem_range.1 hk, e.symm⟩
theorem limL_ok (n : Nat) : RulOK (limL n) := fun r hr => by
  obtain ⟨k, _, rfl⟩ := limL_mem hr
  exact ⟨by show (5 : Nat) ≤ 100; decide, by show (0 : Nat) ≤ 100; decide, by show (0 : Int) ≤ 1 ∧ (1 : Int) ≤ 255; decide⟩
theorem limL_dup (n : Nat) : dupB (limL n) (limR n).id = false := by
  unfold dupB
  rw [List.any_eq_false]
  intro r hr
  obtain ⟨k, hk, rfl⟩ := limL_mem hr
  simp [limR]
  omega
theorem limL_time (n : Nat) : timeB (limL n) (limR n) = false := by
  unfold timeB
  split
  · rfl
  · rename_i p hp
    obtain ⟨k, hk, rfl⟩ := limL_mem (List.mem_of_getLast? hp)
    rfl
theorem lim_ref {n : Nat} (h : n < 200) : refE (limL n) (limR n) = 0 := by
  unfold refE refG
  rw [limL_length, if_neg (by omega), lim_frm (by omega), limL_dup, limL_time]
  simp [limR]
theorem lim_ref2 {n : Nat} (h : 200 ≤ n) : refE (limL n) (limR n) = 2 := by
  unfold refE refG
  rw [limL_length, if_pos h]
theorem limL_fine {n : Nat} (h : n ≤ 200) : Fine (limL n) := fun i hi => by
  have hi2 : i < n := by simpa [limL_length] using hi
  rw [limL_get hi, limL_take (by omega)]
  exact lim_ref (by omega)
theorem lim_chk : chkL (limL 200) = (0, 0) := chkL_ok (limL_fine (Nat.le_refl _))
theorem lim_chk1 : chkL (limL 201) = (200, 2) := by
  have hk : 200 < (limL 201).length := by rw [limL_length]; omega
  have h := chkL_bad hk (by rw [limL_take (by omega)]; exact limL_fine (Nat.le_refl _)) (by rw [limL_take (by omega), limL_get hk, lim_ref2 (Nat.le_refl _)]; decide)
  rw [limL_take (by omega), limL_get hk, lim_ref2 (Nat.le_refl _)] at h
  exact h
theorem lim_apd : apdE (limL 200) (limR 200) = 2 := by
  unfold apdE
  rw [lim_chk, if_pos rfl, lim_ref2 (Nat.le_refl _)]
theorem lim_apl : apdL (limL 200) (limR 200) = [] := by
  unfold apdL
  rw [lim_apd, if_neg (by decide)]
end Go.Proofs.YtkfeagokmcakgaaGreatDoor

namespace Go.Proofs.YtkfeagokmcakgaaGreatDoor
open Go.RowKit
attribute [local go_sem] Oper.semAt_some

/-- append of one element: the row that grows is named -/
theorem wpList_append1h {P : Program} {ops : Array Oper} {rest : List Oper} {o : Oper} {a : Act} {w : World} {Q : Exit → Act → World → Prop} (hgd : o.guard = none) (s x : Operand) (t : TypeId)
    (ho : o.op = .call { callee := .builtin .append, args := #[s, x], argTypes := #[t, t] })
    (base : Nat) (e : TypeId) (z : Value) (size bytes : Nat) (ht : P.underlying t = some (.slice e)) (hi : (P.info? e).map (fun i => (i.zero, i.size, i.bytes)) = some (some z, size, bytes)) (hzs : z.cells.size = size) (hsz : 0 < size)
    (v : Value) (n : Nat) (xs : List Value) (hs : a.eval s = v) (hown : w.ownsRow base e size v n xs)
    (b : Nat) (C : Array Value) (tt : TypeId) (hx : a.eval x = .slice (some ⟨b, 0, none⟩) 1 1) (hbk : Bk w b tt C) (hl : C.size = size) (h1 : ∀ u ∈ C.toList, u.oneCell' = true)
    (h63 : n < 100000) (hbytes : bytes ≤ 1000) (hbase : base ≤ w.heap.size)
    (h : ∀ v' w', w'.ownsRow base e size v' (n + 1) (xs ++ C.toList) → w.grownBy w' v.ownBlock → Below base w w' → wpList P ops Q rest (a.put o.dst v') w') : wpList P ops Q (o :: rest) a w := by
  obtain ⟨i0, hi0, hz0, hz1, hz2⟩ := info_parts hi
  refine wpList_append_own w hgd s x t ho base e i0 z size bytes ht hi0 hz0 hz1 hz2 hzs hsz v n xs hs hown ⟨b, 0, none⟩ 1 1 C.toList hx (by simpa using hl) (bk_cells hbk) h1 (by unfold maxLen; omega) ?_ hbase ?_
  · calc (n + 1) * bytes ≤ 100000 * 1000 := Nat.mul_le_mul (by omega) hbytes
      _ ≤ 140737488355328 := by decide
  · intro v' w' ho' hg _
    have hge : ∀ k, v.ownBlock = some k → base ≤ k := fun k hk => (hown.lt k hk).1
    exact h v' w' ho' hg (Below.grown (Below.refl _ _) hg hbase fun k hk => hge k hk)
/-- a book that grows in a box -/
structure Bx (b : Nat) (A : Option Addr) (c n : Nat) (l : List Rul) (W : World) : Prop where
  bk : Bk W b 25 #[.slice A n c]
  own : W.ownsRow (b + 1) 50 6 (.slice A n c) n (rulesC l)
  len : l.length = n
theorem Bx.put {b c c2 n : Nat} {A A2 : Option Addr} {l : List Rul} {r : Rul} {W W2 : World} (h : Bx b A c n l W) (hb : Below (b + 1) W W2) (ho : W2.ownsRow (b + 1) 50 6 (.slice A2 (n + 1) c2) (n + 1) (rulesC (l ++ [r]))) :
    Bx b A2 c2 (n + 1) (l ++ [r]) (W2.setCell ⟨b, 0, none⟩ (.slice A2 (n + 1) c2)) := by
  have hk := h.bk.below hb (Nat.lt_succ_self b)
  refine ⟨?_, ?_, by simp [h.len]⟩
  · have := hk.set 0 (.slice A2 (n + 1) c2)
    simpa using this
  · exact (far_setCells b [.slice A2 (n + 1) c2] 0 W2).own ho (Nat.lt_succ_self b)
theorem Bx.lies {b c n : Nat} {A : Option Addr} {l : List Rul} {W : World} (h : Bx b A c n l W) : Lies W W.heap.size A (rulesC l) := ownsRow_lies h.own
theorem Bx.cap {b c n : Nat} {A : Option Addr} {l : List Rul} {W : World} (h : Bx b A c n l W) : n ≤ c ∧ c ≤ maxLen := by
  obtain ⟨A2, c2, e, h1, h2⟩ := ownsSlice h.own
  cases e
  exact ⟨h1, h2⟩
theorem Bx.below {b c n : Nat} {A : Option Addr} {l : List Rul} {W V : World} (h : Bx b A c n l W) (hb : Below W.heap.size W V) : Bx b A c n l V := ⟨h.bk.below hb h.bk.lt, ownsRow_below h.own hb (Nat.le_refl _), h.len⟩
theorem Bx.check {b c n : Nat} {A : Option Addr} {l : List Rul} {W : World} (h : Bx b A c n l W) (hok : RulOK l) (hm : n ≤ 1000) : Calls Tryz.prog 46 #[.agg #[.slice A n c]] W (Int2End (chkL l) W) := by
  have h1 := check_any l A c W h.lies hok (by rw [h.len]; exact hm) (by rw [h.len]; exact h.cap.1) h.cap.2
  rwa [h.len] at h1
theorem Bx.append {b c n : Nat} {A : Option Addr} {l : List Rul} {W : World} (h : Bx b A c n l W) (r : Rul) (hok : RulOK (l ++ [r])) (hm : n ≤ 999) : Calls Tryz.prog 51 #[.agg #[.slice A n c], r.agg] W (AppEnd l r W) := by
  have h1 := append_any l r A c W h.lies hok (by rw [h.len]; exact hm) (by rw [h.len]; exact h.cap.1) h.cap.2
  rwa [h.len] at h1
theorem below_set {b B : Nat} {W V : World} {v : Value} (h : Below B W V) (hB : B ≤ b) : Below B W (V.setCell ⟨b, 0, none⟩ v) := h.trans ((far_setCells b [v] 0 V).bel B V hB (Below.refl _ _))

abbrev lcells (k : Int) : Array Value := #[.int .i64 k, .int .i64 0, .int .u8 1, .string ⟨#[111, 99, 104, 114, 101]⟩, .string ByteArray.empty, .int .i64 0]
theorem lsnoc (k : Nat) : rulesC (limL k) ++ (lcells ((k : Int) + 1)).toList = rulesC (limL (k + 1)) := by rw [limL_succ]; exact rulesC_snoc (limL k) (limR k)
theorem lone_c (k : Int) : ∀ u ∈ (lcells k).toList, u.oneCell' = true := by intro u hu; simp [lcells] at hu; rcases hu with rfl | rfl | rfl | rfl | rfl | rfl <;> rfl
theorem Bx.one {b c c2 k : Nat} {A A2 : Option Addr} {W W2 : World} (h : Bx b A c k (limL k) W) (hb : Below (b + 1) W W2) (ho : W2.ownsRow (b + 1) 50 6 (.slice A2 (k + 1) c2) (k + 1) (rulesC (limL (k + 1)))) :
    Bx b A2 c2 (k + 1) (limL (k + 1)) (W2.setCell ⟨b, 0, none⟩ (.slice A2 (k + 1) c2)) := by
  rw [limL_succ] at ho ⊢
  exact h.put hb ho
set_option maxHeartbeats 1000000 in
set_option maxRecDepth 100000 in
theorem limit_any (w : World) (hg : Glob w) : Calls Tryz.prog 11 #[] w (fun e w' => e = .returned (.bool true) ∧ Below w.heap.size w w') := by
  have HR : Hid (∀ V, Below w.heap.size w V → Calls Tryz.prog 17 #[] V (fun e w' => e = .returned (.bool true) ∧ Below V.heap.size V w')) := fun V hV => ruled_any V (hg.step hV)
  clear hg
  go_enter Tryz.func11, Tryz.ntmps11
  go_wp2
  go_loopw [2] (fun y wr => ∃ (k : Nat) (A : Option Addr) (c : Nat), k ≤ 200 ∧ y = .int .i64 ((k : Int) + 1) ∧ Hid (Bx w.heap.size A c k (limL k) wr) ∧ Below w.heap.size w wr) (fun y _ => 201 - (intOf y).toNat)
  case atStart => exact ⟨0, none, 0, by omega, rfl, ⟨Bk.new _ _ _, World.ownsRow_nil _ _ _ _, rfl⟩, (Below.refl _ _).alloc (Nat.le_refl _) _⟩
  case round =>
    obtain ⟨k, A, c, hk, rfl, hX, hbw⟩ := hrel
    have x0 := hX.out.bk.cell 0 rfl
    have hbl := hX.out.bk.lt
    by_cases hlt : k < 200
    · have hX1 := Lib.hid (hX.out.below ((Below.refl _ _).alloc (Nat.le_refl _) (.cells (lcells ((k : Int) + 1)) 50)))
      have HSN := Lib.hid (lsnoc k)
      have HON := Lib.hid (lone_c ((k : Int) + 1))
      go_wp2_with (at_builtin; refine wpList_append1h (P := Tryz.prog) rfl (.tmp 14) (.tmp 17) 23 rfl (w.heap.size + 1) 50 zeroRul 6 64 Tryz.underlying23 info50 (by decide) (by decide) (.slice A k c) k (rulesC (limL k)) rfl hX1.out.own wr.heap.size (lcells ((k : Int) + 1)) 50 rfl (Bk.new _ _ _) (by simp) HON.out ?c1 (by decide) ?c2 ?_)
      case c1 => omega
      case c2 => first | omega | (simp; omega)
      intro v' w4 ho4 _ hb4
      rw [HSN.out] at ho4
      obtain ⟨A4, c4, rfl, _, _⟩ := ownsSlice ho4
      have hk4 := hX1.out.bk.below hb4 (Nat.lt_succ_self _)
      have x4 := hk4.cell 0 rfl
      have f4 := hk4.fro 0
      have HXN := Lib.hid (hX1.out.one hb4 ho4)
      have HBN : Hid (Below w.heap.size w (w4.setCell ⟨w.heap.size, 0, none⟩ (.slice A4 (k + 1) c4))) := below_set ((hbw.alloc hbw.size _).trans (hb4.mono (by omega))) (Nat.le_refl _)
      clear ho4 hb4 hk4 hX1 hX x0 HSN HON
      go_wp2
      go_roundw
      case rel => exact ⟨k + 1, A4, c4, by omega, by go_num, HXN, HBN.out⟩
      case measure => simp [intOf]; omega
    · obtain rfl : k = 200 := by omega
      have HCK := Lib.hid (hX.out.check (limL_ok _) (by omega))
      rw [lim_chk] at HCK
      clear hk hlt
      go_upto_region 7 with (first | (go_at_call 46; refine HCK.out.mono ?_; rintro e w1 ⟨rfl, hb1⟩))
      have hX2 := Lib.hid (hX.out.below hb1)
      have hbw1 : Below w.heap.size w w1 := hbw.trans (hb1.mono hbw.size)
      have HAP := Lib.hid (hX2.out.append (limR 200) (by rw [← limL_succ]; exact limL_ok _) (by omega))
      unfold AppEnd at HAP
      rw [lim_apl, lim_apd] at HAP
      have x1 := hX2.out.bk.cell 0 rfl
      have hbl1 := hX2.out.bk.lt
      clear hb1 HCK hX x0 hbl hbw
      go_upto_region 8 with (first | (go_at_call 51; refine HAP.out.mono ?_; rintro e w2 ⟨A2, c2, rfl, _, _, hb2⟩))
      have hb3 : Below w1.heap.size w1 (w2.alloc (.cells #[.slice A2 0 c2] 25)) := hb2.alloc hb2.size _
      have hX3 := Lib.hid (hX2.out.below hb3)
      have hbw3 : Below w.heap.size w (w2.alloc (.cells #[.slice A2 0 c2] 25)) := hbw1.trans (hb3.mono hbw1.size)
      clear hb2 hb3 HAP hX2 x1 hbl1 hbw1
      have x3 := hX3.out.bk.cell 0 rfl
      have hbl3 := hX3.out.bk.lt
      generalize (w2.alloc (.cells #[.slice A2 0 c2] 25)) = w3 at *
      have hX4 := Lib.hid (hX3.out.below ((Below.refl _ _).alloc (Nat.le_refl _) (.cells (lcells 201) 50)))
      have HSN : Hid (rulesC (limL 200) ++ (lcells 201).toList = rulesC (limL 201)) := lsnoc 200
      have HON := Lib.hid (lone_c 201)
      go_upto_region 9 with (at_builtin; refine wpList_append1h (P := Tryz.prog) rfl (.tmp 32) (.tmp 34) 23 rfl (w.heap.size + 1) 50 zeroRul 6 64 Tryz.underlying23 info50 (by decide) (by decide) (.slice A 200 c) 200 (rulesC (limL 200)) rfl hX4.out.own w3.heap.size (lcells 201) 50 rfl (Bk.new _ _ _) (by simp) HON.out ?c1 (by decide) ?c2 ?_)
      case c2 => first | omega | (simp; omega)
      intro v' w4 ho4 _ hb4
      rw [HSN.out] at ho4
      obtain ⟨A4, c4, rfl, _, _⟩ := ownsSlice ho4
      have hk4 := hX4.out.bk.below hb4 (Nat.lt_succ_self _)
      have x4 := hk4.cell 0 rfl
      have f4 := hk4.fro 0
      have HXN : Hid (Bx w.heap.size A4 c4 201 (limL 201) (w4.setCell ⟨w.heap.size, 0, none⟩ (.slice A4 201 c4))) := hX4.out.one hb4 ho4
      have HBN : Hid (Below w.heap.size w (w4.setCell ⟨w.heap.size, 0, none⟩ (.slice A4 201 c4))) := below_set ((hbw3.alloc hbw3.size _).trans (hb4.mono (by omega))) (Nat.le_refl _)
      clear ho4 hb4 hk4 hX4 hX3 HSN HON
      go_upto_region 9 with fail
      generalize (w4.setCell ⟨w.heap.size, 0, none⟩ (.slice A4 201 c4)) = w5 at *
      have x5 := HXN.out.bk.cell 0 rfl
      have HCK := Lib.hid (HXN.out.check (limL_ok _) (by omega))
      rw [lim_chk1] at HCK
      have HRR : Hid (∀ V, Below w5.heap.size w5 V → Calls Tryz.prog 17 #[] V (fun e w' => e = .returned (.bool true) ∧ Below V.heap.size V w')) := fun V hV => HR.out V (HBN.out.trans (hV.mono HBN.out.size))
      clear x4 f4 HR HXN
      go_wp2_with (first | (go_at_call 46; refine HCK.out.mono ?_; rintro e w6 ⟨rfl, hb6⟩) | (go_at_call 17; refine (HRR.out _ hb6).mono ?_; rintro e w7 ⟨rfl, hb7⟩))
      go_ret
      exact ⟨rfl, HBN.out.trans ((hb6.trans (hb7.mono hb6.size)).mono HBN.out.size)⟩
end Go.Proofs.YtkfeagokmcakgaaGreatDoor

namespace Go.Proofs.YtkfeagokmcakgaaGreatDoor
open Go.RowKit Go.Maps

def byB (s : ByteArray) : List UInt8 := s.data.toList
theorem byB_inj {a b : ByteArray} (h : byB a = byB b) : a = b := bytes_inj h
def srtB (l : List ByteArray) : List ByteArray := l.mergeSort fun x y => decide (byB x ≤ byB y)
theorem enc_by (s : ByteArray) : Go.Proofs.encStr (byB s) = Value.string s := by
  show Value.string ⟨s.data.toList.toArray⟩ = _
  rw [Array.toArray_toList]
theorem strsC_enc (l : List ByteArray) : (l.map byB).map Go.Proofs.encStr = strsC l := by
  unfold strsC
  rw [List.map_map]
  exact List.map_congr_left fun s _ => enc_by s
theorem srt_map (l : List ByteArray) : (l.map byB).mergeSort (fun x y => decide (x ≤ y)) = (srtB l).map byB := by
  unfold srtB
  exact (List.map_mergeSort (f := byB) (r := fun x y => decide (byB x ≤ byB y)) (s := fun x y => decide (x ≤ y)) (fun a _ b _ => rfl)).symm
/-- the list of a set of names, in ascending order -/
structure SrtOf (R : List ByteArray) (p : ByteArray → Bool) : Prop where
  srt : R.Pairwise fun a b => byB a ≤ byB b
  nd : R.Nodup
  mem : ∀ s, s ∈ R ↔ (s.size ≤ maxLen ∧ p s = true)
theorem SrtOf.uniq {R R' : List ByteArray} {p : ByteArray → Bool} (h : SrtOf R p) (k : SrtOf R' p) : R = R' :=
  List.Perm.eq_of_pairwise (fun _ _ _ _ h1 h2 => byB_inj (List.le_antisymm h1 h2)) h.srt k.srt ((List.perm_ext_iff_of_nodup h.nd k.nd).2 fun s => (h.mem s).trans (k.mem s).symm)
theorem srtB_of {l : List ByteArray} {p : ByteArray → Bool} (hn : l.Nodup) (hm : ∀ s, s ∈ l ↔ (s.size ≤ maxLen ∧ p s = true)) : SrtOf (srtB l) p := by
  refine ⟨?_, (List.mergeSort_perm l _).nodup_iff.2 hn, fun s => ((List.mergeSort_perm l _).mem_iff).trans (hm s)⟩
  have h := List.pairwise_mergeSort (le := fun x y => decide (byB x ≤ byB y)) (fun a b c h1 h2 => by simp at h1 h2 ⊢; exact List.le_trans h1 h2) (fun a b => by simp; exact List.le_total _ _) l
  exact h.imp (by simp)
theorem srtB_len (l : List ByteArray) : (srtB l).length = l.length := List.length_mergeSort _
/-- what has come so far of a range over a map -/
structure Cm (g : ByteArray → Option Bool) (left : Lit → Bool) (acc : List ByteArray) : Prop where
  nd : acc.Nodup
  mem : ∀ s, s ∈ acc ↔ (s.size ≤ maxLen ∧ g s = some true ∧ left (.string (byB s)) = false)
  sub : ∀ s, s.size ≤ maxLen → left (.string (byB s)) = true → (g s).isSome = true
theorem Cm.start {g : ByteArray → Option Bool} {D : DataW Unit} (h : Reads mSB D g) : Cm g (Maps.has D) [] := by
  have h2 : ∀ s : ByteArray, s.size ≤ maxLen → Maps.has D (.string (byB s)) = (g s).isSome := fun s hs => (h s hs).2
  refine ⟨List.nodup_nil, fun s => ⟨fun hm => (by cases hm), ?_⟩, fun s hs hl => by rw [← h2 s hs]; exact hl⟩
  rintro ⟨hs, hg, hl⟩
  rw [h2 s hs, hg] at hl
  cases hl
theorem key_same {x s : ByteArray} : (Lit.string (byB s)).sameKey (.string (byB x)) = decide (s = x) := by
  by_cases h : s = x
  · subst h
    rw [decide_eq_true rfl]
    exact WideAt.sameKey_self trivial
  · rw [decide_eq_false h]
    cases hk : (Lit.string (byB s)).sameKey (.string (byB x))
    · rfl
    · have := WideAt.sameKey_eq hk
      injection this with h1
      exact absurd (byB_inj h1) h
theorem Cm.step {g : ByteArray → Option Bool} {left : Lit → Bool} {acc : List ByteArray} (h : Cm g left acc) {D : DataW Unit} (hr : Reads mSB D g) {x : ByteArray} {c : Bool} (hx : x.size ≤ maxLen) (hl : left (.string (byB x)) = true) (ha : ∀ zd, D.atKey (.string (byB x)) zd = .lit (.bool c)) :
    Cm g (fun z => left z && !z.sameKey (.string (byB x))) (if c = true then acc ++ [x] else acc) := by
  have h1 := (hr x hx).1
  have h2 : (DataW.lit (.bool c) : DataW Unit) = .lit (.bool ((g x).getD false)) := (ha _).symm.trans h1
  have h3 : c = (g x).getD false := by injection h2 with h2; injection h2
  have h4 := h.sub x hx hl
  have hg : g x = some c := by
    cases hgx : g x with
    | none => rw [hgx] at h4; cases h4
    | some d => rw [hgx] at h3; rw [h3]; rfl
  have hna : x ∉ acc := fun hm => by have := ((h.mem x).1 hm).2.2; rw [hl] at this; cases this
  refine ⟨?_, fun s => ?_, fun s hs hls => ?_⟩
  · split
    · rw [List.nodup_append]
      exact ⟨h.nd, by simp, fun a hin b hb => by simp at hb; subst hb; exact fun e => hna (e ▸ hin)⟩
    · exact h.nd
  · have e : (left (.string (byB s)) && !(Lit.string (byB s)).sameKey (.string (byB x))) = (left (.string (byB s)) && !decide (s = x)) := by rw [key_same]
    show _ ↔ _ ∧ _ ∧ (left (.string (byB s)) && !(Lit.string (byB s)).sameKey (.string (byB x))) = false
    rw [e]
    by_cases hsx : s = x
    · subst hsx
      rw [decide_eq_true rfl]
      cases c
      · simp only [Bool.false_eq_true, if_false]
        constructor
        · intro hm; exact absurd hm hna
        · rintro ⟨_, h6, _⟩; rw [hg] at h6; cases h6
      · simp only [if_true, List.mem_append, List.mem_singleton, or_true, true_iff]
        exact ⟨hx, hg, by simp⟩
    · rw [decide_eq_false hsx]
      have : (s ∈ if c = true then acc ++ [x] else acc) ↔ s ∈ acc := by
        split
        · simp [hsx]
        · rfl
      rw [this, h.mem s]
      simp
  · have h5 : left (.string (byB s)) = true := by
      simp only [Bool.and_eq_true] at hls; exact hls.1
    exact h.sub s hs h5
theorem Cm.done {g : ByteArray → Option Bool} {left : Lit → Bool} {acc : List ByteArray} (h : Cm g left acc) (hl : ∀ kl, left kl = false) : ∀ s, s ∈ acc ↔ (s.size ≤ maxLen ∧ decide (g s = some true) = true) := fun s => by
  rw [h.mem s, hl, decide_eq_true_eq]
  simp
theorem own_iter {w w' : World} {base r : Nat} {e : TypeId} {size n : Nat} {v : Value} {xs : List Value} (h : w.ownsRow base e size v n xs) (hg : w.grownBy w' (some r)) (hr : r < base) : w'.ownsRow base e size v n xs := by
  refine ⟨h.1, ?_⟩
  rcases h.2 with h2 | ⟨g, cap, cur, h1, h2, h3, h4⟩
  · exact .inl h2
  · have hgl : g < w.heap.size := (Array.getElem?_eq_some_iff.1 h3).1
    exact .inr ⟨g, cap, cur, h1, h2, (hg.block g hgl (by intro e; cases e; omega)).trans h3, h4⟩
theorem sortS_own {w : World} {base n c : Nat} {A : Option Addr} {L : List ByteArray} (h : w.ownsRow base 9 1 (.slice A n c) n (strsC L)) (hn : n = L.length) (hm : n ≤ 100000) (hb : base ≤ w.heap.size) :
    Calls Tryz.prog 128 #[.slice A n c] w fun e w' => e = .returned (.tuple #[]) ∧ w'.ownsRow base 9 1 (.slice A n c) n (strsC (srtB L)) ∧ Below base w w' := by
  subst hn
  rcases h.2 with ⟨h1, h2⟩ | ⟨g, cap, cur, h1, hbg, hg, h2, h3, h4, h5⟩
  · have hL : L = [] := List.eq_nil_of_length_eq_zero h2
    subst hL
    refine (Tryz.slices_Sort_string_none A c w).mono ?_
    rintro e w' ⟨rfl, rfl⟩
    exact ⟨rfl, by simpa [srtB] using h, Below.refl _ _⟩
  · cases h1
    have hlen : (L.map byB).length = L.length := by simp
    have hH : Go.Sort.Holds Go.Proofs.encStr w g 0 (L.map byB).toArray := holds_of_block hg (by rw [hlen, strsC_enc]; rw [Nat.mul_one] at h5; exact h5)
    have hs := Tryz.slices_Sort_string g 0 c (L.map byB) w hH (Array.getElem?_eq_some_iff.1 hg).1 (by rw [hlen]; omega)
    rw [hlen] at hs
    refine hs.mono ?_
    rintro e w' ⟨rfl, m, os, rfl⟩
    rw [srt_map]
    refine ⟨rfl, ?_, below_grown (grownBy_sorted _) (fun k e => by cases e; exact hbg) hb⟩
    have := ownsRow_sorted (n := m) (os := os) (ss := L.map byB) (ts := (srtB L).map byB) (by simp [srtB_len]) hbg hg (by rw [hlen]; exact h2) h3 h4
    rw [hlen, strsC_enc] at this
    exact this
/-- a list of names in new memory, in ascending order -/
def GpE (p : ByteArray → Bool) (w : World) (e : Ending) (w' : World) : Prop := ∃ R A c, SrtOf R p ∧ R.length ≤ 10000 ∧ e = .returned (.slice A R.length c) ∧ Lies w' w'.heap.size A (strsC R) ∧ (R.length ≤ c ∧ c ≤ maxLen) ∧ Below w.heap.size w w'

theorem next_sb {w : World} {ops : Array Oper} {rest : List Oper} {o : Oper} {a : Act} {Q : Exit → Act → World → Prop} (hg : o.guard = none) (it : Operand) (hop : o.op = Op.next it false) (b r n : Nat) (D : DataW Unit) (left : Lit → Bool) (cnt : Nat)
    (hit : a.eval it = .pointer (some ⟨r, 0, none⟩)) (h : w.ranges Tryz.prog 9 (plainElem Tryz.prog 4) b r n D left cnt)
    (hDone : (∀ kl, left kl = false) → wpList Tryz.prog ops Q rest (a.put o.dst (.tuple #[.bool false])) w)
    (hMoreF : ∀ (x : ByteArray) (w' : World) (cnt' : Nat), x.size ≤ maxLen → left (.string (byB x)) = true → (∀ zd, D.atKey (.string (byB x)) zd = .lit (.bool false)) → w'.ranges Tryz.prog 9 (plainElem Tryz.prog 4) b r n D (fun z => left z && !z.sameKey (.string (byB x))) cnt' → cnt' < cnt →
      w.grownBy w' (some r) → w'.heap.size = w.heap.size → (Instr.entry (.pointer (some ⟨r, 0, none⟩))).run Tryz.prog w' = .ok (.tuple #[.string x, .bool false]) w' → wpList Tryz.prog ops Q rest (a.put o.dst (.tuple #[.bool true, .string x, .bool false])) w')
    (hMoreT : ∀ (x : ByteArray) (w' : World) (cnt' : Nat), x.size ≤ maxLen → left (.string (byB x)) = true → (∀ zd, D.atKey (.string (byB x)) zd = .lit (.bool true)) → w'.ranges Tryz.prog 9 (plainElem Tryz.prog 4) b r n D (fun z => left z && !z.sameKey (.string (byB x))) cnt' → cnt' < cnt →
      w.grownBy w' (some r) → w'.heap.size = w.heap.size → (Instr.entry (.pointer (some ⟨r, 0, none⟩))).run Tryz.prog w' = .ok (.tuple #[.string x, .bool true]) w' → wpList Tryz.prog ops Q rest (a.put o.dst (.tuple #[.bool true, .string x, .bool true])) w') :
    wpList Tryz.prog ops Q (o :: rest) a w := by
  refine wpList_next_ranges w hg it hop 9 (string_keyed Tryz.underlying9) (plainElem Tryz.prog 4) Value.string Value.bool (fun key kl hk => by obtain ⟨x, h1, h2, h3⟩ := WideMaps.string_of_keyOf Tryz.underlying9 hk; exact ⟨x, h1⟩) (fun v y hv => by obtain ⟨c, _, h2, _⟩ := inv_bool Tryz.underlying4 hv; exact ⟨c, h2⟩)
    b r n D left cnt hit h (fun _ => hDone) (fun x c kl y w' cnt' hkey hlk hv hat hrg hlt hgr hsz hen => ?_)
  obtain ⟨x', ex, rfl, hx⟩ := WideMaps.string_of_keyOf Tryz.underlying9 hkey
  cases ex
  obtain ⟨c', _, ec, rfl⟩ := inv_bool Tryz.underlying4 hv
  cases ec
  cases c
  · exact hMoreF x w' cnt' hx hlk hat hrg hlt hgr hsz hen
  · exact hMoreT x w' cnt' hx hlk hat hrg hlt hgr hsz hen
set_option maxHeartbeats 1000000 in
set_option maxRecDepth 100000 in
theorem sorted_any (g : ByteArray → Option Bool) (b n : Nat) (w : World) (hm : MapG mSB w b n g) (hn : n ≤ 10000) : Calls Tryz.prog 89 #[.map (some b)] w (GpE (fun s => decide (g s = some true)) w) := by
  obtain ⟨D, hown, hrd⟩ := hm.out
  have HRD := Lib.hid hrd
  have hbl := hown.lt
  have hcs0 := hown.size_le
  clear hm hrd
  have hown : w.ownsMap Tryz.prog 9 (plainElem Tryz.prog 4) b n D := hown
  go_enter Tryz.func89, Tryz.ntmps89
  go_wp2_with (first
    | (at_range; refine wpList_range_own _ rfl _ 114 rfl 9 4 (string_keyed Tryz.underlying9) Tryz.underlying114 _ b n _ rfl hown ?_; intro w0 hrg0 hg0 hs0)
    | go_in)
  go_frame
  have hb0 : Below w.heap.size w w0 := (Below.refl _ _).grown hg0 (Nat.le_refl _) (fun j hj => by cases hj)
  go_loopw [3, 4, 5] (fun v _ _ wr => ∃ (left : Lit → Bool) (cnt : Nat) (acc : List ByteArray) (A : Option Addr) (c : Nat), Hid (wr.ranges Tryz.prog 9 (plainElem Tryz.prog 4) b w.heap.size n D left cnt) ∧ acc.length + cnt ≤ 10000 ∧ v = .slice A acc.length c ∧ Hid (Cm g left acc) ∧ Hid (wr.ownsRow (w.heap.size + 1) 9 1 (.slice A acc.length c) acc.length (strsC acc)) ∧ Below w.heap.size w wr)
    (fun _ _ _ wr => wr.rangeLeft b w.heap.size)
  case atStart => exact ⟨_, _, [], none, 0, hrg0, by simp; omega, rfl, Cm.start HRD.out, World.ownsRow_nil _ _ _ _, hb0⟩
  case round =>
    obtain ⟨left, cnt, acc, A, c, hrg, hcs, rfl, hC, ho, hbw⟩ := hrel
    go_wp2_with (first
      | (at_next; refine next_sb rfl _ rfl b w.heap.size n _ _ _ rfl hrg.out ?_ ?_ ?_)
      | go_in)
    · intro hl0
      have hS := Lib.hid (sortS_own ho.out rfl (by omega) (by have := hrg.out.lt; omega))
      have hR := Lib.hid (srtB_of hC.out.nd (hC.out.done hl0))
      have hbase : w.heap.size + 1 ≤ wr.heap.size := by have := hrg.out.lt; omega
      clear hrg hC ho HRD hown
      go_wp2_with (first | (go_at_call 128; refine hS.out.mono ?_; rintro e w5 ⟨rfl, ho5, hb5⟩))
      have hBE : Below w.heap.size w w5 := hbw.trans (hb5.mono (by omega))
      have hLI := Lib.hid (ownsRow_lies ho5)
      have hcap := ownsSlice ho5
      clear ho5 hb5 hbw hS
      go_ret
      obtain ⟨A7, c7, e7, h1, h2⟩ := hcap
      cases e7
      exact ⟨srtB acc, A, c, hR.out, by rw [srtB_len]; omega, by rw [srtB_len]; rfl, hLI.out, by rw [srtB_len]; exact ⟨h1, h2⟩, hBE⟩
    · intro x w1 cnt1 hx hlx hat hrg1 hlt hg1 hs1 hen
      have hC1 := Lib.hid (hC.out.step HRD.out hx hlx hat)
      have ho1 := Lib.hid (own_iter ho.out hg1 (Nat.lt_succ_self _))
      have hbw1 : Below w.heap.size w w1 := hbw.grown hg1 hbw.size (fun j hj => by cases hj; exact Nat.le_refl _)
      have hbase : w.heap.size + 1 ≤ w1.heap.size := by have := hrg1.lt; omega
      have HRG := Lib.hid hrg1
      have HME := Lib.hid (show wr.rangeLeft b w.heap.size = cnt from hrg.out.left_eq)
      clear hg1 hs1 hlx hat hrg1 hC ho hrg hbw hown HRD
      rw [if_neg (by simp)] at hC1
      go_wp2
      go_roundw
      case rel => exact ⟨_, cnt1, acc, A, c, HRG, by omega, rfl, hC1, ho1, hbw1⟩
      case measure => rw [HRG.out.left_eq, HME.out]; exact hlt
    · intro x w1 cnt1 hx hlx hat hrg1 hlt hg1 hs1 hen
      have hC1 := Lib.hid (hC.out.step HRD.out hx hlx hat)
      have ho1 := Lib.hid (own_iter ho.out hg1 (Nat.lt_succ_self _))
      have hbw1 : Below w.heap.size w w1 := hbw.grown hg1 hbw.size (fun j hj => by cases hj; exact Nat.le_refl _)
      have hbase : w.heap.size + 1 ≤ w1.heap.size := by have := hrg1.lt; omega
      have HRG := Lib.hid hrg1
      have HME := Lib.hid (show wr.rangeLeft b w.heap.size = cnt from hrg.out.left_eq)
      clear hg1 hs1 hlx hat hrg1 hC ho hrg hbw hown HRD
      rw [if_pos rfl] at hC1
      go_wp2_with (at_builtin; refine wpList_append1g (P := Tryz.prog) rfl (.tmp 14) (.tmp 16) 34 rfl (w.heap.size + 1) 9 (.string ByteArray.empty) 1 16 Tryz.underlying34 info9 (by decide) (by decide) (.slice A acc.length c) acc.length (strsC acc) rfl (ho1.out.alloc _) w1.heap.size #[.string x] 9 rfl (Bk.new _ _ _) rfl ?c1 ?c2 (by decide) ?c3 ?_)
      case c1 => rfl
      case c2 => omega
      case c3 => simp; omega
      intro v' w4 ho4 hg4
      have hgr : ∀ k, (Value.slice A acc.length c).ownBlock = some k → w.heap.size + 1 ≤ k := fun k hk => (ho1.out.lt k hk).1
      have HRG4 := Lib.hid ((HRG.out.alloc (.cells #[.string x] 9)).kept hg4 (fun e => by have := hgr b e.symm; omega) (fun e => by have := hgr w.heap.size e.symm; omega))
      have hbw4 : Below w.heap.size w w4 := (hbw1.alloc hbw1.size _).grown hg4 (by have := hbw1.size; simp; omega) (fun j hj => by have := hgr j hj; omega)
      have hsn : strsC acc ++ (#[Value.string x] : Array Value).toList = strsC (acc ++ [x]) := by simp [strsC]
      rw [hsn] at ho4
      obtain ⟨A4, c4, rfl, _, _⟩ := ownsSlice ho4
      have ho5 : Hid (w4.ownsRow (w.heap.size + 1) 9 1 (.slice A4 (acc ++ [x]).length c4) (acc ++ [x]).length (strsC (acc ++ [x]))) := by rw [List.length_append]; exact Lib.hid ho4
      have hll : (acc ++ [x]).length = acc.length + 1 := by simp
      clear ho4 hg4 hgr ho1 hbw1 hsn
      go_wp2
      go_roundw
      case rel => exact ⟨_, cnt1, acc ++ [x], A4, c4, HRG4, by omega, by rw [hll], hC1, ho5, hbw4⟩
      case measure => rw [HRG4.out.left_eq, HME.out]; exact hlt
set_option maxHeartbeats 1000000 in
set_option maxRecDepth 100000 in
theorem Groups_any (l : List Rul) (A : Option Addr) (c : Nat) (known : Int) (x : ByteArray) (w : World) (hl : Lies w w.heap.size A (rulesC l)) (hok : RulOK l) (hm : l.length ≤ 1000) (hxs : x.size ≤ 100) :
    Calls Tryz.prog 41 #[.agg #[.slice A l.length c], .int .i64 known, .string x] w (GpE (inG (cntL l known) x) w) := by
  have HC : Hid (∀ W, Below w.heap.size w W → Calls Tryz.prog 38 #[.agg #[.slice A l.length c], .int .i64 known] W (SlE (cntL l known) W)) := fun W hb => counting_any l A c known W ((hl.below hb (Nat.le_refl _)).more hb.size) hok hm
  have HG := Lib.hid (fun A' c' W hL => groups_any (cntL l known) A' c' x W hL (hok.sub (cnt_sub l known)) (Nat.le_trans (cnt_len l known) hm) hxs)
  have HP : Hid ((fun s => decide (setG (inG (cntL l known) x) s = some true)) = inG (cntL l known) x) := by
    show _ = _
    funext s
    unfold setG
    cases inG (cntL l known) x s <;> simp
  clear hl hok
  go_enter Tryz.func41, Tryz.ntmps41
  go_wp2_with (first | (go_at_call 38; refine (HC.out _ (by repeat (first | with_reducible exact Below.refl _ _ | with_reducible assumption | with_reducible refine Below.drew ?_ | with_reducible refine below_drewN ?_ _ | (with_reducible refine Below.alloc ?_ ?_ _; rotate_left; (try simp) <;> omega) | (with_reducible refine Below.setCell ?_ ?_ _; rotate_left; (try simp) <;> omega)))).mono ?_; rintro e w1 ⟨A1, c1, rfl, hl1, _, hb1⟩; have hB1 : Below w.heap.size w w1 := Below.trans (by repeat (first | with_reducible exact Below.refl _ _ | with_reducible assumption | with_reducible refine Below.drew ?_ | with_reducible refine below_drewN ?_ _ | (with_reducible refine Below.alloc ?_ ?_ _; rotate_left; (try simp) <;> omega) | (with_reducible refine Below.setCell ?_ ?_ _; rotate_left; (try simp) <;> omega))) (hb1.mono (by simp))) | (go_at_call 90; refine (HG.out _ _ _ hl1).mono ?_; rintro e w2 ⟨b, n, rfl, _, hn2, hm2, hb2⟩; have HST := Lib.hid (sorted_any _ b n w2 hm2 hn2); have hB2 : Below w.heap.size w w2 := hB1.trans (hb2.mono hB1.size)) | (go_at_call 89; refine HST.out.mono ?_; rintro e w3 ⟨R, A3, c3, hR, hRl, rfl, hL3, hc3, hb3⟩))
  rw [HP.out] at hR
  have HLI := Lib.hid hL3
  have HR := Lib.hid hR
  go_ret
  exact ⟨R, A3, c3, HR.out, hRl, rfl, HLI.out, hc3, hB2.trans (hb3.mono hB2.size)⟩
end Go.Proofs.YtkfeagokmcakgaaGreatDoor

namespace Go.Proofs.YtkfeagokmcakgaaGreatDoor
open Go.RowKit Go.MapKept Go.WideShapes
open Go.ChangeMaps (notKey putKey setBlock modify_eq_set heap_setBlock_same heap_setBlock_other)
open Go.WideElems (Fit rd rg pl rd_key rd_val rg_of rd_mk other_key)
open Go.Maps (Keyed)

section
variable {H : Type} {P : Program} {k : TypeId} {R : Value → Option (DataW H × List MemPlace)} {w : World} {b r n : Nat} {D : DataW H} {left : Lit → Bool} {cnt : Nat}
theorem ranges_put {t e : TypeId} (h : w.ranges P k R b r n D left cnt) (K : Keyed P k) (ht : P.underlying t = some (.map k e)) (hn : n < maxLen) {key val : Value} {kl : Lit} {d : DataW H} {ps : List MemPlace} (hkey : keyOf P k key = some kl) (hv : R val = some (d, ps)) (hin : Maps.has D kl = true) :
    ∃ w', (Instr.mapUpdate t (.map (some b)) key val).run P w = .ok () w' ∧ w'.ranges P k R b r n (D.put kl d) left cnt ∧ w.mapTurned w' b := by
  have hne := h.ne
  obtain ⟨es, clock, since, seen, c0, hb, F, hs, rfl, hr, hold, hcnt, hl1, hl2, hsc, hsk⟩ := h
  obtain ⟨es1, clock1, hrun1, F1, hput, _⟩ := Maps.fit_store (R' := R) K ht hb F (Nat.lt_of_le_of_lt hs hn) (fun _ _ _ _ hz => hz) hkey hv
  rcases K.find w hkey es.toList F.keys with ⟨_, h2⟩ | ⟨j, e0, h1, h2, h3⟩
  · exfalso
    obtain ⟨p, hp, hpk⟩ := List.any_eq_true.1 hin
    obtain ⟨x, hx, rfl⟩ := List.mem_map.1 (mem_sorted.1 hp)
    obtain ⟨y, hy⟩ := F.reads x hx
    have e1 := WideAt.sameKey_eq hpk
    rw [rg_of hy] at e1
    exact h2 x hx (K.inj (e1 ▸ rd_key hy) hkey)
  · have hj : es[j]? = some e0 := by simpa using h2
    have hrun : (Instr.mapUpdate t (.map (some b)) key val).run P w = .ok () (setBlock w b (.map (es.modify j (fun e' => { e' with key := key, val := val })) clock)) := by
      simp [Instr.mapUpdate, run_underlying ht, MapKept.run_getObj_map hb, K.check w false hkey, h1, hj, h3, K.stays w hkey, MapKept.run_setObj_map _ hb, Result.andThen, setBlock]
    have hEq : es1 = es.modify j (fun e' => { e' with key := key, val := val }) ∧ clock1 = clock := by
      rw [hrun] at hrun1
      have h4 : setBlock w b (.map (es.modify j (fun e' => { e' with key := key, val := val })) clock) = setBlock w b (.map es1 clock1) := by injection hrun1
      have h5 := heap_setBlock_same hb (.map es1 clock1)
      rw [← h4, heap_setBlock_same hb] at h5
      injection h5 with h5
      injection h5 with h5 h6
      exact ⟨h5.symm, h6.symm⟩
    obtain ⟨hE, hC⟩ := hEq
    subst hC
    have hlist : es1.toList = es.toList.set j { e0 with key := key, val := val } := by rw [hE, Array.toList_modify, modify_eq_set _ _ _ _ h2]
    have hjl : j < es.toList.length := (List.getElem?_eq_some_iff.1 h2).1
    have hmem0 : e0 ∈ es.toList := List.mem_of_getElem? h2
    have hrgN : (rg P k R { e0 with key := key, val := val }).1 = kl := by
      have := rg_of (rd_mk (R := R) (born := e0.born) hkey hv)
      rw [show ({ e0 with key := key, val := val } : MapEntry) = ⟨key, val, e0.born⟩ from rfl, this]
    have hrg0 : (rg P k R e0).1 = kl := by
      obtain ⟨y, hy⟩ := F.reads e0 hmem0
      have m1 := rd_key hy
      rw [h3, hkey] at m1
      rw [rg_of hy, ← Option.some.inj m1]
    have who : ∀ x ∈ es1.toList, x = { e0 with key := key, val := val } ∨ x ∈ es.toList := fun x hx => by
      rw [hlist] at hx
      rcases List.mem_or_eq_of_mem_set hx with h | h
      · exact .inr h
      · exact .inl h
    refine ⟨_, hrun, ⟨es1, clock1, since, seen, c0, by rw [hE]; exact heap_setBlock_same hb _, F1, ?_, by rw [DataW.put_eq, hput], (heap_setBlock_other hb _ hne).trans hr, fun x hx => ?_, ?_, fun x hx => ?_, fun kl' hk' => ?_, hsc, hsk⟩, ⟨es, clock1, _, clock1, hb, rfl⟩⟩
    · rw [hE]; simpa using hs
    · rcases who x hx with rfl | hx
      · exact hold e0 hmem0
      · exact hold x hx
    · rw [← hcnt]
      have e1 : ∀ a : Array MapEntry, (leftOf a seen).size = ((a.toList.map MapEntry.born).filter fun z => !seen.contains z).length := fun a => by
        unfold leftOf
        rw [← Array.length_toList, Array.toList_filter, List.filter_map, List.length_map]
        rfl
      rw [e1, e1, hlist, List.map_set]
      congr 2
      refine List.ext_getElem (by simp) fun i h5 h6 => ?_
      rw [List.getElem_set]
      split
      · rename_i e5
        subst e5
        have h7 := (List.getElem?_eq_some_iff.1 h2).2
        simp [h7]
      · rfl
    · rcases who x hx with rfl | hx
      · rw [hrgN, ← hrg0]; exact hl1 e0 hmem0
      · exact hl1 x hx
    · obtain ⟨x, hx, e5⟩ := hl2 kl' hk'
      by_cases hxk : x = e0
      · subst hxk
        refine ⟨{ x with key := key, val := val }, ?_, by rw [hrgN, ← e5, hrg0]⟩
        rw [hlist]
        exact List.mem_iff_getElem.2 ⟨j, by simpa using hjl, by simp⟩
      · refine ⟨x, ?_, e5⟩
        rw [hlist]
        obtain ⟨i, hi, ex⟩ := List.getElem_of_mem hx
        refine List.mem_iff_getElem.2 ⟨i, by simpa using hi, ?_⟩
        rw [List.getElem_set]
        split
        · rename_i e6
          subst e6
          have h7 := (List.getElem?_eq_some_iff.1 h2).2
          exact absurd (ex.symm.trans h7) hxk
        · exact ex
end
end Go.Proofs.YtkfeagokmcakgaaGreatDoor

namespace Go.Proofs.YtkfeagokmcakgaaGreatDoor
open Go.RowKit Go.Maps

theorem Reads.put {D : DataW Unit} {g : ByteArray → Option Bool} (h : Reads mSB D g) (hi : Maps.IsMap D) {x : ByteArray} (c : Bool) : Reads mSB (D.put (.string (byB x)) (.lit (.bool c))) (mPut g x c) := fun y hy => by
  unfold mPut
  by_cases e : y = x
  · subst e
    rw [if_pos rfl]
    exact ⟨atKey_put_same hi (mSB.kk y) _ _, has_put_same hi (mSB.kk y) _⟩
  · have hne : mSB.kl y ≠ mSB.kl x := fun h => e (mSB.ki _ _ h)
    rw [if_neg e]
    exact ⟨(atKey_put_other (k' := mSB.kl y) hne _ _).trans (h y hy).1, (has_put_other (k' := mSB.kl y) hne _).trans (h y hy).2⟩
/-- what is known of the map g while the loop has 'left' to come -/
structure Pm (g0 : ByteArray → Option Bool) (F : ByteArray → Bool) (left : Lit → Bool) (g : ByteArray → Option Bool) : Prop where
  sm : ∀ s, s.size ≤ maxLen → (g s).isSome = (g0 s).isSome
  done : ∀ s, s.size ≤ maxLen → left (.string (byB s)) = false → (g0 s).isSome = true → g s = some (F s)
  more : ∀ s, s.size ≤ maxLen → left (.string (byB s)) = true → (g0 s).isSome = true
theorem Pm.start {g : ByteArray → Option Bool} {F : ByteArray → Bool} {D : DataW Unit} (h : Reads mSB D g) : Pm g F (Maps.has D) g := by
  have h2 : ∀ s : ByteArray, s.size ≤ maxLen → Maps.has D (.string (byB s)) = (g s).isSome := fun s hs => (h s hs).2
  exact ⟨fun s _ => rfl, fun s hs hl hi => (by rw [h2 s hs, hi] at hl; cases hl), fun s hs hl => (by rw [← h2 s hs]; exact hl)⟩
theorem Pm.step {g0 g : ByteArray → Option Bool} {F : ByteArray → Bool} {left : Lit → Bool} (h : Pm g0 F left g) {x : ByteArray} (hx : x.size ≤ maxLen) (hl : left (.string (byB x)) = true) : Pm g0 F (fun z => left z && !z.sameKey (.string (byB x))) (mPut g x (F x)) := by
  have h0 := h.more x hx hl
  refine ⟨fun s hs => ?_, fun s hs hls hi => ?_, fun s hs hls => ?_⟩
  · unfold mPut
    by_cases e : s = x
    · subst e; rw [if_pos rfl, h0]; rfl
    · rw [if_neg e]; exact h.sm s hs
  · unfold mPut
    by_cases e : s = x
    · subst e; rw [if_pos rfl]
    · rw [if_neg e]
      rw [key_same, decide_eq_false e] at hls
      exact h.done s hs (by simpa using hls) hi
  · simp only [Bool.and_eq_true] at hls
    exact h.more s hs hls.1
theorem Pm.fin {g0 g : ByteArray → Option Bool} {F : ByteArray → Bool} {left : Lit → Bool} (h : Pm g0 F left g) (hl : ∀ kl, left kl = false) (s : ByteArray) (hs : s.size ≤ maxLen) : decide (g s = some true) = ((g0 s).isSome && F s) := by
  cases h1 : (g0 s).isSome with
  | true => rw [h.done s hs (hl _) h1]; simp
  | false =>
    have h2 := h.sm s hs
    rw [h1] at h2
    cases h3 : g s with
    | none => simp
    | some c => rw [h3] at h2; cases h2
theorem SrtOf.congr {R : List ByteArray} {p q : ByteArray → Bool} (h : SrtOf R p) (e : ∀ s, s.size ≤ maxLen → p s = q s) : SrtOf R q := ⟨h.srt, h.nd, fun s => (h.mem s).trans ⟨fun ⟨h1, h2⟩ => ⟨h1, by rw [← e s h1]; exact h2⟩, fun ⟨h1, h2⟩ => ⟨h1, by rw [e s h1]; exact h2⟩⟩⟩
/-- 'm[k] = v' in the round, at a key that is there -/
theorem wpList_put_sb {w : World} {ops : Array Oper} {rest : List Oper} {o : Oper} {a : Act} {Q : Exit → Act → World → Prop} (hg : o.guard = none) (m x v : Operand) (hop : o.op = Op.mapUpdate 114 m x v) (b r n : Nat) (D : DataW Unit) (left : Lit → Bool) (cnt : Nat)
    (hm : a.eval m = .map (some b)) (h : w.ranges Tryz.prog 9 (plainElem Tryz.prog 4) b r n D left cnt) (hn : n ≤ 100000) (s : ByteArray) (c : Bool) (hs : s.size ≤ maxLen) (hx : a.eval x = .string s) (hv : a.eval v = .bool c) (hin : Maps.has D (.string (byB s)) = true)
    (hK : ∀ w', w'.ranges Tryz.prog 9 (plainElem Tryz.prog 4) b r n (D.put (.string (byB s)) (.lit (.bool c))) left cnt → w.mapTurned w' b → wpList Tryz.prog ops Q rest (a.put o.dst undef) w') : wpList Tryz.prog ops Q (o :: rest) a w := by
  refine wpList_plain hg fun K' hK' => ?_
  obtain ⟨w', hrun, r1, r2⟩ := ranges_put h (string_keyed Tryz.underlying9) Tryz.underlying114 (by unfold maxLen; omega) (key := .string s) (val := .bool c) (kl := .string (byB s)) (d := .lit (.bool c)) (ps := []) (mSB.hk s hs) (mSB.he c trivial) hin
  unfold Oper.wp
  simp [execOp, hop, hm, hx, hv, hrun, Result.andThen]
  exact hK' _ _ (hK w' r1 r2)
end Go.Proofs.YtkfeagokmcakgaaGreatDoor

namespace Go.Proofs.YtkfeagokmcakgaaGreatDoor
open Go.RowKit

set_option maxHeartbeats 400000 in
set_option maxRecDepth 100000 in
theorem rhas_any (l : List ByteArray) (A : Option Addr) (c : Nat) (s : ByteArray) (w : World) (hl : Lies w w.heap.size A (strsC l)) (hn : l.length ≤ maxLen) :
    Calls Tryz.prog 77 #[.slice A l.length c, .string s] w (ShEnd (decide (s ∈ l)) w) := by
  have HS1 : Hid (∀ k (hk : k < l.length), l[k] = s → decide (s ∈ l) = true) := fun k hk h => by rw [decide_eq_true]; subst h; exact List.getElem_mem hk
  have HS2 : Hid ((∀ j (hj : j < l.length), l[j] ≠ s) → decide (s ∈ l) = false) := fun h => by
    rw [decide_eq_false]
    intro hm
    obtain ⟨j, hj, e⟩ := List.mem_iff_getElem.1 hm
    exact h j hj e
  have hn2 : (l.length : Int) ≤ 9223372036854775807 := by unfold maxLen at hn; omega
  generalize decide (s ∈ l) = R at *
  clear hn
  go_enter Tryz.func77, Tryz.ntmps77
  go_wp2
  go_loopw [5] (fun y wr => ∃ k : Nat, k ≤ l.length ∧ y = .int .i64 k ∧ Hid (∀ j, j < k → ∀ (hj : j < l.length), l[j] ≠ s) ∧ Below w.heap.size w wr) (fun y _ => l.length - (intOf y).toNat)
  case atStart => exact ⟨0, by omega, rfl, fun j hj => absurd hj (by omega), Below.refl _ _⟩
  case round =>
    obtain ⟨k, hk, rfl, hf, hbw⟩ := hrel
    by_cases hlt : k < l.length
    · have HB := Lib.hid (HS1.out k hlt)
      have HT := Lib.hid (fun (h : l[k] ≠ s) => show Hid (∀ j, j < k + 1 → ∀ (hj : j < l.length), l[j] ≠ s) from fun j hj h1 => by
        by_cases e : j = k
        · subst e; exact h
        · exact hf.out j (by omega) h1)
      obtain ⟨ad, rfl, _, c0⟩ := str_at (hl.below hbw (Nat.le_refl _)) hlt
      clear hf hl HS1 HS2
      generalize l[k] = x at *
      by_cases hx : x = s
      · have hx1 : (x.toList == s.toList) = true := by rw [str_eq]; exact decide_eq_true hx
        have H := Lib.hid (HB.out hx)
        clear HB HT hx
        go_wp2
        go_ret
        exact sh_ret H.out.symm hbw
      · have hx1 : (x.toList == s.toList) = false := by rw [str_eq]; exact decide_eq_false hx
        have H := Lib.hid (HT.out hx)
        clear HB HT hx
        go_wp2
        go_roundw
        case rel => exact ⟨k + 1, by omega, by go_num, H, hbw⟩
        case measure => simp [intOf]; omega
    · obtain rfl : k = l.length := by omega
      have H := Lib.hid (HS2.out (fun j hj => hf.out j hj hj))
      clear hf hl HS1 HS2
      go_wp2
      go_ret
      exact sh_ret H.out.symm hbw
end Go.Proofs.YtkfeagokmcakgaaGreatDoor
