/- The plain law of PigmentLimit: a book of 200 rules is accepted, and the next rule is refused. -/
import Derived.Test.YtkfeagokmcakgaaGreatDoorG02
import Derived.Test.YtkfeagokmcakgaaGreatDoorG09
import Derived.Test.YtkfeagokmcakgaaGreatDoorG12
import Derived.Test.YtkfeagokmcakgaaGreatDoorG16
import Derived.Test.YtkfeagokmcakgaaGreatDoorG17

set_option linter.unusedVariables false
set_option linter.unusedSimpArgs false

namespace Go.Proofs.YtkfeagokmcakgaaGreatDoor

def limR (k : Nat) : Rul := ⟨(k : Int) + 1, 0, 1, ⟨#[111, 99, 104, 114, 101]⟩, ByteArray.empty, 0⟩
def limL (n : Nat) : List Rul := (List.range n).map limR
theorem limL_length (n : Nat) : (limL n).length = n := by simp [limL]
theorem limL_succ (n : Nat) : limL (n + 1) = limL n ++ [limR n] := by simp [limL, List.range_succ]
theorem limL_take {n k : Nat} (h : k ≤ n) : (limL n).take k = limL k := by
  unfold limL; rw [← List.map_take, List.take_range, Nat.min_eq_left h]
theorem limL_get {n k : Nat} (h : k < (limL n).length) : (limL n)[k] = limR k := by simp [limL]
theorem lim_shp (k : Nat) : shpB (limR k) = true := by
  have h : nameB ⟨#[111, 99, 104, 114, 101]⟩ = true := by decide +kernel
  unfold shpB limR
  simp [h]
theorem lim_frm {k : Nat} (h : k < 1000000) : frm (limR k) = true := by
  have h1 := lim_shp k
  unfold frm
  rw [h1, decide_eq_true (show (1 : Int) ≤ (limR k).id from (by show (1 : Int) ≤ (k : Int) + 1; omega)), decide_eq_true (show (limR k).id ≤ 1000000 from (by show (k : Int) + 1 ≤ 1000000; omega))]
  rfl
theorem limL_mem {n : Nat} {r : Rul} (h : r ∈ limL n) : ∃ k, k < n ∧ r = limR k := by
  obtain ⟨k, hk, e⟩ := List.mem_map.1 h
  exact ⟨k, List.mem_range.1 hk, e.symm⟩
theorem limL_ok (n : Nat) : RulOK (limL n) := fun r hr => by
  obtain ⟨k, _, rfl⟩ := limL_mem hr
  exact ⟨by show (5 : Nat) ≤ 100; decide, by show (0 : Nat) ≤ 100; decide, by show (0 : Int) ≤ 1 ∧ (1 : Int) ≤ 255; decide⟩
theorem limL_dup (n : Nat) : dupB (limL n) (limR n).id = false := by
  unfold dupB
  rw [List.any_eq_false]
  intro r hr
  obtain ⟨k, hk, rfl⟩ := limL_mem hr
  simp [limR]
  omega
theorem limL_time (n : Nat) : timeB (limL n) (limR n) = false := by
  unfold timeB
  split
  · rfl
  · rename_i p hp
    obtain ⟨k, hk, rfl⟩ := limL_mem (List.mem_of_getLast? hp)
    rfl
theorem lim_ref {n : Nat} (h : n < 200) : refE (limL n) (limR n) = 0 := by
  unfold refE refG
  rw [limL_length, if_neg (by omega), lim_frm (by omega), limL_dup, limL_time]
  simp [limR]
theorem lim_ref2 {n : Nat} (h : 200 ≤ n) : refE (limL n) (limR n) = 2 := by
  unfold refE refG
  rw [limL_length, if_pos h]
theorem limL_fine {n : Nat} (h : n ≤ 200) : Fine (limL n) := fun i hi => by
  have hi2 : i < n := by simpa [limL_length] using hi
  rw [limL_get hi, limL_take (by omega)]
  exact lim_ref (by omega)
theorem lim_chk : chkL (limL 200) = (0, 0) := chkL_ok (limL_fine (Nat.le_refl _))
theorem lim_chk1 : chkL (limL 201) = (200, 2) := by
  have hk : 200 < (limL 201).length := by rw [limL_length]; omega
  have h := chkL_bad hk (by rw [limL_take (by omega)]; exact limL_fine (Nat.le_refl _)) (by rw [limL_take (by omega), limL_get hk, lim_ref2 (Nat.le_refl _)]; decide)
  rw [limL_take (by omega), limL_get hk, lim_ref2 (Nat.le_refl _)] at h
  exact h
theorem lim_apd : apdE (limL 200) (limR 200) = 2 := by
  unfold apdE
  rw [lim_chk, if_pos rfl, lim_ref2 (Nat.le_refl _)]
theorem lim_apl : apdL (limL 200) (limR 200) = [] := by
  unfold apdL
  rw [lim_apd, if_neg (by decide)]
end Go.Proofs.YtkfeagokmcakgaaGreatDoor

namespace Go.Proofs.YtkfeagokmcakgaaGreatDoor
open Go.RowKit
attribute [local go_sem] Oper.semAt_some

/-- append of one element: the row that grows is named -/
theorem wpList_append1h {P : Program} {ops : Array Oper} {rest : List Oper} {o : Oper} {a : Act} {w : World} {Q : Exit → Act → World → Prop} (hgd : o.guard = none) (s x : Operand) (t : TypeId)
    (ho : o.op = .call { callee := .builtin .append, args := #[s, x], argTypes := #[t, t] })
    (base : Nat) (e : TypeId) (z : Value) (size bytes : Nat) (ht : P.underlying t = some (.slice e)) (hi : (P.info? e).map (fun i => (i.zero, i.size, i.bytes)) = some (some z, size, bytes)) (hzs : z.cells.size = size) (hsz : 0 < size)
    (v : Value) (n : Nat) (xs : List Value) (hs : a.eval s = v) (hown : w.ownsRow base e size v n xs)
    (b : Nat) (C : Array Value) (tt : TypeId) (hx : a.eval x = .slice (some ⟨b, 0, none⟩) 1 1) (hbk : Bk w b tt C) (hl : C.size = size) (h1 : ∀ u ∈ C.toList, u.oneCell' = true)
    (h63 : n < 100000) (hbytes : bytes ≤ 1000) (hbase : base ≤ w.heap.size)
    (h : ∀ v' w', w'.ownsRow base e size v' (n + 1) (xs ++ C.toList) → w.grownBy w' v.ownBlock → Below base w w' → wpList P ops Q rest (a.put o.dst v') w') : wpList P ops Q (o :: rest) a w := by
  obtain ⟨i0, hi0, hz0, hz1, hz2⟩ := info_parts hi
  refine wpList_append_own w hgd s x t ho base e i0 z size bytes ht hi0 hz0 hz1 hz2 hzs hsz v n xs hs hown ⟨b, 0, none⟩ 1 1 C.toList hx (by simpa using hl) (bk_cells hbk) h1 (by unfold maxLen; omega) ?_ hbase ?_
  · calc (n + 1) * bytes ≤ 100000 * 1000 := Nat.mul_le_mul (by omega) hbytes
      _ ≤ 140737488355328 := by decide
  · intro v' w' ho' hg _
    have hge : ∀ k, v.ownBlock = some k → base ≤ k := fun k hk => (hown.lt k hk).1
    exact h v' w' ho' hg (Below.grown (Below.refl _ _) hg hbase fun k hk => hge k hk)
/-- a book that grows in a box -/
structure Bx (b : Nat) (A : Option Addr) (c n : Nat) (l : List Rul) (W : World) : Prop where
  bk : Bk W b 25 #[.slice A n c]
  own : W.ownsRow (b + 1) 50 6 (.slice A n c) n (rulesC l)
  len : l.length = n
theorem Bx.put {b c c2 n : Nat} {A A2 : Option Addr} {l : List Rul} {r : Rul} {W W2 : World} (h : Bx b A c n l W) (hb : Below (b + 1) W W2) (ho : W2.ownsRow (b + 1) 50 6 (.slice A2 (n + 1) c2) (n + 1) (rulesC (l ++ [r]))) :
    Bx b A2 c2 (n + 1) (l ++ [r]) (W2.setCell ⟨b, 0, none⟩ (.slice A2 (n + 1) c2)) := by
  have hk := h.bk.below hb (Nat.lt_succ_self b)
  refine ⟨?_, ?_, by simp [h.len]⟩
  · have := hk.set 0 (.slice A2 (n + 1) c2)
    simpa using this
  · exact (far_setCells b [.slice A2 (n + 1) c2] 0 W2).own ho (Nat.lt_succ_self b)
theorem Bx.lies {b c n : Nat} {A : Option Addr} {l : List Rul} {W : World} (h : Bx b A c n l W) : Lies W W.heap.size A (rulesC l) := ownsRow_lies h.own
theorem Bx.cap {b c n : Nat} {A : Option Addr} {l : List Rul} {W : World} (h : Bx b A c n l W) : n ≤ c ∧ c ≤ maxLen := by
  obtain ⟨A2, c2, e, h1, h2⟩ := ownsSlice h.own
  cases e
  exact ⟨h1, h2⟩
theorem Bx.below {b c n : Nat} {A : Option Addr} {l : List Rul} {W V : World} (h : Bx b A c n l W) (hb : Below W.heap.size W V) : Bx b A c n l V := ⟨h.bk.below hb h.bk.lt, ownsRow_below h.own hb (Nat.le_refl _), h.len⟩
theorem Bx.check {b c n : Nat} {A : Option Addr} {l : List Rul} {W : World} (h : Bx b A c n l W) (hok : RulOK l) (hm : n ≤ 1000) : Calls Tryz.prog 46 #[.agg #[.slice A n c]] W (Int2End (chkL l) W) := by
  have h1 := check_any l A c W h.lies hok (by rw [h.len]; exact hm) (by rw [h.len]; exact h.cap.1) h.cap.2
  rwa [h.len] at h1
theorem Bx.append {b c n : Nat} {A : Option Addr} {l : List Rul} {W : World} (h : Bx b A c n l W) (r : Rul) (hok : RulOK (l ++ [r])) (hm : n ≤ 999) : Calls Tryz.prog 51 #[.agg #[.slice A n c], r.agg] W (AppEnd l r W) := by
  have h1 := append_any l r A c W h.lies hok (by rw [h.len]; exact hm) (by rw [h.len]; exact h.cap.1) h.cap.2
  rwa [h.len] at h1
theorem below_set {b B : Nat} {W V : World} {v : Value} (h : Below B W V) (hB : B ≤ b) : Below B W (V.setCell ⟨b, 0, none⟩ v) := h.trans ((far_setCells b [v] 0 V).bel B V hB (Below.refl _ _))

abbrev lcells (k : Int) : Array Value := #[.int .i64 k, .int .i64 0, .int .u8 1, .string ⟨#[111, 99, 104, 114, 101]⟩, .string ByteArray.empty, .int .i64 0]
theorem lsnoc (k : Nat) : rulesC (limL k) ++ (lcells ((k : Int) + 1)).toList = rulesC (limL (k + 1)) := by rw [limL_succ]; exact rulesC_snoc (limL k) (limR k)
theorem lone_c (k : Int) : ∀ u ∈ (lcells k).toList, u.oneCell' = true := by intro u hu; simp [lcells] at hu; rcases hu with rfl | rfl | rfl | rfl | rfl | rfl <;> rfl
theorem Bx.one {b c c2 k : Nat} {A A2 : Option Addr} {W W2 : World} (h : Bx b A c k (limL k) W) (hb : Below (b + 1) W W2) (ho : W2.ownsRow (b + 1) 50 6 (.slice A2 (k + 1) c2) (k + 1) (rulesC (limL (k + 1)))) :
    Bx b A2 c2 (k + 1) (limL (k + 1)) (W2.setCell ⟨b, 0, none⟩ (.slice A2 (k + 1) c2)) := by
  rw [limL_succ] at ho ⊢
  exact h.put hb ho
set_option maxHeartbeats 1000000 in
set_option maxRecDepth 100000 in
theorem limit_any (w : World) (hg : Glob w) : Calls Tryz.prog 11 #[] w (fun e w' => e = .returned (.bool true) ∧ Below w.heap.size w w') := by
  have HR : Hid (∀ V, Below w.heap.size w V → Calls Tryz.prog 17 #[] V (fun e w' => e = .returned (.bool true) ∧ Below V.heap.size V w')) := fun V hV => ruled_any V (hg.step hV)
  clear hg
  go_enter Tryz.func11, Tryz.ntmps11
  go_wp2
  go_loopw [2] (fun y wr => ∃ (k : Nat) (A : Option Addr) (c : Nat), k ≤ 200 ∧ y = .int .i64 ((k : Int) + 1) ∧ Hid (Bx w.heap.size A c k (limL k) wr) ∧ Below w.heap.size w wr) (fun y _ => 201 - (intOf y).toNat)
  case atStart => exact ⟨0, none, 0, by omega, rfl, ⟨Bk.new _ _ _, World.ownsRow_nil _ _ _ _, rfl⟩, (Below.refl _ _).alloc (Nat.le_refl _) _⟩
  case round =>
    obtain ⟨k, A, c, hk, rfl, hX, hbw⟩ := hrel
    have x0 := hX.out.bk.cell 0 rfl
    have hbl := hX.out.bk.lt
    by_cases hlt : k < 200
    · have hX1 := Lib.hid (hX.out.below ((Below.refl _ _).alloc (Nat.le_refl _) (.cells (lcells ((k : Int) + 1)) 50)))
      have HSN := Lib.hid (lsnoc k)
      have HON := Lib.hid (lone_c ((k : Int) + 1))
      go_wp2_with (at_builtin; refine wpList_append1h (P := Tryz.prog) rfl (.tmp 14) (.tmp 17) 23 rfl (w.heap.size + 1) 50 zeroRul 6 64 Tryz.underlying23 info50 (by decide) (by decide) (.slice A k c) k (rulesC (limL k)) rfl hX1.out.own wr.heap.size (lcells ((k : Int) + 1)) 50 rfl (Bk.new _ _ _) (by simp) HON.out ?c1 (by decide) ?c2 ?_)
      case c1 => omega
      case c2 => first | omega | (simp; omega)
      intro v' w4 ho4 _ hb4
      rw [HSN.out] at ho4
      obtain ⟨A4, c4, rfl, _, _⟩ := ownsSlice ho4
      have hk4 := hX1.out.bk.below hb4 (Nat.lt_succ_self _)
      have x4 := hk4.cell 0 rfl
      have f4 := hk4.fro 0
      have HXN := Lib.hid (hX1.out.one hb4 ho4)
      have HBN : Hid (Below w.heap.size w (w4.setCell ⟨w.heap.size, 0, none⟩ (.slice A4 (k + 1) c4))) := below_set ((hbw.alloc hbw.size _).trans (hb4.mono (by omega))) (Nat.le_refl _)
      clear ho4 hb4 hk4 hX1 hX x0 HSN HON
      go_wp2
      go_roundw
      case rel => exact ⟨k + 1, A4, c4, by omega, by go_num, HXN, HBN.out⟩
      case measure => simp [intOf]; omega
    · obtain rfl : k = 200 := by omega
      have HCK := Lib.hid (hX.out.check (limL_ok _) (by omega))
      rw [lim_chk] at HCK
      clear hk hlt
      go_upto_region 7 with (first | (go_at_call 46; refine HCK.out.mono ?_; rintro e w1 ⟨rfl, hb1⟩))
      have hX2 := Lib.hid (hX.out.below hb1)
      have hbw1 : Below w.heap.size w w1 := hbw.trans (hb1.mono hbw.size)
      have HAP := Lib.hid (hX2.out.append (limR 200) (by rw [← limL_succ]; exact limL_ok _) (by omega))
      unfold AppEnd at HAP
      rw [lim_apl, lim_apd] at HAP
      have x1 := hX2.out.bk.cell 0 rfl
      have hbl1 := hX2.out.bk.lt
      clear hb1 HCK hX x0 hbl hbw
      go_upto_region 8 with (first | (go_at_call 51; refine HAP.out.mono ?_; rintro e w2 ⟨A2, c2, rfl, _, _, hb2⟩))
      have hb3 : Below w1.heap.size w1 (w2.alloc (.cells #[.slice A2 0 c2] 25)) := hb2.alloc hb2.size _
      have hX3 := Lib.hid (hX2.out.below hb3)
      have hbw3 : Below w.heap.size w (w2.alloc (.cells #[.slice A2 0 c2] 25)) := hbw1.trans (hb3.mono hbw1.size)
      clear hb2 hb3 HAP hX2 x1 hbl1 hbw1
      have x3 := hX3.out.bk.cell 0 rfl
      have hbl3 := hX3.out.bk.lt
      generalize (w2.alloc (.cells #[.slice A2 0 c2] 25)) = w3 at *
      have hX4 := Lib.hid (hX3.out.below ((Below.refl _ _).alloc (Nat.le_refl _) (.cells (lcells 201) 50)))
      have HSN : Hid (rulesC (limL 200) ++ (lcells 201).toList = rulesC (limL 201)) := lsnoc 200
      have HON := Lib.hid (lone_c 201)
      go_upto_region 9 with (at_builtin; refine wpList_append1h (P := Tryz.prog) rfl (.tmp 32) (.tmp 34) 23 rfl (w.heap.size + 1) 50 zeroRul 6 64 Tryz.underlying23 info50 (by decide) (by decide) (.slice A 200 c) 200 (rulesC (limL 200)) rfl hX4.out.own w3.heap.size (lcells 201) 50 rfl (Bk.new _ _ _) (by simp) HON.out ?c1 (by decide) ?c2 ?_)
      case c2 => first | omega | (simp; omega)
      intro v' w4 ho4 _ hb4
      rw [HSN.out] at ho4
      obtain ⟨A4, c4, rfl, _, _⟩ := ownsSlice ho4
      have hk4 := hX4.out.bk.below hb4 (Nat.lt_succ_self _)
      have x4 := hk4.cell 0 rfl
      have f4 := hk4.fro 0
      have HXN : Hid (Bx w.heap.size A4 c4 201 (limL 201) (w4.setCell ⟨w.heap.size, 0, none⟩ (.slice A4 201 c4))) := hX4.out.one hb4 ho4
      have HBN : Hid (Below w.heap.size w (w4.setCell ⟨w.heap.size, 0, none⟩ (.slice A4 201 c4))) := below_set ((hbw3.alloc hbw3.size _).trans (hb4.mono (by omega))) (Nat.le_refl _)
      clear ho4 hb4 hk4 hX4 hX3 HSN HON
      go_upto_region 9 with fail
      generalize (w4.setCell ⟨w.heap.size, 0, none⟩ (.slice A4 201 c4)) = w5 at *
      have x5 := HXN.out.bk.cell 0 rfl
      have HCK := Lib.hid (HXN.out.check (limL_ok _) (by omega))
      rw [lim_chk1] at HCK
      have HRR : Hid (∀ V, Below w5.heap.size w5 V → Calls Tryz.prog 17 #[] V (fun e w' => e = .returned (.bool true) ∧ Below V.heap.size V w')) := fun V hV => HR.out V (HBN.out.trans (hV.mono HBN.out.size))
      clear x4 f4 HR HXN
      go_wp2_with (first | (go_at_call 46; refine HCK.out.mono ?_; rintro e w6 ⟨rfl, hb6⟩) | (go_at_call 17; refine (HRR.out _ hb6).mono ?_; rintro e w7 ⟨rfl, hb7⟩))
      go_ret
      exact ⟨rfl, HBN.out.trans ((hb6.trans (hb7.mono hb6.size)).mono HBN.out.size)⟩
end Go.Proofs.YtkfeagokmcakgaaGreatDoor

namespace Go.Proofs.YtkfeagokmcakgaaGreatDoor

theorem firstF_some {f : Nat → Option (List Nat)} {v : List Nat} : ∀ {k i : Nat}, firstF f i k = some v → ∃ j, i ≤ j ∧ j < i + k ∧ f j = some v ∧ ∀ q, i ≤ q → q < j → f q = none
  | 0, i, h => by cases h
  | k + 1, i, h => by
    unfold firstF at h
    cases e : f i with
    | some u =>
      rw [e] at h; cases h
      exact ⟨i, Nat.le_refl _, by omega, e, fun q h1 h2 => by omega⟩
    | none =>
      rw [e] at h
      obtain ⟨j, h1, h2, h3, h4⟩ := firstF_some h
      refine ⟨j, by omega, by omega, h3, fun q h5 h6 => ?_⟩
      by_cases hq : q = i
      · rw [hq]; exact e
      · exact h4 q (by omega) h6
theorem firstF_none {f : Nat → Option (List Nat)} : ∀ {k i : Nat}, (∀ j, i ≤ j → j < i + k → f j = none) → firstF f i k = none
  | 0, _, _ => rfl
  | k + 1, i, h => by
    unfold firstF
    rw [h i (Nat.le_refl _) (by omega)]
    exact firstF_none fun j h1 h2 => h j (by omega) (by omega)
theorem firstF_isSome {f : Nat → Option (List Nat)} {j : Nat} : ∀ {k i : Nat}, i ≤ j → j < i + k → (f j).isSome = true → (firstF f i k).isSome = true
  | 0, i, h1, h2, _ => by omega
  | k + 1, i, h1, h2, h3 => by
    unfold firstF
    cases e : f i with
    | some u => rfl
    | none =>
      refine firstF_isSome ?_ (by omega) h3
      by_cases hij : i = j
      · subst hij; rw [e] at h3; cases h3
      · omega
theorem firstF_all {f : Nat → Option (List Nat)} {k i : Nat} (h : firstF f i k = none) (j : Nat) (h1 : i ≤ j) (h2 : j < i + k) : f j = none := by
  cases e : f j with
  | none => rfl
  | some v =>
    have := firstF_isSome (f := f) h1 h2 (by rw [e]; rfl)
    rw [h] at this; cases this
theorem firstF_hit {f : Nat → Option (List Nat)} {v : List Nat} {j : Nat} : ∀ {k i : Nat}, (∀ q, i ≤ q → q < j → f q = none) → i ≤ j → j < i + k → f j = some v → firstF f i k = some v
  | 0, i, _, h1, h2, _ => by omega
  | k + 1, i, h, h1, h2, h3 => by
    unfold firstF
    by_cases hij : i = j
    · subst hij; rw [h3]
    · rw [h i (Nat.le_refl _) (by omega)]
      exact firstF_hit (fun q h4 h5 => h q (by omega) h5) (by omega) (by omega) h3

section
variable {bar : Nat → Nat → Bool} {n : Nat}
/-- an order of some colours: none lies over one that it must not -/
structure Ord (bar : Nat → Nat → Bool) (n : Nat) (L : List Nat) : Prop where
  nd : L.Nodup
  lt : ∀ x ∈ L, x < n
  pw : L.Pairwise fun a b => bar b a = false
theorem ordOK_iff {l : List Nat} {i : Nat} : ordOK bar l i = true ↔ i ∉ l ∧ ∀ k ∈ l, bar i k = false := by
  unfold ordOK
  simp only [Bool.not_eq_true', Bool.or_eq_false_iff, List.any_eq_false, decide_eq_true_eq]
  constructor
  · rintro ⟨h1, h2⟩
    exact ⟨fun h => h1 i h rfl, fun k hk => by simpa using h2 k hk⟩
  · rintro ⟨h1, h2⟩
    exact ⟨fun x hx e => h1 (e ▸ hx), fun k hk => by simpa using h2 k hk⟩
theorem Ord.snoc {l : List Nat} {i : Nat} (h : Ord bar n l) (hi : i < n) (ho : ordOK bar l i = true) : Ord bar n (l ++ [i]) := by
  obtain ⟨h1, h2⟩ := ordOK_iff.1 ho
  refine ⟨?_, ?_, ?_⟩
  · rw [List.nodup_append]
    exact ⟨h.nd, by simp, fun a ha b hb e => by simp at hb; subst hb; subst e; exact h1 ha⟩
  · intro x hx
    rcases List.mem_append.1 hx with hx | hx
    · exact h.lt x hx
    · simp at hx; omega
  · rw [List.pairwise_append]
    exact ⟨h.pw, by simp, fun a ha b hb => by simp at hb; subst hb; exact h2 a ha⟩
theorem ords_sound : ∀ (r : Nat) (l L : List Nat), Ord bar n l → ordsF bar n r l = some L → Ord bar n L ∧ ∃ t, L = l ++ t ∧ t.length = r
  | 0, l, L, h, e => by
    unfold ordsF at e; cases e
    exact ⟨h, [], by simp, rfl⟩
  | r + 1, l, L, h, e => by
    unfold ordsF at e
    obtain ⟨i, _, h2, h3, _⟩ := firstF_some e
    by_cases ho : ordOK bar l i = true
    · rw [if_pos ho] at h3
      obtain ⟨h4, t, rfl, ht⟩ := ords_sound r _ L (h.snoc (by omega) ho) h3
      exact ⟨h4, i :: t, by simp, by simp [ht]⟩
    · rw [if_neg ho] at h3; cases h3
theorem ords_compl : ∀ (r : Nat) (l t : List Nat), Ord bar n (l ++ t) → t.length = r → (ordsF bar n r l).isSome = true
  | 0, l, t, _, _ => rfl
  | r + 1, l, t, h, e => by
    cases t with
    | nil => simp at e
    | cons a t =>
      have hn := (List.nodup_append.1 h.nd)
      have hp := List.pairwise_append.1 h.pw
      have ho : ordOK bar l a = true := ordOK_iff.2 ⟨fun hl => hn.2.2 a hl a (by simp) rfl, fun k hk => hp.2.2 k hk a (by simp)⟩
      have := ords_compl r (l ++ [a]) t (by simpa using h) (by simpa using e)
      unfold ordsF
      refine firstF_isSome (j := a) (by omega) (by have := h.lt a (by simp); omega) ?_
      rw [if_pos ho]; exact this
theorem Ord.full {L : List Nat} (h : Ord bar n L) (hl : L.length = n) {k : Nat} (hk : k < n) : k ∈ L := by
  by_cases hm : k ∈ L
  · exact hm
  · have := nodup_len (k :: L) (List.range n) (List.nodup_cons.2 ⟨hm, h.nd⟩) fun z hz => by
      rcases List.mem_cons.1 hz with rfl | hz
      · simpa using hk
      · simpa using h.lt z hz
    simp at this; omega
/-- none that is left has to come before one that is taken -/
def Clo (bar : Nat → Nat → Bool) (n : Nat) (l : List Nat) : Prop := ∀ j ∈ l, ∀ k, k < n → k ∉ l → bar k j = false
/-- no other one that is left has to come before it -/
def freeB (bar : Nat → Nat → Bool) (n : Nat) (l : List Nat) (i : Nat) : Bool := decide (i ∉ l) && (List.range n).all fun k => decide (k ∈ l) || !bar k i
theorem freeB_iff {l : List Nat} {i : Nat} : freeB bar n l i = true ↔ i ∉ l ∧ ∀ k, k < n → k ∉ l → bar k i = false := by
  unfold freeB
  simp only [Bool.and_eq_true, decide_eq_true_eq, List.all_eq_true, List.mem_range, Bool.or_eq_true, Bool.not_eq_true']
  constructor
  · rintro ⟨h1, h2⟩
    exact ⟨h1, fun k hk hn => (h2 k hk).resolve_left hn⟩
  · rintro ⟨h1, h2⟩
    exact ⟨h1, fun k hk => by by_cases hn : k ∈ l; exact .inl hn; exact .inr (h2 k hk hn)⟩
def nxt (bar : Nat → Nat → Bool) (n : Nat) (l : List Nat) : Option Nat := (List.range n).find? (freeB bar n l)
/-- the reference's order: always the first one that is free -/
def grd (bar : Nat → Nat → Bool) (n : Nat) : Nat → List Nat → Option (List Nat)
  | 0, l => some l
  | r + 1, l => match nxt bar n l with
    | none => none
    | some i => grd bar n r (l ++ [i])
theorem nxt_none {l : List Nat} (h : nxt bar n l = none) {i : Nat} (hi : i < n) : freeB bar n l i = false := by
  unfold nxt at h
  have := List.find?_eq_none.1 h i (by simpa using hi)
  simpa using this
theorem find_range {p : Nat → Bool} {i : Nat} : ∀ {n : Nat}, (List.range n).find? p = some i → i < n ∧ p i = true ∧ ∀ q, q < i → p q = false
  | 0, h => by simp at h
  | n + 1, h => by
    rw [List.range_succ, List.find?_append] at h
    cases e : (List.range n).find? p with
    | some j =>
      rw [e] at h; simp at h; subst h
      obtain ⟨h1, h2, h3⟩ := find_range e
      exact ⟨by omega, h2, h3⟩
    | none =>
      rw [e] at h
      simp only [Option.none_or] at h
      have hp : p n = true ∧ n = i := by
        simp only [List.find?_cons, List.find?_nil] at h
        split at h
        · rename_i hp; simp at h; exact ⟨hp, h⟩
        · cases h
      obtain ⟨hp, rfl⟩ := hp
      exact ⟨by omega, hp, fun q hq => by have := List.find?_eq_none.1 e q (by simpa using hq); simpa using this⟩
theorem nxt_some {l : List Nat} {i : Nat} (h : nxt bar n l = some i) : i < n ∧ freeB bar n l i = true ∧ ∀ q, q < i → freeB bar n l q = false := find_range h
/-- one that is not free leads to nothing -/
theorem ords_dead {r : Nat} {l : List Nat} {i : Nat} (h : Ord bar n l) (hc : Clo bar n l) (hi : i < n) (hr : r + 1 + l.length = n) (hirr : ∀ i, bar i i = false) (hf : freeB bar n l i = false) : (if ordOK bar l i = true then ordsF bar n r (l ++ [i]) else none) = none := by
  by_cases ho : ordOK bar l i = true
  · rw [if_pos ho]
    cases e : ordsF bar n r (l ++ [i]) with
    | none => rfl
    | some L =>
      exfalso
      obtain ⟨h4, t, rfl, ht⟩ := ords_sound r _ L (h.snoc hi ho) e
      have hil := (ordOK_iff.1 ho).1
      have : ¬ (∀ k, k < n → k ∉ l → bar k i = false) := fun hall => by
        rw [freeB_iff.2 ⟨hil, hall⟩] at hf; cases hf
      refine this fun k hk hkl => ?_
      by_cases hki : k = i
      · subst hki; exact hirr _
      · have hm := h4.full (by simp [ht]; omega) hk
        have hkt : k ∈ t := by simpa [hkl, hki] using hm
        have := List.pairwise_append.1 h4.pw
        exact this.2.2 i (by simp) k hkt
  · rw [if_neg ho]
theorem Clo.snoc {l : List Nat} {i : Nat} (hc : Clo bar n l) (hf : freeB bar n l i = true) : Clo bar n (l ++ [i]) := fun j hj k hk hkl => by
  have hkl' : k ∉ l := fun h => hkl (List.mem_append_left _ h)
  rcases List.mem_append.1 hj with hj | hj
  · exact hc j hj k hk hkl'
  · simp at hj; subst hj; exact (freeB_iff.1 hf).2 k hk hkl'
/-- who can go on, can go on with one that is free -/
theorem ords_swap {l t : List Nat} {i : Nat} (h : Ord bar n (l ++ t)) (hl : (l ++ t).length = n) (hi : i < n) (hf : freeB bar n l i = true) : Ord bar n (l ++ [i] ++ t.erase i) := by
  obtain ⟨h1, h2⟩ := freeB_iff.1 hf
  have hit : i ∈ t := by
    have := h.full hl hi
    exact (List.mem_append.1 this).resolve_left h1
  obtain ⟨n1, n2, n3⟩ := List.nodup_append.1 h.nd
  obtain ⟨p1, p2, p3⟩ := List.pairwise_append.1 h.pw
  have hsub : ∀ x ∈ t.erase i, x ∈ t := fun x hx => List.mem_of_mem_erase hx
  have hne : i ∉ t.erase i := fun hx => by
    have := (List.Nodup.mem_erase_iff n2).1 hx
    exact this.1 rfl
  refine ⟨?_, ?_, ?_⟩
  · rw [List.append_assoc, List.nodup_append]
    refine ⟨n1, ?_, fun a ha b hb e => ?_⟩
    · simp only [List.singleton_append, List.nodup_cons]
      exact ⟨hne, n2.erase i⟩
    · rcases List.mem_append.1 hb with hb | hb
      · simp at hb; subst hb; subst e; exact h1 ha
      · exact n3 a ha b (hsub b hb) e
  · intro x hx
    refine h.lt x ?_
    simp only [List.mem_append, List.mem_singleton] at hx ⊢
    rcases hx with (hx | hx) | hx
    · exact .inl hx
    · subst hx; exact .inr hit
    · exact .inr (hsub x hx)
  · rw [List.append_assoc, List.pairwise_append]
    refine ⟨p1, ?_, fun a ha b hb => ?_⟩
    · simp only [List.singleton_append, List.pairwise_cons]
      exact ⟨fun b hb => h2 b (h.lt b (List.mem_append_right _ (hsub b hb))) (fun hbl => n3 b hbl b (hsub b hb) rfl), p2.sublist List.erase_sublist⟩
    · rcases List.mem_append.1 hb with hb | hb
      · simp at hb; subst hb; exact p3 a ha _ hit
      · exact p3 a ha b (hsub b hb)
/-- the first order is the greedy one -/
theorem ords_grd (hirr : ∀ i, bar i i = false) : ∀ (r : Nat) (l : List Nat), Ord bar n l → Clo bar n l → r + l.length = n → ordsF bar n r l = grd bar n r l
  | 0, l, _, _, _ => rfl
  | r + 1, l, h, hc, hr => by
    unfold ordsF grd
    cases e : nxt bar n l with
    | none => exact firstF_none fun i _ hi => ords_dead h hc (by omega) hr hirr (nxt_none e (by omega))
    | some i =>
      obtain ⟨hi, hf, hq⟩ := nxt_some e
      obtain ⟨h1, h2⟩ := freeB_iff.1 hf
      have ho : ordOK bar l i = true := ordOK_iff.2 ⟨h1, fun k hk => hc k hk i hi h1⟩
      have ih := ords_grd hirr r (l ++ [i]) (h.snoc hi ho) (hc.snoc hf) (by simp; omega)
      dsimp only
      rw [← ih]
      have hpre : ∀ q, 0 ≤ q → q < i → (if ordOK bar l q = true then ordsF bar n r (l ++ [q]) else none) = none := fun q _ hqi => ords_dead h hc (by omega) hr hirr (hq q hqi)
      cases e2 : ordsF bar n r (l ++ [i]) with
      | some L => exact firstF_hit hpre (by omega) (by omega) (by rw [if_pos ho, e2])
      | none =>
        refine firstF_none fun q _ hqn => ?_
        by_cases hoq : ordOK bar l q = true
        · rw [if_pos hoq]
          cases e3 : ordsF bar n r (l ++ [q]) with
          | none => rfl
          | some L =>
            exfalso
            obtain ⟨h4, t, rfl, ht⟩ := ords_sound r _ L (h.snoc (by omega) hoq) e3
            rw [List.append_assoc] at h4
            have hlen : (l ++ ([q] ++ t)).length = n := by simp [ht]; omega
            have h5 := ords_swap h4 hlen hi hf
            have hit : i ∈ [q] ++ t := (List.mem_append.1 (h4.full hlen hi)).resolve_left h1
            have h6 := ords_compl r (l ++ [i]) _ h5 (by rw [List.length_erase_of_mem hit]; simp [ht])
            rw [e2] at h6; cases h6
        · rw [if_neg hoq]
theorem ord_nil : Ord bar n [] := ⟨by simp, by simp, by simp⟩
theorem clo_nil : Clo bar n [] := by simp [Clo]
theorem ords_grd0 (hirr : ∀ i, bar i i = false) : ordsF bar n n [] = grd bar n n [] := ords_grd hirr n [] ord_nil clo_nil (by simp)

/-! circles -/
def lnk (bar : Nat → Nat → Bool) : List Nat → Prop
  | [] => True
  | [_] => True
  | a :: b :: t => bar a b = true ∧ lnk bar (b :: t)
theorem lnk_split (m : Nat) (Y : List Nat) : ∀ X : List Nat, lnk bar (X ++ m :: Y) ↔ lnk bar (X ++ [m]) ∧ lnk bar (m :: Y)
  | [] => by simp [lnk]
  | [a] => by simp [lnk]
  | a :: b :: X => by
    have := lnk_split m Y (b :: X)
    simp only [List.cons_append, lnk] at this ⊢
    rw [this, and_assoc]
theorem lnk_at : ∀ (X : List Nat), lnk bar X → ∀ j (h : j + 1 < X.length), bar X[j] X[j + 1] = true
  | [], _, j, h => by simp at h
  | [_], _, j, h => by simp at h
  | a :: b :: t, hl, j, h => by
    cases j with
    | zero => exact hl.1
    | succ j => exact lnk_at (b :: t) hl.2 j (by simpa using h)
def lst (l : List Nat) : Nat := l.getD (l.length - 1) 0
def fst (l : List Nat) : Nat := l.getD 0 0
theorem lst_snoc (l : List Nat) (i : Nat) : lst (l ++ [i]) = i := by unfold lst; simp
theorem fst_app {l : List Nat} (t : List Nat) (h : l ≠ []) : fst (l ++ t) = fst l := by
  cases l with
  | nil => exact absurd rfl h
  | cons a l => rfl
theorem snoc_lst {l : List Nat} (h : l ≠ []) : ∃ X, l = X ++ [lst l] := by
  refine ⟨l.dropLast, ?_⟩
  have := List.dropLast_concat_getLast h
  have e : lst l = l.getLast h := by
    unfold lst
    rw [List.getLast_eq_getElem, List.getD_eq_getElem?_getD, List.getElem?_eq_getElem (by have := List.length_pos_iff.2 h; omega)]
    rfl
  rw [e]; exact this.symm
theorem lnk_snoc {l : List Nat} {i : Nat} (hn : l ≠ []) (h : lnk bar l) (hb : bar (lst l) i = true) : lnk bar (l ++ [i]) := by
  obtain ⟨X, hX⟩ := snoc_lst hn
  have e : l ++ [i] = X ++ lst l :: [i] := by conv => lhs; rw [hX]
                                              simp
  rw [e, lnk_split]
  exact ⟨by rw [← hX]; exact h, hb, trivial⟩
/-- the first circle that goes on from l with r colours more -/
def crcF (bar : Nat → Nat → Bool) (n : Nat) : Nat → List Nat → Option (List Nat)
  | 0, l => if bar (lst l) (fst l) = true then some l else none
  | r + 1, l => firstF (fun i => if bar (lst l) i = true ∧ i ∉ l then crcF bar n r (l ++ [i]) else none) (fst l + 1) (n - (fst l + 1))
def stkF (bar : Nat → Nat → Bool) (n : Nat) : Option (List Nat) := firstF (fun q => firstF (fun i => crcF bar n (q - 1) [i]) 0 n) 2 (n - 1)
structure Cyc (bar : Nat → Nat → Bool) (n : Nat) (L : List Nat) : Prop where
  nd : L.Nodup
  lt : ∀ x ∈ L, x < n
  lk : lnk bar (L ++ [fst L])
theorem crc_sound : ∀ (r : Nat) (l L : List Nat), l ≠ [] → l.Nodup → (∀ x ∈ l, x < n) → lnk bar l → crcF bar n r l = some L → Cyc bar n L ∧ ∃ t, L = l ++ t ∧ t.length = r
  | 0, l, L, h0, h1, h2, h3, e => by
    unfold crcF at e
    split at e
    · rename_i hb
      cases e
      exact ⟨⟨h1, h2, lnk_snoc h0 h3 hb⟩, [], by simp, rfl⟩
    · cases e
  | r + 1, l, L, h0, h1, h2, h3, e => by
    unfold crcF at e
    obtain ⟨i, _, h5, h6, _⟩ := firstF_some e
    split at h6
    · rename_i hb
      obtain ⟨h7, t, rfl, ht⟩ := crc_sound r (l ++ [i]) L (by simp) (by rw [List.nodup_append]; exact ⟨h1, by simp, fun a ha b hb' e => by simp at hb'; subst hb'; subst e; exact hb.2 ha⟩) (fun x hx => by rcases List.mem_append.1 hx with hx | hx; exact h2 x hx; simp at hx; omega) (lnk_snoc h0 h3 hb.1) h6
      exact ⟨h7, i :: t, by simp, by simp [ht]⟩
    · cases h6
theorem crc_compl : ∀ (r : Nat) (l t : List Nat), l ≠ [] → (l ++ t).Nodup → (∀ x ∈ t, fst l < x ∧ x < n) → lnk bar (l ++ t ++ [fst l]) → t.length = r → (crcF bar n r l).isSome = true
  | 0, l, t, h0, h1, h2, h3, e => by
    obtain rfl : t = [] := List.length_eq_zero_iff.1 e
    obtain ⟨X, hX⟩ := snoc_lst h0
    have hb : bar (lst l) (fst l) = true := by
      rw [List.append_nil] at h3
      have e2 : l ++ [fst l] = X ++ lst l :: [fst l] := by
        calc l ++ [fst l] = (X ++ [lst l]) ++ [fst l] := by rw [← hX]
          _ = _ := by simp
      rw [e2, lnk_split] at h3
      exact h3.2.1
    unfold crcF; rw [if_pos hb]; rfl
  | r + 1, l, t, h0, h1, h2, h3, e => by
    cases t with
    | nil => simp at e
    | cons a t =>
      obtain ⟨X, hX⟩ := snoc_lst h0
      have hb : bar (lst l) a = true := by
        have e2 : l ++ a :: t ++ [fst l] = X ++ lst l :: (a :: (t ++ [fst l])) := by
          calc l ++ a :: t ++ [fst l] = (X ++ [lst l]) ++ (a :: t ++ [fst l]) := by rw [← hX]; simp
            _ = _ := by simp
        rw [e2, lnk_split] at h3
        exact h3.2.1
      have ha : a ∉ l := fun hl => (List.nodup_append.1 h1).2.2 a hl a (by simp) rfl
      have h4 := h2 a (by simp)
      have := crc_compl r (l ++ [a]) t (by simp) (by simpa using h1) (fun x hx => by rw [fst_app _ h0]; exact h2 x (by simp [hx])) (by rw [fst_app _ h0]; simpa using h3) (by simpa using e)
      unfold crcF
      refine firstF_isSome (j := a) (by omega) (by omega) ?_
      rw [if_pos ⟨hb, ha⟩]; exact this
theorem stk_sound {L : List Nat} (h : stkF bar n = some L) : Cyc bar n L ∧ 2 ≤ L.length := by
  unfold stkF at h
  obtain ⟨q, h1, h2, h3, _⟩ := firstF_some h
  obtain ⟨i, h4, h5, h6, _⟩ := firstF_some h3
  obtain ⟨h7, t, rfl, ht⟩ := crc_sound (q - 1) [i] L (by simp) (by simp) (by simp; omega) trivial h6
  exact ⟨h7, by simp [ht]; omega⟩
theorem exists_min : ∀ (C : List Nat), C ≠ [] → ∃ m ∈ C, ∀ x ∈ C, m ≤ x
  | [], h => absurd rfl h
  | [a], _ => ⟨a, by simp, by simp⟩
  | a :: b :: C, _ => by
    obtain ⟨m, hm, h⟩ := exists_min (b :: C) (by simp)
    by_cases hle : a ≤ m
    · exact ⟨a, by simp, fun x hx => by rcases List.mem_cons.1 hx with rfl | hx; exact Nat.le_refl _; exact Nat.le_trans hle (h x hx)⟩
    · exact ⟨m, List.mem_cons_of_mem _ hm, fun x hx => by rcases List.mem_cons.1 hx with rfl | hx; omega; exact h x hx⟩
theorem stk_compl {C : List Nat} (h : Cyc bar n C) (h2 : 2 ≤ C.length) : (stkF bar n).isSome = true := by
  obtain ⟨m, hm, hmin⟩ := exists_min C (by intro e; rw [e] at h2; simp at h2)
  obtain ⟨A, B, rfl⟩ := List.append_of_mem hm
  have hnd : (m :: (B ++ A)).Nodup := by
    have hp : (A ++ m :: B).Perm (m :: (B ++ A)) := by
      refine (List.perm_append_comm).trans ?_
      simp
    exact hp.nodup_iff.1 h.nd
  have hmem : ∀ x ∈ B ++ A, x ∈ A ++ m :: B := fun x hx => by
    rcases List.mem_append.1 hx with hx | hx
    · exact List.mem_append_right _ (List.mem_cons_of_mem _ hx)
    · exact List.mem_append_left _ hx
  have hlk : lnk bar ([m] ++ (B ++ A) ++ [fst [m]]) := by
    have h3 := h.lk
    show lnk bar (m :: ((B ++ A) ++ [m]))
    cases A with
    | nil => simpa [fst] using h3
    | cons a A =>
      have e : fst (a :: A ++ m :: B) = a := rfl
      rw [e] at h3
      have e2 : a :: A ++ m :: B ++ [a] = (a :: A) ++ m :: (B ++ [a]) := by simp
      rw [e2, lnk_split] at h3
      have e3 : m :: ((B ++ a :: A) ++ [m]) = (m :: B) ++ a :: (A ++ [m]) := by simp
      rw [e3, lnk_split]
      exact ⟨h3.2, h3.1⟩
  have hlt : ∀ x ∈ B ++ A, fst [m] < x ∧ x < n := fun x hx => by
    have h4 := hmin x (hmem x hx)
    have h5 : x ≠ m := fun e => by subst e; exact (List.nodup_cons.1 hnd).1 hx
    exact ⟨by show m < x; omega, h.lt x (hmem x hx)⟩
  have hmn := h.lt m hm
  have hlen : (B ++ A).length + 1 = (A ++ m :: B).length := by simp; omega
  have hcn : (A ++ m :: B).length ≤ n := by
    have := nodup_len _ (List.range n) h.nd fun z hz => by simpa using h.lt z hz
    simpa using this
  unfold stkF
  refine firstF_isSome (j := (A ++ m :: B).length) h2 (by omega) ?_
  refine firstF_isSome (j := m) (by omega) (by omega) ?_
  exact crc_compl _ [m] (B ++ A) (by simp) (by simpa using hnd) hlt hlk (by omega)
/-- who is one of an order is not in a circle -/
theorem lnk_up {p : Nat → Nat} : ∀ (X : List Nat) (a : Nat), (∀ u v, u ∈ a :: X → v ∈ a :: X → bar u v = true → p u < p v) → lnk bar (a :: X) → ∀ x ∈ X, p a < p x
  | [], _, _, _, x, hx => by simp at hx
  | b :: X, a, h, hl, x, hx => by
    have hab := h a b (by simp) (by simp) hl.1
    rcases List.mem_cons.1 hx with rfl | hx
    · exact hab
    · have := lnk_up X b (fun u v hu hv => h u v (List.mem_cons_of_mem _ hu) (List.mem_cons_of_mem _ hv)) hl.2 x hx
      omega
theorem ord_idx {L : List Nat} (hirr : ∀ i, bar i i = false) (h : Ord bar n L) {u v : Nat} (hu : u ∈ L) (hv : v ∈ L) (hb : bar u v = true) : L.idxOf u < L.idxOf v := by
  have h1 := List.idxOf_lt_length_iff.2 hu
  have h2 := List.idxOf_lt_length_iff.2 hv
  have g1 : L[L.idxOf u] = u := List.getElem_idxOf h1
  have g2 : L[L.idxOf v] = v := List.getElem_idxOf h2
  rcases Nat.lt_trichotomy (L.idxOf u) (L.idxOf v) with h3 | h3 | h3
  · exact h3
  · have : u = v := by rw [← g1, ← g2]; simp only [h3]
    subst this; rw [hirr] at hb; cases hb
  · have := List.pairwise_iff_getElem.1 h.pw _ _ h2 h1 h3
    rw [g1, g2, hb] at this; cases this
theorem no_cyc {L C : List Nat} (hirr : ∀ i, bar i i = false) (h : Ord bar n L) (hl : L.length = n) (hC : Cyc bar n C) (h2 : 2 ≤ C.length) : False := by
  cases C with
  | nil => simp at h2
  | cons a C =>
    have := lnk_up (p := L.idxOf) (C ++ [a]) a (fun u v hu hv hb => by
      have hm : ∀ z ∈ a :: (C ++ [a]), z < n := fun z hz => by
        have : z ∈ a :: C := by simp at hz ⊢; rcases hz with h | h | h <;> simp [h]
        exact hC.lt z this
      exact ord_idx hirr h (h.full hl (hm u hu)) (h.full hl (hm v hv)) hb) hC.lk a (by simp)
    omega
/-- a list that goes back as long as it can closes a circle -/
theorem back_cyc {l : List Nat} (hirr : ∀ i, bar i i = false) (hf : ∀ i, i < n → i ∉ l → ∃ k, k < n ∧ k ∉ l ∧ bar k i = true) : ∀ (m : Nat) (p : List Nat), p ≠ [] → p.Nodup → (∀ x ∈ p, x < n ∧ x ∉ l) → lnk bar p → n ≤ m + p.length → ∃ C, Cyc bar n C ∧ 2 ≤ C.length
  | m, [], h0, _, _, _, _ => absurd rfl h0
  | m, a :: p, h0, h1, h2, h3, h4 => by
    obtain ⟨k, hk, hkl, hb⟩ := hf a (h2 a (by simp)).1 (h2 a (by simp)).2
    by_cases hm : k ∈ a :: p
    · have hkp : k ∈ p := by
        rcases List.mem_cons.1 hm with rfl | h
        · rw [hirr] at hb; cases hb
        · exact h
      obtain ⟨X, Y, rfl⟩ := List.append_of_mem hkp
      refine ⟨a :: (X ++ [k]), ⟨?_, ?_, ?_⟩, by simp⟩
      · have e : a :: (X ++ k :: Y) = a :: (X ++ [k]) ++ Y := by simp
        rw [e] at h1
        exact (List.nodup_append.1 h1).1
      · intro x hx
        refine (h2 x ?_).1
        simp at hx ⊢; rcases hx with h | h | h <;> simp [h]
      · have e : a :: (X ++ k :: Y) = (a :: X) ++ k :: Y := by simp
        rw [e, lnk_split] at h3
        have e2 : a :: (X ++ [k]) ++ [fst (a :: (X ++ [k]))] = (a :: X) ++ k :: [a] := by simp [fst]
        rw [e2, lnk_split]
        exact ⟨h3.1, hb, trivial⟩
    · cases m with
      | zero =>
        exfalso
        have := nodup_len (k :: a :: p) (List.range n) (List.nodup_cons.2 ⟨hm, h1⟩) fun z hz => by
          rcases List.mem_cons.1 hz with rfl | hz
          · simpa using hk
          · simpa using (h2 z hz).1
        simp at this h4; omega
      | succ m => exact back_cyc hirr hf m (k :: a :: p) (by simp) (List.nodup_cons.2 ⟨hm, h1⟩) (fun x hx => by rcases List.mem_cons.1 hx with rfl | hx; exact ⟨hk, hkl⟩; exact h2 x hx) ⟨hb, h3⟩ (by simp at h4 ⊢; omega)
/-- where the greedy order stops there is a circle -/
theorem grd_cyc (hirr : ∀ i, bar i i = false) : ∀ (r : Nat) (l : List Nat), l.Nodup → (∀ x ∈ l, x < n) → r + l.length = n → grd bar n r l = none → ∃ C, Cyc bar n C ∧ 2 ≤ C.length
  | 0, l, _, _, _, e => by cases e
  | r + 1, l, h1, h2, h3, e => by
    unfold grd at e
    cases e2 : nxt bar n l with
    | some i =>
      rw [e2] at e
      obtain ⟨hi, hf, _⟩ := nxt_some e2
      have hil := (freeB_iff.1 hf).1
      exact grd_cyc hirr r (l ++ [i]) (by rw [List.nodup_append]; exact ⟨h1, by simp, fun a ha b hb hab => by simp at hb; exact hil (by rw [← hb, ← hab]; exact ha)⟩) (fun x hx => by rcases List.mem_append.1 hx with hx | hx; exact h2 x hx; simp at hx; omega) (by simp; omega) e
    | none =>
      have hf : ∀ i, i < n → i ∉ l → ∃ k, k < n ∧ k ∉ l ∧ bar k i = true := fun i hi hil => by
        have := nxt_none e2 hi
        refine Classical.byContradiction fun hno => ?_
        have : freeB bar n l i = true := freeB_iff.2 ⟨hil, fun k hk hkl => by
          cases hb : bar k i with
          | false => rfl
          | true => exact absurd ⟨k, hk, hkl, hb⟩ hno⟩
        rw [nxt_none e2 hi] at this; cases this
      obtain ⟨i, hi, hil⟩ : ∃ i, i < n ∧ i ∉ l := by
        refine Classical.byContradiction fun hno => ?_
        have := nodup_len (List.range n) l List.nodup_range fun z hz => by
          refine Classical.byContradiction fun hzl => hno ⟨z, by simpa using hz, hzl⟩
        simp at this; omega
      exact back_cyc hirr hf n [i] (by simp) (by simp) (by simp; exact ⟨hi, hil⟩) trivial (by simp)
/-- a circle is found just if there is no order -/
theorem stk_ords (hirr : ∀ i, bar i i = false) : (stkF bar n).isSome = !(ordsF bar n n []).isSome := by
  cases e : ordsF bar n n [] with
  | some L =>
    obtain ⟨h, t, rfl, ht⟩ := ords_sound n [] L ord_nil e
    cases e2 : stkF bar n with
    | none => rfl
    | some C =>
      obtain ⟨h3, h4⟩ := stk_sound e2
      exact (no_cyc hirr h (by simpa using ht) h3 h4).elim
  | none =>
    rw [ords_grd0 hirr] at e
    obtain ⟨C, h1, h2⟩ := grd_cyc hirr n [] (by simp) (by simp) (by simp) e
    rw [stk_compl h1 h2]; rfl
end
end Go.Proofs.YtkfeagokmcakgaaGreatDoor

namespace Go.Proofs.YtkfeagokmcakgaaGreatDoor
open Go.RowKit

set_option maxHeartbeats 400000 in
theorem clipI_any (ad : Addr) (n c : Nat) (w : World) (hn : n ≤ c) (hc : c ≤ maxLen) : Calls Tryz.prog 136 #[.slice (some ad) n c] w fun e w' => e = .returned (.slice (some ad) n n) ∧ w' = w := by
  have h0 : (0 : Int) ≤ (n : Int) := by omega
  have h1 : (n : Int) ≤ (c : Int) := by omega
  go_enter Tryz.func136, Tryz.ntmps136
  go_wp2
  go_ret
  exact ⟨by simp, rfl⟩
/-- append of one element to a full row -/
theorem wpList_append_full {P : Program} {ops : Array Oper} {rest : List Oper} {o : Oper} {a : Act} {w : World} {Q : Exit → Act → World → Prop} (hgd : o.guard = none) (s x : Operand) (t : TypeId)
    (ho : o.op = .call { callee := .builtin .append, args := #[s, x], argTypes := #[t, t] })
    (e : TypeId) (z : Value) (size bytes : Nat) (ht : P.underlying t = some (.slice e)) (hi : (P.info? e).map (fun i => (i.zero, i.size, i.bytes)) = some (some z, size, bytes)) (hzs : z.cells.size = size) (hsz : 0 < size)
    (ad : Addr) (n : Nat) (olds : List Value) (hs : a.eval s = .slice (some ad) n n) (hlo : olds.length = n * size) (hold : ∀ j u, olds[j]? = some u → w.cell? (ad.add j) = some u)
    (b : Nat) (C : Array Value) (tt : TypeId) (hx : a.eval x = .slice (some ⟨b, 0, none⟩) 1 1) (hbk : Bk w b tt C) (hl : C.size = size) (h1 : ∀ u ∈ C.toList, u.oneCell' = true)
    (h63 : n < 100000) (hbytes : bytes ≤ 1000)
    (h : ∀ v' w', w'.ownsRow w.heap.size e size v' (n + 1) (olds ++ C.toList) → w.grownBy w' none → wpList P ops Q rest (a.put o.dst v') w') : wpList P ops Q (o :: rest) a w := by
  obtain ⟨i0, hi0, hz0, hz1, hz2⟩ := info_parts hi
  refine wpList_plain hgd fun K' hK' => ?_
  refine wp_append_grows w s x t ho e i0 z size bytes ht hi0 hz0 hz1 hz2 hzs hsz (some ad) n n olds hs (fun e => by cases e) hlo (fun b hb j u hj => by cases hb; exact hold j u hj) ⟨b, 0, none⟩ 1 1 C.toList hx (by simpa using hl) (bk_cells hbk) h1 (by omega) (by unfold maxLen; omega) ?_ ?_
  · calc (n + 1) * bytes ≤ 100000 * 1000 := Nat.mul_le_mul (by omega) hbytes
      _ ≤ 140737488355328 := by decide
  · intro v' w' ho' hg
    exact hK' _ _ (h v' w' ho' hg)
/-- what a search for a circle answers -/
def RndE (o : Option (List Nat)) (w : World) (e : Ending) (w' : World) : Prop := Below w.heap.size w w' ∧ match o with
  | none => e = .returned (.slice none 0 0)
  | some L => ∃ ad c, e = .returned (.slice (some ad) L.length c) ∧ Lies w' w'.heap.size (some ad) (nats L) ∧ (L.length ≤ c ∧ c ≤ maxLen)
theorem RndE.none_ {o : Option (List Nat)} {w w' : World} (h : o = none) (hb : Below w.heap.size w w') : RndE o w (.returned (.slice none 0 0)) w' := ⟨hb, by rw [h]⟩
theorem RndE.some_ {o : Option (List Nat)} {L : List Nat} {w w' : World} {ad : Addr} {n c : Nat} (h : o = some L) (hn : L.length = n) (hl : Lies w' w'.heap.size (some ad) (nats L)) (hc : n ≤ c ∧ c ≤ maxLen) (hb : Below w.heap.size w w') : RndE o w (.returned (.slice (some ad) n c)) w' := ⟨hb, by rw [h]; exact ⟨ad, c, by rw [hn], hl, by rw [hn]; exact hc⟩⟩
theorem lies_get {w : World} {B : Nat} {ad : Addr} {cs : List Value} (h : Lies w B (some ad) cs) {j : Nat} {u : Value} (hj : cs[j]? = some u) : w.cell? (ad.add j) = some u := by
  obtain ⟨a2, e, _, hc⟩ := h (by intro e; rw [e] at hj; simp at hj)
  cases e
  exact hc j u hj
theorem lst_at {l : List Nat} {m : Nat} (h : l.length = m + 1) : lst l = l[m] := by
  unfold lst
  rw [List.getD_eq_getElem?_getD, List.getElem?_eq_getElem (by omega)]
  simp only [Option.getD_some]
  congr 1; omega
theorem fst_at {l : List Nat} {m : Nat} (h : l.length = m + 1) : fst l = l[0] := by
  unfold fst; simp [List.getD_eq_getElem?_getD, h]
theorem nats_one (l : List Nat) : ∀ u ∈ nats l, u.oneCell' = true := by
  intro u hu
  unfold nats at hu
  obtain ⟨i, _, rfl⟩ := List.mem_map.1 hu
  rfl
theorem info3n : (Tryz.prog.info? 3).map (fun i => (i.zero, i.size, i.bytes)) = some (some (.int .i64 0), 1, 8) := by kernel_rfl
set_option maxRecDepth 100000 in
set_option maxHeartbeats 2500000 in
theorem round_step {bs n c : Nat} {A : Option Addr} {bar : Nat → Nat → Bool} (hn : n ≤ 8) (r : Nat) (q : Int)
    (IH : ∀ (m : Nat) (l : List Nat) (ad : Addr) (cl : Nat) (w : World), l.length = m + 1 → q = (m : Int) + 1 + r → StkW bs A n c bar w → Lies w w.heap.size (some ad) (nats l) → (∀ j ∈ l, j < n) → (m + 1 ≤ cl ∧ cl ≤ maxLen) → m + 1 + r ≤ 1000 → Calls Tryz.prog 105 #[.pointer (some ⟨bs, 0, none⟩), .slice (some ad) (m + 1) cl, .int .i64 q] w (RndE (crcF bar n r l) w))
    (m : Nat) (l : List Nat) (ad : Addr) (cl : Nat) (w : World) (hm : l.length = m + 1) (hq : q = (m : Int) + 1 + (r + 1 : Nat)) (hs : StkW bs A n c bar w) (hl : Lies w w.heap.size (some ad) (nats l)) (hlt : ∀ j ∈ l, j < n) (hcl : m + 1 ≤ cl ∧ cl ≤ maxLen) (h1000 : m + 1 + (r + 1) ≤ 1000) :
    Calls Tryz.prog 105 #[.pointer (some ⟨bs, 0, none⟩), .slice (some ad) (m + 1) cl, .int .i64 q] w (RndE (crcF bar n (r + 1) l) w) := by
  have HS : Hid (∀ V, Below w.heap.size w V → StkW bs A n c bar V) := fun V hV => hs.below hV (cell_lt hs.col)
  have HL : Hid (∀ V, Below w.heap.size w V → Lies V V.heap.size (some ad) (nats l)) := fun V hV => (hl.below hV (Nat.le_refl _)).more hV.size
  have p0 : 0 < l.length := hm ▸ Nat.succ_pos m
  have pm : m < l.length := hm ▸ Nat.lt_succ_self m
  have hL0 : l[0] < n := hlt _ (List.getElem_mem p0)
  have hLm : l[m] < n := hlt _ (List.getElem_mem pm)
  obtain ⟨_, e1, _, c0⟩ := nat_at hl (k := 0) p0
  cases e1
  obtain ⟨_, e1, _, cm⟩ := nat_at hl (k := m) pm
  cases e1
  have ez : ad.add 0 = ad := by unfold Addr.add; rfl
  rw [ez] at c0
  clear ez
  obtain ⟨F, hF⟩ : ∃ F : Nat → Option (List Nat), F = fun i => if bar l[m] i = true ∧ i ∉ l then crcF bar n r (l ++ [i]) else none := ⟨_, rfl⟩
  have HFD : Hid (∀ i, F i = if bar l[m] i = true ∧ i ∉ l then crcF bar n r (l ++ [i]) else none) := fun i => by rw [hF]
  have HF : Hid (crcF bar n (r + 1) l = firstF F (l[0] + 1) (n - (l[0] + 1))) := by
    show _ = _
    conv => lhs; unfold crcF
    rw [lst_at hm, fst_at hm, hF]
  have HFA : Hid (∀ i, i < n → firstF F i (n - i) = match F i with
    | some v => some v
    | none => firstF F (i + 1) (n - (i + 1))) := fun i hi => firstF_at hi
  have HFN : Hid (firstF F n (n - n) = none) := by show _ = _; rw [Nat.sub_self]; rfl
  clear hF
  have HCT : Hid (∀ (i : Nat) V, Below w.heap.size w V → Calls Tryz.prog 133 #[.slice (some ad) (m + 1) cl, .int .i64 i] V (BoolEnd (decide (i ∈ l)) V)) := fun i V hV => by
    have h := contains133_any l (some ad) cl i V (HL.out V hV) (by omega)
    rw [hm] at h
    have e : (l.any fun y => decide (y = i)) = decide (i ∈ l) := by
      by_cases hi : i ∈ l
      · rw [decide_eq_true hi]; exact List.any_eq_true.2 ⟨i, hi, by simp⟩
      · rw [decide_eq_false hi, List.any_eq_false]; intro y hy; simp; rintro rfl; exact hi hy
    rwa [e] at h
  have HCL : Hid (∀ V, Calls Tryz.prog 136 #[.slice (some ad) (m + 1) cl] V fun e w' => e = .returned (.slice (some ad) (m + 1) (m + 1)) ∧ w' = V) := fun V => clipI_any ad (m + 1) cl V hcl.1 hcl.2
  have HIH : Hid (∀ (i : Nat), i < n → ∀ (a2 : Addr) (c2 : Nat) V, Below w.heap.size w V → Lies V V.heap.size (some a2) (nats (l ++ [i])) → (m + 1 + 1 ≤ c2 ∧ c2 ≤ maxLen) → Calls Tryz.prog 105 #[.pointer (some ⟨bs, 0, none⟩), .slice (some a2) (m + 1 + 1) c2, .int .i64 q] V (RndE (crcF bar n r (l ++ [i])) V)) := fun i hi a2 c2 V hV h1 h2 => by
    refine IH (m + 1) (l ++ [i]) a2 c2 V (by simp [hm]) (by omega) (HS.out V hV) h1 (fun j hj => ?_) h2 (by omega)
    rcases List.mem_append.1 hj with hj | hj
    · exact hlt j hj
    · simp at hj; omega
  have hne : (((m : Int) + 1) == q) = false := by
    cases h : ((m : Int) + 1) == q with
    | false => rfl
    | true => have := beq_iff_eq.1 h; omega
  have hmI : (m : Int) < (m : Int) + 1 := by omega
  have HLI : Hid (nats_len l = nats_len l) := rfl
  have HNL : Hid ((nats l).length = (m + 1) * 1) := by show _ = _; rw [nats_len, hm]; omega
  have HM2 : Hid (m + 1 < 100000) := by show _ < _; omega
  have hw1 : wrap64 (m : Int) = (m : Int) := by unfold wrap64; omega
  clear hs hl hlt hcl hq IH HLI
  generalize crcF bar n (r + 1) l = R at *
  generalize hx0 : l[0] = x0 at *
  generalize hxm : l[m] = xm at *
  have h0I : (x0 : Int) < 8 := by omega
  clear hx0 hxm h1000
  go_enter Tryz.func105, Tryz.ntmps105
  go_upto_region 7 with fail
  have hnq := fun V (a : Option Addr) (n c : Nat) => run_neq_slice_nil_any (P := Tryz.prog) V 42 3 a n c 0 0 Tryz.underlying42
  clear c0 cm hw1 hne hmI
  go_loopw [8] (fun y wr => ∃ k : Nat, k ≤ n ∧ y = .int .i64 k ∧ Hid (R = firstF F k (n - k)) ∧ Below w.heap.size w wr) (fun y _ => n - (intOf y).toNat)
  case atStart => exact ⟨x0 + 1, by omega, by go_num, HF, Below.refl _ _⟩
  case round =>
    obtain ⟨k, hk, rfl, HRk, hbw⟩ := hrel
    have hcol := (HS.out wr hbw).col
    clear HF
    by_cases hlk : k < n
    · have hcell : wr.cell? ⟨bs, 1 + xm * 8 + k, none⟩ = some (.bool (bar xm k)) := by rw [Nat.add_assoc]; exact (HS.out wr hbw).bar xm k (by omega) (by omega)
      have hkI : (k : Int) < 8 := by omega
      have hxI : (xm : Int) < 8 := by omega
      have HFK := Lib.hid (HFA.out k hlk)
      have HFV := Lib.hid (HFD.out k)
      have HC := Lib.hid (fun V hV => HCT.out k V hV)
      clear HFA HFN HFD HCT
      cases hb : bar xm k with
      | false =>
        have HN : Hid (R = firstF F (k + 1) (n - (k + 1))) := by
          have e : F k = none := by rw [HFV.out, if_neg (by rw [hb]; simp)]
          show _ = _
          rw [HRk.out, HFK.out, e]
        rw [hb] at hcell
        clear HFK HFV HC HRk HIH HCL hb
        go_wp2
        go_roundw
        case rel => exact ⟨k + 1, by omega, by go_num, HN, hbw⟩
        case measure => simp [intOf]; omega
      | true =>
        rw [hb] at hcell
        by_cases hin : k ∈ l
        · have HN : Hid (R = firstF F (k + 1) (n - (k + 1))) := by
            have e : F k = none := by rw [HFV.out, if_neg (by simp [hin])]
            show _ = _
            rw [HRk.out, HFK.out, e]
          rw [decide_eq_true hin] at HC
          clear HFK HFV HRk HIH HCL hb hin
          go_wp2_with (go_at_call 133; refine (HC.out _ hbw).mono ?_; rintro e w1 ⟨rfl, rfl⟩)
          go_roundw
          case rel => exact ⟨k + 1, by omega, by go_num, HN, hbw⟩
          case measure => simp [intOf]; omega
        · rw [decide_eq_false hin] at HC
          have HI := Lib.hid (fun a2 c2 V hV h1 h2 => HIH.out k hlk a2 c2 V hV h1 h2)
          have e : F k = crcF bar n r (l ++ [k]) := by rw [HFV.out, if_pos ⟨hb, hin⟩]
          rw [e] at HFK
          have hlen : (l ++ [k]).length = m + 1 + 1 := by simp [hm]
          clear HFV HIH hb hin e
          generalize crcF bar n r (l ++ [k]) = O at *
          have HCC := HCL.out wr
          clear HCL
          go_upto_region 11 with (first
            | (go_at_call 133; refine (HC.out _ hbw).mono ?_; rintro e w1 ⟨rfl, hw1⟩; obtain rfl : wr = w1 := by first | exact hw1 | exact hw1.symm)
            | (go_at_call 136; refine HCC.mono ?_; rintro e w1 ⟨rfl, hw1⟩; obtain rfl : wr = w1 := hw1.symm)
            | (at_builtin; refine wpList_append_full (P := Tryz.prog) rfl (.tmp 60) (.tmp 62) 42 rfl 3 (.int .i64 0) 1 8 Tryz.underlying42 info3n (by decide) (by decide) ad (m + 1) (nats l) rfl HNL.out (fun j u hj => lies_get (HL.out _ (hbw.alloc hbw.size _)) hj) wr.heap.size #[.int .i64 k] 3 rfl (Bk.new _ _ _) rfl ?c1 HM2.out (by decide) ?_))
          case c1 => rfl
          intro v4 w4 ho4 hg4
          have hb4 : Below w.heap.size w w4 := Below.grown (hbw.alloc hbw.size _) hg4 (by have := hbw.size; simp; omega) (fun g e => by cases e)
          obtain ⟨A4, c4, rfl, hc4, hcm4⟩ := ownsSlice ho4
          obtain ⟨g4, rfl, _⟩ := own_some ho4 (Nat.succ_pos _)
          have hsn : nats l ++ (#[Value.int .i64 k] : Array Value).toList = nats (l ++ [k]) := by simp [nats]
          rw [hsn] at ho4
          have HI4 := Lib.hid (HI.out ⟨g4, 0, none⟩ c4 w4 hb4 (ownsRow_lies ho4) ⟨hc4, hcm4⟩)
          clear ho4 hg4 hsn HI HC HCC hcell hlen
          cases O with
          | none =>
            have HN : Hid (R = firstF F (k + 1) (n - (k + 1))) := by show _ = _; rw [HRk.out, HFK.out]
            clear HFK HRk
            go_wp2_with (go_at_call 105; refine HI4.out.mono ?_; rintro e w5 ⟨hb5, rfl⟩)
            go_roundw
            case rel => exact ⟨k + 1, by omega, by go_num, HN, hb4.trans (hb5.mono hb4.size)⟩
            case measure => simp [intOf]; omega
          | some L =>
            have HN : Hid (R = some L) := by show _ = _; rw [HRk.out, HFK.out]
            clear HFK HRk
            go_wp2_with (go_at_call 105; refine HI4.out.mono ?_; rintro e w5 ⟨hb5, a5, c5, rfl, l5, h5⟩)
            have HL5 := Lib.hid l5
            clear l5
            go_ret
            exact RndE.some_ HN.out rfl HL5.out h5 (hb4.trans (hb5.mono hb4.size))
    · obtain rfl : k = n := by omega
      have HN : Hid (R = none) := by show _ = _; rw [HRk.out, HFN.out]
      clear HFA HFN HFD HCT HRk HIH HCL
      go_wp2
      go_ret
      exact RndE.none_ HN.out hbw
end Go.Proofs.YtkfeagokmcakgaaGreatDoor

namespace Go.Proofs.YtkfeagokmcakgaaGreatDoor
open Go.RowKit

set_option maxRecDepth 100000 in
set_option maxHeartbeats 1000000 in
theorem round_zero {bs n c : Nat} {A : Option Addr} {bar : Nat → Nat → Bool} (hn : n ≤ 8) (q : Int)
    (m : Nat) (l : List Nat) (ad : Addr) (cl : Nat) (w : World) (hm : l.length = m + 1) (hq : q = (m : Int) + 1) (hs : StkW bs A n c bar w) (hl : Lies w w.heap.size (some ad) (nats l)) (hlt : ∀ j ∈ l, j < n) (hcl : m + 1 ≤ cl ∧ cl ≤ maxLen) (h1000 : m + 1 ≤ 1000) :
    Calls Tryz.prog 105 #[.pointer (some ⟨bs, 0, none⟩), .slice (some ad) (m + 1) cl, .int .i64 q] w (RndE (crcF bar n 0 l) w) := by
  subst hq
  have p0 : 0 < l.length := hm ▸ Nat.succ_pos m
  have pm : m < l.length := hm ▸ Nat.lt_succ_self m
  have hL0 : l[0] < n := hlt _ (List.getElem_mem p0)
  have hLm : l[m] < n := hlt _ (List.getElem_mem pm)
  obtain ⟨_, e1, _, c0⟩ := nat_at hl (k := 0) p0
  cases e1
  obtain ⟨_, e1, _, cm⟩ := nat_at hl (k := m) pm
  cases e1
  have ez : ad.add 0 = ad := by unfold Addr.add; rfl
  rw [ez] at c0
  clear ez
  have HF : Hid (crcF bar n 0 l = if bar l[m] l[0] = true then some l else none) := by
    show _ = _
    unfold crcF
    rw [lst_at hm, fst_at hm]
  have hcell : w.cell? ⟨bs, 1 + l[m] * 8 + l[0], none⟩ = some (.bool (bar l[m] l[0])) := by rw [Nat.add_assoc]; exact hs.bar _ _ (by omega) (by omega)
  have q0 := hs.col
  have HM : Hid (l.length = m + 1) := hm
  have HL := Lib.hid hl
  have hmI : (m : Int) < (m : Int) + 1 := by omega
  have h0I : ((l[0] : Nat) : Int) < 8 := by omega
  have hmmI : ((l[m] : Nat) : Int) < 8 := by omega
  have hw1 : wrap64 (m : Int) = (m : Int) := by unfold wrap64; omega
  clear hs hl hlt h1000 hL0 hLm
  generalize hx0 : l[0] = x0 at *
  generalize hxm : l[m] = xm at *
  clear hx0 hxm p0 pm hm
  cases hb : bar xm x0 with
  | true =>
    rw [hb] at hcell HF
    clear hb
    go_enter Tryz.func105, Tryz.ntmps105
    go_wp2
    go_region
    all_goals
      go_wp2
      go_ret
      exact RndE.some_ (HF.out.trans (by simp)) HM.out HL.out hcl (by exact (by repeat (first | with_reducible exact Below.refl _ _ | with_reducible assumption | with_reducible refine Below.drew ?_ | with_reducible refine below_drewN ?_ _ | (with_reducible refine Below.alloc ?_ ?_ _; rotate_left; (try simp) <;> omega) | (with_reducible refine Below.setCell ?_ ?_ _; rotate_left; (try simp) <;> omega))))
  | false =>
    rw [hb] at hcell HF
    clear hb
    go_enter Tryz.func105, Tryz.ntmps105
    go_wp2
    go_region
    all_goals
      go_wp2
      go_ret
      exact RndE.none_ (HF.out.trans (by simp)) (by exact (by repeat (first | with_reducible exact Below.refl _ _ | with_reducible assumption | with_reducible refine Below.drew ?_ | with_reducible refine below_drewN ?_ _ | (with_reducible refine Below.alloc ?_ ?_ _; rotate_left; (try simp) <;> omega) | (with_reducible refine Below.setCell ?_ ?_ _; rotate_left; (try simp) <;> omega))))
/-- the first circle that goes on from a list -/
theorem round_any {bs n c : Nat} {A : Option Addr} {bar : Nat → Nat → Bool} (hn : n ≤ 8) (q : Int) : ∀ (r m : Nat) (l : List Nat) (ad : Addr) (cl : Nat) (w : World), l.length = m + 1 → q = (m : Int) + 1 + r → StkW bs A n c bar w → Lies w w.heap.size (some ad) (nats l) → (∀ j ∈ l, j < n) → (m + 1 ≤ cl ∧ cl ≤ maxLen) → m + 1 + r ≤ 1000 →
    Calls Tryz.prog 105 #[.pointer (some ⟨bs, 0, none⟩), .slice (some ad) (m + 1) cl, .int .i64 q] w (RndE (crcF bar n r l) w)
  | 0, m, l, ad, cl, w, h1, h2, h3, h4, h5, h6, h7 => round_zero hn q m l ad cl w h1 (by simpa using h2) h3 h4 h5 h6 (by omega)
  | r + 1, m, l, ad, cl, w, h1, h2, h3, h4, h5, h6, h7 => round_step hn r q (fun m l ad cl w => round_any hn q r m l ad cl w) m l ad cl w h1 h2 h3 h4 h5 h6 h7
end Go.Proofs.YtkfeagokmcakgaaGreatDoor
