/- The plain law of PigmentKnown: rules that become known after a day do not count on it. -/
import Derived.Test.YtkfeagokmcakgaaGreatDoorG01
import Derived.Test.YtkfeagokmcakgaaGreatDoorG12
import Derived.Test.YtkfeagokmcakgaaGreatDoorG16
import Derived.Test.YtkfeagokmcakgaaGreatDoorG17

set_option linter.unusedVariables false
set_option linter.unusedSimpArgs false

namespace Go.Proofs.YtkfeagokmcakgaaGreatDoor

theorem voidB_late {l : List Rul} {known : Int} {r : Rul} (h : known < r.known) (id : Int) : voidB (l ++ [r]) known id = voidB l known id := by
  unfold voidB
  rw [List.any_append]
  have : decide (r.known ≤ known) = false := decide_eq_false (by omega)
  simp [this]
theorem cnt_late {l : List Rul} {known : Int} {r : Rul} (h : known < r.known) : cntL (l ++ [r]) known = cntL l known := by
  have h1 : cntB (l ++ [r]) known = cntB l known := by
    funext x
    unfold cntB
    rw [voidB_late h]
  have h2 : cntB l known r = false := by
    unfold cntB
    have : decide (r.known ≤ known) = false := decide_eq_false (by omega)
    simp [this]
  unfold cntL
  rw [h1, List.filter_append]
  simp [h2]
/-- what is known of a book that took later rules -/
structure LateB (l m : List Rul) (known : Int) (k : Nat) : Prop where
  cnt : cntL m known = cntL l known
  len : m.length ≤ l.length + k
  small : ∀ r ∈ m, r.x.size ≤ 60 ∧ r.y.size ≤ 60 ∧ (0 ≤ r.kind ∧ r.kind ≤ 255)
theorem LateB.start {l : List Rul} {known : Int} (h : ∀ r ∈ l, r.x.size ≤ 60 ∧ r.y.size ≤ 60 ∧ (0 ≤ r.kind ∧ r.kind ≤ 255)) : LateB l l known 0 := ⟨rfl, Nat.le_refl _, h⟩
theorem LateB.keep {l m : List Rul} {known : Int} {k : Nat} (h : LateB l m known k) : LateB l m known (k + 1) := ⟨h.cnt, by have := h.len; omega, h.small⟩
theorem LateB.more {l m : List Rul} {known : Int} {k : Nat} {r : Rul} (h : LateB l m known k) (hr : known < r.known) (hs : r.x.size ≤ 60 ∧ r.y.size ≤ 60 ∧ (0 ≤ r.kind ∧ r.kind ≤ 255)) : LateB l (m ++ [r]) known (k + 1) :=
  ⟨(cnt_late hr).trans h.cnt, by have := h.len; simp; omega, fun x hx => by
    rcases List.mem_append.1 hx with h1 | h1
    · exact h.small x h1
    · simp at h1; subst h1; exact hs⟩

/-- a rule that voids another: the same as leaving that one out -/
theorem fine_snoc_ids {l : List Rul} (h : Fine l) {i j : Nat} (hi : i < l.length) (hj : j < l.length) (hij : i < j) : l[i].id ≠ l[j].id := by
  intro e
  have h1 := h j hj
  unfold refE refG at h1
  have hd : dupB (l.take j) l[j].id = true := by
    unfold dupB
    rw [List.any_eq_true]
    refine ⟨l[i], ?_, by simpa using e⟩
    rw [List.mem_take_iff_getElem]
    exact ⟨i, by omega, rfl⟩
  rw [hd] at h1
  repeat' split at h1
  all_goals first | omega | simp_all
theorem fine_ids {l : List Rul} (h : Fine l) {r s : Rul} (hr : r ∈ l) (hs : s ∈ l) (e : r.id = s.id) : r = s := by
  obtain ⟨i, hi, rfl⟩ := List.mem_iff_getElem.1 hr
  obtain ⟨j, hj, rfl⟩ := List.mem_iff_getElem.1 hs
  rcases Nat.lt_trichotomy i j with h1 | h1 | h1
  · exact absurd e (fine_snoc_ids h hi hj h1)
  · subst h1; rfl
  · exact absurd e.symm (fine_snoc_ids h hj hi h1)
/-- the rules that are left when those of a number are left out from a day on -/
def lftL (l : List Rul) (known day of : Int) : List Rul := l.filter fun r => decide (known < day) || !decide (r.id = of)
theorem lft_none {l : List Rul} {known day of : Int} (h : known < day) : lftL l known day of = l := by
  unfold lftL
  rw [List.filter_eq_self]
  intro r _
  simp [h]
theorem void_ok {l : List Rul} {r : Rul} (h : refE l r = 0) (hk : r.kind = 6) : frm r = true ∧ ofB l r.of = true := by
  unfold refE refG at h
  constructor
  · cases hf : frm r
    · rw [hf] at h; repeat' split at h
      all_goals first | omega | simp_all
    · rfl
  · cases ho : ofB l r.of
    · rw [ho] at h; repeat' split at h
      all_goals first | omega | simp_all
    · rfl
theorem cnt_void {l : List Rul} {r : Rul} {known : Int} (hf : Fine l) (h : refE l r = 0) (hk : r.kind = 6) (hd : r.known ≤ known) :
    cntL (l ++ [r]) known = cntL (l.filter fun x => !decide (x.id = r.of)) known := by
  obtain ⟨hfr, hof⟩ := void_ok h hk
  have hno : ∀ v ∈ l, v.kind = 6 → v.id ≠ r.of := fun v hv hk6 e => by
    unfold ofB at hof
    obtain ⟨x, hx, hxe⟩ := List.any_eq_true.1 hof
    simp at hxe
    have := fine_ids hf hv hx (e.trans hxe.1.symm)
    subst this
    exact hxe.2 hk6
  have hv : ∀ id, voidB (l ++ [r]) known id = (voidB (l.filter fun x => !decide (x.id = r.of)) known id || decide (r.of = id)) := fun id => by
    unfold voidB
    rw [List.any_append, List.any_filter]
    have h1 : (l.any fun v => frm v && decide (v.known ≤ known) && decide (v.kind = 6) && decide (v.of = id)) = (l.any fun x => !decide (x.id = r.of) && (frm x && decide (x.known ≤ known) && decide (x.kind = 6) && decide (x.of = id))) := by
      rw [Bool.eq_iff_iff]
      simp only [List.any_eq_true]
      constructor
      · rintro ⟨x, hx, e⟩
        refine ⟨x, hx, ?_⟩
        have : x.kind = 6 := by simp at e; exact e.1.2
        rw [e]
        simp [hno x hx this]
      · rintro ⟨x, hx, e⟩
        refine ⟨x, hx, ?_⟩
        rw [Bool.and_eq_true] at e
        exact e.2
    rw [h1]
    simp [hfr, hd, hk]
  unfold cntL
  rw [List.filter_append, List.filter_filter]
  have h2 : [r].filter (cntB (l ++ [r]) known) = [] := by
    have : cntB (l ++ [r]) known r = false := by unfold cntB; simp [hk]
    simp [this]
  rw [h2, List.append_nil]
  refine List.filter_congr fun x hx => ?_
  unfold cntB
  rw [hv]
  have hsym : decide (r.of = x.id) = decide (x.id = r.of) := by rw [decide_eq_decide]; exact ⟨Eq.symm, Eq.symm⟩
  rw [hsym]
  cases frm x <;> cases decide (x.known ≤ known) <;> cases decide (x.kind = 6) <;> cases voidB (l.filter fun x => !decide (x.id = r.of)) known x.id <;> cases decide (x.id = r.of) <;> rfl
theorem cnt_lft {l : List Rul} {r : Rul} {known : Int} (hf : Fine l) (h : refE l r = 0) (hk : r.kind = 6) : cntL (l ++ [r]) known = cntL (lftL l known r.known r.of) known := by
  by_cases hd : known < r.known
  · rw [lft_none hd, cnt_late hd]
  · rw [cnt_void hf h hk (by omega)]
    congr 1
    unfold lftL
    refine List.filter_congr fun x _ => ?_
    simp [hd]
end Go.Proofs.YtkfeagokmcakgaaGreatDoor

namespace Go.Proofs.YtkfeagokmcakgaaGreatDoor

def limR (k : Nat) : Rul := ⟨(k : Int) + 1, 0, 1, ⟨#[111, 99, 104, 114, 101]⟩, ByteArray.empty, 0⟩
def limL (n : Nat) : List Rul := (List.range n).map limR
theorem limL_length (n : Nat) : (limL n).length = n := by simp [limL]
theorem limL_succ (n : Nat) : limL (n + 1) = limL n ++ [limR n] := by simp [limL, List.range_succ]
theorem limL_take {n k : Nat} (h : k ≤ n) : (limL n).take k = limL k := by
  unfold limL; rw [← List.map_take, List.take_range, Nat.min_eq_left h]
theorem limL_get {n k : Nat} (h : k < (limL n).length) : (limL n)[k] = limR k := by simp [limL]
theorem lim_shp (k : Nat) : shpB (limR k) = true := by
  have h : nameB ⟨#[111, 99, 104, 114, 101]⟩ = true := by decide +kernel
  unfold shpB limR
  simp [h]
theorem lim_frm {k : Nat} (h : k < 1000000) : frm (limR k) = true := by
  have h1 := lim_shp k
  unfold frm
  rw [h1, decide_eq_true (show (1 : Int) ≤ (limR k).id from (by show (1 : Int) ≤ (k : Int) + 1; omega)), decide_eq_true (show (limR k).id ≤ 1000000 from (by show (k : Int) + 1 ≤ 1000000; omega))]
  rfl
theorem limL_mem {n : Nat} {r : Rul} (h : r ∈ limL n) : ∃ k, k < n ∧ r = limR k := by
  obtain ⟨k, hk, e⟩ := List.mem_map.1 h
  exact ⟨k, List.mem_range.1 hk, e.symm⟩
theorem limL_ok (n : Nat) : RulOK (limL n) := fun r hr => by
  obtain ⟨k, _, rfl⟩ := limL_mem hr
  exact ⟨by show (5 : Nat) ≤ 100; decide, by show (0 : Nat) ≤ 100; decide, by show (0 : Int) ≤ 1 ∧ (1 : Int) ≤ 255; decide⟩
theorem limL_dup (n : Nat) : dupB (limL n) (limR n).id = false := by
  unfold dupB
  rw [List.any_eq_false]
  intro r hr
  obtain ⟨k, hk, rfl⟩ := limL_mem hr
  simp [limR]
  omega
theorem limL_time (n : Nat) : timeB (limL n) (limR n) = false := by
  unfold timeB
  split
  · rfl
  · rename_i p hp
    obtain ⟨k, hk, rfl⟩ := limL_mem (List.mem_of_getLast? hp)
    rfl
theorem lim_ref {n : Nat} (h : n < 200) : refE (limL n) (limR n) = 0 := by
  unfold refE refG
  rw [limL_length, if_neg (by omega), lim_frm (by omega), limL_dup, limL_time]
  simp [limR]
theorem lim_ref2 {n : Nat} (h : 200 ≤ n) : refE (limL n) (limR n) = 2 := by
  unfold refE refG
  rw [limL_length, if_pos h]
theorem limL_fine {n : Nat} (h : n ≤ 200) : Fine (limL n) := fun i hi => by
  have hi2 : i < n := by simpa [limL_length] using hi
  rw [limL_get hi, limL_take (by omega)]
  exact lim_ref (by omega)
theorem lim_chk : chkL (limL 200) = (0, 0) := chkL_ok (limL_fine (Nat.le_refl _))
theorem lim_chk1 : chkL (limL 201) = (200, 2) := by
  have hk : 200 < (limL 201).length := by rw [limL_length]; omega
  have h := chkL_bad hk (by rw [limL_take (by omega)]; exact limL_fine (Nat.le_refl _)) (by rw [limL_take (by omega), limL_get hk, lim_ref2 (Nat.le_refl _)]; decide)
  rw [limL_take (by omega), limL_get hk, lim_ref2 (Nat.le_refl _)] at h
  exact h
theorem lim_apd : apdE (limL 200) (limR 200) = 2 := by
  unfold apdE
  rw [lim_chk, if_pos rfl, lim_ref2 (Nat.le_refl _)]
theorem lim_apl : apdL (limL 200) (limR 200) = [] := by
  unfold apdL
  rw [lim_apd, if_neg (by decide)]
end Go.Proofs.YtkfeagokmcakgaaGreatDoor

namespace Go.Proofs.YtkfeagokmcakgaaGreatDoor
open Go.RowKit
attribute [local go_sem] Oper.semAt_some

/-- append of one element: the row that grows is named -/
theorem wpList_append1h {P : Program} {ops : Array Oper} {rest : List Oper} {o : Oper} {a : Act} {w : World} {Q : Exit → Act → World → Prop} (hgd : o.guard = none) (s x : Operand) (t : TypeId)
    (ho : o.op = .call { callee := .builtin .append, args := #[s, x], argTypes := #[t, t] })
    (base : Nat) (e : TypeId) (z : Value) (size bytes : Nat) (ht : P.underlying t = some (.slice e)) (hi : (P.info? e).map (fun i => (i.zero, i.size, i.bytes)) = some (some z, size, bytes)) (hzs : z.cells.size = size) (hsz : 0 < size)
    (v : Value) (n : Nat) (xs : List Value) (hs : a.eval s = v) (hown : w.ownsRow base e size v n xs)
    (b : Nat) (C : Array Value) (tt : TypeId) (hx : a.eval x = .slice (some ⟨b, 0, none⟩) 1 1) (hbk : Bk w b tt C) (hl : C.size = size) (h1 : ∀ u ∈ C.toList, u.oneCell' = true)
    (h63 : n < 100000) (hbytes : bytes ≤ 1000) (hbase : base ≤ w.heap.size)
    (h : ∀ v' w', w'.ownsRow base e size v' (n + 1) (xs ++ C.toList) → w.grownBy w' v.ownBlock → Below base w w' → wpList P ops Q rest (a.put o.dst v') w') : wpList P ops Q (o :: rest) a w := by
  obtain ⟨i0, hi0, hz0, hz1, hz2⟩ := info_parts hi
  refine wpList_append_own w hgd s x t ho base e i0 z size bytes ht hi0 hz0 hz1 hz2 hzs hsz v n xs hs hown ⟨b, 0, none⟩ 1 1 C.toList hx (by simpa using hl) (bk_cells hbk) h1 (by unfold maxLen; omega) ?_ hbase ?_
  · calc (n + 1) * bytes ≤ 100000 * 1000 := Nat.mul_le_mul (by omega) hbytes
      _ ≤ 140737488355328 := by decide
  · intro v' w' ho' hg _
    have hge : ∀ k, v.ownBlock = some k → base ≤ k := fun k hk => (hown.lt k hk).1
    exact h v' w' ho' hg (Below.grown (Below.refl _ _) hg hbase fun k hk => hge k hk)
/-- a book that grows in a box -/
structure Bx (b : Nat) (A : Option Addr) (c n : Nat) (l : List Rul) (W : World) : Prop where
  bk : Bk W b 25 #[.slice A n c]
  own : W.ownsRow (b + 1) 50 6 (.slice A n c) n (rulesC l)
  len : l.length = n
theorem Bx.put {b c c2 n : Nat} {A A2 : Option Addr} {l : List Rul} {r : Rul} {W W2 : World} (h : Bx b A c n l W) (hb : Below (b + 1) W W2) (ho : W2.ownsRow (b + 1) 50 6 (.slice A2 (n + 1) c2) (n + 1) (rulesC (l ++ [r]))) :
    Bx b A2 c2 (n + 1) (l ++ [r]) (W2.setCell ⟨b, 0, none⟩ (.slice A2 (n + 1) c2)) := by
  have hk := h.bk.below hb (Nat.lt_succ_self b)
  refine ⟨?_, ?_, by simp [h.len]⟩
  · have := hk.set 0 (.slice A2 (n + 1) c2)
    simpa using this
  · exact (far_setCells b [.slice A2 (n + 1) c2] 0 W2).own ho (Nat.lt_succ_self b)
theorem Bx.lies {b c n : Nat} {A : Option Addr} {l : List Rul} {W : World} (h : Bx b A c n l W) : Lies W W.heap.size A (rulesC l) := ownsRow_lies h.own
theorem Bx.cap {b c n : Nat} {A : Option Addr} {l : List Rul} {W : World} (h : Bx b A c n l W) : n ≤ c ∧ c ≤ maxLen := by
  obtain ⟨A2, c2, e, h1, h2⟩ := ownsSlice h.own
  cases e
  exact ⟨h1, h2⟩
theorem Bx.below {b c n : Nat} {A : Option Addr} {l : List Rul} {W V : World} (h : Bx b A c n l W) (hb : Below W.heap.size W V) : Bx b A c n l V := ⟨h.bk.below hb h.bk.lt, ownsRow_below h.own hb (Nat.le_refl _), h.len⟩
theorem Bx.check {b c n : Nat} {A : Option Addr} {l : List Rul} {W : World} (h : Bx b A c n l W) (hok : RulOK l) (hm : n ≤ 1000) : Calls Tryz.prog 46 #[.agg #[.slice A n c]] W (Int2End (chkL l) W) := by
  have h1 := check_any l A c W h.lies hok (by rw [h.len]; exact hm) (by rw [h.len]; exact h.cap.1) h.cap.2
  rwa [h.len] at h1
theorem Bx.append {b c n : Nat} {A : Option Addr} {l : List Rul} {W : World} (h : Bx b A c n l W) (r : Rul) (hok : RulOK (l ++ [r])) (hm : n ≤ 999) : Calls Tryz.prog 51 #[.agg #[.slice A n c], r.agg] W (AppEnd l r W) := by
  have h1 := append_any l r A c W h.lies hok (by rw [h.len]; exact hm) (by rw [h.len]; exact h.cap.1) h.cap.2
  rwa [h.len] at h1
theorem below_set {b B : Nat} {W V : World} {v : Value} (h : Below B W V) (hB : B ≤ b) : Below B W (V.setCell ⟨b, 0, none⟩ v) := h.trans ((far_setCells b [v] 0 V).bel B V hB (Below.refl _ _))

abbrev lcells (k : Int) : Array Value := #[.int .i64 k, .int .i64 0, .int .u8 1, .string ⟨#[111, 99, 104, 114, 101]⟩, .string ByteArray.empty, .int .i64 0]
theorem lsnoc (k : Nat) : rulesC (limL k) ++ (lcells ((k : Int) + 1)).toList = rulesC (limL (k + 1)) := by rw [limL_succ]; exact rulesC_snoc (limL k) (limR k)
theorem lone_c (k : Int) : ∀ u ∈ (lcells k).toList, u.oneCell' = true := by intro u hu; simp [lcells] at hu; rcases hu with rfl | rfl | rfl | rfl | rfl | rfl <;> rfl
theorem Bx.one {b c c2 k : Nat} {A A2 : Option Addr} {W W2 : World} (h : Bx b A c k (limL k) W) (hb : Below (b + 1) W W2) (ho : W2.ownsRow (b + 1) 50 6 (.slice A2 (k + 1) c2) (k + 1) (rulesC (limL (k + 1)))) :
    Bx b A2 c2 (k + 1) (limL (k + 1)) (W2.setCell ⟨b, 0, none⟩ (.slice A2 (k + 1) c2)) := by
  rw [limL_succ] at ho ⊢
  exact h.put hb ho
set_option maxHeartbeats 1000000 in
set_option maxRecDepth 100000 in
theorem limit_any (w : World) (hg : Glob w) : Calls Tryz.prog 11 #[] w (fun e w' => e = .returned (.bool true) ∧ Below w.heap.size w w') := by
  have HR : Hid (∀ V, Below w.heap.size w V → Calls Tryz.prog 17 #[] V (fun e w' => e = .returned (.bool true) ∧ Below V.heap.size V w')) := fun V hV => ruled_any V (hg.step hV)
  clear hg
  go_enter Tryz.func11, Tryz.ntmps11
  go_wp2
  go_loopw [2] (fun y wr => ∃ (k : Nat) (A : Option Addr) (c : Nat), k ≤ 200 ∧ y = .int .i64 ((k : Int) + 1) ∧ Hid (Bx w.heap.size A c k (limL k) wr) ∧ Below w.heap.size w wr) (fun y _ => 201 - (intOf y).toNat)
  case atStart => exact ⟨0, none, 0, by omega, rfl, ⟨Bk.new _ _ _, World.ownsRow_nil _ _ _ _, rfl⟩, (Below.refl _ _).alloc (Nat.le_refl _) _⟩
  case round =>
    obtain ⟨k, A, c, hk, rfl, hX, hbw⟩ := hrel
    have x0 := hX.out.bk.cell 0 rfl
    have hbl := hX.out.bk.lt
    by_cases hlt : k < 200
    · have hX1 := Lib.hid (hX.out.below ((Below.refl _ _).alloc (Nat.le_refl _) (.cells (lcells ((k : Int) + 1)) 50)))
      have HSN := Lib.hid (lsnoc k)
      have HON := Lib.hid (lone_c ((k : Int) + 1))
      go_wp2_with (at_builtin; refine wpList_append1h (P := Tryz.prog) rfl (.tmp 14) (.tmp 17) 23 rfl (w.heap.size + 1) 50 zeroRul 6 64 Tryz.underlying23 info50 (by decide) (by decide) (.slice A k c) k (rulesC (limL k)) rfl hX1.out.own wr.heap.size (lcells ((k : Int) + 1)) 50 rfl (Bk.new _ _ _) (by simp) HON.out ?c1 (by decide) ?c2 ?_)
      case c1 => omega
      case c2 => first | omega | (simp; omega)
      intro v' w4 ho4 _ hb4
      rw [HSN.out] at ho4
      obtain ⟨A4, c4, rfl, _, _⟩ := ownsSlice ho4
      have hk4 := hX1.out.bk.below hb4 (Nat.lt_succ_self _)
      have x4 := hk4.cell 0 rfl
      have f4 := hk4.fro 0
      have HXN := Lib.hid (hX1.out.one hb4 ho4)
      have HBN : Hid (Below w.heap.size w (w4.setCell ⟨w.heap.size, 0, none⟩ (.slice A4 (k + 1) c4))) := below_set ((hbw.alloc hbw.size _).trans (hb4.mono (by omega))) (Nat.le_refl _)
      clear ho4 hb4 hk4 hX1 hX x0 HSN HON
      go_wp2
      go_roundw
      case rel => exact ⟨k + 1, A4, c4, by omega, by go_num, HXN, HBN.out⟩
      case measure => simp [intOf]; omega
    · obtain rfl : k = 200 := by omega
      have HCK := Lib.hid (hX.out.check (limL_ok _) (by omega))
      rw [lim_chk] at HCK
      clear hk hlt
      go_upto_region 7 with (first | (go_at_call 46; refine HCK.out.mono ?_; rintro e w1 ⟨rfl, hb1⟩))
      have hX2 := Lib.hid (hX.out.below hb1)
      have hbw1 : Below w.heap.size w w1 := hbw.trans (hb1.mono hbw.size)
      have HAP := Lib.hid (hX2.out.append (limR 200) (by rw [← limL_succ]; exact limL_ok _) (by omega))
      unfold AppEnd at HAP
      rw [lim_apl, lim_apd] at HAP
      have x1 := hX2.out.bk.cell 0 rfl
      have hbl1 := hX2.out.bk.lt
      clear hb1 HCK hX x0 hbl hbw
      go_upto_region 8 with (first | (go_at_call 51; refine HAP.out.mono ?_; rintro e w2 ⟨A2, c2, rfl, _, _, hb2⟩))
      have hb3 : Below w1.heap.size w1 (w2.alloc (.cells #[.slice A2 0 c2] 25)) := hb2.alloc hb2.size _
      have hX3 := Lib.hid (hX2.out.below hb3)
      have hbw3 : Below w.heap.size w (w2.alloc (.cells #[.slice A2 0 c2] 25)) := hbw1.trans (hb3.mono hbw1.size)
      clear hb2 hb3 HAP hX2 x1 hbl1 hbw1
      have x3 := hX3.out.bk.cell 0 rfl
      have hbl3 := hX3.out.bk.lt
      generalize (w2.alloc (.cells #[.slice A2 0 c2] 25)) = w3 at *
      have hX4 := Lib.hid (hX3.out.below ((Below.refl _ _).alloc (Nat.le_refl _) (.cells (lcells 201) 50)))
      have HSN : Hid (rulesC (limL 200) ++ (lcells 201).toList = rulesC (limL 201)) := lsnoc 200
      have HON := Lib.hid (lone_c 201)
      go_upto_region 9 with (at_builtin; refine wpList_append1h (P := Tryz.prog) rfl (.tmp 32) (.tmp 34) 23 rfl (w.heap.size + 1) 50 zeroRul 6 64 Tryz.underlying23 info50 (by decide) (by decide) (.slice A 200 c) 200 (rulesC (limL 200)) rfl hX4.out.own w3.heap.size (lcells 201) 50 rfl (Bk.new _ _ _) (by simp) HON.out ?c1 (by decide) ?c2 ?_)
      case c2 => first | omega | (simp; omega)
      intro v' w4 ho4 _ hb4
      rw [HSN.out] at ho4
      obtain ⟨A4, c4, rfl, _, _⟩ := ownsSlice ho4
      have hk4 := hX4.out.bk.below hb4 (Nat.lt_succ_self _)
      have x4 := hk4.cell 0 rfl
      have f4 := hk4.fro 0
      have HXN : Hid (Bx w.heap.size A4 c4 201 (limL 201) (w4.setCell ⟨w.heap.size, 0, none⟩ (.slice A4 201 c4))) := hX4.out.one hb4 ho4
      have HBN : Hid (Below w.heap.size w (w4.setCell ⟨w.heap.size, 0, none⟩ (.slice A4 201 c4))) := below_set ((hbw3.alloc hbw3.size _).trans (hb4.mono (by omega))) (Nat.le_refl _)
      clear ho4 hb4 hk4 hX4 hX3 HSN HON
      go_upto_region 9 with fail
      generalize (w4.setCell ⟨w.heap.size, 0, none⟩ (.slice A4 201 c4)) = w5 at *
      have x5 := HXN.out.bk.cell 0 rfl
      have HCK := Lib.hid (HXN.out.check (limL_ok _) (by omega))
      rw [lim_chk1] at HCK
      have HRR : Hid (∀ V, Below w5.heap.size w5 V → Calls Tryz.prog 17 #[] V (fun e w' => e = .returned (.bool true) ∧ Below V.heap.size V w')) := fun V hV => HR.out V (HBN.out.trans (hV.mono HBN.out.size))
      clear x4 f4 HR HXN
      go_wp2_with (first | (go_at_call 46; refine HCK.out.mono ?_; rintro e w6 ⟨rfl, hb6⟩) | (go_at_call 17; refine (HRR.out _ hb6).mono ?_; rintro e w7 ⟨rfl, hb7⟩))
      go_ret
      exact ⟨rfl, HBN.out.trans ((hb6.trans (hb7.mono hb6.size)).mono HBN.out.size)⟩
end Go.Proofs.YtkfeagokmcakgaaGreatDoor
