/- giornataref07.best: the best days. Printed by wip/gen_z20.py. -/
import Derived.Test.YtjgnikmnadmheaaG02
import Derived.Test.YtjgnikmnadmheaaG62
import Derived.Test.YtjgnikmnadmheaaG94

namespace Go.Proofs.Ytjgnikmnadmheaa
open Go.RowKit

theorem nextS_at2 {Y : Yd} {l : List Tk} {f : Int} {ds : List Int} (h : ds.length < l.length) : nextS Y l[ds.length] ds f = if someL (nextL Y l f ds) = true then firstL (nextL Y l f ds) else -1 := by rw [nextL_at h]; rfl
theorem wp_append_lies {P : Program} {w : World} {o : Oper} {a : Act} {K : Act → World → Prop} {Q : Exit → Act → World → Prop} (s x : Operand) (t : TypeId)
    (ho : o.op = .call { callee := .builtin .append, args := #[s, x], argTypes := #[t, t] })
    (base : Nat) (e : TypeId) (i : TypeInfo) (z : Value) (size bytes : Nat) (ht : P.underlying t = some (.slice e)) (hi : P.info? e = some i) (hz : i.zero = some z)
    (hsize : i.size = size) (hby : i.bytes = bytes) (hzs : z.cells.size = size) (hsz : 0 < size)
    (v : Value) (n : Nat) (xs : List Value) (hs : a.eval s = v) (hown : w.ownsRow base e size v n xs)
    (B : Nat) (A : Option Addr) (m c : Nat) (news : List Value) (hx : a.eval x = .slice A m c) (hl : news.length = m * size) (hr : Lies w B A news) (h1 : ∀ u ∈ news, u.oneCell' = true)
    (h63 : n + m ≤ maxLen) (hbytes : (n + m) * bytes ≤ 140737488355328) (hbase : base ≤ w.heap.size)
    (h : ∀ v' w', w'.ownsRow base e size v' (n + m) (xs ++ news) → w.grownBy w' v.ownBlock → K (a.put o.dst v') w') : o.wp P a w K Q := by
  cases A with
  | some ad =>
    refine wp_append_own w s x t ho base e i z size bytes ht hi hz hsize hby hzs hsz v n xs hs hown ad m c news hx hl (fun j u hj => ?_) h1 h63 hbytes hbase (fun v' w' h2 h3 _ => h v' w' h2 h3)
    obtain ⟨ad2, e2, _, hc⟩ := hr (by intro e; rw [e] at hj; simp at hj)
    cases e2; exact hc j u hj
  | none =>
    have hn : news = [] := Classical.byContradiction fun hne => by
      obtain ⟨ad, e, _⟩ := hr hne
      cases e
    subst hn
    have hm : m = 0 := by
      rcases Nat.eq_zero_or_pos m with h0 | h0
      · exact h0
      · have := Nat.mul_pos h0 hsz; simp at hl; omega
    subst hm
    have hrun : (Builtin.append_ #[t, t] o.type #[v, .slice none 0 c]).run P w = .ok v w := by
      rcases hown.2 with ⟨rfl, rfl⟩ | ⟨g, cap, cur, rfl, _, _, hnc, _⟩
      · simp [Builtin.append_, run_underlying ht, sizeOf, typeInfo, hi, Builtin.lenOf, Builtin.firstCells]
      · simp [Builtin.append_, run_underlying ht, sizeOf, typeInfo, hi, Builtin.lenOf, Builtin.firstCells, hnc, storeCells]
    unfold Oper.wp
    simp [execOp, ho, resolve, invoke, builtin, hs, hx, hrun, Result.andThen]
    exact h v w (by simpa using hown) (World.grownBy.refl w _)
theorem bk_cells {w : World} {b : Nat} {t : TypeId} {C : Array Value} (h : Bk w b t C) : ∀ j u, C.toList[j]? = some u → w.cell? ((⟨b, 0, none⟩ : Addr).add j) = some u := fun j u hj => by
  obtain ⟨ad, e, _, hc⟩ := (h.lies (B := b + 1) (Nat.lt_succ_self b)) (by intro e; rw [e] at hj; simp at hj)
  cases e; exact hc j u hj
/-- two operations that may come up -/
theorem held_two {P : Program} {ops : Array Oper} {Q : Exit → Act → World → Prop} {S : World → Prop} {fuel : Nat} {listed : Array Bool} {a : Act} {w : World} (i j : Nat) (o p : Oper) (ho : ops[i]? = some o) (hp : ops[j]? = some p) (hr : Region.ready .any ops listed = [i, j])
    (hw : Region.wanted o (yielded ops a.tmps) = true) (hv : Region.wanted p (yielded ops a.tmps) = true) (h : o.wp P a w (fun a' w' => S w' ∧ wpAnyH P .any ops Q S fuel (listed.setIfInBounds i true) a' w') Q) (h2 : p.wp P a w (fun a' w' => S w' ∧ wpAnyH P .any ops Q S fuel (listed.setIfInBounds j true) a' w') Q) : wpAnyH P .any ops Q S (fuel + 1) listed a w := by
  refine wpAnyH_all hr (by simp) fun k hk => ?_
  have hk' : k = i ∨ k = j := by simpa using hk
  rcases hk' with rfl | rfl
  · unfold wpOp
    rw [ho]
    dsimp only
    rw [if_pos hw]
    exact .inl h
  · unfold wpOp
    rw [hp]
    dsimp only
    rw [if_pos hv]
    exact .inl h2

section
variable {Y : Yd} {l : List Tk} {f : Int} {old : List Tu} {ds : List Int} {done m : Nat}
theorem refB_nil (h : nextL Y l f ds = []) : refB Y l f old done (m + 1) ds = none := by
  show (match (nextL Y l f ds).head? with | none => none | some d => _) = _
  rw [h]; rfl
theorem refB_no {x : Int} (hx : (nextL Y l f ds).head? = some x) (h : ∀ o, dayAt old ds.length = some o → ¬ (x < o ∧ o ∈ nextL Y l f ds)) : refB Y l f old done (m + 1) ds = refB Y l f old done m (ds ++ [x]) := by
  rw [refB, hx]
  dsimp only
  cases ho : dayAt old ds.length with
  | none => rfl
  | some o => dsimp only; rw [if_neg (h o ho)]
theorem refB_two {x o : Int} (hx : (nextL Y l f ds).head? = some x) (ho : dayAt old ds.length = some o) (hc : x < o ∧ o ∈ nextL Y l f ds) : refB Y l f old done (m + 1) ds = match refB Y l f old done m (ds ++ [o]) with
    | none => refB Y l f old done m (ds ++ [x])
    | some b => match refB Y l f old done m (ds ++ [x]) with
      | none => some b
      | some a => if lexB (key3 old done b) (key3 old done a) = true then some b else some a := by
  rw [refB, hx]
  dsimp only
  rw [ho]
  dsimp only
  rw [if_pos hc]
  cases refB Y l f old done m (ds ++ [o]) <;> rfl
theorem refB_len {R : List Int} (h : ds.length + m = l.length) (e : refB Y l f old done m ds = some R) : R.length = l.length := by
  have := ref_opt (Y := Y) (f := f) (old := old) done m ds h
  rw [e] at this
  exact this.1.len
end
/-- what best returns -/
def BestV (r : Option (List Int)) (v ok : Value) (w : World) : Prop := match r with
  | none => v = .slice none 0 0 ∧ ok = .bool false
  | some P => ∃ A c, v = .slice A P.length c ∧ ok = .bool true ∧ Lies w w.heap.size A (ints P)
theorem BestV.below {r : Option (List Int)} {v ok : Value} {w w' : World} (h : BestV r v ok w) (hb : Below w.heap.size w w') : BestV r v ok w' := by
  cases r with
  | none => exact h
  | some P => obtain ⟨A, c, e1, e2, hl⟩ := h; exact ⟨A, c, e1, e2, (hl.below hb (Nat.le_refl _)).more hb.size⟩
def BestE (r : Option (List Int)) (w : World) (e : Ending) (w' : World) : Prop := ∃ v ok, e = .returned (.tuple #[v, ok]) ∧ BestV r v ok w' ∧ Below w.heap.size w w'

set_option maxRecDepth 100000 in
set_option maxHeartbeats 4000000 in
theorem best_rec (w0 : World) (C : Array Value) (Y : Yd) (l : List Tk) (A : Option Addr) (c : Nat) (old : List Tu) (T : Option Addr) (ct dn : Nat) (f : Int) (hY : YardAt w0 w0.heap.size C Y) (hT : TasksAt w0 w0.heap.size A l) (hok : okY Y = true) (ht : ValidT l) (hm : tame l) (hf : 0 ≤ f ∧ f ≤ 100000)
    (hP : Lies w0 w0.heap.size T (turnsC old)) (ho : old.length ≤ 20) (hdl : dn ≤ l.length) : ∀ (m : Nat) (ds : List Int) (D : Option Addr) (cd : Nat) (W : World), Below w0.heap.size w0 W → ds.length + m = l.length → Lies W W.heap.size D (ints ds) → (∀ x ∈ ds, -1000 ≤ x ∧ x ≤ 200000) →
    Calls Try.prog 94 #[.agg C, .slice A l.length c, .agg #[.slice T old.length ct], .slice D ds.length cd, .int .i64 dn, .int .i64 f] W (BestE (refB Y l f old dn m ds) W)
  | 0, ds, D, cd, W, hbW, hn, hD, hx => by
    have hn1 : ((ds.length : Int) == (l.length : Int)) = true := by rw [beq_iff_eq]; omega
    have hD1 := Lib.hid hD
    have hb1 : Below W.heap.size W ((W.alloc (.cells C 29)).alloc (.cells #[.slice T old.length ct] 42)) := by exact (by repeat (first | with_reducible exact Below.refl _ _ | with_reducible assumption | with_reducible refine Below.drew ?_ | with_reducible refine below_drewN ?_ _ | (with_reducible refine Below.alloc ?_ ?_ _; rotate_left; (try simp) <;> omega) | (with_reducible refine Below.setCell ?_ ?_ _; rotate_left; (try simp) <;> omega)))
    clear hY hT hok ht hm hf hP ho hdl hbW hn hD hx
    go_enter Try.func94, Try.ntmps94
    go_wp2
    go_ret2
    exact ⟨_, _, rfl, ⟨D, cd, rfl, rfl, (hD1.out.below hb1 (Nat.le_refl _)).more hb1.size⟩, hb1⟩
  | m + 1, ds, D, cd, W, hbW, hn, hD, hx => by
    have IH := best_rec w0 C Y l A c old T ct dn f hY hT hok ht hm hf hP ho hdl m
    have hl12 := ht.n
    have hlt : ds.length < l.length := by omega
    have hdr := (okY_valid hok).dry
    have HLOAD : Hid (∀ W' : World, Bk W' W.heap.size 29 C → W'.rangeAt W.heap.size 0 C.toList) := fun W' hb => hb.range
    have HC28 := Lib.hid hY.len
    have h28 : C.toList.length = 28 := HC28.out
    have hi29 : (Try.prog.info? 29).map (·.size) = some C.toList.length := by rw [h28]; exact info29
    clear h28
    have hu29 := Try.underlying29
    have HB0 : Hid (∀ W', Below W.heap.size W W' → Below w0.heap.size w0 W') := fun W' hb => hbW.trans (hb.mono hbW.size)
    have hYW : ∀ W', Below W.heap.size W W' → YardAt W' W'.heap.size C Y := fun W' hb => (hY.below (HB0.out W' hb) (Nat.le_refl _)).more (HB0.out W' hb).size
    have hTW : ∀ W', Below W.heap.size W W' → TasksAt W' W'.heap.size A l := fun W' hb => (hT.below (HB0.out W' hb) (Nat.le_refl _)).more (HB0.out W' hb).size
    have hPW : ∀ W', Below W.heap.size W W' → Lies W' W'.heap.size T (turnsC old) := fun W' hb => (hP.below (HB0.out W' hb) (Nat.le_refl _)).more (HB0.out W' hb).size
    have HN1 : Hid (∀ W', Below W.heap.size W W' → Calls Try.prog 120 #[.agg C, .slice A l.length c, .slice D ds.length cd, .int .i64 f, .int .i64 f] W' (IntEnd (nextS Y l[ds.length] ds f) W')) := fun W' hb =>
      rnext_any C Y l A c f ds D cd W' (hYW W' hb) (hTW W' hb) hok ht hm hf ((hD.below hb (Nat.le_refl _)).more hb.size) hlt hx
    have HSU : Hid (∀ W', Below W.heap.size W W' → ∀ d : Int, Calls Try.prog 93 #[.agg C, .slice A l.length c, .int .i64 ds.length, .int .i64 d] W' (ShEnd (suitB Y l[ds.length] ds.length d) W')) := fun W' hb d => by
      rw [← rsuitB_ok hok]; exact rsuits_any C Y l A c ds.length d W' (hYW W' hb) (small_valid (okY_valid hok)) (hTW W' hb) hm.1 hlt
    have HIH : Hid (∀ x : Int, -1000 ≤ x ∧ x ≤ 200000 → ∀ (W' : World) (A6 : Option Addr) (c6 : Nat), Below W.heap.size W W' → Lies W' W'.heap.size A6 (ints (ds ++ [x])) → Calls Try.prog 94 #[.agg C, .slice A l.length c, .agg #[.slice T old.length ct], .slice A6 (ds ++ [x]).length c6, .int .i64 dn, .int .i64 f] W' (BestE (refB Y l f old dn m (ds ++ [x])) W')) := fun x hxb W' A6 c6 hb hl =>
      IH (ds ++ [x]) A6 c6 W' (HB0.out W' hb) (by simp; omega) hl (fun y hy => by
        rcases List.mem_append.1 hy with h | h
        · exact hx y h
        · rw [List.mem_singleton.1 h]; exact hxb)
    have HRL : Hid (∀ (x : Int) (R : List Int), refB Y l f old dn m (ds ++ [x]) = some R → R.length = l.length) := fun x R e => refB_len (by simp; omega) e
    have HBT : Hid (∀ (a b : List Int), a.length = l.length → b.length = l.length → ∀ (W' : World) (A1 A2 : Option Addr) (c1 c2 : Nat), Below W.heap.size W W' → Lies W' W'.heap.size A1 (ints a) → Lies W' W'.heap.size A2 (ints b) → Calls Try.prog 123 #[.slice A1 a.length c1, .slice A2 b.length c2, .agg #[.slice T old.length ct], .int .i64 dn] W' (ShEnd (lexB (key3 old dn a) (key3 old dn b)) W')) := fun a b ha hb2 W' A1 A2 c1 c2 hb h1 h2 =>
      rbetter_any a b A1 A2 c1 c2 old T ct dn W' h1 h2 (hPW W' hb) (by omega) (by omega) (by omega) (by omega)
    have HPW := Lib.hid hPW
    have HDS := Lib.hid (fun W' (hb : Below W.heap.size W W') => (hD.below hb (Nat.le_refl _)))
    have hlb := lowK_bd hf hdr hx (af := l[ds.length].af) _ (Nat.le_refl _)
    change f ≤ lowS Y.dry f l[ds.length].af ds ∧ lowS Y.dry f l[ds.length].af ds ≤ 200031 at hlb
    have HNS := Lib.hid (nextS_at2 (f := f) (Y := Y) hlt)
    have HMN := Lib.hid (fun x => mem_nextL (Y := Y) (f := f) (d := x) hlt)
    have HR0 := Lib.hid (fun h => refB_nil (Y := Y) (l := l) (f := f) (old := old) (ds := ds) (done := dn) (m := m) h)
    have HR1 := Lib.hid (fun x h1 h2 => refB_no (Y := Y) (l := l) (f := f) (old := old) (ds := ds) (done := dn) (m := m) (x := x) h1 h2)
    have HR2 := Lib.hid (fun x o h1 h2 h3 => refB_two (Y := Y) (l := l) (f := f) (old := old) (ds := ds) (done := dn) (m := m) (x := x) (o := o) h1 h2 h3)
    have HFW : Hid (IntKind.i64.wrap (f + 400) = f + 400) := IntWalk.i64_in _ (by omega)
    obtain ⟨i0, hi0, hz0, hz1, hz2⟩ := info_parts info3
    have I3 := Lib.hid (And.intro hi0 (And.intro hz0 (And.intro hz1 hz2))); clear hi0 hz0 hz1 hz2
    have hln : Hid ((ints ds).length = ds.length * 1) := by show _ = _; rw [ints_len]; omega
    have hn1 : ((ds.length : Int) == (l.length : Int)) = false := by rw [beq_eq_false_iff_ne]; omega
    have hlI : (ds.length : Int) < (l.length : Int) := by omega
    have hd0 : 0 ≤ (ds.length : Int) := by omega
    have hf0 := hf.1
    have hf1 := hf.2
    clear IH hY hT hok ht hm hf hP hbW hn hD hx hYW hTW hPW hdr hdl
    generalize hRR : refB Y l f old dn (m + 1) ds = RR at *
    clear hRR
    generalize nextS Y l[ds.length] ds f = nx at *
    generalize lowS Y.dry f l[ds.length].af ds = low at *
    generalize suitB Y l[ds.length] ds.length = SB at *
    obtain ⟨hlb1, hlb2⟩ := hlb
    have hKc : Bk ((W.alloc (.cells C 29)).alloc (.cells #[.slice T old.length ct] 42)) W.heap.size 29 C := (Bk.new _ _ _).alloc _
    have hPc : Bk ((W.alloc (.cells C 29)).alloc (.cells #[.slice T old.length ct] 42)) (W.heap.size + 1) 42 #[.slice T old.length ct] := by simpa using Bk.new (W.alloc (.cells C 29)) 42 #[.slice T old.length ct]
    have hB1 : Below W.heap.size W ((W.alloc (.cells C 29)).alloc (.cells #[.slice T old.length ct] 42)) := by exact (by repeat (first | with_reducible exact Below.refl _ _ | with_reducible assumption | with_reducible refine Below.drew ?_ | with_reducible refine below_drewN ?_ _ | (with_reducible refine Below.alloc ?_ ?_ _; rotate_left; (try simp) <;> omega) | (with_reducible refine Below.setCell ?_ ?_ _; rotate_left; (try simp) <;> omega)))
    have hlk := hKc.lt
    have hlp := hPc.lt
    have x8 := hPc.cell 0 rfl
    cases hN : nextL Y l f ds with
    | nil =>
      have HEE := Lib.hid (HR0.out hN)
      have hnx : nx = -1 := by rw [HNS.out, hN]; rfl
      rw [hnx] at HN1
      clear hN HMN HNS HR0 HR1 HR2 hnx HRL HBT HIH
      go_enter Try.func94, Try.ntmps94
      go_wp2_with (first | (have h9 := hKc; clear h9; refine wpList_load_guard (P := Try.prog) (by rfl) 29 (.tmp 6) rfl W.heap.size 0 rfl C.toList _ (HLOAD.out _ (by exact (by repeat (first | with_reducible assumption | with_reducible exact Bk.new _ _ _ | with_reducible refine Bk.drew ?_ | with_reducible refine Bk.drewN ?_ _ | with_reducible refine Bk.alloc ?_ _ | (with_reducible refine Bk.far ?_ ?_ _; rotate_left; (try simp) <;> omega))))) Try.underlying29 rfl (by rw [HC28.out]; exact info29) ?_) | (go_at_call 120; refine (HN1.out _ hB1).mono ?_; rintro e w2 ⟨rfl, hb2⟩; have hB2 : Below W.heap.size W w2 := hB1.trans (hb2.mono hB1.size); have hKn := Bk.below (by exact (by repeat (first | with_reducible assumption | with_reducible exact Bk.new _ _ _ | with_reducible refine Bk.drew ?_ | with_reducible refine Bk.drewN ?_ _ | with_reducible refine Bk.alloc ?_ _ | (with_reducible refine Bk.far ?_ ?_ _; rotate_left; (try simp) <;> omega)))) hb2 hlk; have hPn := Bk.below (by exact (by repeat (first | with_reducible assumption | with_reducible exact Bk.new _ _ _ | with_reducible refine Bk.drew ?_ | with_reducible refine Bk.drewN ?_ _ | with_reducible refine Bk.alloc ?_ _ | (with_reducible refine Bk.far ?_ ?_ _; rotate_left; (try simp) <;> omega)))) hb2 hlp; clear hKc hPc hb2 hlk hlp x8; have hKc := hKn; have hPc := hPn; clear hKn hPn; have hlk := hKc.lt; have hlp := hPc.lt; have x8 := hPc.cell 0 rfl))
      go_ret2
      rw [HEE.out]
      exact ⟨_, _, rfl, ⟨rfl, rfl⟩, hB2⟩
    | cons x r =>
      have hxm := (HMN.out x).1 (by rw [hN]; exact List.mem_cons_self ..)
      have hx0 : ¬ x < 0 := by omega
      have hxb : -1000 ≤ x ∧ x ≤ 200000 := by omega
      have HHX : Hid ((nextL Y l f ds).head? = some x) := by show _ = _; rw [hN]; rfl
      have hnx : nx = x := by rw [HNS.out, hN]; rfl
      rw [hnx] at HN1
      have HIX := Lib.hid (HIH.out x hxb)
      have HR1 := Lib.hid (HR1.out x HHX.out)
      have HR2 := Lib.hid (fun o => HR2.out x o HHX.out)
      have HLX := Lib.hid (HRL.out x)
      generalize refB Y l f old dn m (ds ++ [x]) = ra at *
      have hxm2 := hxm.1
      clear hN HNS HR0 hnx hxb hxm HHX
      go_enter Try.func94, Try.ntmps94
      go_upto_region 7 with (first | (have h9 := hKc; clear h9; refine wpList_load_guard (P := Try.prog) (by rfl) 29 (.tmp 6) rfl W.heap.size 0 rfl C.toList _ (HLOAD.out _ (by exact (by repeat (first | with_reducible assumption | with_reducible exact Bk.new _ _ _ | with_reducible refine Bk.drew ?_ | with_reducible refine Bk.drewN ?_ _ | with_reducible refine Bk.alloc ?_ _ | (with_reducible refine Bk.far ?_ ?_ _; rotate_left; (try simp) <;> omega))))) Try.underlying29 rfl (by rw [HC28.out]; exact info29) ?_) | (go_at_call 120; refine (HN1.out _ hB1).mono ?_; rintro e w2 ⟨rfl, hb2⟩; have hB2 : Below W.heap.size W w2 := hB1.trans (hb2.mono hB1.size); have hKn := Bk.below (by exact (by repeat (first | with_reducible assumption | with_reducible exact Bk.new _ _ _ | with_reducible refine Bk.drew ?_ | with_reducible refine Bk.drewN ?_ _ | with_reducible refine Bk.alloc ?_ _ | (with_reducible refine Bk.far ?_ ?_ _; rotate_left; (try simp) <;> omega)))) hb2 hlk; have hPn := Bk.below (by exact (by repeat (first | with_reducible assumption | with_reducible exact Bk.new _ _ _ | with_reducible refine Bk.drew ?_ | with_reducible refine Bk.drewN ?_ _ | with_reducible refine Bk.alloc ?_ _ | (with_reducible refine Bk.far ?_ ?_ _; rotate_left; (try simp) <;> omega)))) hb2 hlp; clear hKc hPc hb2 hlk hlp x8; have hKc := hKn; have hPc := hPn; clear hKn hPn; have hlk := hKc.lt; have hlp := hPc.lt; have x8 := hPc.cell 0 rfl))
      go_cut [16, 17] from 18 (fun s16 s17 wx => BestV ra s16 s17 wx ∧ Below w2.heap.size w2 wx)
      case first =>
        clear HN1 HSU HIH HBT HPW HMN HR1 HR2 HLX HRL
        have HS7 : Hid (∀ W', Below w2.heap.size w2 W' → W'.rangeAt W.heap.size 0 C.toList ∧ W'.cell? ⟨W.heap.size + 1, 0, none⟩ = some (.slice T old.length ct)) := fun W' hb => ⟨(hKc.below hb hlk).range, (hPc.below hb hlp).cell 0 rfl⟩
        have HD7 : Hid (∀ W', Below w2.heap.size w2 W' → Lies W' W.heap.size D (ints ds)) := fun W' hb => HDS.out W' (hB2.trans (hb.mono hB2.size))
        have HIX7 := Lib.hid (fun W' A6 c6 (hb : Below w2.heap.size w2 W') => HIX.out W' A6 c6 (hB2.trans (hb.mono hB2.size)))
        have HLN7 : Hid (ds.length + 1 = (ds ++ [x]).length) := by show _ = _; simp
        clear x8 hKc hPc hlk hlp HIX HDS hB2 hB1
        refine wp_region_held_drew (S := (fun w' => w'.rangeAt W.heap.size 0 C.toList ∧ w'.cell? ⟨W.heap.size + 1, 0, none⟩ = some (.slice T old.length ct))) (by kernel_rfl) ?_ (fun hHeld => ?_)
        · exact HS7.out _ (Below.refl _ _).drew
        have hb_w3 : Below w2.heap.size w2 w2.drew := (Below.refl _ _).drew
        have hz_w3 : w2.heap.size ≤ w2.drew.heap.size := hb_w3.size
        generalize w2.drew = w3 at *
        (refine held_row 0 (some 36) 29 (.tmp 6) (W.heap.size) 0 C.toList _ rfl rfl (by kernel_rfl) (by kernel_rfl) (by kernel_rfl) (by rfl) rfl (fun _ _ _ h => h) (by assumption) (fun _ hS => hS.1) Try.underlying29 rfl (by assumption) ?_; (try simp only [Act.put, List.setIfInBounds_toArray, List.set_cons_zero, List.set_cons_succ]))
        refine tk 1 37 ?_
        refine tk 2 38 ?_
        refine tk 4 40 ?_
        refine tk 6 42 ?_
        refine tk 9 45 ?_
        refine tk 10 46 ?_
        refine held_two 3 7 ⟨some 39, .buildSlice 25 0 #[], 25, _, _, none⟩ ⟨some 43, .buildSlice 25 1 #[(0, .tmp 42)], 25, _, _, none⟩ rfl rfl (by kernel_rfl) (by rfl) (by rfl) ?_ ?_
        · unfold Oper.wp
          go_simp
          have hbE : Below w2.heap.size w2 (w3.alloc (.cells #[] 3)) := hb_w3.alloc hz_w3 _
          have owE : (w3.alloc (.cells #[] 3)).ownsRow w2.heap.size 3 1 (.slice (some ⟨w3.heap.size, 0, none⟩) 0 0) 0 [] := World.ownsRow_made w3 #[] 0 hz_w3 (Nat.zero_le _) rfl
          have bnE : w3.heap.size < (w3.alloc (.cells #[] 3)).heap.size := by simp
          refine ⟨HS7.out _ hbE, ?_⟩
          (try simp only [Act.put, List.setIfInBounds_toArray, List.set_cons_zero, List.set_cons_succ])
          generalize w3.alloc (.cells #[] 3) = w4 at *
          have hb_w4 := hbE
          have ow_w4 := owE
          have hz_w4 := hbE.size
          clear hbE owE
          refine held_two 5 7 ⟨some 41, .call { callee := .builtin .append, args := #[.tmp 39, .tmp 40], argTypes := #[25, 25] }, 25, _, _, none⟩ ⟨some 43, .buildSlice 25 1 #[(0, .tmp 42)], 25, _, _, none⟩ rfl rfl (by kernel_rfl) (by rfl) (by rfl) ?_ ?_
          · refine wp_append_lies (.tmp 39) (.tmp 40) 25 rfl w2.heap.size 3 i0 (.int .i64 0) 1 8 Try.underlying25 I3.out.1 I3.out.2.1 I3.out.2.2.1 I3.out.2.2.2 rfl (by decide) (.slice (some ⟨w3.heap.size, 0, none⟩) 0 0) 0 [] rfl ow_w4 W.heap.size D ds.length cd (ints ds) rfl hln.out (HD7.out _ hb_w4) (one_ints _) (by unfold maxLen; omega) (by omega) hz_w4 ?_
            intro v_w5 w5 ow_w5 hg_w5
            have hb_w5 : Below w2.heap.size w2 w5 := below_own hb_w4 ow_w4 hg_w5 (Nat.le_refl _) hz_w4
            have hz_w5 := hb_w5.size
            rw [Nat.zero_add, List.nil_append] at ow_w5
            refine ⟨HS7.out _ hb_w5, ?_⟩
            (try simp only [Act.put, List.setIfInBounds_toArray, List.set_cons_zero, List.set_cons_succ])
            refine held_one 7 ⟨some 43, .buildSlice 25 1 #[(0, .tmp 42)], 25, _, _, none⟩ rfl (by kernel_rfl) (by rfl) ?_
            unfold Oper.wp
            go_simp
            have hbX : Below w2.heap.size w2 (w5.alloc (.cells #[.int .i64 x] 3)) := hb_w5.alloc hz_w5 _
            have bxX : Bk (w5.alloc (.cells #[.int .i64 x] 3)) w5.heap.size 3 #[.int .i64 x] := Bk.new _ _ _
            have owX := ow_w5.alloc (.cells #[.int .i64 x] 3)
            refine ⟨HS7.out _ hbX, ?_⟩
            (try simp only [Act.put, List.setIfInBounds_toArray, List.set_cons_zero, List.set_cons_succ])
            generalize w5.alloc (.cells #[.int .i64 x] 3) = w5b at *
            have hb_w5b := hbX
            have bx_w5b := bxX
            have hz_w5b := hbX.size
            clear hbX bxX
            have ow_w5b := owX
            clear owX
            refine held_one 8 ⟨some 44, .call { callee := .builtin .append, args := #[.tmp 41, .tmp 43], argTypes := #[25, 25] }, 25, _, _, none⟩ rfl (by kernel_rfl) (by rfl) ?_
            refine wp_append_own _ (.tmp 41) (.tmp 43) 25 rfl w2.heap.size 3 i0 (.int .i64 0) 1 8 Try.underlying25 I3.out.1 I3.out.2.1 I3.out.2.2.1 I3.out.2.2.2 rfl (by decide) v_w5 ds.length (ints ds) rfl ow_w5b ⟨w5.heap.size, 0, none⟩ 1 1 [.int .i64 x] rfl rfl (bk_cells bx_w5b) ?_ ?_ ?_ ?_ ?_
            · intro u hu; simp at hu; subst hu; rfl
            · unfold maxLen; omega
            · omega
            · exact hz_w5b
            intro v6 w6 ow6 hg6 _
            have hb_w6 : Below w2.heap.size w2 w6 := below_own hb_w5b ow_w5b hg6 (Nat.le_refl _) hz_w5b
            rw [ints_snoc] at ow6
            obtain ⟨A6, c6, rfl, _, _⟩ := ownsSlice ow6
            have hl6 := ownsRow_lies ow6
            refine ⟨HS7.out _ hb_w6, ?_⟩
            (try simp only [Act.put, List.setIfInBounds_toArray, List.set_cons_zero, List.set_cons_succ])
            rw [HLN7.out]
            (refine held_call 11 (some 47) 94 _ rfl (by kernel_rfl) (by rfl) ?_ ((HIX7.out w6 A6 c6 hb_w6 hl6)) ?_; rotate_left; rotate_left; (simp only [List.getElem?_toArray, List.getElem?_cons_zero, List.getElem?_cons_succ, Option.map_some]; refine congrArg some ?_; go_simp))
            rintro e w7 ⟨v7, k7, rfl, hv7, hb7⟩
            have hb_w7 : Below w2.heap.size w2 w7 := hb_w6.trans (hb7.mono hb_w6.size)
            refine ⟨_, rfl, HS7.out _ hb_w7, fun hHeld => ?_⟩
            (try simp only [Act.put, List.setIfInBounds_toArray, List.set_cons_zero, List.set_cons_succ])
            refine tk 12 35 ?_
            refine tk 13 48 ?_
            refine tk 14 49 ?_
            refine tk 15 16 ?_
            refine tk 16 17 ?_
            refine wpAnyH_done (by kernel_rfl) ?_ _
            go_wp2
            go_meet
            case rel => exact ⟨hv7, hb_w7⟩
          · unfold Oper.wp
            go_simp
            have hbX : Below w2.heap.size w2 (w4.alloc (.cells #[.int .i64 x] 3)) := hb_w4.alloc hz_w4 _
            have bxX : Bk (w4.alloc (.cells #[.int .i64 x] 3)) w4.heap.size 3 #[.int .i64 x] := Bk.new _ _ _
            have owX := ow_w4.alloc (.cells #[.int .i64 x] 3)
            refine ⟨HS7.out _ hbX, ?_⟩
            (try simp only [Act.put, List.setIfInBounds_toArray, List.set_cons_zero, List.set_cons_succ])
            generalize w4.alloc (.cells #[.int .i64 x] 3) = w4b at *
            have hb_w4b := hbX
            have bx_w4b := bxX
            have hz_w4b := hbX.size
            clear hbX bxX
            have ow_w4b := owX
            clear owX
            refine held_one 5 ⟨some 41, .call { callee := .builtin .append, args := #[.tmp 39, .tmp 40], argTypes := #[25, 25] }, 25, _, _, none⟩ rfl (by kernel_rfl) (by rfl) ?_
            refine wp_append_lies (.tmp 39) (.tmp 40) 25 rfl w2.heap.size 3 i0 (.int .i64 0) 1 8 Try.underlying25 I3.out.1 I3.out.2.1 I3.out.2.2.1 I3.out.2.2.2 rfl (by decide) (.slice (some ⟨w3.heap.size, 0, none⟩) 0 0) 0 [] rfl ow_w4b W.heap.size D ds.length cd (ints ds) rfl hln.out (HD7.out _ hb_w4b) (one_ints _) (by unfold maxLen; omega) (by omega) hz_w4b ?_
            intro v_w5 w5 ow_w5 hg_w5
            have hb_w5 : Below w2.heap.size w2 w5 := below_own hb_w4b ow_w4b hg_w5 (Nat.le_refl _) hz_w4b
            have hz_w5 := hb_w5.size
            rw [Nat.zero_add, List.nil_append] at ow_w5
            have bx_w5 := Bk.grown bx_w4b hg_w5 (by simp [Value.ownBlock]; omega)
            refine ⟨HS7.out _ hb_w5, ?_⟩
            (try simp only [Act.put, List.setIfInBounds_toArray, List.set_cons_zero, List.set_cons_succ])
            refine held_one 8 ⟨some 44, .call { callee := .builtin .append, args := #[.tmp 41, .tmp 43], argTypes := #[25, 25] }, 25, _, _, none⟩ rfl (by kernel_rfl) (by rfl) ?_
            refine wp_append_own _ (.tmp 41) (.tmp 43) 25 rfl w2.heap.size 3 i0 (.int .i64 0) 1 8 Try.underlying25 I3.out.1 I3.out.2.1 I3.out.2.2.1 I3.out.2.2.2 rfl (by decide) v_w5 ds.length (ints ds) rfl ow_w5 ⟨w4.heap.size, 0, none⟩ 1 1 [.int .i64 x] rfl rfl (bk_cells bx_w5) ?_ ?_ ?_ ?_ ?_
            · intro u hu; simp at hu; subst hu; rfl
            · unfold maxLen; omega
            · omega
            · exact hz_w5
            intro v6 w6 ow6 hg6 _
            have hb_w6 : Below w2.heap.size w2 w6 := below_own hb_w5 ow_w5 hg6 (Nat.le_refl _) hz_w5
            rw [ints_snoc] at ow6
            obtain ⟨A6, c6, rfl, _, _⟩ := ownsSlice ow6
            have hl6 := ownsRow_lies ow6
            refine ⟨HS7.out _ hb_w6, ?_⟩
            (try simp only [Act.put, List.setIfInBounds_toArray, List.set_cons_zero, List.set_cons_succ])
            rw [HLN7.out]
            (refine held_call 11 (some 47) 94 _ rfl (by kernel_rfl) (by rfl) ?_ ((HIX7.out w6 A6 c6 hb_w6 hl6)) ?_; rotate_left; rotate_left; (simp only [List.getElem?_toArray, List.getElem?_cons_zero, List.getElem?_cons_succ, Option.map_some]; refine congrArg some ?_; go_simp))
            rintro e w7 ⟨v7, k7, rfl, hv7, hb7⟩
            have hb_w7 : Below w2.heap.size w2 w7 := hb_w6.trans (hb7.mono hb_w6.size)
            refine ⟨_, rfl, HS7.out _ hb_w7, fun hHeld => ?_⟩
            (try simp only [Act.put, List.setIfInBounds_toArray, List.set_cons_zero, List.set_cons_succ])
            refine tk 12 35 ?_
            refine tk 13 48 ?_
            refine tk 14 49 ?_
            refine tk 15 16 ?_
            refine tk 16 17 ?_
            refine wpAnyH_done (by kernel_rfl) ?_ _
            go_wp2
            go_meet
            case rel => exact ⟨hv7, hb_w7⟩
        · unfold Oper.wp
          go_simp
          have hbX : Below w2.heap.size w2 (w3.alloc (.cells #[.int .i64 x] 3)) := hb_w3.alloc hz_w3 _
          have bxX : Bk (w3.alloc (.cells #[.int .i64 x] 3)) w3.heap.size 3 #[.int .i64 x] := Bk.new _ _ _
          refine ⟨HS7.out _ hbX, ?_⟩
          (try simp only [Act.put, List.setIfInBounds_toArray, List.set_cons_zero, List.set_cons_succ])
          generalize w3.alloc (.cells #[.int .i64 x] 3) = w4 at *
          have hb_w4 := hbX
          have bx_w4 := bxX
          have hz_w4 := hbX.size
          clear hbX bxX
          refine held_one 3 ⟨some 39, .buildSlice 25 0 #[], 25, _, _, none⟩ rfl (by kernel_rfl) (by rfl) ?_
          unfold Oper.wp
          go_simp
          have hbE : Below w2.heap.size w2 (w4.alloc (.cells #[] 3)) := hb_w4.alloc hz_w4 _
          have owE : (w4.alloc (.cells #[] 3)).ownsRow w2.heap.size 3 1 (.slice (some ⟨w4.heap.size, 0, none⟩) 0 0) 0 [] := World.ownsRow_made w4 #[] 0 hz_w4 (Nat.zero_le _) rfl
          have bnE : w4.heap.size < (w4.alloc (.cells #[] 3)).heap.size := by simp
          have bxE := bx_w4.alloc (.cells #[] 3)
          have neE := bx_w4.lt
          refine ⟨HS7.out _ hbE, ?_⟩
          (try simp only [Act.put, List.setIfInBounds_toArray, List.set_cons_zero, List.set_cons_succ])
          generalize w4.alloc (.cells #[] 3) = w4b at *
          have hb_w4b := hbE
          have ow_w4b := owE
          have hz_w4b := hbE.size
          clear hbE owE
          have bx_w4b := bxE
          clear bxE
          refine held_one 5 ⟨some 41, .call { callee := .builtin .append, args := #[.tmp 39, .tmp 40], argTypes := #[25, 25] }, 25, _, _, none⟩ rfl (by kernel_rfl) (by rfl) ?_
          refine wp_append_lies (.tmp 39) (.tmp 40) 25 rfl w2.heap.size 3 i0 (.int .i64 0) 1 8 Try.underlying25 I3.out.1 I3.out.2.1 I3.out.2.2.1 I3.out.2.2.2 rfl (by decide) (.slice (some ⟨w4.heap.size, 0, none⟩) 0 0) 0 [] rfl ow_w4b W.heap.size D ds.length cd (ints ds) rfl hln.out (HD7.out _ hb_w4b) (one_ints _) (by unfold maxLen; omega) (by omega) hz_w4b ?_
          intro v_w5 w5 ow_w5 hg_w5
          have hb_w5 : Below w2.heap.size w2 w5 := below_own hb_w4b ow_w4b hg_w5 (Nat.le_refl _) hz_w4b
          have hz_w5 := hb_w5.size
          rw [Nat.zero_add, List.nil_append] at ow_w5
          have bx_w5 := Bk.grown bx_w4b hg_w5 (by simp [Value.ownBlock]; omega)
          refine ⟨HS7.out _ hb_w5, ?_⟩
          (try simp only [Act.put, List.setIfInBounds_toArray, List.set_cons_zero, List.set_cons_succ])
          refine held_one 8 ⟨some 44, .call { callee := .builtin .append, args := #[.tmp 41, .tmp 43], argTypes := #[25, 25] }, 25, _, _, none⟩ rfl (by kernel_rfl) (by rfl) ?_
          refine wp_append_own _ (.tmp 41) (.tmp 43) 25 rfl w2.heap.size 3 i0 (.int .i64 0) 1 8 Try.underlying25 I3.out.1 I3.out.2.1 I3.out.2.2.1 I3.out.2.2.2 rfl (by decide) v_w5 ds.length (ints ds) rfl ow_w5 ⟨w3.heap.size, 0, none⟩ 1 1 [.int .i64 x] rfl rfl (bk_cells bx_w5) ?_ ?_ ?_ ?_ ?_
          · intro u hu; simp at hu; subst hu; rfl
          · unfold maxLen; omega
          · omega
          · exact hz_w5
          intro v6 w6 ow6 hg6 _
          have hb_w6 : Below w2.heap.size w2 w6 := below_own hb_w5 ow_w5 hg6 (Nat.le_refl _) hz_w5
          rw [ints_snoc] at ow6
          obtain ⟨A6, c6, rfl, _, _⟩ := ownsSlice ow6
          have hl6 := ownsRow_lies ow6
          refine ⟨HS7.out _ hb_w6, ?_⟩
          (try simp only [Act.put, List.setIfInBounds_toArray, List.set_cons_zero, List.set_cons_succ])
          rw [HLN7.out]
          (refine held_call 11 (some 47) 94 _ rfl (by kernel_rfl) (by rfl) ?_ ((HIX7.out w6 A6 c6 hb_w6 hl6)) ?_; rotate_left; rotate_left; (simp only [List.getElem?_toArray, List.getElem?_cons_zero, List.getElem?_cons_succ, Option.map_some]; refine congrArg some ?_; go_simp))
          rintro e w7 ⟨v7, k7, rfl, hv7, hb7⟩
          have hb_w7 : Below w2.heap.size w2 w7 := hb_w6.trans (hb7.mono hb_w6.size)
          refine ⟨_, rfl, HS7.out _ hb_w7, fun hHeld => ?_⟩
          (try simp only [Act.put, List.setIfInBounds_toArray, List.set_cons_zero, List.set_cons_succ])
          refine tk 12 35 ?_
          refine tk 13 48 ?_
          refine tk 14 49 ?_
          refine tk 15 16 ?_
          refine tk 16 17 ?_
          refine wpAnyH_done (by kernel_rfl) ?_ _
          go_wp2
          go_meet
          case rel => exact ⟨hv7, hb_w7⟩
      case rest =>
      obtain ⟨hva, hbc⟩ := hcut
      obtain ⟨w8, rfl⟩ : ∃ x, x = wc := ⟨_, rfl⟩
      have hBc : Below W.heap.size W w8 := hB2.trans (hbc.mono hB2.size)
      have hKd := hKc.below hbc hlk
      have hPd := hPc.below hbc hlp
      clear hKc hPc hlk hlp x8 HIX HN1
      have hlk := hKd.lt
      have hlp := hPd.lt
      have x8 := hPd.cell 0 rfl
      by_cases h1 : old.length ≤ ds.length
      · have HE := Lib.hid (HR1.out (fun o e => by unfold dayAt at e; rw [List.getElem?_eq_none h1] at e; cases e))
        have h1b : decide ((ds.length : Int) < (old.length : Int)) = false := decide_eq_false (by omega)
        have h1c : decide (ds.length < old.length) = false := decide_eq_false (by omega)
        have h1n : ¬ (ds.length : Int) < (old.length : Int) := by omega
        clear HR1 HR2 h1
        go_upto_region 8 with fail
        have hfw := HFW.out
        refine wp_region_held_drew (S := (fun w' => w'.cell? ⟨W.heap.size + 1, 0, none⟩ = some (.slice T old.length ct))) (by kernel_rfl) ?_ (fun hHeld => ?_)
        · exact x8
        refine tk 0 50 ?_
        refine tk 1 51 ?_
        refine tk 2 52 ?_
        refine tk 3 53 ?_
        refine tk 4 54 ?_
        refine tk 5 55 ?_
        refine sk 6 56 ?_
        refine sk 7 57 ?_
        refine sk 8 58 ?_
        refine sk 9 59 ?_
        refine sk 10 60 ?_
        refine sk 11 61 ?_
        refine sk 12 62 ?_
        refine sk 13 63 ?_
        refine tk 14 64 ?_
        refine tk 15 65 ?_
        refine sk 16 66 ?_
        refine sk 17 67 ?_
        refine sk 18 68 ?_
        refine sk 19 69 ?_
        refine sk 20 70 ?_
        refine sk 21 71 ?_
        refine sk 22 72 ?_
        refine sk 23 73 ?_
        refine sk 24 74 ?_
        refine tk 25 75 ?_
        refine tk 26 76 ?_
        refine sk 27 77 ?_
        refine sk 28 78 ?_
        refine sk 29 79 ?_
        refine sk 30 80 ?_
        refine sk 31 81 ?_
        refine sk 32 82 ?_
        refine sk 33 83 ?_
        refine sk 34 84 ?_
        refine sk 35 85 ?_
        refine sk 36 86 ?_
        refine tk 37 87 ?_
        refine wpAnyH_done (by kernel_rfl) ?_ _
        clear hHeld hfw
        go_wp2
        go_ret2
        rw [HE.out]
        exact ⟨_, _, rfl, hva.below ((Below.refl w8.heap.size w8).drew), hBc.trans (Below.mono ((Below.refl w8.heap.size w8).drew) hBc.size)⟩
      · have hio : ds.length < old.length := by omega
        have hioI : (ds.length : Int) < (old.length : Int) := by omega
        have h1b : decide ((ds.length : Int) < (old.length : Int)) = true := decide_eq_true hioI
        have hda : dayAt old ds.length = some old[ds.length].day := by unfold dayAt; rw [List.getElem?_eq_getElem hio]; rfl
        obtain ⟨aT, rfl, haT, c0, _, _⟩ := turn_at (HPW.out w8 hBc) hio
        have HC0 : Hid (∀ W', Below w8.heap.size w8 W' → W'.cell? (aT.add (ds.length * 3)) = some (.int .i64 old[ds.length].day)) := fun W' hb => (hb.cell (by rw [add_block]; exact haT)).trans c0
        generalize old[ds.length].day = o at *
        have HDA := Lib.hid hda
        clear hda
        by_cases h2 : x < o
        · have h2b : decide (x < o) = true := decide_eq_true h2
          by_cases h3 : o < f + 400
          · have h3b : decide (o < f + 400) = true := decide_eq_true h3
            have HS9 : Hid (∀ W', Below w8.heap.size w8 W' → W'.rangeAt W.heap.size 0 C.toList ∧ W'.cell? ⟨W.heap.size + 1, 0, none⟩ = some (.slice (some aT) old.length ct) ∧ W'.cell? (aT.add (ds.length * 3)) = some (.int .i64 o)) := fun W' hb => ⟨(hKd.below hb hlk).range, (hPd.below hb hlp).cell 0 rfl, HC0.out W' hb⟩
            cases hsb : SB o with
            | false =>
              have HE := Lib.hid (HR1.out (fun o' e => by
                rw [HDA.out] at e
                cases e
                intro h
                have := ((HMN.out o).1 h.2).2.2
                rw [hsb] at this; cases this))
              have HSB := Lib.hid hsb
              clear HR1 HR2 hsb
              go_upto_region 8 with fail
              have hfw := HFW.out
              refine wp_region_held_drew (S := (fun w' => w'.rangeAt W.heap.size 0 C.toList ∧ w'.cell? ⟨W.heap.size + 1, 0, none⟩ = some (.slice (some aT) old.length ct) ∧ w'.cell? (aT.add (ds.length * 3)) = some (.int .i64 o))) (by kernel_rfl) ?_ (fun hHeld => ?_)
              · exact HS9.out _ (Below.refl _ _).drew
              refine tk 0 50 ?_
              refine tk 1 51 ?_
              refine tk 2 52 ?_
              refine tk 3 53 ?_
              refine tk 4 54 ?_
              refine tk 5 55 ?_
              refine tk 6 56 ?_
              refine tk 7 57 ?_
              refine tk 8 58 ?_
              refine tk 9 59 ?_
              refine tk 10 60 ?_
              refine tk 11 61 ?_
              refine tk 12 62 ?_
              refine tk 13 63 ?_
              refine tk 14 64 ?_
              refine tk 15 65 ?_
              refine tk 16 66 ?_
              refine tk 17 67 ?_
              refine tk 18 68 ?_
              refine tk 19 69 ?_
              refine tk 20 70 ?_
              refine tk 21 71 ?_
              refine tk 22 72 ?_
              refine tk 23 73 ?_
              refine tk 24 74 ?_
              refine tk 25 75 ?_
              refine tk 26 76 ?_
              (refine held_row 27 (some 77) 29 (.tmp 6) (W.heap.size) 0 C.toList _ rfl rfl (by kernel_rfl) (by kernel_rfl) (by kernel_rfl) (by rfl) rfl (fun _ _ _ h => h) (by assumption) (fun _ hS => hS.1) Try.underlying29 rfl (by assumption) ?_; (try simp only [Act.put, List.setIfInBounds_toArray, List.set_cons_zero, List.set_cons_succ]))
              refine tk 28 78 ?_
              refine tk 29 79 ?_
              refine tk 30 80 ?_
              refine tk 31 81 ?_
              refine tk 32 82 ?_
              refine tk 33 83 ?_
              refine tk 34 84 ?_
              refine tk 35 85 ?_
              (refine held_call 36 (some 86) 93 _ rfl (by kernel_rfl) (by rfl) ?_ ((HSU.out _ (by exact (by repeat (first | with_reducible exact Below.refl _ _ | with_reducible assumption | with_reducible refine Below.drew ?_ | with_reducible refine below_drewN ?_ _ | (with_reducible refine Below.alloc ?_ ?_ _; rotate_left; (try simp) <;> omega) | (with_reducible refine Below.setCell ?_ ?_ _; rotate_left; (try simp) <;> omega)))) o)) ?_; rotate_left; rotate_left; (simp only [List.getElem?_toArray, List.getElem?_cons_zero, List.getElem?_cons_succ, Option.map_some]; refine congrArg some ?_; go_simp))
              rintro e w9 ⟨rfl, hb9⟩
              rw [HSB.out]
              have hb_w9 : Below w8.heap.size w8 w9 := Below.trans (by exact (by repeat (first | with_reducible exact Below.refl _ _ | with_reducible assumption | with_reducible refine Below.drew ?_ | with_reducible refine below_drewN ?_ _ | (with_reducible refine Below.alloc ?_ ?_ _; rotate_left; (try simp) <;> omega) | (with_reducible refine Below.setCell ?_ ?_ _; rotate_left; (try simp) <;> omega)))) (hb9.mono (by first | exact Nat.le_refl _ | simp))
              refine ⟨_, rfl, HS9.out _ hb_w9, fun hHeld => ?_⟩
              (try simp only [Act.put, List.setIfInBounds_toArray, List.set_cons_zero, List.set_cons_succ])
              refine tk 37 87 ?_
              refine wpAnyH_done (by kernel_rfl) ?_ _
              clear hHeld hfw
              go_wp2
              go_ret2
              rw [HE.out]
              exact ⟨_, _, rfl, hva.below (hb_w9), hBc.trans (Below.mono (hb_w9) hBc.size)⟩
            | true =>
              have HE := Lib.hid (HR2.out o HDA.out ⟨h2, (HMN.out o).2 ⟨by omega, h3, hsb⟩⟩)
              have HSB := Lib.hid hsb
              have HIO := Lib.hid (HIH.out o (by omega))
              have HLO := Lib.hid (HRL.out o)
              generalize refB Y l f old dn m (ds ++ [o]) = rb at *
              clear HR1 HR2 hsb HIH HRL
              go_upto_region 8 with fail
              have hfw := HFW.out
              refine wp_region_held_drew (S := (fun w' => w'.rangeAt W.heap.size 0 C.toList ∧ w'.cell? ⟨W.heap.size + 1, 0, none⟩ = some (.slice (some aT) old.length ct) ∧ w'.cell? (aT.add (ds.length * 3)) = some (.int .i64 o))) (by kernel_rfl) ?_ (fun hHeld => ?_)
              · exact HS9.out _ (Below.refl _ _).drew
              refine tk 0 50 ?_
              refine tk 1 51 ?_
              refine tk 2 52 ?_
              refine tk 3 53 ?_
              refine tk 4 54 ?_
              refine tk 5 55 ?_
              refine tk 6 56 ?_
              refine tk 7 57 ?_
              refine tk 8 58 ?_
              refine tk 9 59 ?_
              refine tk 10 60 ?_
              refine tk 11 61 ?_
              refine tk 12 62 ?_
              refine tk 13 63 ?_
              refine tk 14 64 ?_
              refine tk 15 65 ?_
              refine tk 16 66 ?_
              refine tk 17 67 ?_
              refine tk 18 68 ?_
              refine tk 19 69 ?_
              refine tk 20 70 ?_
              refine tk 21 71 ?_
              refine tk 22 72 ?_
              refine tk 23 73 ?_
              refine tk 24 74 ?_
              refine tk 25 75 ?_
              refine tk 26 76 ?_
              (refine held_row 27 (some 77) 29 (.tmp 6) (W.heap.size) 0 C.toList _ rfl rfl (by kernel_rfl) (by kernel_rfl) (by kernel_rfl) (by rfl) rfl (fun _ _ _ h => h) (by assumption) (fun _ hS => hS.1) Try.underlying29 rfl (by assumption) ?_; (try simp only [Act.put, List.setIfInBounds_toArray, List.set_cons_zero, List.set_cons_succ]))
              refine tk 28 78 ?_
              refine tk 29 79 ?_
              refine tk 30 80 ?_
              refine tk 31 81 ?_
              refine tk 32 82 ?_
              refine tk 33 83 ?_
              refine tk 34 84 ?_
              refine tk 35 85 ?_
              (refine held_call 36 (some 86) 93 _ rfl (by kernel_rfl) (by rfl) ?_ ((HSU.out _ (by exact (by repeat (first | with_reducible exact Below.refl _ _ | with_reducible assumption | with_reducible refine Below.drew ?_ | with_reducible refine below_drewN ?_ _ | (with_reducible refine Below.alloc ?_ ?_ _; rotate_left; (try simp) <;> omega) | (with_reducible refine Below.setCell ?_ ?_ _; rotate_left; (try simp) <;> omega)))) o)) ?_; rotate_left; rotate_left; (simp only [List.getElem?_toArray, List.getElem?_cons_zero, List.getElem?_cons_succ, Option.map_some]; refine congrArg some ?_; go_simp))
              rintro e w9 ⟨rfl, hb9⟩
              rw [HSB.out]
              have hb_w9 : Below w8.heap.size w8 w9 := Below.trans (by exact (by repeat (first | with_reducible exact Below.refl _ _ | with_reducible assumption | with_reducible refine Below.drew ?_ | with_reducible refine below_drewN ?_ _ | (with_reducible refine Below.alloc ?_ ?_ _; rotate_left; (try simp) <;> omega) | (with_reducible refine Below.setCell ?_ ?_ _; rotate_left; (try simp) <;> omega)))) (hb9.mono (by first | exact Nat.le_refl _ | simp))
              refine ⟨_, rfl, HS9.out _ hb_w9, fun hHeld => ?_⟩
              (try simp only [Act.put, List.setIfInBounds_toArray, List.set_cons_zero, List.set_cons_succ])
              refine tk 37 87 ?_
              refine wpAnyH_done (by kernel_rfl) ?_ _
              clear hHeld hfw
              go_upto_region 9 with fail
              go_cut [18, 19] from 20 (fun s18 s19 wx => BestV rb s18 s19 wx ∧ Below w8.heap.size w8 wx)
              case first =>
                have HD9 : Hid (∀ W', Below w8.heap.size w8 W' → Lies W' W.heap.size D (ints ds)) := fun W' hb => HDS.out W' (hBc.trans (hb.mono hBc.size))
                have HIO9 := Lib.hid (fun W' A6 c6 (hb : Below w8.heap.size w8 W') => HIO.out W' A6 c6 (hBc.trans (hb.mono hBc.size)))
                have HLN9 : Hid (ds.length + 1 = (ds ++ [o]).length) := by show _ = _; simp
                clear HSU HBT HPW HMN HDS HIO hva hKd hPd hlk hlp x8 c0 HC0 HE hBc hb9
                refine wp_region_held_drew (S := (fun w' => w'.rangeAt W.heap.size 0 C.toList ∧ w'.cell? ⟨W.heap.size + 1, 0, none⟩ = some (.slice (some aT) old.length ct) ∧ w'.cell? (aT.add (ds.length * 3)) = some (.int .i64 o))) (by kernel_rfl) ?_ (fun hHeld => ?_)
                · exact HS9.out _ hb_w9.drew
                have hb_w3 : Below w8.heap.size w8 w9.drew := hb_w9.drew
                have hz_w3 : w8.heap.size ≤ w9.drew.heap.size := hb_w3.size
                clear hb_w9
                generalize w9.drew = w3 at *
                (refine held_row 0 (some 89) 29 (.tmp 6) (W.heap.size) 0 C.toList _ rfl rfl (by kernel_rfl) (by kernel_rfl) (by kernel_rfl) (by rfl) rfl (fun _ _ _ h => h) (by assumption) (fun _ hS => hS.1) Try.underlying29 rfl (by assumption) ?_; (try simp only [Act.put, List.setIfInBounds_toArray, List.set_cons_zero, List.set_cons_succ]))
                refine tk 1 90 ?_
                refine tk 2 91 ?_
                refine tk 4 93 ?_
                refine tk 6 95 ?_
                refine tk 7 96 ?_
                refine tk 8 97 ?_
                refine tk 9 98 ?_
                refine tk 10 99 ?_
                refine tk 11 100 ?_
                refine tk 14 103 ?_
                refine tk 15 104 ?_
                refine held_two 3 12 ⟨some 92, .buildSlice 25 0 #[], 25, _, _, none⟩ ⟨some 101, .buildSlice 25 1 #[(0, .tmp 100)], 25, _, _, none⟩ rfl rfl (by kernel_rfl) (by rfl) (by rfl) ?_ ?_
                · unfold Oper.wp
                  go_simp
                  have hbE : Below w8.heap.size w8 (w3.alloc (.cells #[] 3)) := hb_w3.alloc hz_w3 _
                  have owE : (w3.alloc (.cells #[] 3)).ownsRow w8.heap.size 3 1 (.slice (some ⟨w3.heap.size, 0, none⟩) 0 0) 0 [] := World.ownsRow_made w3 #[] 0 hz_w3 (Nat.zero_le _) rfl
                  have bnE : w3.heap.size < (w3.alloc (.cells #[] 3)).heap.size := by simp
                  refine ⟨HS9.out _ hbE, ?_⟩
                  (try simp only [Act.put, List.setIfInBounds_toArray, List.set_cons_zero, List.set_cons_succ])
                  generalize w3.alloc (.cells #[] 3) = w4 at *
                  have hb_w4 := hbE
                  have ow_w4 := owE
                  have hz_w4 := hbE.size
                  clear hbE owE
                  refine held_two 5 12 ⟨some 94, .call { callee := .builtin .append, args := #[.tmp 92, .tmp 93], argTypes := #[25, 25] }, 25, _, _, none⟩ ⟨some 101, .buildSlice 25 1 #[(0, .tmp 100)], 25, _, _, none⟩ rfl rfl (by kernel_rfl) (by rfl) (by rfl) ?_ ?_
                  · refine wp_append_lies (.tmp 92) (.tmp 93) 25 rfl w8.heap.size 3 i0 (.int .i64 0) 1 8 Try.underlying25 I3.out.1 I3.out.2.1 I3.out.2.2.1 I3.out.2.2.2 rfl (by decide) (.slice (some ⟨w3.heap.size, 0, none⟩) 0 0) 0 [] rfl ow_w4 W.heap.size D ds.length cd (ints ds) rfl hln.out (HD9.out _ hb_w4) (one_ints _) (by unfold maxLen; omega) (by omega) hz_w4 ?_
                    intro v_w5 w5 ow_w5 hg_w5
                    have hb_w5 : Below w8.heap.size w8 w5 := below_own hb_w4 ow_w4 hg_w5 (Nat.le_refl _) hz_w4
                    have hz_w5 := hb_w5.size
                    rw [Nat.zero_add, List.nil_append] at ow_w5
                    refine ⟨HS9.out _ hb_w5, ?_⟩
                    (try simp only [Act.put, List.setIfInBounds_toArray, List.set_cons_zero, List.set_cons_succ])
                    refine held_one 12 ⟨some 101, .buildSlice 25 1 #[(0, .tmp 100)], 25, _, _, none⟩ rfl (by kernel_rfl) (by rfl) ?_
                    unfold Oper.wp
                    go_simp
                    have hbX : Below w8.heap.size w8 (w5.alloc (.cells #[.int .i64 o] 3)) := hb_w5.alloc hz_w5 _
                    have bxX : Bk (w5.alloc (.cells #[.int .i64 o] 3)) w5.heap.size 3 #[.int .i64 o] := Bk.new _ _ _
                    have owX := ow_w5.alloc (.cells #[.int .i64 o] 3)
                    refine ⟨HS9.out _ hbX, ?_⟩
                    (try simp only [Act.put, List.setIfInBounds_toArray, List.set_cons_zero, List.set_cons_succ])
                    generalize w5.alloc (.cells #[.int .i64 o] 3) = w5b at *
                    have hb_w5b := hbX
                    have bx_w5b := bxX
                    have hz_w5b := hbX.size
                    clear hbX bxX
                    have ow_w5b := owX
                    clear owX
                    refine held_one 13 ⟨some 102, .call { callee := .builtin .append, args := #[.tmp 94, .tmp 101], argTypes := #[25, 25] }, 25, _, _, none⟩ rfl (by kernel_rfl) (by rfl) ?_
                    refine wp_append_own _ (.tmp 94) (.tmp 101) 25 rfl w8.heap.size 3 i0 (.int .i64 0) 1 8 Try.underlying25 I3.out.1 I3.out.2.1 I3.out.2.2.1 I3.out.2.2.2 rfl (by decide) v_w5 ds.length (ints ds) rfl ow_w5b ⟨w5.heap.size, 0, none⟩ 1 1 [.int .i64 o] rfl rfl (bk_cells bx_w5b) ?_ ?_ ?_ ?_ ?_
                    · intro u hu; simp at hu; subst hu; rfl
                    · unfold maxLen; omega
                    · omega
                    · exact hz_w5b
                    intro v6 w6 ow6 hg6 _
                    have hb_w6 : Below w8.heap.size w8 w6 := below_own hb_w5b ow_w5b hg6 (Nat.le_refl _) hz_w5b
                    rw [ints_snoc] at ow6
                    obtain ⟨A6, c6, rfl, _, _⟩ := ownsSlice ow6
                    have hl6 := ownsRow_lies ow6
                    refine ⟨HS9.out _ hb_w6, ?_⟩
                    (try simp only [Act.put, List.setIfInBounds_toArray, List.set_cons_zero, List.set_cons_succ])
                    rw [HLN9.out]
                    (refine held_call 16 (some 105) 94 _ rfl (by kernel_rfl) (by rfl) ?_ ((HIO9.out w6 A6 c6 hb_w6 hl6)) ?_; rotate_left; rotate_left; (simp only [List.getElem?_toArray, List.getElem?_cons_zero, List.getElem?_cons_succ, Option.map_some]; refine congrArg some ?_; go_simp))
                    rintro e w7 ⟨v7, k7, rfl, hv7, hb7⟩
                    have hb_w7 : Below w8.heap.size w8 w7 := hb_w6.trans (hb7.mono hb_w6.size)
                    refine ⟨_, rfl, HS9.out _ hb_w7, fun hHeld => ?_⟩
                    (try simp only [Act.put, List.setIfInBounds_toArray, List.set_cons_zero, List.set_cons_succ])
                    refine tk 17 88 ?_
                    refine tk 18 106 ?_
                    refine tk 19 107 ?_
                    refine tk 20 18 ?_
                    refine tk 21 19 ?_
                    refine wpAnyH_done (by kernel_rfl) ?_ _
                    go_wp2
                    go_meet
                    case rel => exact ⟨hv7, hb_w7⟩
                  · unfold Oper.wp
                    go_simp
                    have hbX : Below w8.heap.size w8 (w4.alloc (.cells #[.int .i64 o] 3)) := hb_w4.alloc hz_w4 _
                    have bxX : Bk (w4.alloc (.cells #[.int .i64 o] 3)) w4.heap.size 3 #[.int .i64 o] := Bk.new _ _ _
                    have owX := ow_w4.alloc (.cells #[.int .i64 o] 3)
                    refine ⟨HS9.out _ hbX, ?_⟩
                    (try simp only [Act.put, List.setIfInBounds_toArray, List.set_cons_zero, List.set_cons_succ])
                    generalize w4.alloc (.cells #[.int .i64 o] 3) = w4b at *
                    have hb_w4b := hbX
                    have bx_w4b := bxX
                    have hz_w4b := hbX.size
                    clear hbX bxX
                    have ow_w4b := owX
                    clear owX
                    refine held_one 5 ⟨some 94, .call { callee := .builtin .append, args := #[.tmp 92, .tmp 93], argTypes := #[25, 25] }, 25, _, _, none⟩ rfl (by kernel_rfl) (by rfl) ?_
                    refine wp_append_lies (.tmp 92) (.tmp 93) 25 rfl w8.heap.size 3 i0 (.int .i64 0) 1 8 Try.underlying25 I3.out.1 I3.out.2.1 I3.out.2.2.1 I3.out.2.2.2 rfl (by decide) (.slice (some ⟨w3.heap.size, 0, none⟩) 0 0) 0 [] rfl ow_w4b W.heap.size D ds.length cd (ints ds) rfl hln.out (HD9.out _ hb_w4b) (one_ints _) (by unfold maxLen; omega) (by omega) hz_w4b ?_
                    intro v_w5 w5 ow_w5 hg_w5
                    have hb_w5 : Below w8.heap.size w8 w5 := below_own hb_w4b ow_w4b hg_w5 (Nat.le_refl _) hz_w4b
                    have hz_w5 := hb_w5.size
                    rw [Nat.zero_add, List.nil_append] at ow_w5
                    have bx_w5 := Bk.grown bx_w4b hg_w5 (by simp [Value.ownBlock]; omega)
                    refine ⟨HS9.out _ hb_w5, ?_⟩
                    (try simp only [Act.put, List.setIfInBounds_toArray, List.set_cons_zero, List.set_cons_succ])
                    refine held_one 13 ⟨some 102, .call { callee := .builtin .append, args := #[.tmp 94, .tmp 101], argTypes := #[25, 25] }, 25, _, _, none⟩ rfl (by kernel_rfl) (by rfl) ?_
                    refine wp_append_own _ (.tmp 94) (.tmp 101) 25 rfl w8.heap.size 3 i0 (.int .i64 0) 1 8 Try.underlying25 I3.out.1 I3.out.2.1 I3.out.2.2.1 I3.out.2.2.2 rfl (by decide) v_w5 ds.length (ints ds) rfl ow_w5 ⟨w4.heap.size, 0, none⟩ 1 1 [.int .i64 o] rfl rfl (bk_cells bx_w5) ?_ ?_ ?_ ?_ ?_
                    · intro u hu; simp at hu; subst hu; rfl
                    · unfold maxLen; omega
                    · omega
                    · exact hz_w5
                    intro v6 w6 ow6 hg6 _
                    have hb_w6 : Below w8.heap.size w8 w6 := below_own hb_w5 ow_w5 hg6 (Nat.le_refl _) hz_w5
                    rw [ints_snoc] at ow6
                    obtain ⟨A6, c6, rfl, _, _⟩ := ownsSlice ow6
                    have hl6 := ownsRow_lies ow6
                    refine ⟨HS9.out _ hb_w6, ?_⟩
                    (try simp only [Act.put, List.setIfInBounds_toArray, List.set_cons_zero, List.set_cons_succ])
                    rw [HLN9.out]
                    (refine held_call 16 (some 105) 94 _ rfl (by kernel_rfl) (by rfl) ?_ ((HIO9.out w6 A6 c6 hb_w6 hl6)) ?_; rotate_left; rotate_left; (simp only [List.getElem?_toArray, List.getElem?_cons_zero, List.getElem?_cons_succ, Option.map_some]; refine congrArg some ?_; go_simp))
                    rintro e w7 ⟨v7, k7, rfl, hv7, hb7⟩
                    have hb_w7 : Below w8.heap.size w8 w7 := hb_w6.trans (hb7.mono hb_w6.size)
                    refine ⟨_, rfl, HS9.out _ hb_w7, fun hHeld => ?_⟩
                    (try simp only [Act.put, List.setIfInBounds_toArray, List.set_cons_zero, List.set_cons_succ])
                    refine tk 17 88 ?_
                    refine tk 18 106 ?_
                    refine tk 19 107 ?_
                    refine tk 20 18 ?_
                    refine tk 21 19 ?_
                    refine wpAnyH_done (by kernel_rfl) ?_ _
                    go_wp2
                    go_meet
                    case rel => exact ⟨hv7, hb_w7⟩
                · unfold Oper.wp
                  go_simp
                  have hbX : Below w8.heap.size w8 (w3.alloc (.cells #[.int .i64 o] 3)) := hb_w3.alloc hz_w3 _
                  have bxX : Bk (w3.alloc (.cells #[.int .i64 o] 3)) w3.heap.size 3 #[.int .i64 o] := Bk.new _ _ _
                  refine ⟨HS9.out _ hbX, ?_⟩
                  (try simp only [Act.put, List.setIfInBounds_toArray, List.set_cons_zero, List.set_cons_succ])
                  generalize w3.alloc (.cells #[.int .i64 o] 3) = w4 at *
                  have hb_w4 := hbX
                  have bx_w4 := bxX
                  have hz_w4 := hbX.size
                  clear hbX bxX
                  refine held_one 3 ⟨some 92, .buildSlice 25 0 #[], 25, _, _, none⟩ rfl (by kernel_rfl) (by rfl) ?_
                  unfold Oper.wp
                  go_simp
                  have hbE : Below w8.heap.size w8 (w4.alloc (.cells #[] 3)) := hb_w4.alloc hz_w4 _
                  have owE : (w4.alloc (.cells #[] 3)).ownsRow w8.heap.size 3 1 (.slice (some ⟨w4.heap.size, 0, none⟩) 0 0) 0 [] := World.ownsRow_made w4 #[] 0 hz_w4 (Nat.zero_le _) rfl
                  have bnE : w4.heap.size < (w4.alloc (.cells #[] 3)).heap.size := by simp
                  have bxE := bx_w4.alloc (.cells #[] 3)
                  have neE := bx_w4.lt
                  refine ⟨HS9.out _ hbE, ?_⟩
                  (try simp only [Act.put, List.setIfInBounds_toArray, List.set_cons_zero, List.set_cons_succ])
                  generalize w4.alloc (.cells #[] 3) = w4b at *
                  have hb_w4b := hbE
                  have ow_w4b := owE
                  have hz_w4b := hbE.size
                  clear hbE owE
                  have bx_w4b := bxE
                  clear bxE
                  refine held_one 5 ⟨some 94, .call { callee := .builtin .append, args := #[.tmp 92, .tmp 93], argTypes := #[25, 25] }, 25, _, _, none⟩ rfl (by kernel_rfl) (by rfl) ?_
                  refine wp_append_lies (.tmp 92) (.tmp 93) 25 rfl w8.heap.size 3 i0 (.int .i64 0) 1 8 Try.underlying25 I3.out.1 I3.out.2.1 I3.out.2.2.1 I3.out.2.2.2 rfl (by decide) (.slice (some ⟨w4.heap.size, 0, none⟩) 0 0) 0 [] rfl ow_w4b W.heap.size D ds.length cd (ints ds) rfl hln.out (HD9.out _ hb_w4b) (one_ints _) (by unfold maxLen; omega) (by omega) hz_w4b ?_
                  intro v_w5 w5 ow_w5 hg_w5
                  have hb_w5 : Below w8.heap.size w8 w5 := below_own hb_w4b ow_w4b hg_w5 (Nat.le_refl _) hz_w4b
                  have hz_w5 := hb_w5.size
                  rw [Nat.zero_add, List.nil_append] at ow_w5
                  have bx_w5 := Bk.grown bx_w4b hg_w5 (by simp [Value.ownBlock]; omega)
                  refine ⟨HS9.out _ hb_w5, ?_⟩
                  (try simp only [Act.put, List.setIfInBounds_toArray, List.set_cons_zero, List.set_cons_succ])
                  refine held_one 13 ⟨some 102, .call { callee := .builtin .append, args := #[.tmp 94, .tmp 101], argTypes := #[25, 25] }, 25, _, _, none⟩ rfl (by kernel_rfl) (by rfl) ?_
                  refine wp_append_own _ (.tmp 94) (.tmp 101) 25 rfl w8.heap.size 3 i0 (.int .i64 0) 1 8 Try.underlying25 I3.out.1 I3.out.2.1 I3.out.2.2.1 I3.out.2.2.2 rfl (by decide) v_w5 ds.length (ints ds) rfl ow_w5 ⟨w3.heap.size, 0, none⟩ 1 1 [.int .i64 o] rfl rfl (bk_cells bx_w5) ?_ ?_ ?_ ?_ ?_
                  · intro u hu; simp at hu; subst hu; rfl
                  · unfold maxLen; omega
                  · omega
                  · exact hz_w5
                  intro v6 w6 ow6 hg6 _
                  have hb_w6 : Below w8.heap.size w8 w6 := below_own hb_w5 ow_w5 hg6 (Nat.le_refl _) hz_w5
                  rw [ints_snoc] at ow6
                  obtain ⟨A6, c6, rfl, _, _⟩ := ownsSlice ow6
                  have hl6 := ownsRow_lies ow6
                  refine ⟨HS9.out _ hb_w6, ?_⟩
                  (try simp only [Act.put, List.setIfInBounds_toArray, List.set_cons_zero, List.set_cons_succ])
                  rw [HLN9.out]
                  (refine held_call 16 (some 105) 94 _ rfl (by kernel_rfl) (by rfl) ?_ ((HIO9.out w6 A6 c6 hb_w6 hl6)) ?_; rotate_left; rotate_left; (simp only [List.getElem?_toArray, List.getElem?_cons_zero, List.getElem?_cons_succ, Option.map_some]; refine congrArg some ?_; go_simp))
                  rintro e w7 ⟨v7, k7, rfl, hv7, hb7⟩
                  have hb_w7 : Below w8.heap.size w8 w7 := hb_w6.trans (hb7.mono hb_w6.size)
                  refine ⟨_, rfl, HS9.out _ hb_w7, fun hHeld => ?_⟩
                  (try simp only [Act.put, List.setIfInBounds_toArray, List.set_cons_zero, List.set_cons_succ])
                  refine tk 17 88 ?_
                  refine tk 18 106 ?_
                  refine tk 19 107 ?_
                  refine tk 20 18 ?_
                  refine tk 21 19 ?_
                  refine wpAnyH_done (by kernel_rfl) ?_ _
                  go_wp2
                  go_meet
                  case rel => exact ⟨hv7, hb_w7⟩
              case rest =>
              obtain ⟨hvb, hbd⟩ := hcut
              obtain ⟨wd, rfl⟩ : ∃ x, x = wc := ⟨_, rfl⟩
              have hBd : Below W.heap.size W wd := hBc.trans (hbd.mono hBc.size)
              have hva2 := hva.below hbd
              have x9 := (hPd.below hbd hlp).cell 0 rfl
              clear hva x8 c0 HC0 hKd HS9
              cases hrb : rb with
              | none =>
                rw [hrb] at hvb HE
                obtain ⟨rfl, rfl⟩ := hvb
                go_wp2
                go_ret2
                rw [HE.out]
                exact ⟨_, _, rfl, hva2, hBd⟩
              | some b =>
                rw [hrb] at hvb HE
                obtain ⟨A8, c8, rfl, rfl, hlb8⟩ := hvb
                have hbl := HLO.out b hrb
                cases hra : ra with
                | none =>
                  rw [hra] at hva2 HE
                  obtain ⟨rfl, rfl⟩ := hva2
                  clear hbl
                  go_wp2
                  go_ret2
                  rw [HE.out]
                  exact ⟨_, _, rfl, ⟨A8, c8, rfl, rfl, hlb8⟩, hBd⟩
                | some a =>
                  rw [hra] at hva2 HE
                  obtain ⟨A7, c7, rfl, rfl, hla7⟩ := hva2
                  have hal := HLX.out a hra
                  have HBB := Lib.hid (HBT.out b a hbl hal wd A8 A7 c8 c7 hBd hlb8 hla7)
                  have HL7 := Lib.hid hla7
                  have HL8 := Lib.hid hlb8
                  clear hbl hal hla7 hlb8 HLX HLO hra hrb HBT
                  cases hlex : lexB (key3 old dn b) (key3 old dn a) with
                  | false =>
                    rw [hlex] at HBB
                    have HE2 : Hid (RR = some a) := by show _ = _; rw [HE.out]; dsimp only; rw [hlex]; rfl
                    clear hlex HE
                    go_wp2_with (go_at_call 123; refine HBB.out.mono ?_; rintro e w10 ⟨rfl, hb10⟩)
                    go_ret2
                    rw [HE2.out]
                    exact ⟨_, _, rfl, ⟨A7, c7, rfl, rfl, (HL7.out.below hb10 (Nat.le_refl _)).more hb10.size⟩, hBd.trans (hb10.mono hBd.size)⟩
                  | true =>
                    rw [hlex] at HBB
                    have HE2 : Hid (RR = some b) := by show _ = _; rw [HE.out]; dsimp only; rw [if_pos hlex]
                    clear hlex HE
                    go_wp2_with (go_at_call 123; refine HBB.out.mono ?_; rintro e w10 ⟨rfl, hb10⟩)
                    go_ret2
                    rw [HE2.out]
                    exact ⟨_, _, rfl, ⟨A8, c8, rfl, rfl, (HL8.out.below hb10 (Nat.le_refl _)).more hb10.size⟩, hBd.trans (hb10.mono hBd.size)⟩
          · have h3b : decide (o < f + 400) = false := decide_eq_false h3
            have h3n : ¬ o < f + 400 := h3
            have HE := Lib.hid (HR1.out (fun o' e => by
              rw [HDA.out] at e
              cases e
              intro h
              exact h3 ((HMN.out o).1 h.2).2.1))
            clear HR1 HR2
            go_upto_region 8 with fail
            have hfw := HFW.out
            refine wp_region_held_drew (S := (fun w' => w'.cell? ⟨W.heap.size + 1, 0, none⟩ = some (.slice (some aT) old.length ct) ∧ w'.cell? (aT.add (ds.length * 3)) = some (.int .i64 o))) (by kernel_rfl) ?_ (fun hHeld => ?_)
            · exact ⟨x8, c0⟩
            refine tk 0 50 ?_
            refine tk 1 51 ?_
            refine tk 2 52 ?_
            refine tk 3 53 ?_
            refine tk 4 54 ?_
            refine tk 5 55 ?_
            refine tk 6 56 ?_
            refine tk 7 57 ?_
            refine tk 8 58 ?_
            refine tk 9 59 ?_
            refine tk 10 60 ?_
            refine tk 11 61 ?_
            refine tk 12 62 ?_
            refine tk 13 63 ?_
            refine tk 14 64 ?_
            refine tk 15 65 ?_
            refine tk 16 66 ?_
            refine tk 17 67 ?_
            refine tk 18 68 ?_
            refine tk 19 69 ?_
            refine tk 20 70 ?_
            refine tk 21 71 ?_
            refine tk 22 72 ?_
            refine tk 23 73 ?_
            refine tk 24 74 ?_
            refine tk 25 75 ?_
            refine tk 26 76 ?_
            refine sk 27 77 ?_
            refine sk 28 78 ?_
            refine sk 29 79 ?_
            refine sk 30 80 ?_
            refine sk 31 81 ?_
            refine sk 32 82 ?_
            refine sk 33 83 ?_
            refine sk 34 84 ?_
            refine sk 35 85 ?_
            refine sk 36 86 ?_
            refine tk 37 87 ?_
            refine wpAnyH_done (by kernel_rfl) ?_ _
            clear hHeld hfw
            go_wp2
            go_ret2
            rw [HE.out]
            exact ⟨_, _, rfl, hva.below ((Below.refl w8.heap.size w8).drew), hBc.trans (Below.mono ((Below.refl w8.heap.size w8).drew) hBc.size)⟩
        · have h2b : decide (x < o) = false := decide_eq_false h2
          have HE := Lib.hid (HR1.out (fun o' e => by
            rw [HDA.out] at e
            cases e
            exact fun h => h2 h.1))
          clear HR1 HR2
          go_upto_region 8 with fail
          have hfw := HFW.out
          refine wp_region_held_drew (S := (fun w' => w'.cell? ⟨W.heap.size + 1, 0, none⟩ = some (.slice (some aT) old.length ct) ∧ w'.cell? (aT.add (ds.length * 3)) = some (.int .i64 o))) (by kernel_rfl) ?_ (fun hHeld => ?_)
          · exact ⟨x8, c0⟩
          refine tk 0 50 ?_
          refine tk 1 51 ?_
          refine tk 2 52 ?_
          refine tk 3 53 ?_
          refine tk 4 54 ?_
          refine tk 5 55 ?_
          refine tk 6 56 ?_
          refine tk 7 57 ?_
          refine tk 8 58 ?_
          refine tk 9 59 ?_
          refine tk 10 60 ?_
          refine tk 11 61 ?_
          refine tk 12 62 ?_
          refine tk 13 63 ?_
          refine tk 14 64 ?_
          refine tk 15 65 ?_
          refine sk 16 66 ?_
          refine sk 17 67 ?_
          refine sk 18 68 ?_
          refine sk 19 69 ?_
          refine sk 20 70 ?_
          refine sk 21 71 ?_
          refine sk 22 72 ?_
          refine sk 23 73 ?_
          refine sk 24 74 ?_
          refine tk 25 75 ?_
          refine tk 26 76 ?_
          refine sk 27 77 ?_
          refine sk 28 78 ?_
          refine sk 29 79 ?_
          refine sk 30 80 ?_
          refine sk 31 81 ?_
          refine sk 32 82 ?_
          refine sk 33 83 ?_
          refine sk 34 84 ?_
          refine sk 35 85 ?_
          refine sk 36 86 ?_
          refine tk 37 87 ?_
          refine wpAnyH_done (by kernel_rfl) ?_ _
          clear hHeld hfw
          go_wp2
          go_ret2
          rw [HE.out]
          exact ⟨_, _, rfl, hva.below ((Below.refl w8.heap.size w8).drew), hBc.trans (Below.mono ((Below.refl w8.heap.size w8).drew) hBc.size)⟩
end Go.Proofs.Ytjgnikmnadmheaa
