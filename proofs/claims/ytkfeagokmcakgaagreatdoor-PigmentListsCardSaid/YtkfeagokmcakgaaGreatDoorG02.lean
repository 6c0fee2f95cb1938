/- Laws for walking a region that draws its order by hand: an operation that is not wanted, one that yields its value, a call that alone may come up. -/
import Derived.Deep.RegionHeld
import Derived.Deep.MidRow
import Derived.ArgAppend
import Derived.Test.YtkfeagokmcakgaaGreatDoorG01

set_option linter.unusedVariables false
set_option linter.unusedSimpArgs false

namespace Go.Proofs.YtkfeagokmcakgaaGreatDoor

section
variable {P : Program} {ops : Array Oper} {Q : Exit → Act → World → Prop} {S : World → Prop} {fuel : Nat} {listed : Array Bool} {a : Act} {w : World}
theorem held_skip (i : Nat) (d : Option Tmp) (hd : (ops[i]?).map (fun o => o.dst) = some d) (hs : Region.noSelect ops = true) (hf : Region.free .any ops listed i = true) (hr : (Region.ready .any ops listed).contains i = true)
    (hw : (ops[i]?).map (fun o => Region.wanted o (yielded ops a.tmps)) = some false) (hQ : ∀ c a w, Q (.panic c) (a.put d undef) w → Q (.panic c) a w) (hS : S w)
    (h : wpAnyH P .any ops Q S fuel (listed.setIfInBounds i true) (a.put d undef) w) : wpAnyH P .any ops Q S (fuel + 1) listed a w := by
  obtain ⟨o, ho⟩ : ∃ o, ops[i]? = some o := by
    cases hx : ops[i]? with
    | none => rw [hx] at hd; cases hd
    | some o => exact ⟨o, rfl⟩
  rw [ho] at hd hw
  obtain rfl : o.dst = d := Option.some.inj hd
  exact wpAnyH_take ho hs hf hr hQ (.inr ⟨Option.some.inj hw, rfl⟩) hS h
theorem held_take (i : Nat) (d : Option Tmp) (v : Value) (hd : (ops[i]?).map (fun o => o.dst) = some d) (hs : Region.noSelect ops = true) (hf : Region.free .any ops listed i = true) (hr : (Region.ready .any ops listed).contains i = true)
    (hw : (ops[i]?).map (fun o => Region.wanted o (yielded ops a.tmps)) = some true) (hQ : ∀ c a w, Q (.panic c) (a.put d v) w → Q (.panic c) a w) (hS : S w)
    (hy : ∀ w, S w → (ops[i]?).map (fun o => (execOp a.eval o).run P w) = some (.ok (.value v) w))
    (h : wpAnyH P .any ops Q S fuel (listed.setIfInBounds i true) (a.put d v) w) : wpAnyH P .any ops Q S (fuel + 1) listed a w := by
  obtain ⟨o, ho⟩ : ∃ o, ops[i]? = some o := by
    cases hx : ops[i]? with
    | none => rw [hx] at hd; cases hd
    | some o => exact ⟨o, rfl⟩
  rw [ho] at hd hw hy
  obtain rfl : o.dst = d := Option.some.inj hd
  exact wpAnyH_take ho hs hf hr hQ (.inl ⟨Option.some.inj hw, fun w hSw => Option.some.inj (hy w hSw)⟩) hS h
/-- the load of a whole row -/
theorem held_row (i : Nat) (d : Option Tmp) (ty : TypeId) (x : Operand) (b o : Nat) (cs : List Value) (td : TypeDesc) (hd : (ops[i]?).map (fun o => o.dst) = some d) (hop : (ops[i]?).map (fun o => o.op) = some (.load ty x)) (hs : Region.noSelect ops = true) (hf : Region.free .any ops listed i = true) (hr : (Region.ready .any ops listed).contains i = true)
    (hw : (ops[i]?).map (fun o => Region.wanted o (yielded ops a.tmps)) = some true) (hx : a.eval x = .pointer (some ⟨b, o, none⟩)) (hQ : ∀ c a w, Q (.panic c) (a.put d (.agg cs.toArray)) w → Q (.panic c) a w) (hS : S w)
    (hc : ∀ w, S w → w.rangeAt b o cs) (hu : P.underlying ty = some td) (hdr : td.isRow = true) (hi : (P.info? ty).map (·.size) = some cs.length)
    (h : wpAnyH P .any ops Q S fuel (listed.setIfInBounds i true) (a.put d (.agg cs.toArray)) w) : wpAnyH P .any ops Q S (fuel + 1) listed a w := by
  obtain ⟨op, ho⟩ : ∃ o, ops[i]? = some o := by
    cases hx : ops[i]? with
    | none => rw [hx] at hd; cases hd
    | some o => exact ⟨o, rfl⟩
  rw [ho] at hd hw hop
  obtain rfl : op.dst = d := Option.some.inj hd
  exact wpAnyH_take ho hs hf hr hQ (yieldsIf_load_mid (Option.some.inj hw) ty x (Option.some.inj hop) b o hx cs td hc hu hdr hi) hS h
/-- the call is the only one that may come up -/
theorem held_call (i : Nat) (d : Option Tmp) (f : FuncId) (args : Array Value) {R : Ending → World → Prop} (hd : (ops[i]?).map (fun o => o.dst) = some d) (hr : Region.ready .any ops listed = [i])
    (hw : (ops[i]?).map (fun o => Region.wanted o (yielded ops a.tmps)) = some true) (he : (ops[i]?).map (fun o => (execOp a.eval o).run P w) = some (.ok (.enter f args) w))
    (hc : Calls P f args w R) (h : ∀ e w', R e w' → ∃ v, e = .returned v ∧ S w' ∧ (S w' → wpAnyH P .any ops Q S fuel (listed.setIfInBounds i true) (a.put d v) w')) : wpAnyH P .any ops Q S (fuel + 1) listed a w := by
  obtain ⟨o, ho⟩ : ∃ o, ops[i]? = some o := by
    cases hx : ops[i]? with
    | none => rw [hx] at hd; cases hd
    | some o => exact ⟨o, rfl⟩
  rw [ho] at hd hw he
  obtain rfl : o.dst = d := Option.some.inj hd
  refine wpAnyH_all hr (by simp) fun j hj => ?_
  obtain rfl : j = i := by simpa using hj
  unfold wpOp
  rw [ho]
  dsimp only
  rw [if_pos (Option.some.inj hw)]
  refine .inl ?_
  unfold Oper.wp
  have he' := Option.some.inj he
  dsimp only at he'
  rw [he']
  refine hc.mono fun e w' hR => ?_
  obtain ⟨v, rfl, hS, hk⟩ := h e w' hR
  exact ⟨hS, hk hS⟩
end
end Go.Proofs.YtkfeagokmcakgaaGreatDoor

namespace Go.Proofs.YtkfeagokmcakgaaGreatDoor
open Go.RowKit

section
variable {P : Program} {ops : Array Oper} {Q : Exit → Act → World → Prop} {S : World → Prop} {fuel fuel' : Nat} {listed l' : Array Bool} {a a' : Act} {w : World}
/-- an operation that is not wanted -/
theorem sk (i d : Nat) (h : wpAnyH P .any ops Q S fuel l' a' w) (hfu : fuel' = fuel + 1 := by exact rfl) (hd : (ops[i]?).map (fun o => o.dst) = some (some d) := by rfl) (hs : Region.noSelect ops = true := by kernel_rfl) (hf : Region.free .any ops listed i = true := by kernel_rfl) (hr : (Region.ready .any ops listed).contains i = true := by kernel_rfl)
    (hw : (ops[i]?).map (fun o => Region.wanted o (yielded ops a.tmps)) = some false := by rfl) (hQ : ∀ c a w, Q (.panic c) (a.put (some d) undef) w → Q (.panic c) a w := by exact fun _ _ _ h => h) (hS : S w := by assumption)
    (hl : listed.setIfInBounds i true = l' := by ((try simp only [List.setIfInBounds_toArray, List.set_cons_zero, List.set_cons_succ]); exact rfl)) (ha : a.put (some d) undef = a' := by ((try simp only [Act.put, List.setIfInBounds_toArray, List.set_cons_zero, List.set_cons_succ]); exact rfl)) : wpAnyH P .any ops Q S fuel' listed a w := by
  subst hl; subst ha; subst hfu
  exact held_skip i (some d) hd hs hf hr hw hQ hS h
/-- an operation that yields its value, as the walk's words reckon it -/
theorem tk (i d : Nat) {v : Value} (h : wpAnyH P .any ops Q S fuel l' a' w) (hfu : fuel' = fuel + 1 := by exact rfl) (hd : (ops[i]?).map (fun o => o.dst) = some (some d) := by rfl) (hs : Region.noSelect ops = true := by kernel_rfl) (hf : Region.free .any ops listed i = true := by kernel_rfl) (hr : (Region.ready .any ops listed).contains i = true := by kernel_rfl)
    (hw : (ops[i]?).map (fun o => Region.wanted o (yielded ops a.tmps)) = some true := by rfl) (hQ : ∀ c v a w, Q (.panic c) (a.put (some d) v) w → Q (.panic c) a w := by exact fun _ _ _ _ h => h) (hS : S w := by assumption)
    (hy : ∀ w, S w → (ops[i]?).map (fun o => (execOp a.eval o).run P w) = some (.ok (.value v) w) := by (intro w hSw; (try dsimp only at hSw); simp only [List.getElem?_toArray, List.getElem?_cons_zero, List.getElem?_cons_succ, Option.map_some]; refine congrArg some ?_; go_simp; (try with_reducible rfl)))
    (hl : listed.setIfInBounds i true = l' := by ((try simp only [List.setIfInBounds_toArray, List.set_cons_zero, List.set_cons_succ]); exact rfl)) (ha : a.put (some d) v = a' := by ((try simp only [Act.put, List.setIfInBounds_toArray, List.set_cons_zero, List.set_cons_succ]); exact rfl)) : wpAnyH P .any ops Q S fuel' listed a w := by
  subst hl; subst ha; subst hfu
  exact held_take i (some d) v hd hs hf hr hw (fun c a w => hQ c v a w) hS hy h
end
end Go.Proofs.YtkfeagokmcakgaaGreatDoor

namespace Go.Proofs.YtkfeagokmcakgaaGreatDoor
open Go.RowKit

/-- a block as a range -/
theorem Bk.range {w : World} {b : Nat} {t : TypeId} {C : Array Value} (h : Bk w b t C) : w.rangeAt b 0 C.toList := fun j v hv => by
  rw [Nat.zero_add]
  exact h.cell j (by simpa using hv)
/-- the load of a row whose guard lets it be carried out -/
theorem wpList_load_guard {P : Program} {ops : Array Oper} {rest : List Oper} {op : Oper} {a : Act} {w : World} {Q : Exit → Act → World → Prop} (hgd : Region.wanted op (yielded ops a.tmps) = true) (ty : TypeId) (x : Operand) (ho : op.op = .load ty x)
    (b o : Nat) (hx : a.eval x = .pointer (some ⟨b, o, none⟩)) (cs : List Value) (d : TypeDesc) (hc : w.rangeAt b o cs)
    (hu : P.underlying ty = some d) (hd : d.isRow = true) (hi : (P.info? ty).map (·.size) = some cs.length)
    (h : wpList P ops Q rest (a.put op.dst (.agg cs.toArray)) w) : wpList P ops Q (op :: rest) a w := by
  unfold wpList
  rw [if_pos hgd]
  exact .inl (wp_load_mid ty x ho b o hx cs d hc hu hd hi h)
theorem Bk.setCells {t b : Nat} : ∀ (vs : List Value) (o : Nat) (w : World) (C : Array Value), Bk w b t C → ∃ C2, Bk (w.setCells b o vs) b t C2 ∧ C2.size = C.size ∧ ∀ j, C2[j]? = if o ≤ j ∧ j < o + vs.length ∧ j < C.size then vs[j - o]? else C[j]?
  | [], o, w, C, h => ⟨C, h, rfl, fun j => by rw [if_neg (by simp; omega)]⟩
  | v :: r, o, w, C, h => by
    obtain ⟨C2, h1, h2, h3⟩ := Bk.setCells r (o + 1) _ _ (h.set o v)
    refine ⟨C2, h1, by simpa using h2, fun j => ?_⟩
    rw [h3 j]
    simp only [Array.size_setIfInBounds, List.length_cons]
    by_cases hj : j = o
    · subst hj
      rw [if_neg (by omega)]
      by_cases hc : j < C.size
      · rw [if_pos (by omega)]; simp [hc]
      · rw [if_neg (by omega)]; simp [hc]
    · by_cases hc : o + 1 ≤ j ∧ j < o + 1 + r.length ∧ j < C.size
      · rw [if_pos hc, if_pos (by omega), show j - o = (j - (o + 1)) + 1 by omega]; rfl
      · rw [if_neg hc, if_neg (by omega), Array.getElem?_setIfInBounds_ne (by omega)]
/-- all but one block is as it was -/
structure Far (w w' : World) (b : Nat) : Prop where
  size : w'.heap.size = w.heap.size
  blk : ∀ g, g ≠ b → w'.heap[g]? = w.heap[g]?
  bel : ∀ B a, B ≤ b → Below B a w → Below B a w'
theorem results_row {P : Program} {fn : Func} {s t ty : Nat} (h : fn.results = #[.cell s ty, .tmp t]) (tmps : Array Value) (w : World) (b : Nat) (cs : List Value) (d : TypeDesc) (ha : tmps.getD s undef = .pointer (some ⟨b, 0, none⟩))
    (hc : w.rangeAt b 0 cs) (hu : P.underlying ty = some d) (hd : d.isRow = true) (hi : (P.info? ty).map (·.size) = some cs.length) : (results fn tmps).run P w = .ok (.tuple #[.agg cs.toArray, tmps.getD t undef]) w := by
  have hl := run_loadVar_mid (P := P) w b 0 ty cs d hc hu hd hi
  have ha' : tmps[s]?.getD undef = .pointer (some ⟨b, 0, none⟩) := by simpa [Array.getD_eq_getD_getElem?] using ha
  simp [results, h, ha', asAddr, hl]
theorem Far.bk {w w' : World} {b g t : Nat} {C : Array Value} (h : Far w w' b) (hg : g ≠ b) (hk : Bk w g t C) : Bk w' g t C := (h.blk g hg).trans hk
theorem Far.own {w w' : World} {b base e size n : Nat} {v : Value} {xs : List Value} (h : Far w w' b) (ho : w.ownsRow base e size v n xs) (hb : b < base) : w'.ownsRow base e size v n xs := by
  refine ⟨ho.1, ?_⟩
  rcases ho.2 with h2 | ⟨g, cap, cur, h1, h2, h3, h4⟩
  · exact .inl h2
  · exact .inr ⟨g, cap, cur, h1, h2, (h.blk g (by omega)).trans h3, h4⟩
theorem far_setCells (b : Nat) : ∀ (vs : List Value) (o : Nat) (w : World), Far w (w.setCells b o vs) b
  | [], _, w => ⟨rfl, fun _ _ => rfl, fun _ _ _ h => h⟩
  | v :: r, o, w => by
    have h1 := far_setCells b r (o + 1) (w.setCell ⟨b, o, none⟩ v)
    refine ⟨h1.size.trans (by simp), fun g hg => (h1.blk g hg).trans (Below.heap_setCell w _ v g hg), fun B a hB hb => h1.bel B a hB (hb.setCell (by exact hB) v)⟩
/-- a whole struct is stored over a block -/
theorem wpList_store_blk {P : Program} {ops : Array Oper} {rest : List Oper} {op : Oper} {a : Act} {w : World} {Q : Exit → Act → World → Prop} (hgd : op.guard = none) (ty : TypeId) (x y : Operand) (ho : op.op = .store ty x y)
    (b : Nat) (C0 C' : Array Value) (hx : a.eval x = .pointer (some ⟨b, 0, none⟩)) (hy : a.eval y = .agg C') (hk : Bk w b ty C0) (hs : C0.size = C'.size) (hi : (P.info? ty).map (·.size) = some C'.size) (h1 : ∀ v ∈ C'.toList, v.oneCell' = true)
    (h : ∀ W', Bk W' b ty C' → Far w W' b → wpList P ops Q rest (a.put op.dst undef) W') : wpList P ops Q (op :: rest) a w := by
  refine wpList_store_mid hgd ty x y ho b 0 C' hx hy (fun j hj => ⟨?_, hk.fro _⟩) hi (Array.all_eq_true_iff_forall_mem.2 (fun v hv => h1 v (by simpa using hv))) (h _ ?_ (far_setCells b _ _ _))
  · rw [Nat.zero_add]
    rw [hk.cell j (v := C0[j]'(by omega)) (Array.getElem?_eq_getElem _)]; rfl
  · obtain ⟨C2, h2, h3, h4⟩ := Bk.setCells C'.toList 0 w C0 hk
    have : C2 = C' := by
      apply Array.ext_getElem?
      intro j
      rw [h4 j]
      by_cases hj : j < C'.size
      · rw [if_pos (by simp; omega)]; simp
      · rw [if_neg (fun h => hj (by have := h.2.1; simp at this; exact this)), Array.getElem?_eq_none (by omega), Array.getElem?_eq_none (by omega)]
    rw [this] at h2; exact h2
theorem Far.lies {w w' : World} {b B : Nat} {A : Option Addr} {cs : List Value} (h : Far w w' b) (hl : Lies w B A cs) (hA : ∀ ad, A = some ad → ad.block ≠ b) : Lies w' B A cs := fun hn => by
  obtain ⟨ad, e, hb, hc⟩ := hl hn
  refine ⟨ad, e, hb, fun j u hu => ?_⟩
  have := hc j u hu
  unfold World.cell? at this ⊢
  rw [add_block] at this ⊢
  rw [h.blk _ (hA ad e)]; exact this
/-- one operation that alone may come up -/
theorem held_one {P : Program} {ops : Array Oper} {Q : Exit → Act → World → Prop} {S : World → Prop} {fuel : Nat} {listed : Array Bool} {a : Act} {w : World} (i : Nat) (o : Oper) (ho : ops[i]? = some o) (hr : Region.ready .any ops listed = [i])
    (hw : Region.wanted o (yielded ops a.tmps) = true) (h : o.wp P a w (fun a' w' => S w' ∧ wpAnyH P .any ops Q S fuel (listed.setIfInBounds i true) a' w') Q) : wpAnyH P .any ops Q S (fuel + 1) listed a w := by
  refine wpAnyH_all hr (by simp) fun j hj => ?_
  obtain rfl : j = i := by simpa using hj
  unfold wpOp
  rw [ho]
  dsimp only
  rw [if_pos hw]
  exact .inl h
theorem bk_cells {w : World} {b : Nat} {t : TypeId} {C : Array Value} (h : Bk w b t C) : ∀ j u, C.toList[j]? = some u → w.cell? ((⟨b, 0, none⟩ : Addr).add j) = some u := fun j u hj => by
  obtain ⟨ad, e, _, hc⟩ := (h.lies (B := b + 1) (Nat.lt_succ_self b)) (by intro e; rw [e] at hj; simp at hj)
  cases e; exact hc j u hj
/-- two operations that may come up -/
theorem held_two {P : Program} {ops : Array Oper} {Q : Exit → Act → World → Prop} {S : World → Prop} {fuel : Nat} {listed : Array Bool} {a : Act} {w : World} (i j : Nat) (o p : Oper) (ho : ops[i]? = some o) (hp : ops[j]? = some p) (hr : Region.ready .any ops listed = [i, j])
    (hw : Region.wanted o (yielded ops a.tmps) = true) (hv : Region.wanted p (yielded ops a.tmps) = true) (h : o.wp P a w (fun a' w' => S w' ∧ wpAnyH P .any ops Q S fuel (listed.setIfInBounds i true) a' w') Q) (h2 : p.wp P a w (fun a' w' => S w' ∧ wpAnyH P .any ops Q S fuel (listed.setIfInBounds j true) a' w') Q) : wpAnyH P .any ops Q S (fuel + 1) listed a w := by
  refine wpAnyH_all hr (by simp) fun k hk => ?_
  have hk' : k = i ∨ k = j := by simpa using hk
  rcases hk' with rfl | rfl
  · unfold wpOp
    rw [ho]
    dsimp only
    rw [if_pos hw]
    exact .inl h
  · unfold wpOp
    rw [hp]
    dsimp only
    rw [if_pos hv]
    exact .inl h2
theorem ownsSlice {w : World} {b : Nat} {e : TypeId} {size n : Nat} {v : Value} {xs : List Value} (h : w.ownsRow b e size v n xs) : ∃ A c, v = .slice A n c ∧ n ≤ c ∧ c ≤ maxLen := by
  rcases h.2 with ⟨rfl, rfl⟩ | ⟨g, cap, cur, rfl, _, _, h1, h2, _⟩
  · exact ⟨none, 0, rfl, Nat.le_refl _, Nat.zero_le _⟩
  · exact ⟨_, _, rfl, h1, h2⟩
theorem own_some {w : World} {b : Nat} {e : TypeId} {size n c : Nat} {A : Option Addr} {xs : List Value} (h : w.ownsRow b e size (.slice A n c) n xs) (hn : 0 < n) : ∃ g, A = some ⟨g, 0, none⟩ ∧ b ≤ g := by
  rcases h.2 with ⟨h1, h2⟩ | ⟨g, cap, cur, h1, h2, _⟩
  · omega
  · cases h1; exact ⟨g, rfl, h2⟩
theorem wp_call {P : Program} {o : Oper} {a : Act} {w : World} {f : FuncId} {args : Array Value} {R : Ending → World → Prop} {K : Act → World → Prop} {Q : Exit → Act → World → Prop} (he : (execOp a.eval o).run P w = .ok (.enter f args) w) (hc : Calls P f args w R)
    (h : ∀ e w', R e w' → ∃ v, e = .returned v ∧ K (a.put o.dst v) w') : o.wp P a w K Q := by
  unfold Oper.wp
  rw [he]
  exact hc.mono fun e w' hR => by obtain ⟨v, rfl, hk⟩ := h e w' hR; exact hk
theorem wp_append_grows {P : Program} (w : World) {o : Oper} {a : Act} {K : Act → World → Prop} {Q : Exit → Act → World → Prop} (s x : Operand) (t : TypeId) (hop : o.op = Op.call { callee := Callee.builtin Builtin.append, args := #[s, x], argTypes := #[t, t] })
    (e : TypeId) (i : TypeInfo) (z : Value) (size bytes : Nat) (h1 : P.underlying t = some (.slice e)) (h2 : P.info? e = some i) (h3 : i.zero = some z) (h4 : i.size = size) (h5 : i.bytes = bytes) (h6 : z.cells.size = size) (h7 : 0 < size)
    (ao : Option Addr) (n cap : Nat) (olds : List Value) (hs : a.eval s = .slice ao n cap) (hnone : ao = none → n = 0 ∧ cap = 0) (hlo : olds.length = n * size) (holds : ∀ b, ao = some b → ∀ j u, olds[j]? = some u → w.cell? (b.add j) = some u)
    (ad : Addr) (m c : Nat) (news : List Value) (hx : a.eval x = .slice (some ad) m c) (hn : news.length = m * size) (hc : ∀ j u, news[j]? = some u → w.cell? (ad.add j) = some u) (h1c : ∀ u ∈ news, u.oneCell' = true)
    (hfull : cap < n + m) (b1 : n + m ≤ maxLen) (b2 : (n + m) * bytes ≤ 140737488355328)
    (hK : ∀ v' w', w'.ownsRow w.heap.size e size v' (n + m) (olds ++ news) → w.grownBy w' none → K (a.put o.dst v') w') : o.wp P a w K Q := by
  cases ao with
  | some b =>
    obtain ⟨v', w', hrun, r1, r2⟩ := run_append_arg_grows (P := P) w t o.type e i z size bytes h1 h2 h3 h4 h5 h6 h7 b n cap olds hlo (holds b rfl) ad m c news hn hc hfull b1 b2
    unfold Oper.wp
    simp [execOp, hop, resolve, invoke, builtin, hs, hx, hrun, Result.andThen]
    exact hK v' w' r1 r2
  | none =>
    obtain ⟨rfl, rfl⟩ := hnone rfl
    obtain rfl : olds = [] := List.eq_nil_of_length_eq_zero (by simpa using hlo)
    obtain ⟨v', w', hrun, r1, r2, _⟩ := run_append_own (P := P) w w.heap.size t o.type e i z size bytes h1 h2 h3 h4 h5 h6 h7 (.slice none 0 0) 0 [] (World.ownsRow_nil w _ e size) ad m c news hn hc h1c b1 b2 (Nat.le_refl _)
    unfold Oper.wp
    simp [execOp, hop, resolve, invoke, builtin, hs, hx, hrun, Result.andThen]
    exact hK v' w' r1 r2
/-! worlds that differ in one old block alone -/
structure Nb (w w' : World) (b : Nat) : Prop where
  size : w.heap.size ≤ w'.heap.size
  blk : ∀ g, g < w.heap.size → g ≠ b → w'.heap[g]? = w.heap[g]?
section
variable {w w' w'' : World} {b : Nat}
theorem Nb.refl (w : World) (b : Nat) : Nb w w b := ⟨Nat.le_refl _, fun _ _ _ => rfl⟩
theorem Nb.step (h : Nb w w' b) (k : Below w'.heap.size w' w'') : Nb w w'' b := ⟨Nat.le_trans h.size k.size, fun g hg hb => (k.block g (Nat.lt_of_lt_of_le hg h.size)).trans (h.blk g hg hb)⟩
theorem Nb.base {B : Nat} (h : Nb w w' b) (k : Below B w' w'') (hB : w.heap.size ≤ B) : Nb w w'' b := ⟨Nat.le_trans h.size k.size, fun g hg hb => (k.block g (Nat.lt_of_lt_of_le hg hB)).trans (h.blk g hg hb)⟩
theorem Nb.alloc (h : Nb w w' b) (o : Obj) : Nb w (w'.alloc o) b := ⟨by have := h.size; simp; omega, fun g hg hb => (Below.heap_alloc w' o g (Nat.lt_of_lt_of_le hg h.size)).trans (h.blk g hg hb)⟩
theorem Nb.drew (h : Nb w w' b) : Nb w w'.drew b := ⟨h.size, h.blk⟩
theorem Nb.set (h : Nb w w' b) (o : Nat) (v : Value) : Nb w (w'.setCell ⟨b, o, none⟩ v) b := ⟨by have := h.size; simpa [World.setCell] using this, fun g hg hb => (Below.heap_setCell w' ⟨b, o, none⟩ v g hb).trans (h.blk g hg hb)⟩
theorem Nb.far {b' : Nat} (h : Nb w w' b) (k : Far w' w'' b') (hb' : b' = b ∨ w.heap.size ≤ b') : Nb w w'' b := ⟨by rw [k.size]; exact h.size, fun g hg hb => (k.blk g (by omega)).trans (h.blk g hg hb)⟩
theorem Nb.grown {row : Option Nat} (h : Nb w w' b) (k : w'.grownBy w'' row) (hr : ∀ g, row = some g → w.heap.size ≤ g) (hs : w'.heap.size ≤ w''.heap.size) : Nb w w'' b := ⟨Nat.le_trans h.size hs, fun g hg hb => (k.block g (Nat.lt_of_lt_of_le hg h.size) (fun e => by have := hr g e.symm; omega)).trans (h.blk g hg hb)⟩
theorem Nb.bk {g t : Nat} {C : Array Value} (h : Nb w w' b) (k : Bk w g t C) (hg : g ≠ b) : Bk w' g t C := (h.blk g k.lt hg).trans k
theorem Nb.lies {A : Option Addr} {cs : List Value} (h : Nb w w' b) (hl : Lies w w.heap.size A cs) (hA : ∀ ad, A = some ad → ad.block ≠ b) : Lies w' w'.heap.size A cs := fun hn => by
  obtain ⟨ad, e, hb, hc⟩ := hl hn
  refine ⟨ad, e, Nat.lt_of_lt_of_le hb h.size, fun j u hu => ?_⟩
  have e2 := h.blk ad.block hb (hA ad e)
  have := hc j u hu
  unfold World.cell? at this ⊢
  rw [add_block] at this ⊢
  rw [e2]
  exact this
end
theorem own_ge {w : World} {base e size n c : Nat} {A : Option Addr} {xs : List Value} (h : w.ownsRow base e size (.slice A n c) n xs) (ad : Addr) (hA : A = some ad) : base ≤ ad.block := by
  rcases h.2 with ⟨h1, _⟩ | ⟨g', cap, cur, h1, h2, _⟩
  · cases h1; cases hA
  · cases h1
    cases hA
    exact h2
/-- a store of a whole row over a block that is known whole -/
theorem wp_store_blk {P : Program} {op : Oper} {a : Act} {w : World} {K : Act → World → Prop} {Q : Exit → Act → World → Prop} (ty : TypeId) (x y : Operand) (ho : op.op = .store ty x y)
    (b : Nat) (C0 C' : Array Value) (hx : a.eval x = .pointer (some ⟨b, 0, none⟩)) (hy : a.eval y = .agg C') (hk : Bk w b ty C0) (hs : C0.size = C'.size) (hi : (P.info? ty).map (·.size) = some C'.size) (h1 : ∀ v ∈ C'.toList, v.oneCell' = true)
    (h : ∀ W', Bk W' b ty C' → Far w W' b → K (a.put op.dst undef) W') : op.wp P a w K Q := by
  refine wp_store_mid ty x y ho b 0 C' hx hy (fun j hj => ⟨?_, hk.fro _⟩) hi (Array.all_eq_true_iff_forall_mem.2 (fun v hv => h1 v (by simpa using hv))) (h _ ?_ (far_setCells b _ _ _))
  · rw [Nat.zero_add]
    rw [hk.cell j (v := C0[j]'(by omega)) (Array.getElem?_eq_getElem _)]; rfl
  · obtain ⟨C2, h2, h3, h4⟩ := Bk.setCells C'.toList 0 w C0 hk
    have : C2 = C' := by
      apply Array.ext_getElem?
      intro j
      rw [h4 j]
      by_cases hj : j < C'.size
      · rw [if_pos (by simp; omega)]; simp
      · rw [if_neg (fun h => hj (by have := h.2.1; simp at this; exact this)), Array.getElem?_eq_none (by omega), Array.getElem?_eq_none (by omega)]
    rw [this] at h2; exact h2
end Go.Proofs.YtkfeagokmcakgaaGreatDoor

namespace Go.Proofs.YtkfeagokmcakgaaGreatDoor
open Go.RowKit Go.Maps Go.WalkArith Go.ChangeMaps

def i64v (x : Int) : Prop := -9223372036854775808 ≤ x ∧ x ≤ 9223372036854775807
/-- a type of maps, with what its keys and elements are -/
structure MapTy (α β : Type) where
  t : TypeId
  k : TypeId
  e : TypeId
  kv : α → Value
  kl : α → Lit
  kok : α → Prop
  ev : β → Value
  el : β → Lit
  eok : β → Prop
  z : β
  law : Keyed Tryz.prog k
  ht : Tryz.prog.underlying t = some (.map k e)
  hk : ∀ x, kok x → keyOf Tryz.prog k (kv x) = some (kl x)
  kinv : ∀ v l, keyOf Tryz.prog k v = some l → ∃ x, kok x ∧ v = kv x ∧ l = kl x
  ki : ∀ x y, kl x = kl y → x = y
  kk : ∀ x, WideAt.IsKeyLit (kl x)
  hz : ∀ w, (zeroValue e).run Tryz.prog w = .ok (ev z) w
  he : ∀ v, eok v → plainElem (H := Unit) Tryz.prog e (ev v) = some (.lit (el v), [])
  zok : eok z
  einv : ∀ v d, plainElem (H := Unit) Tryz.prog e v = some d → ∃ c, eok c ∧ v = ev c ∧ d = (.lit (el c), [])
  ei : ∀ x y, el x = el y → x = y
/-- the datum reads as the function g -/
def Reads {α β : Type} (M : MapTy α β) (D : DataW Unit) (g : α → Option β) : Prop := ∀ x, M.kok x → D.atKey (M.kl x) (.lit (M.el M.z)) = .lit (M.el ((g x).getD M.z)) ∧ Maps.has D (M.kl x) = (g x).isSome
/-- block b is a map of at most n keys that reads as g -/
structure MapG {α β : Type} (M : MapTy α β) (w : World) (b n : Nat) (g : α → Option β) : Prop where
  out : ∃ D : DataW Unit, w.ownsMap Tryz.prog M.k (plainElem Tryz.prog M.e) b n D ∧ Reads M D g
def mNone {α β : Type} : α → Option β := fun _ => none
def mPut {α β : Type} [DecidableEq α] (g : α → Option β) (k : α) (v : β) : α → Option β := fun x => if x = k then some v else g x
section
variable {α β : Type} {M : MapTy α β} {w w' : World} {b n : Nat} {g : α → Option β}
theorem MapG.made (M : MapTy α β) (w : World) : MapG M (w.alloc (.map #[] 0)) w.heap.size 0 mNone := ⟨⟨.map [], World.ownsMap_made _ _ _ _, fun x _ => ⟨rfl, rfl⟩⟩⟩
theorem MapG.look (h : MapG M w b n g) {x : α} (hx : M.kok x) : (Instr.lookup M.t (.map (some b)) (M.kv x) false).run Tryz.prog w = .ok (M.ev ((g x).getD M.z)) w := by
  obtain ⟨D, h1, h2⟩ := h.out
  obtain ⟨v, ps, hrun, hat⟩ := h1.lookup M.law M.ht (M.hz w) (M.he M.z M.zok) (M.hk x hx)
  obtain ⟨c, hc, rfl, hd⟩ := M.einv _ _ hat
  have h4 := (h2 x hx).1.symm.trans (congrArg Prod.fst hd)
  have h5 : M.el ((g x).getD M.z) = M.el c := by injection h4
  rw [M.ei _ _ h5]; exact hrun
theorem MapG.look_ok (h : MapG M w b n g) {x : α} (hx : M.kok x) : (Instr.lookup M.t (.map (some b)) (M.kv x) true).run Tryz.prog w = .ok (.tuple #[M.ev ((g x).getD M.z), .bool (g x).isSome]) w := by
  obtain ⟨D, h1, h2⟩ := h.out
  obtain ⟨v, ps, hrun, hat⟩ := h1.look_ok M.law M.ht (M.hz w) (M.he M.z M.zok) (M.hk x hx)
  obtain ⟨c, hc, rfl, hd⟩ := M.einv _ _ hat
  have h4 := (h2 x hx).1.symm.trans (congrArg Prod.fst hd)
  have h5 : M.el ((g x).getD M.z) = M.el c := by injection h4
  rw [M.ei _ _ h5, ← (h2 x hx).2]; exact hrun
theorem MapG.put [DecidableEq α] (h : MapG M w b n g) (hn : n < maxLen) {x : α} {v : β} (hx : M.kok x) (hv : M.eok v) :
    ∃ w', (Instr.mapUpdate M.t (.map (some b)) (M.kv x) (M.ev v)).run Tryz.prog w = .ok () w' ∧ MapG M w' b (n + 1) (mPut g x v) ∧ w.grownBy w' (some b) := by
  obtain ⟨D, h1, h2⟩ := h.out
  obtain ⟨w', hrun, h3, h4⟩ := h1.update M.law M.ht hn (M.hk x hx) (M.he v hv)
  refine ⟨w', hrun, ⟨⟨_, h3, fun y hy => ?_⟩⟩, h4⟩
  unfold mPut
  by_cases e : y = x
  · subst e
    rw [atKey_put_same h1.isMap (M.kk _), has_put_same h1.isMap (M.kk _), if_pos rfl]
    exact ⟨rfl, rfl⟩
  · have hne : M.kl y ≠ M.kl x := fun h => e (M.ki _ _ h)
    rw [atKey_put_other hne, has_put_other hne, if_neg e]
    exact h2 y hy
theorem MapG.kept (h : MapG M w b n g) {row : Option Nat} (hg : w.grownBy w' row) (hne : some b ≠ row) : MapG M w' b n g := by
  obtain ⟨D, h1, h2⟩ := h.out
  exact ⟨⟨D, h1.kept hg hne, h2⟩⟩
theorem MapG.below (h : MapG M w b n g) {B : Nat} (hb : Below B w w') (hB : b < B) : MapG M w' b n g := by
  obtain ⟨D, ⟨es, clock, h1, h4⟩, h2⟩ := h.out
  exact ⟨⟨D, ⟨es, clock, (hb.block b hB).trans h1, h4⟩, h2⟩⟩
theorem MapG.mono (h : MapG M w b n g) {m : Nat} (hn : n ≤ m) : MapG M w b m g := by
  obtain ⟨D, h1, h2⟩ := h.out
  exact ⟨⟨D, h1.mono hn, h2⟩⟩
theorem MapG.alloc (h : MapG M w b n g) (o : Obj) : MapG M (w.alloc o) b n g := h.kept (World.grownBy_alloc w o none) (by simp)
theorem MapG.drew (h : MapG M w b n g) : MapG M w.drew b n g := by
  obtain ⟨D, h1, h2⟩ := h.out
  exact ⟨⟨D, h1.drew, h2⟩⟩
theorem MapG.lt (h : MapG M w b n g) : b < w.heap.size := by
  obtain ⟨D, h1, _⟩ := h.out
  exact h1.lt
theorem MapG.setCell (h : MapG M w b n g) {a : Addr} (ha : b ≠ a.block) (u : Value) : MapG M (w.setCell a u) b n g := by
  obtain ⟨D, h1, h2⟩ := h.out
  exact ⟨⟨D, h1.setCell ha u, h2⟩⟩
theorem MapG.congr (h : MapG M w b n g) {g' : α → Option β} (e : ∀ x, M.kok x → g x = g' x) : MapG M w b n g' := by
  obtain ⟨D, h1, h2⟩ := h.out
  exact ⟨⟨D, h1, fun x hx => by rw [← e x hx]; exact h2 x hx⟩⟩
end
theorem inv_bool {e : TypeId} (he : Tryz.prog.underlying e = some .bool) {v : Value} {d : DataW Unit × List MemPlace} (h : plainElem (H := Unit) Tryz.prog e v = some d) : ∃ c, True ∧ v = .bool c ∧ d = (.lit (.bool c), []) := by
  unfold plainElem at h; rw [he] at h
  cases v <;> simp at h
  exact ⟨_, trivial, rfl, h.symm⟩
theorem inv_i64 {e : TypeId} (he : Tryz.prog.underlying e = some (.int .i64)) {v : Value} {d : DataW Unit × List MemPlace} (h : plainElem (H := Unit) Tryz.prog e v = some d) : ∃ c, (Lit.int .i64 c).wf = true ∧ v = .int .i64 c ∧ d = (.lit (.int .i64 c), []) := by
  obtain ⟨a, rfl, rfl, hw⟩ := plainElem_int_inv he h
  exact ⟨a, hw, rfl, rfl⟩
theorem bytes_inj {a b : ByteArray} (h : a.data.toList = b.data.toList) : a = b := by
  obtain ⟨a⟩ := a; obtain ⟨b⟩ := b
  exact congrArg ByteArray.mk (Array.toList_inj.1 h)
/-- map[int]bool, map[string]bool -/
def mIB : MapTy Int Bool := ⟨112, 3, 4, .int .i64, .int .i64, fun x => (Lit.int .i64 x).wf = true, .bool, .bool, fun _ => True, false, int_keyed Tryz.underlying3, Tryz.underlying112,
  fun x hx => keyOf_int_mk Tryz.underlying3 hx, fun v l h => by obtain ⟨x, h1, h2, h3⟩ := Maps.keyOf_int_inv Tryz.underlying3 h; exact ⟨x, h3, h1, h2⟩, fun x y h => by injection h, fun _ => trivial, fun _ => by kernel_rfl, fun v _ => plainElem_bool Tryz.underlying4 v, trivial, fun v d h => inv_bool Tryz.underlying4 h, fun x y h => by injection h⟩
def mSB : MapTy ByteArray Bool := ⟨114, 9, 4, .string, fun s => .string s.data.toList, fun s => s.size ≤ maxLen, .bool, .bool, fun _ => True, false, string_keyed Tryz.underlying9, Tryz.underlying114,
  fun x hx => WideMaps.keyOf_string_mk Tryz.underlying9 hx, fun v l h => by obtain ⟨x, h1, h2, h3⟩ := WideMaps.string_of_keyOf Tryz.underlying9 h; exact ⟨x, h3, h1, h2⟩, fun x y h => bytes_inj (by injection h), fun _ => trivial, fun _ => by kernel_rfl, fun v _ => plainElem_bool Tryz.underlying4 v, trivial, fun v d h => inv_bool Tryz.underlying4 h, fun x y h => by injection h⟩
end Go.Proofs.YtkfeagokmcakgaaGreatDoor

namespace Go.Proofs.YtkfeagokmcakgaaGreatDoor
open Go.RowKit

def setG (S : ByteArray → Bool) : ByteArray → Option Bool := fun x => if S x = true then some true else none
theorem setG_get (S : ByteArray → Bool) (x : ByteArray) : (setG S x).getD false = S x := by unfold setG; cases S x <;> rfl
theorem setG_put (S : ByteArray → Bool) (x : ByteArray) : mPut (setG S) x true = setG (sPut S x) := by
  funext z
  unfold mPut setG sPut
  by_cases e : z = x
  · subst e; simp
  · simp [e]
theorem setG_none : setG sNone = mNone := by funext z; simp [setG, sNone, mNone]
theorem MapG.lookS {w : World} {b n : Nat} {g : ByteArray → Option Bool} (h : MapG mSB w b n g) {x : ByteArray} (hx : x.size ≤ 100) : (Instr.lookup 114 (.map (some b)) (.string x) false).run Tryz.prog w = .ok (.bool ((g x).getD false)) w := h.look (M := mSB) (x := x) (show x.size ≤ maxLen by unfold maxLen; omega)
theorem MapG.putS {w : World} {b n : Nat} {g : ByteArray → Option Bool} (h : MapG mSB w b n g) (hn : n ≤ 100000) {x : ByteArray} (hx : x.size ≤ 100) (v : Bool) :
    ∃ w', (Instr.mapUpdate 114 (.map (some b)) (.string x) (.bool v)).run Tryz.prog w = .ok () w' ∧ MapG mSB w' b (n + 1) (mPut g x v) ∧ w.grownBy w' (some b) := h.put (M := mSB) (x := x) (v := v) (by unfold maxLen; omega) (show x.size ≤ maxLen by unfold maxLen; omega) trivial

def ptr (b : Nat) : Value := .pointer (some ⟨b, 0, none⟩)
def gvFn (B : Nat) : Value := .func (.func 129) #[] #[.pointer (some ⟨B + 2, 0, none⟩), .pointer (some ⟨B, 0, none⟩), .pointer (some ⟨B + 3, 0, none⟩)]
/-- the search's memory: the set is S -/
structure Gv (w0 W : World) (l : List Rul) (A : Option Addr) (c n : Nat) (S : ByteArray → Bool) : Prop where
  bel : Below w0.heap.size w0 W
  hz : w0.heap.size + 4 ≤ W.heap.size
  k2 : Bk W w0.heap.size 94 #[.slice A l.length c]
  mp : MapG mSB W (w0.heap.size + 1) n (setG S)
  k5 : Bk W (w0.heap.size + 2) 114 #[.map (some (w0.heap.size + 1))]
  k6 : Bk W (w0.heap.size + 3) 148 #[gvFn w0.heap.size]
section
variable {w0 W W' : World} {l : List Rul} {A : Option Addr} {c n n' : Nat} {S S' : ByteArray → Bool}
theorem Gv.step (h : Gv w0 W l A c n S) (hb : Below W.heap.size W W') : Gv w0 W' l A c n S := by
  have hz := h.hz
  have h0 := h.bel.size
  exact ⟨h.bel.trans (hb.mono h0), Nat.le_trans hz hb.size, h.k2.below hb (by omega), h.mp.below hb (by omega), h.k5.below hb (by omega), h.k6.below hb (by omega)⟩
theorem Gv.mapped (h : Gv w0 W l A c n S) (hm : MapG mSB W' (w0.heap.size + 1) n' (setG S')) (hg : W.grownBy W' (some (w0.heap.size + 1))) : Gv w0 W' l A c n' S' := by
  have hz := h.hz
  have h0 := h.bel.size
  have hne : ∀ k, k ≠ w0.heap.size + 1 → some k ≠ some (w0.heap.size + 1) := fun k hk e => hk (Option.some.inj e)
  exact ⟨h.bel.grown hg h0 (fun k e => by cases e; omega), Nat.le_trans hz hg.size, h.k2.grown hg (hne _ (by omega)), hm, h.k5.grown hg (hne _ (by omega)), h.k6.grown hg (hne _ (by omega))⟩
end
/-- one search has ended: nothing but the set was turned -/
def GvEnd (w0 : World) (l : List Rul) (A : Option Addr) (c : Nat) (U : List ByteArray) (K : Nat) (S : ByteArray → Bool) (x : ByteArray) (e : Ending) (W' : World) : Prop :=
  e = .returned (.tuple #[]) ∧ ∃ n' S', Gv w0 W' l A c n' S' ∧ Dfs l S S' x ∧ n' + left U S' ≤ K

set_option maxRecDepth 100000 in
set_option maxHeartbeats 2500000 in
theorem visit_step {w0 : World} {l : List Rul} {A : Option Addr} {c : Nat} (hl : Lies w0 w0.heap.size A (rulesC l)) (hok : RulOK l) (hm : l.length ≤ 1000) (U : List ByteArray) (hU : ∀ r ∈ l, r.y ∈ U) (K m : Nat) (hK : K ≤ 10000)
    (IH : ∀ (W : World) (n : Nat) (S : ByteArray → Bool) (x : ByteArray), Gv w0 W l A c n S → x ∈ U → x.size ≤ 100 → n + left U S ≤ K → left U S < m → Calls Tryz.prog 129 #[.string x, ptr (w0.heap.size + 2), ptr w0.heap.size, ptr (w0.heap.size + 3)] W (GvEnd w0 l A c U K S x))
    (W : World) (n : Nat) (S : ByteArray → Bool) (x : ByteArray) (hG : Gv w0 W l A c n S) (hx : x ∈ U) (hxs : x.size ≤ 100) (hn : n + left U S ≤ K) (hlt : left U S ≤ m) :
    Calls Tryz.prog 129 #[.string x, ptr (w0.heap.size + 2), ptr w0.heap.size, ptr (w0.heap.size + 3)] W (GvEnd w0 l A c U K S x) := by
  have q5 := hG.k5.cell 0 rfl
  have hlk := hG.mp.lookS hxs
  rw [setG_get] at hlk
  unfold ptr at IH ⊢
  by_cases hS : S x = true
  · rw [hS] at hlk
    have HG := Lib.hid hG
    have HS := Lib.hid hS
    clear hG hS IH hl hok
    go_enter Tryz.func129, Tryz.ntmps129
    go_wp2
    refine bodyPost_ret (results_none rfl _ _ _) rfl ⟨rfl, n, S, HG.out, Dfs.old HS.out, hn⟩
  · have hS' : S x = false := by simpa using hS
    rw [hS'] at hlk
    obtain ⟨W2, hup, hm2, hg2⟩ := hG.mp.putS (by omega) hxs true
    rw [setG_put] at hm2
    have hG2 := hG.mapped hm2 hg2
    have hl2 := left_put U S hx hS'
    have q2 := hG2.k2.cell 0 rfl
    have HG2 := Lib.hid hG2
    have HIH := Lib.hid IH
    have HL := Lib.hid hl
    have HOK := Lib.hid hok
    have HU := Lib.hid hU
    have HD := Lib.hid (DfsM.start l S x)
    have hK2 : n + 1 + left U (sPut S x) ≤ K := by omega
    have hlm : left U (sPut S x) < m := by omega
    clear hG hG2 hm2 hg2 IH hl hok hU hS hS' hx hn hlt hl2
    go_enter Tryz.func129, Tryz.ntmps129
    go_wp2
    go_loopw [14] (fun y wr => ∃ (k : Nat) (n' : Nat) (S' : ByteArray → Bool), k ≤ l.length ∧ y = .int .i64 k ∧ Hid (Gv w0 wr l A c n' S') ∧ Hid (DfsM l S S' x k) ∧ n' + left U S' ≤ K ∧ left U S' < m) (fun y _ => l.length - (intOf y).toNat)
    case atStart => exact ⟨0, n + 1, sPut S x, by omega, rfl, HG2, HD, hK2, hlm⟩
    case round =>
      obtain ⟨k, n', S', hk, rfl, hg, hd, hKr, hmr⟩ := hrel
      clear HG2 HD hK2 hlm hup q2 hlk q5
      by_cases hlk : k < l.length
      · obtain ⟨ad, rfl, hadb, c0, c1, c2, c3, c4, c5⟩ := rule_at ((HL.out.below hg.out.bel (Nat.le_refl _)).more hg.out.bel.size) hlk
        have q2 := hg.out.k2.cell 0 rfl
        have q6 := hg.out.k6.cell 0 rfl
        unfold gvFn at q6
        have hz := hg.out.hz
        have hz3 : w0.heap.size + 3 < wr.heap.size := by omega
        have hyU := Lib.hid (HU.out _ (List.getElem_mem hlk))
        have hys := (HOK.out _ (List.getElem_mem hlk)).2.1
        have HSK := Lib.hid (fun h => hd.out.skip hlk h)
        have HTK := Lib.hid (fun h1 h2 T => DfsM.take (T := T) hd.out hlk h1 h2)
        generalize l[k] = r at *
        obtain ⟨id, kn, kd, rx, ry, of⟩ := r
        dsimp only at *
        have E1 := str_eq rx x
        by_cases h5 : kd = 5
        · by_cases hxx : rx = x
          · rw [decide_eq_true hxx] at E1
            have HT2 := Lib.hid (HTK.out h5 hxx)
            have h5' : (kd == 5) = true := by rw [h5]; rfl
            have HX := Lib.hid hxx
            clear hxx HTK HSK h5
            go_wp2_with (first | (go_at_call 129; refine (HIH.out _ n' S' ry (hg.out.step (by repeat (first | with_reducible exact Below.refl _ _ | with_reducible assumption | with_reducible refine Below.drew ?_ | with_reducible refine below_drewN ?_ _ | (with_reducible refine Below.alloc ?_ ?_ _; rotate_left; (try simp) <;> omega) | (with_reducible refine Below.setCell ?_ ?_ _; rotate_left; (try simp) <;> omega)))) hyU.out hys hKr hmr).mono ?_; rintro e w1 ⟨rfl, n2, S2, g2, d2, k2⟩))
            go_roundw
            case rel => exact ⟨k + 1, n2, S2, by omega, by go_num, g2, HT2.out S2 d2, k2, by have := left_le U d2.sub; omega⟩
            case measure => simp [intOf]; omega
          · rw [decide_eq_false hxx] at E1
            have HD2 := Lib.hid (HSK.out (fun h => hxx h.2))
            have h5' : (kd == 5) = true := by rw [h5]; rfl
            have HX := Lib.hid hxx
            clear hxx HTK HSK h5
            go_wp2
            go_roundw
            case rel => exact ⟨k + 1, n', S', by omega, by go_num, hg.out.step (by repeat (first | with_reducible exact Below.refl _ _ | with_reducible assumption | with_reducible refine Below.drew ?_ | with_reducible refine below_drewN ?_ _ | (with_reducible refine Below.alloc ?_ ?_ _; rotate_left; (try simp) <;> omega) | (with_reducible refine Below.setCell ?_ ?_ _; rotate_left; (try simp) <;> omega))), HD2.out, hKr, hmr⟩
            case measure => simp [intOf]; omega
        · have h5' : (kd == 5) = false := by simpa using h5
          have HD2 := Lib.hid (HSK.out (fun h => h5 h.1))
          clear HTK HSK h5
          go_wp2
          go_roundw
          case rel => exact ⟨k + 1, n', S', by omega, by go_num, hg.out.step (by repeat (first | with_reducible exact Below.refl _ _ | with_reducible assumption | with_reducible refine Below.drew ?_ | with_reducible refine below_drewN ?_ _ | (with_reducible refine Below.alloc ?_ ?_ _; rotate_left; (try simp) <;> omega) | (with_reducible refine Below.setCell ?_ ?_ _; rotate_left; (try simp) <;> omega))), HD2.out, hKr, hmr⟩
          case measure => simp [intOf]; omega
      · obtain rfl : k = l.length := by omega
        have q2 := hg.out.k2.cell 0 rfl
        go_wp2
        refine bodyPost_end (results_none rfl _ _ _) rfl ⟨rfl, n', S', hg.out, hd.out.done, hKr⟩
theorem visit_any {w0 : World} {l : List Rul} {A : Option Addr} {c : Nat} (hl : Lies w0 w0.heap.size A (rulesC l)) (hok : RulOK l) (hm : l.length ≤ 1000) (U : List ByteArray) (hU : ∀ r ∈ l, r.y ∈ U) (K : Nat) (hK : K ≤ 10000) :
    ∀ (m : Nat) (W : World) (n : Nat) (S : ByteArray → Bool) (x : ByteArray), Gv w0 W l A c n S → x ∈ U → x.size ≤ 100 → n + left U S ≤ K → left U S ≤ m → Calls Tryz.prog 129 #[.string x, ptr (w0.heap.size + 2), ptr w0.heap.size, ptr (w0.heap.size + 3)] W (GvEnd w0 l A c U K S x)
  | 0, W, n, S, x, hG, hx, hs, hn, hle => visit_step hl hok hm U hU K 0 hK (fun _ _ _ _ _ _ _ _ h => absurd h (by omega)) W n S x hG hx hs hn hle
  | m + 1, W, n, S, x, hG, hx, hs, hn, hle => visit_step hl hok hm U hU K (m + 1) hK (fun W n S x hG hx hs hn h => visit_any hl hok hm U hU K hK m W n S x hG hx hs hn (by omega)) W n S x hG hx hs hn hle
theorem Gv.start (l : List Rul) (A : Option Addr) (c : Nat) (w : World) :
    Gv w ((((w.alloc (Obj.cells #[Value.slice A l.length c] 94)).alloc (Obj.map #[] 0)).alloc (Obj.cells #[Value.map (some (w.heap.size + 1))] 114)).alloc (Obj.cells #[gvFn w.heap.size] 148)) l A c 0 sNone where
  bel := (by repeat (first | with_reducible exact Below.refl _ _ | with_reducible assumption | with_reducible refine Below.drew ?_ | with_reducible refine below_drewN ?_ _ | (with_reducible refine Below.alloc ?_ ?_ _; rotate_left; (try simp) <;> omega) | (with_reducible refine Below.setCell ?_ ?_ _; rotate_left; (try simp) <;> omega)))
  hz := by simp
  k2 := (((Bk.new _ _ _).alloc _).alloc _).alloc _
  mp := by
    have := (((MapG.made mSB (w.alloc (Obj.cells #[Value.slice A l.length c] 94))).alloc (Obj.cells #[Value.map (some (w.heap.size + 1))] 114)).alloc (Obj.cells #[gvFn w.heap.size] 148))
    rw [setG_none]
    simpa using this
  k5 := by simpa using (Bk.new ((w.alloc (Obj.cells #[Value.slice A l.length c] 94)).alloc (Obj.map #[] 0)) 114 #[Value.map (some (w.heap.size + 1))]).alloc (Obj.cells #[gvFn w.heap.size] 148)
  k6 := by simpa using Bk.new (((w.alloc (Obj.cells #[Value.slice A l.length c] 94)).alloc (Obj.map #[] 0)).alloc (Obj.cells #[Value.map (some (w.heap.size + 1))] 114)) 148 #[gvFn w.heap.size]
/-- the groups of a name, as a set in new memory -/
def GrpE (l : List Rul) (x : ByteArray) (w : World) (e : Ending) (w' : World) : Prop := ∃ b n, e = .returned (.map (some b)) ∧ w.heap.size ≤ b ∧ n ≤ 10000 ∧ MapG mSB w' b n (setG (inG l x)) ∧ Below w.heap.size w w'
set_option maxHeartbeats 1000000 in
theorem groups_any (l : List Rul) (A : Option Addr) (c : Nat) (x : ByteArray) (w : World) (hl : Lies w w.heap.size A (rulesC l)) (hok : RulOK l) (hm : l.length ≤ 1000) (hxs : x.size ≤ 100) :
    Calls Tryz.prog 90 #[.slice A l.length c, .string x] w (GrpE l x w) := by
  have hle : left (x :: l.map Rul.y) sNone ≤ l.length + 1 := by
    unfold left
    exact Nat.le_trans (List.length_filter_le _ _) (by simp)
  have HV := Lib.hid (visit_any hl hok hm (c := c) (x :: l.map Rul.y) (fun r hr => List.mem_cons_of_mem _ (List.mem_map.2 ⟨r, hr, rfl⟩)) (left (x :: l.map Rul.y) sNone) (by omega) (left (x :: l.map Rul.y) sNone))
  have HLE := Lib.hid hle
  have hrs := fun f cs a m W => run_store Tryz.prog W a (.func (.func f) #[] cs) m rfl
  clear hl hok hle
  have hmm := @run_makeMap Tryz.prog
  go_enter Tryz.func90, Tryz.ntmps90
  go_wp2_with (first | (go_at_call 129; refine (HV.out _ 0 sNone x ?_ (by simp) hxs (by omega) (Nat.le_refl _)).mono ?_; rotate_left; rintro e w1 ⟨rfl, n', S', g, d, hk⟩; have q5 := g.k5.cell 0 rfl))
  · go_ret
    exact ⟨_, n', rfl, by omega, by have := HLE.out; omega, by rw [← d.all]; exact g.mp, g.bel⟩
  · exact Gv.start l A c w
end Go.Proofs.YtkfeagokmcakgaaGreatDoor

namespace Go.Proofs.YtkfeagokmcakgaaGreatDoor
open Go.RowKit

def idB (n : Int) : Bool := decide (1 ≤ n) && decide (n ≤ 1000000)
set_option maxHeartbeats 400000 in
theorem isId_any (n : Int) (w : World) : Calls Tryz.prog 119 #[.int .i64 n] w (BoolEnd (idB n) w) := by
  by_cases h1 : 1 ≤ n <;> by_cases h2 : n ≤ 1000000
  all_goals
    go_enter Tryz.func119, Tryz.ntmps119
    go_wp2
    go_ret
    unfold BoolEnd idB
    simp [h1, h2]

theorem noL (s : ByteArray) : s.toList = [] ↔ s.size = 0 := by
  rw [ByteArray.toList_eq]
  constructor
  · intro h
    have := congrArg List.length h
    simpa using this
  · intro h
    obtain ⟨d⟩ := s
    have : d = #[] := Array.eq_empty_of_size_eq_zero h
    rw [this]
theorem noE (s : ByteArray) : s.toList.isEmpty = decide (s.size = 0) := by
  rw [Bool.eq_iff_iff, decide_eq_true_iff, List.isEmpty_iff, noL]

def shp1 (r : Rul) : Bool := nameB r.x && (decide (r.y.size = 0) && decide (r.of = 0))
def shp2 (r : Rul) : Bool := nameB r.x && (nameB r.y && decide (r.of = 0))
def shp5 (r : Rul) : Bool := shp2 r && !decide (r.x = r.y)
def shp6 (r : Rul) : Bool := decide (r.x.size = 0) && (decide (r.y.size = 0) && (idB r.of && !decide (r.of = r.id)))

set_option maxHeartbeats 1000000 in
theorem single1_any (r : Rul) (w : World) (hs : r.x.size ≤ 1000) : Calls Tryz.prog 150 #[r.agg] w (ShEnd (shp1 r) w) := by
  have h0 : shp1 r = (nameB r.x && (decide (r.y.size = 0) && decide (r.of = 0))) := rfl
  have H0 := Lib.hid h0; clear h0
  obtain ⟨id, kn, kd, x, y, of⟩ := r
  dsimp only at *
  have E1 := noE y
  have E2 := noL y
  by_cases h1 : nameB x = true
  · have H1 := Lib.hid h1; clear h1
    by_cases h2 : y.size = 0
    · rw [decide_eq_true h2] at E1
      replace E2 := E2.2 h2
      have H2 := Lib.hid h2; clear h2
      by_cases h3 : of = 0
      all_goals
        have H3 := Lib.hid h3
        have h4 : (of == 0) = decide (of = 0) := rfl
        simp only [h3, decide_true, decide_false] at h4
        clear h3
        go_enter Tryz.func150, Tryz.ntmps150
        go_wp2_with (first | (go_at_call 73; refine (isName_big _ _ hs).mono ?_; rintro e w' ⟨rfl, rfl⟩; rw [H1.out]))
        go_ret
        exact sh_ret (by rw [H0.out, H1.out]; simp [H2.out, H3.out]) (by repeat (first | with_reducible exact Below.refl _ _ | with_reducible assumption | with_reducible refine Below.drew ?_ | with_reducible refine below_drewN ?_ _ | (with_reducible refine Below.alloc ?_ ?_ _; rotate_left; (try simp) <;> omega) | (with_reducible refine Below.setCell ?_ ?_ _; rotate_left; (try simp) <;> omega)))
    · rw [decide_eq_false h2] at E1
      replace E2 := fun h => h2 (E2.1 h)
      have H2 := Lib.hid h2; clear h2
      go_enter Tryz.func150, Tryz.ntmps150
      go_wp2_with (first | (go_at_call 73; refine (isName_big _ _ hs).mono ?_; rintro e w' ⟨rfl, rfl⟩; rw [H1.out]))
      go_ret
      exact sh_ret (by rw [H0.out, H1.out]; simp [H2.out]) (by repeat (first | with_reducible exact Below.refl _ _ | with_reducible assumption | with_reducible refine Below.drew ?_ | with_reducible refine below_drewN ?_ _ | (with_reducible refine Below.alloc ?_ ?_ _; rotate_left; (try simp) <;> omega) | (with_reducible refine Below.setCell ?_ ?_ _; rotate_left; (try simp) <;> omega)))
  · have h1' : nameB x = false := by simpa using h1
    have H1 := Lib.hid h1'; clear h1 h1'
    go_enter Tryz.func150, Tryz.ntmps150
    go_wp2_with (first | (go_at_call 73; refine (isName_big _ _ hs).mono ?_; rintro e w' ⟨rfl, rfl⟩; rw [H1.out]))
    go_ret
    exact sh_ret (by rw [H0.out, H1.out]; simp) (by repeat (first | with_reducible exact Below.refl _ _ | with_reducible assumption | with_reducible refine Below.drew ?_ | with_reducible refine below_drewN ?_ _ | (with_reducible refine Below.alloc ?_ ?_ _; rotate_left; (try simp) <;> omega) | (with_reducible refine Below.setCell ?_ ?_ _; rotate_left; (try simp) <;> omega)))
set_option maxHeartbeats 1000000 in
theorem double1_any (r : Rul) (w : World) (hs : r.x.size ≤ 1000) (hs2 : r.y.size ≤ 1000) : Calls Tryz.prog 147 #[r.agg] w (ShEnd (shp2 r) w) := by
  have h0 : shp2 r = (nameB r.x && (nameB r.y && decide (r.of = 0))) := rfl
  have H0 := Lib.hid h0; clear h0
  obtain ⟨id, kn, kd, x, y, of⟩ := r
  dsimp only at *
  by_cases h1 : nameB x = true
  · have H1 := Lib.hid h1; clear h1
    have tk1 : True := trivial
    by_cases h2 : nameB y = true
    · have H2 := Lib.hid h2; clear h2
      by_cases h3 : of = 0
      all_goals
        have H3 := Lib.hid h3
        have h4 : (of == 0) = decide (of = 0) := rfl
        simp only [h3, decide_true, decide_false] at h4
        clear h3
        go_enter Tryz.func147, Tryz.ntmps147
        go_wp2_with (first | (go_at_call 73; have _t := tk1; refine (isName_big x _ hs).mono ?_; rintro e w' ⟨rfl, rfl⟩; rw [H1.out]; clear tk1) | (go_at_call 73; refine (isName_big y _ hs2).mono ?_; rintro e w' ⟨rfl, rfl⟩; rw [H2.out]))
        go_ret
        exact sh_ret (by rw [H0.out, H1.out, H2.out]; simp [H3.out]) (by repeat (first | with_reducible exact Below.refl _ _ | with_reducible assumption | with_reducible refine Below.drew ?_ | with_reducible refine below_drewN ?_ _ | (with_reducible refine Below.alloc ?_ ?_ _; rotate_left; (try simp) <;> omega) | (with_reducible refine Below.setCell ?_ ?_ _; rotate_left; (try simp) <;> omega)))
    · have h2' : nameB y = false := by simpa using h2
      have H2 := Lib.hid h2'; clear h2 h2'
      go_enter Tryz.func147, Tryz.ntmps147
      go_wp2_with (first | (go_at_call 73; have _t := tk1; refine (isName_big x _ hs).mono ?_; rintro e w' ⟨rfl, rfl⟩; rw [H1.out]; clear tk1) | (go_at_call 73; refine (isName_big y _ hs2).mono ?_; rintro e w' ⟨rfl, rfl⟩; rw [H2.out]))
      go_ret
      exact sh_ret (by rw [H0.out, H1.out, H2.out]; simp) (by repeat (first | with_reducible exact Below.refl _ _ | with_reducible assumption | with_reducible refine Below.drew ?_ | with_reducible refine below_drewN ?_ _ | (with_reducible refine Below.alloc ?_ ?_ _; rotate_left; (try simp) <;> omega) | (with_reducible refine Below.setCell ?_ ?_ _; rotate_left; (try simp) <;> omega)))
  · have h1' : nameB x = false := by simpa using h1
    have H1 := Lib.hid h1'; clear h1 h1'
    go_enter Tryz.func147, Tryz.ntmps147
    go_wp2_with (first | (go_at_call 73; refine (isName_big x _ hs).mono ?_; rintro e w' ⟨rfl, rfl⟩; rw [H1.out]))
    go_ret
    exact sh_ret (by rw [H0.out, H1.out]; simp) (by repeat (first | with_reducible exact Below.refl _ _ | with_reducible assumption | with_reducible refine Below.drew ?_ | with_reducible refine below_drewN ?_ _ | (with_reducible refine Below.alloc ?_ ?_ _; rotate_left; (try simp) <;> omega) | (with_reducible refine Below.setCell ?_ ?_ _; rotate_left; (try simp) <;> omega)))

set_option maxHeartbeats 1000000 in
theorem group1_any (r : Rul) (b : Nat) (w : World) (hs : r.x.size ≤ 1000) (hs2 : r.y.size ≤ 1000) (hb : b < w.heap.size) (hc : w.cell? ⟨b, 0, none⟩ = some (.func (.func 147) #[] #[])) :
    Calls Tryz.prog 121 #[r.agg, .pointer (some ⟨b, 0, none⟩)] w (ShEnd (shp5 r) w) := by
  have h0 : shp5 r = (shp2 r && !decide (r.x = r.y)) := rfl
  have H0 := Lib.hid h0; clear h0
  have HC := Lib.hid (double1_any r)
  obtain ⟨id, kn, kd, x, y, of⟩ := r
  dsimp only at *
  have E1 := str_eq x y
  by_cases h1 : shp2 ⟨id, kn, kd, x, y, of⟩ = true
  · have H1 := Lib.hid h1; clear h1
    by_cases h2 : x = y
    · rw [decide_eq_true h2] at E1
      have H2 := Lib.hid h2; clear h2
      go_enter Tryz.func121, Tryz.ntmps121
      go_wp2_with (first | (go_at_call 147; refine (HC.out _ hs hs2).mono ?_; rintro e w1 ⟨rfl, hb1⟩; rw [H1.out]; obtain ⟨hcc, hff⟩ := bcell hb1; have hz := hb1.size; try simp at hz))
      go_ret
      exact sh_ret (by rw [H0.out, H1.out]; simp [H2.out]) (((Below.refl _ _).alloc (Nat.le_refl _) _).trans (hb1.mono (by simp)))
    · rw [decide_eq_false h2] at E1
      have H2 := Lib.hid h2; clear h2
      go_enter Tryz.func121, Tryz.ntmps121
      go_wp2_with (first | (go_at_call 147; refine (HC.out _ hs hs2).mono ?_; rintro e w1 ⟨rfl, hb1⟩; rw [H1.out]; obtain ⟨hcc, hff⟩ := bcell hb1; have hz := hb1.size; try simp at hz))
      go_ret
      exact sh_ret (by rw [H0.out, H1.out]; simp [H2.out]) (((Below.refl _ _).alloc (Nat.le_refl _) _).trans (hb1.mono (by simp)))
  · have h1' : shp2 ⟨id, kn, kd, x, y, of⟩ = false := by simpa using h1
    have H1 := Lib.hid h1'; clear h1 h1'
    go_enter Tryz.func121, Tryz.ntmps121
    go_wp2_with (first | (go_at_call 147; refine (HC.out _ hs hs2).mono ?_; rintro e w1 ⟨rfl, hb1⟩; rw [H1.out]; obtain ⟨hcc, hff⟩ := bcell hb1; have hz := hb1.size; try simp at hz))
    go_ret
    exact sh_ret (by rw [H0.out, H1.out]; simp) (((Below.refl _ _).alloc (Nat.le_refl _) _).trans (hb1.mono (by simp)))

set_option maxHeartbeats 1000000 in
theorem void1_any (r : Rul) (w : World) : Calls Tryz.prog 122 #[r.agg] w (ShEnd (shp6 r) w) := by
  have h0 : shp6 r = (decide (r.x.size = 0) && (decide (r.y.size = 0) && (idB r.of && !decide (r.of = r.id)))) := rfl
  have H0 := Lib.hid h0; clear h0
  obtain ⟨id, kn, kd, x, y, of⟩ := r
  dsimp only at *
  have E1 := noE x
  have E2 := noL x
  have F1 := noE y
  have F2 := noL y
  by_cases h1 : x.size = 0
  · rw [decide_eq_true h1] at E1
    replace E2 := E2.2 h1
    have H1 := Lib.hid h1; clear h1
    by_cases h2 : y.size = 0
    · rw [decide_eq_true h2] at F1
      replace F2 := F2.2 h2
      have H2 := Lib.hid h2; clear h2
      by_cases h3 : idB of = true
      · have H3 := Lib.hid h3; clear h3
        by_cases h4 : of = id
        all_goals
          have H4 := Lib.hid h4
          have h5 : (of == id) = decide (of = id) := rfl
          simp only [h4, decide_true, decide_false] at h5
          clear h4
          go_enter Tryz.func122, Tryz.ntmps122
          go_wp2_with (first | (go_at_call 119; refine (isId_any _ _).mono ?_; rintro e w' ⟨rfl, rfl⟩; rw [H3.out]))
          go_ret
          exact sh_ret (by rw [H0.out, H3.out]; simp [H1.out, H2.out, bne, h5, H4.out]) (by repeat (first | with_reducible exact Below.refl _ _ | with_reducible assumption | with_reducible refine Below.drew ?_ | with_reducible refine below_drewN ?_ _ | (with_reducible refine Below.alloc ?_ ?_ _; rotate_left; (try simp) <;> omega) | (with_reducible refine Below.setCell ?_ ?_ _; rotate_left; (try simp) <;> omega)))
      · have h3' : idB of = false := by simpa using h3
        have H3 := Lib.hid h3'; clear h3 h3'
        go_enter Tryz.func122, Tryz.ntmps122
        go_wp2_with (first | (go_at_call 119; refine (isId_any _ _).mono ?_; rintro e w' ⟨rfl, rfl⟩; rw [H3.out]))
        go_ret
        exact sh_ret (by rw [H0.out, H3.out]; simp [H1.out, H2.out]) (by repeat (first | with_reducible exact Below.refl _ _ | with_reducible assumption | with_reducible refine Below.drew ?_ | with_reducible refine below_drewN ?_ _ | (with_reducible refine Below.alloc ?_ ?_ _; rotate_left; (try simp) <;> omega) | (with_reducible refine Below.setCell ?_ ?_ _; rotate_left; (try simp) <;> omega)))
    · rw [decide_eq_false h2] at F1
      replace F2 := fun h => h2 (F2.1 h)
      have H2 := Lib.hid h2; clear h2
      go_enter Tryz.func122, Tryz.ntmps122
      go_wp2
      go_ret
      exact sh_ret (by rw [H0.out]; simp [H1.out, H2.out]) (by repeat (first | with_reducible exact Below.refl _ _ | with_reducible assumption | with_reducible refine Below.drew ?_ | with_reducible refine below_drewN ?_ _ | (with_reducible refine Below.alloc ?_ ?_ _; rotate_left; (try simp) <;> omega) | (with_reducible refine Below.setCell ?_ ?_ _; rotate_left; (try simp) <;> omega)))
  · rw [decide_eq_false h1] at E1
    replace E2 := fun h => h1 (E2.1 h)
    have H1 := Lib.hid h1; clear h1
    go_enter Tryz.func122, Tryz.ntmps122
    go_wp2
    go_ret
    exact sh_ret (by rw [H0.out]; simp [H1.out]) (by repeat (first | with_reducible exact Below.refl _ _ | with_reducible assumption | with_reducible refine Below.drew ?_ | with_reducible refine below_drewN ?_ _ | (with_reducible refine Below.alloc ?_ ?_ _; rotate_left; (try simp) <;> omega) | (with_reducible refine Below.setCell ?_ ?_ _; rotate_left; (try simp) <;> omega)))
end Go.Proofs.YtkfeagokmcakgaaGreatDoor
