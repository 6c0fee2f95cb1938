/- Laws for walking a region that draws its order by hand: an operation that is not wanted, one that yields its value, a call that alone may come up. -/
import Derived.Test.YtjgnikmnadmheaaA0
import Derived.Deep.RegionHeld
import Derived.Deep.MidRow
namespace Go.Proofs.Ytjgnikmnadmheaa

section
variable {P : Program} {ops : Array Oper} {Q : Exit → Act → World → Prop} {S : World → Prop} {fuel : Nat} {listed : Array Bool} {a : Act} {w : World}
theorem held_skip (i : Nat) (d : Option Tmp) (hd : (ops[i]?).map (fun o => o.dst) = some d) (hs : Region.noSelect ops = true) (hf : Region.free .any ops listed i = true) (hr : (Region.ready .any ops listed).contains i = true)
    (hw : (ops[i]?).map (fun o => Region.wanted o (yielded ops a.tmps)) = some false) (hQ : ∀ c a w, Q (.panic c) (a.put d undef) w → Q (.panic c) a w) (hS : S w)
    (h : wpAnyH P .any ops Q S fuel (listed.setIfInBounds i true) (a.put d undef) w) : wpAnyH P .any ops Q S (fuel + 1) listed a w := by
  obtain ⟨o, ho⟩ : ∃ o, ops[i]? = some o := by
    cases hx : ops[i]? with
    | none => rw [hx] at hd; cases hd
    | some o => exact ⟨o, rfl⟩
  rw [ho] at hd hw
  obtain rfl : o.dst = d := Option.some.inj hd
  exact wpAnyH_take ho hs hf hr hQ (.inr ⟨Option.some.inj hw, rfl⟩) hS h
theorem held_take (i : Nat) (d : Option Tmp) (v : Value) (hd : (ops[i]?).map (fun o => o.dst) = some d) (hs : Region.noSelect ops = true) (hf : Region.free .any ops listed i = true) (hr : (Region.ready .any ops listed).contains i = true)
    (hw : (ops[i]?).map (fun o => Region.wanted o (yielded ops a.tmps)) = some true) (hQ : ∀ c a w, Q (.panic c) (a.put d v) w → Q (.panic c) a w) (hS : S w)
    (hy : ∀ w, S w → (ops[i]?).map (fun o => (execOp a.eval o).run P w) = some (.ok (.value v) w))
    (h : wpAnyH P .any ops Q S fuel (listed.setIfInBounds i true) (a.put d v) w) : wpAnyH P .any ops Q S (fuel + 1) listed a w := by
  obtain ⟨o, ho⟩ : ∃ o, ops[i]? = some o := by
    cases hx : ops[i]? with
    | none => rw [hx] at hd; cases hd
    | some o => exact ⟨o, rfl⟩
  rw [ho] at hd hw hy
  obtain rfl : o.dst = d := Option.some.inj hd
  exact wpAnyH_take ho hs hf hr hQ (.inl ⟨Option.some.inj hw, fun w hSw => Option.some.inj (hy w hSw)⟩) hS h
/-- the load of a whole row -/
theorem held_row (i : Nat) (d : Option Tmp) (ty : TypeId) (x : Operand) (b o : Nat) (cs : List Value) (td : TypeDesc) (hd : (ops[i]?).map (fun o => o.dst) = some d) (hop : (ops[i]?).map (fun o => o.op) = some (.load ty x)) (hs : Region.noSelect ops = true) (hf : Region.free .any ops listed i = true) (hr : (Region.ready .any ops listed).contains i = true)
    (hw : (ops[i]?).map (fun o => Region.wanted o (yielded ops a.tmps)) = some true) (hx : a.eval x = .pointer (some ⟨b, o, none⟩)) (hQ : ∀ c a w, Q (.panic c) (a.put d (.agg cs.toArray)) w → Q (.panic c) a w) (hS : S w)
    (hc : ∀ w, S w → w.rangeAt b o cs) (hu : P.underlying ty = some td) (hdr : td.isRow = true) (hi : (P.info? ty).map (·.size) = some cs.length)
    (h : wpAnyH P .any ops Q S fuel (listed.setIfInBounds i true) (a.put d (.agg cs.toArray)) w) : wpAnyH P .any ops Q S (fuel + 1) listed a w := by
  obtain ⟨op, ho⟩ : ∃ o, ops[i]? = some o := by
    cases hx : ops[i]? with
    | none => rw [hx] at hd; cases hd
    | some o => exact ⟨o, rfl⟩
  rw [ho] at hd hw hop
  obtain rfl : op.dst = d := Option.some.inj hd
  exact wpAnyH_take ho hs hf hr hQ (yieldsIf_load_mid (Option.some.inj hw) ty x (Option.some.inj hop) b o hx cs td hc hu hdr hi) hS h
/-- the call is the only one that may come up -/
theorem held_call (i : Nat) (d : Option Tmp) (f : FuncId) (args : Array Value) {R : Ending → World → Prop} (hd : (ops[i]?).map (fun o => o.dst) = some d) (hr : Region.ready .any ops listed = [i])
    (hw : (ops[i]?).map (fun o => Region.wanted o (yielded ops a.tmps)) = some true) (he : (ops[i]?).map (fun o => (execOp a.eval o).run P w) = some (.ok (.enter f args) w))
    (hc : Calls P f args w R) (h : ∀ e w', R e w' → ∃ v, e = .returned v ∧ S w' ∧ (S w' → wpAnyH P .any ops Q S fuel (listed.setIfInBounds i true) (a.put d v) w')) : wpAnyH P .any ops Q S (fuel + 1) listed a w := by
  obtain ⟨o, ho⟩ : ∃ o, ops[i]? = some o := by
    cases hx : ops[i]? with
    | none => rw [hx] at hd; cases hd
    | some o => exact ⟨o, rfl⟩
  rw [ho] at hd hw he
  obtain rfl : o.dst = d := Option.some.inj hd
  refine wpAnyH_all hr (by simp) fun j hj => ?_
  obtain rfl : j = i := by simpa using hj
  unfold wpOp
  rw [ho]
  dsimp only
  rw [if_pos (Option.some.inj hw)]
  refine .inl ?_
  unfold Oper.wp
  have he' := Option.some.inj he
  dsimp only at he'
  rw [he']
  refine hc.mono fun e w' hR => ?_
  obtain ⟨v, rfl, hS, hk⟩ := h e w' hR
  exact ⟨hS, hk hS⟩
end
end Go.Proofs.Ytjgnikmnadmheaa
