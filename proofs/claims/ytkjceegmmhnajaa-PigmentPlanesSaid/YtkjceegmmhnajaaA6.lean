/- A region that draws its order, from any point on: an invariant over the set of operations that are done. -/
import Derived.Test.YtkjceegmmhnajaaA0
import Derived.Deep.RegionHeld
import Derived.Orders
namespace Go.Proofs.Ytkjceegmmhnajaa
open Go.RowKit

section
variable {P : Program} {ops : Array Oper} {Q : Exit → Act → World → Prop} {S : World → Prop}

def left (listed : Array Bool) : Nat := (listed.toList.filter (fun b => !b)).length

theorem left_set : ∀ (l : List Bool) (i : Nat), l[i]? = some false → ((l.set i true).filter (fun b => !b)).length + 1 = (l.filter (fun b => !b)).length
  | [], i, h => by simp at h
  | b :: l, 0, h => by simp at h; subst h; simp
  | b :: l, i + 1, h => by
    have := left_set l i (by simpa using h)
    cases b <;> simp at * <;> omega

theorem wpAnyH_inv (hac : ∀ (i : Nat) (o : Oper), ops[i]? = some o → ∀ e ∈ o.after, e.on < i) (Inv : (Nat → Bool) → Act → World → Prop)
    (hstep : ∀ (done : Nat → Bool) (a : Act) (w : World) (i : Nat) (o : Oper), ops[i]? = some o → done i = false → (∀ e ∈ o.after, Region.binds .any e = true → done e.on = true) → Inv done a w →
      wpOp P ops Q i (fun a' w' => S w' ∧ Inv (fun j => done j || j == i) a' w') a w)
    (hend : ∀ (done : Nat → Bool) (a : Act) (w : World), (∀ i < ops.size, done i = true) → Inv done a w → Q .normal a w) :
    ∀ (fuel : Nat) (listed : Array Bool) (a : Act) (w : World), listed.size = ops.size → left listed ≤ fuel → Inv (fun j => listed.getD j false) a w → wpAnyH P .any ops Q S fuel listed a w := by
  have hall : ∀ listed : Array Bool, listed.size = ops.size → Region.ready .any ops listed = [] → ∀ i, i < ops.size → listed.getD i false = true := by
    intro listed hsz hr i
    induction i using Nat.strongRecOn with
    | _ i ih =>
      intro hi
      cases hd : listed.getD i false
      · have hmem : i ∈ Region.ready .any ops listed := by
          refine mem_ready.2 ⟨?_, ops[i], Array.getElem?_eq_getElem hi, fun e he _ => ?_⟩
          · simp [hsz, hi] at hd ⊢; exact hd
          · have := hac i _ (Array.getElem?_eq_getElem hi) e he
            exact ih e.on this (by omega)
        rw [hr] at hmem; cases hmem
      · rfl
  have hstepL : ∀ (listed : Array Bool) (a : Act) (w : World) (i : Nat), listed.size = ops.size → i ∈ Region.ready .any ops listed → Inv (fun j => listed.getD j false) a w →
      wpOp P ops Q i (fun a' w' => S w' ∧ Inv (fun j => (listed.setIfInBounds i true).getD j false) a' w') a w ∧ left (listed.setIfInBounds i true) + 1 = left listed := by
    intro listed a w i hsz hi hinv
    obtain ⟨h1, o, ho, h2⟩ := mem_ready.1 hi
    have hlt : i < ops.size := (Array.getElem?_eq_some_iff.1 ho).1
    have hd : listed.getD i false = false := by simp [hsz, hlt] at h1 ⊢; exact h1
    have hfun : (fun j => (listed.setIfInBounds i true).getD j false) = (fun j => listed.getD j false || j == i) := by
      funext j
      by_cases hj : i = j
      · subst hj; simp [hsz, hlt]
      · rw [getD_set_ne false hj]; have : (j == i) = false := by rw [beq_eq_false_iff_ne]; exact fun e => hj e.symm
        simp [this]
    rw [hfun]
    refine ⟨hstep _ a w i o ho hd h2 hinv, ?_⟩
    have hl : listed.toList[i]? = some false := by
      have hi' : i < listed.size := by omega
      simp [hi'] at hd ⊢; exact hd
    have := left_set listed.toList i hl
    unfold left
    rw [Array.toList_setIfInBounds]; exact this
  intro fuel
  induction fuel with
  | zero =>
    intro listed a w hsz hl hinv
    have hr : Region.ready .any ops listed = [] := by
      rcases hrd : Region.ready .any ops listed with _ | ⟨i, r⟩
      · rfl
      · have := (hstepL listed a w i hsz (by rw [hrd]; simp) hinv).2
        omega
    exact ⟨hr, hend _ a w (hall listed hsz hr) hinv⟩
  | succ fuel ih =>
    intro listed a w hsz hl hinv
    refine ⟨fun hr => hend _ a w (hall listed hsz hr) hinv, fun i hi => ?_⟩
    obtain ⟨h1, h2⟩ := hstepL listed a w i hsz hi hinv
    exact wpOp_mono (fun a' w' h => ⟨h.1, ih _ a' w' (by simp [hsz]) (by omega) h.2⟩) h1

theorem held_plain {K : Act → World → Prop} {a : Act} {w : World} {i : Nat} {o : Oper} (ho : ops[i]? = some o) (hg : o.guard = none) (h : o.wp P a w K Q) : wpOp P ops Q i K a w := by
  unfold wpOp
  rw [ho]
  have hw : Region.wanted o (yielded ops a.tmps) = true := by simp [Region.wanted, hg]
  simp only [hw, if_true]
  exact .inl h
theorem oper_run {K : Act → World → Prop} {a : Act} {w : World} {o : Oper} {v : Value} {w' : World} (hr : (execOp a.eval o).run P w = .ok (.value v) w') (h : K (a.put o.dst v) w') : o.wp P a w K Q := by
  unfold Oper.wp; rw [hr]; exact h
theorem oper_skip {K : Act → World → Prop} {a : Act} {w : World} {o : Oper} {w' : World} (hr : (execOp a.eval o).run P w = .ok .skip w') (h : K (a.put o.dst undef) w') : o.wp P a w K Q := by
  unfold Oper.wp; rw [hr]; exact h
theorem oper_call {K : Act → World → Prop} {a : Act} {w : World} {o : Oper} {f : FuncId} {args : Array Value} (hr : (execOp a.eval o).run P w = .ok (.enter f args) w) {R : Ending → World → Prop} (hc : Calls P f args w R) (h : ∀ e w', R e w' → ∃ v, e = .returned v ∧ K (a.put o.dst v) w') : o.wp P a w K Q := by
  unfold Oper.wp; rw [hr]
  refine hc.mono fun e w' hR => ?_
  obtain ⟨v, rfl, hk⟩ := h e w' hR
  exact hk
end
end Go.Proofs.Ytkjceegmmhnajaa
