/- The second machine over this program: its types, its functions; a call without arguments. -/
import Derived.Test.YtjgnikmnadmheaaMD
import Derived.Test.YtjgnikmnadmheaaProg
import Derived.KernelRfl
namespace Go.Proofs.Ytjgnikmnadmheaa
open Go.RowKit

noncomputable def tree {α : Type} (f : Nat → Option α) (k : Nat) : Tr α → Tr α := Nat.rec (fun t => t) (fun k ih t => match f k with | some x => ih (t.set k x) | none => ih t) k
theorem tree_get {α : Type} (f : Nat → Option α) : ∀ (k : Nat) (t : Tr α) (i : Nat) (x : α), (tree f k t).get i = some x → (i < k ∧ f i = some x) ∨ t.get i = some x
  | 0, t, i, x, h => .inr h
  | k + 1, t, i, x, h => by
    change (match f k with | some y => tree f k (t.set k y) | none => tree f k t : Tr α).get i = some x at h
    split at h
    · rename_i y hy
      rcases tree_get f k _ i x h with ⟨h1, h2⟩ | h1
      · exact .inl ⟨by omega, h2⟩
      · rw [Tr.get_set] at h1
        by_cases e : i = k
        · subst e; rw [if_pos rfl] at h1; cases h1; exact .inl ⟨by omega, hy⟩
        · rw [if_neg e] at h1; exact .inr h1
    · rcases tree_get f k _ i x h with ⟨h1, h2⟩ | h1
      · exact .inl ⟨by omega, h2⟩
      · exact .inr h1

noncomputable def mkTv (P : Program) (t : Nat) : Option TV :=
  match P.info? t with
  | some i => match i.zero, P.underlying t with
    | some z, some u => Bool.rec none (some ⟨i.size, i.bytes, z, u, isAggD u⟩) (ground 3 z && z.cells.size == i.size)
    | _, _ => none
  | none => none
noncomputable def mkFn (P : Program) (wrs : List Nat) (f : Nat) : Option FI :=
  match P.funcs[f]? with
  | some fn => match fn.body with
    | some c => some ⟨c, fn.ntmps, fn.results.toList, wrs.contains f⟩
    | none => none
  | none => none
def fnOk (P : Program) (f : Nat) : Bool :=
  match P.funcs[f]? with
  | some fn => match fn.body with
    | some c => ck c && !(fn.name == "runtime.NumGoroutine")
    | none => true
  | none => true

theorem tvOk_of (P : Program) (n : Nat) : TvOk P (tree (mkTv P) n .e).get := ⟨fun t x h => by
  rcases tree_get _ _ _ _ _ h with ⟨_, h1⟩ | h1
  · unfold mkTv at h1
    split at h1
    · rename_i i hi
      split at h1
      · rename_i z u hz hu
        cases hg : (ground 3 z && z.cells.size == i.size) with
        | false => rw [hg] at h1; cases h1
        | true =>
          rw [hg] at h1; cases h1
          simp only [Bool.and_eq_true, beq_iff_eq] at hg
          exact ⟨⟨i, hi, rfl, rfl, hz⟩, hu, rfl, hg.1, hg.2⟩
      · cases h1
    · cases h1
  · rw [Tr.get_e] at h1; cases h1⟩

theorem fnsOk_of (P : Program) (wrs : List Nat) (N : Nat) (hck : (List.range N).all (fnOk P) = true) (f : Nat) (fi : FI) (h : (tree (mkFn P wrs) N .e).get f = some fi) :
    ∃ fn, P.funcs[f]? = some fn ∧ fn.body = some fi.body ∧ fn.ntmps = fi.ntmps ∧ fn.results.toList = fi.results ∧ ck fi.body = true ∧ (fn.name == "runtime.NumGoroutine") = false := by
  rcases tree_get _ _ _ _ _ h with ⟨hlt, h1⟩ | h1
  · have hok := List.all_eq_true.1 hck f (by simpa using hlt)
    unfold fnOk at hok
    unfold mkFn at h1
    split at h1
    · rename_i fn hfn
      rw [hfn] at hok
      dsimp only at hok
      split at h1
      · rename_i c hc
        rw [hc] at hok
        dsimp only at hok
        cases h1
        simp only [Bool.and_eq_true, Bool.not_eq_true'] at hok
        exact ⟨fn, hfn, hc, rfl, rfl, hok.1, hok.2⟩
      · cases h1
    · cases h1
  · rw [Tr.get_e] at h1; cases h1

noncomputable def tvs : Tr TV := tree (mkTv Try.prog) 157 .e
set_option maxRecDepth 100000 in
theorem fns_ok : (List.range 133).all (fnOk Try.prog) = true := by decide +kernel

end Go.Proofs.Ytjgnikmnadmheaa
