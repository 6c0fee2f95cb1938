/- CheckYard's odd operations: the load of the whole seasons, and a season of them. -/
import Derived.Test.YtjgnikmnadmheaaQ4
import Derived.Deep.MidRow
import Derived.Deep.CutRange
import Derived.Deep.DeepCutAuto
namespace Go.Proofs.Ytjgnikmnadmheaa
open Go.RowKit

def seC (se : Nat → Int) : List Value := (List.range 24).map fun k => Value.int .i64 (se k)
theorem seC_len (se : Nat → Int) : (seC se).length = 24 := by simp [seC]
theorem seC_at (se : Nat → Int) (k : Nat) (hk : k < 24) : (seC se)[k]? = some (.int .i64 (se k)) := by simp [seC, hk]
theorem info23 : (Try.prog.info? 23).map (·.size) = some 2 := by kernel_rfl
theorem info24 : (Try.prog.info? 24).map (·.size) = some 24 := by kernel_rfl
theorem index24 (se : Nat → Int) (k : Nat) (hk : k < 12) (w : World) :
    (Instr.index 24 (.agg (seC se).toArray) (.int .i64 k)).run Try.prog w = .ok (.agg #[.int .i64 (se (2 * k)), .int .i64 (se (2 * k + 1))]) w := by
  have h1 : (isAgg 23).run Try.prog w = .ok true w := by simp [isAgg, run_underlying Try.underlying23]
  have h2 : (sizeOf 23).run Try.prog w = .ok 2 w := by
    obtain ⟨i, hi, hs⟩ := Option.map_eq_some_iff.1 info23
    simp [sizeOf, typeInfo, hi, hs]
  have e : ((seC se).toArray).extract (k * 2) (k * 2 + 2) = #[.int .i64 (se (2 * k)), .int .i64 (se (2 * k + 1))] := by
    apply Array.toList_inj.1
    simp only [Array.toList_extract, List.extract_eq_take_drop]
    have a0 := seC_at se (2 * k) (by omega)
    have a1 := seC_at se (2 * k + 1) (by omega)
    apply List.ext_getElem?
    intro i
    rw [List.getElem?_take, List.getElem?_drop]
    match i with
    | 0 => simp; rw [show k * 2 = 2 * k by omega]; exact a0
    | 1 => simp; rw [show k * 2 + 1 = 2 * k + 1 by omega]; exact a1
    | i + 2 => simp; omega
  have hk1 : (0 : Int) ≤ (k : Int) ∧ (k : Int) < ((12 : Nat) : Int) := by omega
  simp only [Instr.index, asIntOf, Sem.run_bind, Sem.run_pure, Result.andThen_ok, run_underlying Try.underlying24]
  rw [if_pos hk1]
  simp only [part, Sem.run_bind, Sem.run_pure, Result.andThen_ok, h1, h2, if_true, Int.toNat_natCast]
  rw [e]
theorem wpList_index_run {P : Program} {ops : Array Oper} {rest : List Oper} {o : Oper} {a : Act} {w : World} {Q : Exit → Act → World → Prop} (hgd : o.guard = none) (t : TypeId) (x i : Operand) (ho : o.op = .index t x i)
    {v u r : Value} (hx : a.eval x = v) (hi : a.eval i = u) (hr : (Instr.index t v u).run P w = .ok r w) (h : wpList P ops Q rest (a.put o.dst r) w) : wpList P ops Q (o :: rest) a w :=
  wpList_plain hgd fun K hK => by
    unfold Oper.wp execOp
    simp only [ho, hx, hi, hr, Sem.run_bind, Sem.run_pure, Result.andThen_ok]
    exact hK _ _ h
theorem YardAt.seas {w0 w : World} {b B : Nat} {C : Array Value} {Y : Yd} (h : YardAt w0 B C Y) (hb : Bk w b 29 C) : w.rangeAt b 0 (seC Y.se) := fun j v hj => by
  have hlt : j < 24 := by have := (List.getElem?_eq_some_iff.1 hj).1; rwa [seC_len] at this
  rw [seC_at _ _ hlt] at hj
  cases hj
  rw [Nat.zero_add]
  exact hb.cell j (h.se j hlt)
end Go.Proofs.Ytjgnikmnadmheaa
