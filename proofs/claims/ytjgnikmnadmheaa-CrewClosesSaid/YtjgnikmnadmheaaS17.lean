/- Appending a whole list onto a row of the call's own; where a day stands among rising days. -/
import Derived.Test.YtjgnikmnadmheaaS15
import Derived.Laws.OwnMore
import Derived.Tactics
namespace Go.Proofs.Ytjgnikmnadmheaa
open Go.RowKit

/-- append(own, xs...), the source nil, empty or not -/
theorem wpList_append_lies {P : Program} {w : World} {ops : Array Oper} {rest : List Oper} {o : Oper} {a : Act} {Q : Exit → Act → World → Prop} (hgd : o.guard = none) (s x : Operand) (t : TypeId)
    (ho : o.op = .call { callee := .builtin .append, args := #[s, x], argTypes := #[t, t] })
    (base : Nat) (e : TypeId) (i : TypeInfo) (z : Value) (size bytes : Nat) (ht : P.underlying t = some (.slice e)) (hi : P.info? e = some i) (hz : i.zero = some z)
    (hsize : i.size = size) (hby : i.bytes = bytes) (hzs : z.cells.size = size) (hsz : 0 < size)
    (v : Value) (n : Nat) (xs : List Value) (hs : a.eval s = v) (hown : w.ownsRow base e size v n xs)
    (B : Nat) (A : Option Addr) (m c : Nat) (news : List Value) (hx : a.eval x = .slice A m c) (hl : news.length = m * size) (hr : Lies w B A news) (h1 : ∀ u ∈ news, u.oneCell' = true)
    (h63 : n + m ≤ maxLen) (hbytes : (n + m) * bytes ≤ 140737488355328) (hbase : base ≤ w.heap.size)
    (h : ∀ v' w', w'.ownsRow base e size v' (n + m) (xs ++ news) → w.grownBy w' v.ownBlock → wpList P ops Q rest (a.put o.dst v') w') : wpList P ops Q (o :: rest) a w := by
  cases A with
  | some ad =>
    refine wpList_append_own w hgd s x t ho base e i z size bytes ht hi hz hsize hby hzs hsz v n xs hs hown ad m c news hx hl (fun j u hj => ?_) h1 h63 hbytes hbase (fun v' w' h2 h3 _ => h v' w' h2 h3)
    obtain ⟨ad2, e2, _, hc⟩ := hr (by intro e; rw [e] at hj; simp at hj)
    cases e2; exact hc j u hj
  | none =>
    have hn : news = [] := Classical.byContradiction fun hne => by
      obtain ⟨ad, e, _⟩ := hr hne
      cases e
    subst hn
    have hm : m = 0 := by
      rcases Nat.eq_zero_or_pos m with h0 | h0
      · exact h0
      · have := Nat.mul_pos h0 hsz; simp at hl; omega
    subst hm
    refine wpList_plain hgd fun K hK => ?_
    have hrun : (Builtin.append_ #[t, t] o.type #[v, .slice none 0 c]).run P w = .ok v w := by
      rcases hown.2 with ⟨rfl, rfl⟩ | ⟨g, cap, cur, rfl, _, _, hnc, _⟩
      · simp [Builtin.append_, run_underlying ht, sizeOf, typeInfo, hi, Builtin.lenOf, Builtin.firstCells]
      · simp [Builtin.append_, run_underlying ht, sizeOf, typeInfo, hi, Builtin.lenOf, Builtin.firstCells, hnc, storeCells]
    unfold Oper.wp
    simp [execOp, ho, resolve, invoke, builtin, hs, hx, hrun, Result.andThen]
    exact hK _ _ (h v w (by simpa using hown) (World.grownBy.refl w _))

theorem cntLt_at {l : List Int} (x : Int) (h : l.Pairwise (· < ·)) : ∀ j (hj : j < l.length), j < cntLt l x ↔ l[j] < x := by
  unfold cntLt
  induction l with
  | nil => intro j hj; simp at hj
  | cons y r ih =>
    intro j hj
    have h1 := List.pairwise_cons.1 h
    rw [List.countP_cons]
    have hall : ¬ y < x → r.countP (fun z => decide (z < x)) = 0 := fun hy => by
      rw [List.countP_eq_zero]
      intro z hz
      have := h1.1 z hz
      simp; omega
    cases j with
    | zero =>
      by_cases hy : y < x
      · simp [hy]
      · simp [hy, hall hy]
    | succ j =>
      have := ih h1.2 j (by simpa using hj)
      by_cases hy : y < x
      · simp [hy]; exact this
      · rw [hall hy]
        have hr := h1.1 _ (List.getElem_mem (by simpa using hj : j < r.length))
        simp [hy]; omega
theorem cntLt_le (l : List Int) (x : Int) : cntLt l x ≤ l.length := List.countP_le_length
/-- the reference's list when k days are over -/
def clK (l : List Int) (p k : Nat) (x : Int) : List Int := if k ≤ p then l.take k else insL (l.take k) p x
theorem clK_lo {l : List Int} {p k : Nat} {x : Int} (hk : k < l.length) (h : k < p) : clK l p (k + 1) x = clK l p k x ++ [l[k]] := by
  unfold clK; rw [if_pos (by omega), if_pos (by omega), List.take_succ_eq_append_getElem hk]
theorem clK_at {l : List Int} {p : Nat} {x : Int} (hk : p < l.length) : clK l p (p + 1) x = (clK l p p x ++ [x]) ++ [l[p]] := by
  unfold clK; rw [if_neg (by omega), if_pos (Nat.le_refl _), List.take_succ_eq_append_getElem hk]
  unfold insL
  rw [List.take_append_of_le_length (by simp; omega), List.take_take, Nat.min_self, List.drop_append_of_le_length (by simp; omega)]
  simp
theorem clK_hi {l : List Int} {p k : Nat} {x : Int} (hk : k < l.length) (h : p < k) : clK l p (k + 1) x = clK l p k x ++ [l[k]] := by
  unfold clK; rw [if_neg (by omega), if_neg (by omega), List.take_succ_eq_append_getElem hk]
  unfold insL
  rw [List.take_append_of_le_length (by simp; omega), List.drop_append_of_le_length (by simp; omega)]
  simp
theorem clK_len {l : List Int} {p k : Nat} (x : Int) (hk : k ≤ l.length) : (clK l p k x).length ≤ k + 1 := by
  unfold clK insL; split <;> simp <;> omega
theorem clK_end {l : List Int} {p : Nat} (x : Int) (h : p < l.length) : clK l p l.length x = insL l p x := by
  unfold clK; rw [if_neg (by omega), List.take_length]
theorem clK_end0 (l : List Int) (x : Int) : clK l l.length l.length x ++ [x] = insL l l.length x := by
  unfold clK insL; rw [if_pos (Nat.le_refl _)]; simp
end Go.Proofs.Ytjgnikmnadmheaa
