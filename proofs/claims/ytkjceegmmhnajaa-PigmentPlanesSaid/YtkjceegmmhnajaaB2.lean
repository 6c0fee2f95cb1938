/- PigmentMixes: for every input the law returns true and changes no argument. -/
import Derived.Test.YtkjceegmmhnajaaB1
import Derived.Test.YtkjceegmmhnajaaRows
import Derived.ProofKit
import Derived.Carry
import Derived.Deep.Slices
import Derived.Deep.Fields
import Derived.Laws.IdiomArrays
namespace Go.Proofs.Ytkjceegmmhnajaa
open Go.ChangeShapes Go.WideShapes Go.ChangeAt Go.RowKit Go.Deep

theorem list_of {α : Type} {Q : Nat → α → Prop} : ∀ (n : Nat), (∀ i, i < n → ∃ x, Q i x) → ∃ l : List α, l.length = n ∧ ∀ i (hi : i < l.length), Q i l[i]
  | 0, _ => ⟨[], rfl, fun i hi => by simp at hi⟩
  | n + 1, h => by
    obtain ⟨l, h1, h2⟩ := list_of n (fun i hi => h i (by omega))
    obtain ⟨x, hx⟩ := h n (by omega)
    refine ⟨l ++ [x], by simp [h1], fun i hi => ?_⟩
    by_cases e : i < l.length
    · rw [List.getElem_append_left e]; exact h2 i e
    · have : i = l.length := by simp at hi; omega
      subst this
      rw [List.getElem_append_right (Nat.le_refl _)]
      simp only [Nat.sub_self, List.getElem_cons_zero]
      rw [h1]; exact hx

theorem lies_rows {α : Type} {w : World} {a : Addr} {f : α → List Value} {s : Nat} (hs : 0 < s) (hf : ∀ x, (f x).length = s) (l : List α) (h : ∀ i (hi : i < l.length) j, j < s → w.cell? (a.add (i * s + j)) = (f l[i])[j]?) : Lies w w.heap.size (some a) (l.flatMap f) := by
  have hlen : ∀ l : List α, (l.flatMap f).length = l.length * s := fun l => by
    induction l with
    | nil => simp
    | cons x l ih => simp only [List.flatMap_cons, List.length_append, ih, hf, List.length_cons]; rw [Nat.add_mul]; omega
  have hat : ∀ (l : List α) (k : Nat) (hk : k < l.length) (j : Nat), j < s → (l.flatMap f)[k * s + j]? = (f l[k])[j]? := fun l => by
    induction l with
    | nil => intro k hk; simp at hk
    | cons x l ih =>
      intro k hk j hj
      cases k with
      | zero => simp only [List.flatMap_cons, Nat.zero_mul, Nat.zero_add, List.getElem_cons_zero]; rw [List.getElem?_append_left (by rw [hf]; exact hj)]
      | succ k =>
        simp only [List.flatMap_cons, List.getElem_cons_succ]
        rw [List.getElem?_append_right (by rw [hf, Nat.add_mul]; omega), hf]
        rw [show (k + 1) * s + j - s = k * s + j from by rw [Nat.add_mul]; omega]
        exact ih k (by simpa using hk) j hj
  intro hne
  have cell : ∀ j u, (l.flatMap f)[j]? = some u → w.cell? (a.add j) = some u := fun j u hj => by
    have hjl : j < l.length * s := by rw [← hlen]; exact (List.getElem?_eq_some_iff.1 hj).1
    have hk : j / s < l.length := Nat.div_lt_of_lt_mul (by rw [Nat.mul_comm]; exact hjl)
    have hr : j % s < s := Nat.mod_lt _ hs
    have hd : j / s * s + j % s = j := by rw [Nat.mul_comm]; exact Nat.div_add_mod j s
    have h1 := h (j / s) hk (j % s) hr
    have h2 := hat l (j / s) hk (j % s) hr
    rw [hd] at h1 h2
    rw [h1, ← h2]; exact hj
  refine ⟨a, rfl, ?_, cell⟩
  obtain ⟨u, hu⟩ : ∃ u, (l.flatMap f)[0]? = some u := by
    cases hl : l.flatMap f with
    | nil => exact absurd hl hne
    | cons x r => exact ⟨x, rfl⟩
  have h0 := cell 0 u hu
  have : (a.add 0).block = a.block := add_block a 0
  rw [← this]
  unfold World.cell? at h0
  split at h0
  · rename_i c e fr hb
    exact (Array.getElem?_eq_some_iff.1 hb).1
  · cases h0

theorem cells39 : Try.prog.cellsOf 39 = 5 := by kernel_rfl
theorem cells64 : Try.prog.cellsOf 64 = 2 := by kernel_rfl
theorem cells37 : Try.prog.cellsOf 37 = 3 := by kernel_rfl
theorem cells9 : Try.prog.cellsOf 9 = 1 := by kernel_rfl
theorem cells25 : Try.prog.cellsOf 25 = 1 := by kernel_rfl
theorem cells23 : Try.prog.cellsOf 23 = 1 := by kernel_rfl
theorem cellsI3 : Try.prog.cellsOf 3 = 1 := by kernel_rfl

section
variable {H : Type} {enc : TypeId × Value → H} {W : World} {sp : Nat → Bool} {hd : Bool}

set_option maxRecDepth 100000 in
theorem tint_cells {n : Nat} {cs : List Value} {x : DataW H × List MemPlace} (h : DataW.trod enc Try.prog W 0 sp hd n 39 cs = some x) : ∃ t : Tn, cs = t.cells ∧ t.name.size ≤ maxLen := by
  obtain ⟨xs, n', _, _, hlen, hxl, hf⟩ := DataW.trod_struct Try.underlying39 h
  rw [cells39] at hlen
  match cs, hlen with
  | [c0, c1, c2, c3, c4], _ =>
    have hx : ∀ i, i < 3 → ∃ y, xs[i]? = some y := fun i hi => ⟨xs[i]'(by rw [hxl]; exact hi), List.getElem?_eq_getElem _⟩
    obtain ⟨y0, e0⟩ := hx 0 (by omega)
    obtain ⟨y1, e1⟩ := hx 1 (by omega)
    obtain ⟨y2, e2⟩ := hx 2 (by omega)
    have f0 := (hf 0 _ rfl).trans e0
    have f1 := (hf 1 _ rfl).trans e1
    have f2 := (hf 2 _ rfl).trans e2
    simp only [List.getElem_toArray, List.getElem_cons_zero, List.getElem_cons_succ] at f0 f1 f2
    rw [cells9] at f0
    rw [cells37] at f1
    rw [cellsI3] at f2
    dsimp only [List.drop, List.take] at f0 f1 f2
    obtain ⟨s, hs, _, hsz⟩ := DataW.trod_string Try.underlying9 f0
    obtain ⟨z0, z1, z2, m, _, g0, g1, g2⟩ := trod_array3 Try.underlying37 cellsI3 f1
    obtain ⟨a, ha, _⟩ := DataW.trod_int Try.underlying3 g0
    obtain ⟨b, hb, _⟩ := DataW.trod_int Try.underlying3 g1
    obtain ⟨c, hc, _⟩ := DataW.trod_int Try.underlying3 g2
    obtain ⟨p, hp, _⟩ := DataW.trod_int Try.underlying3 f2
    cases hs; cases ha; cases hb; cases hc; cases hp
    exact ⟨⟨s, a, b, c, p⟩, rfl, hsz⟩

set_option maxRecDepth 100000 in
theorem part_cells {n : Nat} {cs : List Value} {x : DataW H × List MemPlace} (h : DataW.trod enc Try.prog W 0 sp hd n 64 cs = some x) : ∃ t : Pt, cs = t.cells := by
  obtain ⟨xs, n', _, _, hlen, hxl, hf⟩ := DataW.trod_struct Try.underlying64 h
  rw [cells64] at hlen
  match cs, hlen with
  | [c0, c1], _ =>
    have hx : ∀ i, i < 2 → ∃ y, xs[i]? = some y := fun i hi => ⟨xs[i]'(by rw [hxl]; exact hi), List.getElem?_eq_getElem _⟩
    obtain ⟨y0, e0⟩ := hx 0 (by omega)
    obtain ⟨y1, e1⟩ := hx 1 (by omega)
    have f0 := (hf 0 _ rfl).trans e0
    have f1 := (hf 1 _ rfl).trans e1
    simp only [List.getElem_toArray, List.getElem_cons_zero, List.getElem_cons_succ] at f0 f1
    rw [cellsI3] at f0 f1
    dsimp only [List.drop, List.take] at f0 f1
    obtain ⟨a, ha, _⟩ := DataW.trod_int Try.underlying3 f0
    obtain ⟨b, hb, _⟩ := DataW.trod_int Try.underlying3 f1
    cases ha; cases hb
    exact ⟨⟨a, b⟩, rfl⟩

set_option maxRecDepth 100000 in
theorem open_tints {n : Nat} {c : Value} {x : DataW H × List MemPlace} (h : DataW.trod enc Try.prog W 0 sp hd n 22 [c] = some x) :
    ∃ (l : List Tn) (A : Option Addr) (ct : Nat), c = .slice A l.length ct ∧ Lies W W.heap.size A (tintsC l) ∧ l.length ≤ maxLen ∧ ∀ t ∈ l, t.name.size ≤ maxLen := by
  rcases open_slice Try.underlying22 h with ⟨hc, _⟩ | ⟨a, len, cap, m, n', D, Pl, hc, hb, hl, hm, hmm, _, hi⟩
  · cases hc
    exact ⟨[], none, 0, rfl, fun h => absurd rfl h, Nat.zero_le _, fun t ht => by simp at ht⟩
  · cases hc
    have hlm : len ≤ m := by rw [hmm]; split <;> omega
    obtain ⟨l, h1, h2⟩ := list_of (Q := fun i (t : Tn) => W.cells? 0 (a.add (i * Try.prog.cellsOf 39)) (Try.prog.cellsOf 39) = some t.cells ∧ t.name.size ≤ maxLen) len (fun i hil => by
      obtain ⟨cs', g1, g2⟩ := hi i (by omega)
      obtain ⟨t, rfl, ht⟩ := tint_cells g2
      exact ⟨t, g1, ht⟩)
    subst h1
    refine ⟨l, some a, cap, rfl, ?_, by omega, fun t ht => ?_⟩
    · refine lies_rows (s := 5) (by omega) (fun x => rfl) l fun i hi j hj => ?_
      have := (World.cells?_some (h2 i hi).1).2.2
      rw [cells39] at this
      have h3 := this j hj
      rw [Go.Deep.add_add] at h3
      exact h3
    · obtain ⟨i, hi, rfl⟩ := List.mem_iff_getElem.1 ht
      exact (h2 i hi).2

set_option maxRecDepth 100000 in
theorem open_parts {n : Nat} {c : Value} {x : DataW H × List MemPlace} (h : DataW.trod enc Try.prog W 0 sp hd n 23 [c] = some x) :
    ∃ (l : List Pt) (A : Option Addr) (ct : Nat), c = .slice A l.length ct ∧ Lies W W.heap.size A (partsC l) ∧ l.length ≤ maxLen := by
  rcases open_slice Try.underlying23 h with ⟨hc, _⟩ | ⟨a, len, cap, m, n', D, Pl, hc, hb, hl, hm, hmm, _, hi⟩
  · cases hc
    exact ⟨[], none, 0, rfl, fun h => absurd rfl h, Nat.zero_le _⟩
  · cases hc
    have hlm : len ≤ m := by rw [hmm]; split <;> omega
    obtain ⟨l, h1, h2⟩ := list_of (Q := fun i (t : Pt) => W.cells? 0 (a.add (i * Try.prog.cellsOf 64)) (Try.prog.cellsOf 64) = some t.cells) len (fun i hil => by
      obtain ⟨cs', g1, g2⟩ := hi i (by omega)
      obtain ⟨t, rfl⟩ := part_cells g2
      exact ⟨t, g1⟩)
    subst h1
    refine ⟨l, some a, cap, rfl, ?_, by omega⟩
    refine lies_rows (s := 2) (by omega) (fun x => rfl) l fun i hi j hj => ?_
    have := (World.cells?_some (h2 i hi)).2.2
    rw [cells64] at this
    have h3 := this j hj
    rw [Go.Deep.add_add] at h3
    exact h3

set_option maxRecDepth 100000 in
theorem open_recipe {v : Value} {r : Reach} {b0 : Nat} {d : DataW H} {p : List MemPlace} (hv : Value.okWide Try.prog W r b0 25 v) (h : DataW.Trod enc Try.prog W 0 sp hd 25 v d p) :
    ∃ (l : List Pt) (A : Option Addr) (ct : Nat), v = .agg #[.slice A l.length ct] ∧ Lies W W.heap.size A (partsC l) ∧ l.length ≤ maxLen := by
  obtain ⟨cs, rfl, hsz⟩ := okWide_struct Try.underlying25 hv
  obtain ⟨fuel, hf⟩ := h
  obtain ⟨cl⟩ := cs
  rw [cells25] at hsz
  match cl, hsz with
  | [c0], _ =>
    obtain ⟨xs, n', _, _, hlen, hxl, hg⟩ := DataW.trod_struct Try.underlying25 hf
    have hx : ∃ y, xs[0]? = some y := ⟨xs[0]'(by rw [hxl]; exact Nat.zero_lt_one), List.getElem?_eq_getElem _⟩
    obtain ⟨y0, e0⟩ := hx
    have f0 := (hg 0 _ rfl).trans e0
    simp only [Value.cells, List.getElem_toArray, List.getElem_cons_zero] at f0
    rw [cells23] at f0
    dsimp only [List.drop, List.take] at f0
    obtain ⟨l, A, ct, rfl, h1, h2⟩ := open_parts f0
    exact ⟨l, A, ct, rfl, h1, h2⟩

set_option maxRecDepth 100000 in
theorem open_tintsV {v : Value} {r : Reach} {b0 : Nat} {d : DataW H} {p : List MemPlace} (hv : Value.okWide Try.prog W r b0 22 v) (h : DataW.Trod enc Try.prog W 0 sp hd 22 v d p) :
    ∃ (l : List Tn) (A : Option Addr) (ct : Nat), v = .slice A l.length ct ∧ Lies W W.heap.size A (tintsC l) ∧ l.length ≤ maxLen ∧ ∀ t ∈ l, t.name.size ≤ maxLen := by
  obtain ⟨a, len, cap, rfl⟩ := okWide_slice Try.underlying22 hv
  obtain ⟨fuel, hf⟩ := h
  exact open_tints hf
end
end Go.Proofs.Ytkjceegmmhnajaa
