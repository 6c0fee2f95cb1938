/- The laws' arguments, opened: yards, tasks, plans, lists of integers. -/
import Derived.Test.YtjgnikmnadmheaaQ4
import Derived.Test.YtjgnikmnadmheaaRows
import Derived.ProofKit
import Derived.Carry
import Derived.Deep.Slices
import Derived.Deep.Fields
import Derived.Laws.IdiomArrays
import Derived.OpenShut
namespace Go.Proofs.Ytjgnikmnadmheaa
open Go.ChangeShapes Go.WideShapes Go.ChangeAt Go.RowKit Go.Deep

theorem list_of {α : Type} {Q : Nat → α → Prop} : ∀ (n : Nat), (∀ i, i < n → ∃ x, Q i x) → ∃ l : List α, l.length = n ∧ ∀ i (hi : i < l.length), Q i l[i]
  | 0, _ => ⟨[], rfl, fun i hi => by simp at hi⟩
  | n + 1, h => by
    obtain ⟨l, h1, h2⟩ := list_of n (fun i hi => h i (by omega))
    obtain ⟨x, hx⟩ := h n (by omega)
    refine ⟨l ++ [x], by simp [h1], fun i hi => ?_⟩
    by_cases e : i < l.length
    · rw [List.getElem_append_left e]; exact h2 i e
    · have : i = l.length := by simp at hi; omega
      subst this
      rw [List.getElem_append_right (Nat.le_refl _)]
      simp only [Nat.sub_self, List.getElem_cons_zero]
      rw [h1]; exact hx

theorem lies_rows {α : Type} {w : World} {a : Addr} {f : α → List Value} {s : Nat} (hs : 0 < s) (hf : ∀ x, (f x).length = s) (l : List α) (h : ∀ i (hi : i < l.length) j, j < s → w.cell? (a.add (i * s + j)) = (f l[i])[j]?) : Lies w w.heap.size (some a) (l.flatMap f) := by
  intro hne
  have cell : ∀ j u, (l.flatMap f)[j]? = some u → w.cell? (a.add j) = some u := fun j u hj => by
    have hjl : j < l.length * s := by rw [← flat_length f s hf l]; exact (List.getElem?_eq_some_iff.1 hj).1
    have hk : j / s < l.length := Nat.div_lt_of_lt_mul (by rw [Nat.mul_comm]; exact hjl)
    have hr : j % s < s := Nat.mod_lt _ hs
    have hd : j / s * s + j % s = j := by rw [Nat.mul_comm]; exact Nat.div_add_mod j s
    have h1 := h (j / s) hk (j % s) hr
    have h2 := flat_at f s hf l (j / s) hk (j % s) hr
    rw [hd] at h1 h2
    rw [h1, ← h2]; exact hj
  refine ⟨a, rfl, ?_, cell⟩
  obtain ⟨u, hu⟩ : ∃ u, (l.flatMap f)[0]? = some u := by
    cases hl : l.flatMap f with
    | nil => exact absurd hl hne
    | cons x r => exact ⟨x, rfl⟩
  have h0 := cell 0 u hu
  have : (a.add 0).block = a.block := add_block a 0
  rw [← this]
  exact block_lt_of_cell h0

section
variable {H : Type} {enc : TypeId × Value → H} {W : World} {sp : Nat → Bool} {hd : Bool}

theorem open_rows {α : Type} {f : α → List Value} {Qp : α → Prop} {t e s : Nat} (ht : Try.prog.underlying t = some (.slice e)) (hc : Try.prog.cellsOf e = s) (hs : 0 < s) (hf : ∀ x, (f x).length = s)
    (hel : ∀ {n : Nat} {cs : List Value} {x : DataW H × List MemPlace}, DataW.trod enc Try.prog W 0 sp hd n e cs = some x → ∃ y, cs = f y ∧ Qp y)
    {n : Nat} {c : Value} {x : DataW H × List MemPlace} (h : DataW.trod enc Try.prog W 0 sp hd n t [c] = some x) :
    ∃ (l : List α) (A : Option Addr) (ct : Nat), c = .slice A l.length ct ∧ Lies W W.heap.size A (l.flatMap f) ∧ l.length ≤ maxLen ∧ ∀ t ∈ l, Qp t := by
  rcases open_slice ht h with ⟨hc, _⟩ | ⟨a, len, cap, m, n', D, Pl, hc', hb, hl, hm, hmm, _, hi⟩
  · cases hc
    exact ⟨[], none, 0, rfl, fun h => absurd rfl h, Nat.zero_le _, fun t ht => by simp at ht⟩
  · cases hc'
    have hlm : len ≤ m := by rw [hmm]; split <;> omega
    obtain ⟨l, h1, h2⟩ := list_of (Q := fun i (t : α) => W.cells? 0 (a.add (i * Try.prog.cellsOf e)) (Try.prog.cellsOf e) = some (f t) ∧ Qp t) len (fun i hil => by
      obtain ⟨cs', g1, g2⟩ := hi i (by omega)
      obtain ⟨t, rfl, ht⟩ := hel g2
      exact ⟨t, g1, ht⟩)
    subst h1
    refine ⟨l, some a, cap, rfl, ?_, by omega, fun t ht => ?_⟩
    · refine lies_rows hs hf l fun i hi j hj => ?_
      have := (World.cells?_some (h2 i hi).1).2.2
      rw [hc] at this
      have h3 := this j hj
      rw [Go.Deep.add_add] at h3
      exact h3
    · obtain ⟨i, hi, rfl⟩ := List.mem_iff_getElem.1 ht
      exact (h2 i hi).2

theorem cells3 : Try.prog.cellsOf 3 = 1 := by kernel_rfl
theorem cells9 : Try.prog.cellsOf 9 = 1 := by kernel_rfl
theorem cells23 : Try.prog.cellsOf 23 = 2 := by kernel_rfl
theorem cells24 : Try.prog.cellsOf 24 = 24 := by kernel_rfl
theorem cells25 : Try.prog.cellsOf 25 = 1 := by kernel_rfl
theorem cells26 : Try.prog.cellsOf 26 = 1 := by kernel_rfl
theorem cells27 : Try.prog.cellsOf 27 = 1 := by kernel_rfl
theorem cells29 : Try.prog.cellsOf 29 = 28 := by kernel_rfl
theorem cells40 : Try.prog.cellsOf 40 = 1 := by kernel_rfl
theorem cells42 : Try.prog.cellsOf 42 = 1 := by kernel_rfl
theorem cells46 : Try.prog.cellsOf 46 = 1 := by kernel_rfl
theorem cells48 : Try.prog.cellsOf 48 = 4 := by kernel_rfl
theorem cells55 : Try.prog.cellsOf 55 = 3 := by kernel_rfl
theorem cells78 : Try.prog.cellsOf 78 = 4 := by kernel_rfl
theorem cells87 : Try.prog.cellsOf 87 = 3 := by kernel_rfl

theorem int_cell {n : Nat} {cs : List Value} {x : DataW H × List MemPlace} (h : DataW.trod enc Try.prog W 0 sp hd n 3 cs = some x) : ∃ k : Int, cs = [.int .i64 k] ∧ (-9223372036854775808 ≤ k ∧ k ≤ 9223372036854775807) := by
  obtain ⟨k, h1, _, h2⟩ := DataW.trod_int Try.underlying3 h
  exact ⟨k, h1, Go.bounds_i64 h2⟩
theorem str_cell {n : Nat} {cs : List Value} {x : DataW H × List MemPlace} (h : DataW.trod enc Try.prog W 0 sp hd n 9 cs = some x) : ∃ s : ByteArray, cs = [.string s] ∧ s.size ≤ maxLen := by
  obtain ⟨s, h1, _, h2⟩ := DataW.trod_string Try.underlying9 h
  exact ⟨s, h1, h2⟩
theorem flat_one {α : Type} (g : α → Value) (l : List α) : l.flatMap (fun x => [g x]) = l.map g := by
  induction l with
  | nil => rfl
  | cons x l ih => rw [List.flatMap_cons, ih]; rfl
/-- what an int of the model's may be -/
def i64 (k : Int) : Prop := -9223372036854775808 ≤ k ∧ k ≤ 9223372036854775807
theorem open_ints {n : Nat} {c : Value} {x : DataW H × List MemPlace} (h : DataW.trod enc Try.prog W 0 sp hd n 25 [c] = some x) :
    ∃ (l : List Int) (A : Option Addr) (ct : Nat), c = .slice A l.length ct ∧ Lies W W.heap.size A (ints l) ∧ l.length ≤ maxLen ∧ ∀ k ∈ l, i64 k := by
  obtain ⟨l, A, ct, h1, h2, h3, h4⟩ := open_rows (f := fun k : Int => [Value.int .i64 k]) (Qp := i64) Try.underlying25 cells3 (by omega) (fun _ => rfl) (fun h => int_cell h) h
  exact ⟨l, A, ct, h1, by rw [flat_one (Value.int .i64)] at h2; exact h2, h3, h4⟩
theorem open_strs {n : Nat} {c : Value} {x : DataW H × List MemPlace} (h : DataW.trod enc Try.prog W 0 sp hd n 46 [c] = some x) :
    ∃ (l : List ByteArray) (A : Option Addr) (ct : Nat), c = .slice A l.length ct ∧ Lies W W.heap.size A (strsC l) ∧ l.length ≤ maxLen ∧ ∀ s ∈ l, s.size ≤ maxLen := by
  obtain ⟨l, A, ct, h1, h2, h3, h4⟩ := open_rows (f := fun s : ByteArray => [Value.string s]) (Qp := fun s => s.size ≤ maxLen) Try.underlying46 cells9 (by omega) (fun _ => rfl) (fun h => str_cell h) h
  exact ⟨l, A, ct, h1, by rw [flat_one Value.string] at h2; exact h2, h3, h4⟩

/-- a struct of one-cell fields, field by field -/
theorem struct_cells {n t s : Nat} {fs : Array Field} {cs : List Value} {x : DataW H × List MemPlace} (ht : Try.prog.underlying t = some (.struct fs)) (hC : Try.prog.cellsOf t = s) (h : DataW.trod enc Try.prog W 0 sp hd n t cs = some x) :
    cs.length = s ∧ ∀ (j : Nat) (f : Field), fs[j]? = some f → ∃ (m : Nat) (y : DataW H × List MemPlace), DataW.trod enc Try.prog W 0 sp hd m f.type ((cs.drop f.offset).take (Try.prog.cellsOf f.type)) = some y := by
  obtain ⟨xs, n', _, _, hlen, hxl, hf⟩ := DataW.trod_struct ht h
  refine ⟨hlen.trans hC, fun j f hj => ?_⟩
  have hjl : j < fs.size := (Array.getElem?_eq_some_iff.1 hj).1
  exact ⟨n', _, (hf j f hj).trans (List.getElem?_eq_getElem (by omega))⟩

set_option maxRecDepth 100000 in
theorem pit_cells {n : Nat} {cs : List Value} {x : DataW H × List MemPlace} (h : DataW.trod enc Try.prog W 0 sp hd n 87 cs = some x) : ∃ p : Pit, cs = p.cells ∧ (i64 p.s ∧ i64 p.a ∧ i64 p.b) := by
  obtain ⟨hlen, hf⟩ := struct_cells Try.underlying87 cells87 h
  match cs, hlen with
  | [c0, c1, c2], _ =>
    obtain ⟨_, _, f0⟩ := hf 0 _ rfl
    obtain ⟨_, _, f1⟩ := hf 1 _ rfl
    obtain ⟨_, _, f2⟩ := hf 2 _ rfl
    simp only [List.getElem_toArray, List.getElem_cons_zero, List.getElem_cons_succ] at f0 f1 f2
    rw [cells3] at f0 f1 f2
    dsimp only [List.drop, List.take] at f0 f1 f2
    obtain ⟨a, ha, b0⟩ := int_cell f0
    obtain ⟨b, hb, b1⟩ := int_cell f1
    obtain ⟨c, hc, b2⟩ := int_cell f2
    cases ha; cases hb; cases hc
    exact ⟨⟨a, b, c⟩, rfl, b0, b1, b2⟩
set_option maxRecDepth 100000 in
theorem mas_cells {n : Nat} {cs : List Value} {x : DataW H × List MemPlace} (h : DataW.trod enc Try.prog W 0 sp hd n 78 cs = some x) : ∃ m : Mas, cs = m.cells ∧ m.name.size ≤ maxLen ∧ (i64 m.f ∧ i64 m.u ∧ i64 m.k) := by
  obtain ⟨hlen, hf⟩ := struct_cells Try.underlying78 cells78 h
  match cs, hlen with
  | [c0, c1, c2, c3], _ =>
    obtain ⟨_, _, f0⟩ := hf 0 _ rfl
    obtain ⟨_, _, f1⟩ := hf 1 _ rfl
    obtain ⟨_, _, f2⟩ := hf 2 _ rfl
    obtain ⟨_, _, f3⟩ := hf 3 _ rfl
    simp only [List.getElem_toArray, List.getElem_cons_zero, List.getElem_cons_succ] at f0 f1 f2 f3
    rw [cells9] at f0
    rw [cells3] at f1 f2 f3
    dsimp only [List.drop, List.take] at f0 f1 f2 f3
    obtain ⟨s, hs, b0⟩ := str_cell f0
    obtain ⟨a, ha, b1⟩ := int_cell f1
    obtain ⟨b, hb, b2⟩ := int_cell f2
    obtain ⟨c, hc, b3⟩ := int_cell f3
    cases hs; cases ha; cases hb; cases hc
    exact ⟨⟨s, a, b, c⟩, rfl, b0, b1, b2, b3⟩
set_option maxRecDepth 100000 in
theorem task_cells {n : Nat} {cs : List Value} {x : DataW H × List MemPlace} (h : DataW.trod enc Try.prog W 0 sp hd n 48 cs = some x) :
    ∃ t : Tk, cs = t.cells ∧ (i64 t.work ∧ i64 t.need) ∧ (Lies W W.heap.size t.aA (ints t.af) ∧ t.af.length ≤ maxLen ∧ ∀ k ∈ t.af, i64 k) ∧ (Lies W W.heap.size t.cA (strsC t.co) ∧ t.co.length ≤ maxLen ∧ ∀ s ∈ t.co, s.size ≤ maxLen) := by
  obtain ⟨hlen, hf⟩ := struct_cells Try.underlying48 cells48 h
  match cs, hlen with
  | [c0, c1, c2, c3], _ =>
    obtain ⟨_, _, f0⟩ := hf 0 _ rfl
    obtain ⟨_, _, f1⟩ := hf 1 _ rfl
    obtain ⟨_, _, f2⟩ := hf 2 _ rfl
    obtain ⟨_, _, f3⟩ := hf 3 _ rfl
    simp only [List.getElem_toArray, List.getElem_cons_zero, List.getElem_cons_succ] at f0 f1 f2 f3
    rw [cells3] at f0 f1
    rw [cells25] at f2
    rw [cells46] at f3
    dsimp only [List.drop, List.take] at f0 f1 f2 f3
    obtain ⟨a, ha, b0⟩ := int_cell f0
    obtain ⟨b, hb, b1⟩ := int_cell f1
    obtain ⟨l, A, ct, hl, l1, l2, l3⟩ := open_ints f2
    obtain ⟨m, B, cu, hm, m1, m2, m3⟩ := open_strs f3
    cases ha; cases hb; cases hl; cases hm
    exact ⟨⟨a, b, A, ct, l, B, cu, m⟩, rfl, ⟨b0, b1⟩, ⟨l1, l2, l3⟩, m1, m2, m3⟩

/-- a turn of a plan -/
structure Tu where
  day : Int
  pit : Int
  mas : Int
abbrev Tu.cells (t : Tu) : List Value := [.int .i64 t.day, .int .i64 t.pit, .int .i64 t.mas]
abbrev Tu.agg (t : Tu) : Value := .agg #[.int .i64 t.day, .int .i64 t.pit, .int .i64 t.mas]
def turnsC (l : List Tu) : List Value := l.flatMap Tu.cells
set_option maxRecDepth 100000 in
theorem turn_cells {n : Nat} {cs : List Value} {x : DataW H × List MemPlace} (h : DataW.trod enc Try.prog W 0 sp hd n 55 cs = some x) : ∃ p : Tu, cs = p.cells ∧ (i64 p.day ∧ i64 p.pit ∧ i64 p.mas) := by
  obtain ⟨hlen, hf⟩ := struct_cells Try.underlying55 cells55 h
  match cs, hlen with
  | [c0, c1, c2], _ =>
    obtain ⟨_, _, f0⟩ := hf 0 _ rfl
    obtain ⟨_, _, f1⟩ := hf 1 _ rfl
    obtain ⟨_, _, f2⟩ := hf 2 _ rfl
    simp only [List.getElem_toArray, List.getElem_cons_zero, List.getElem_cons_succ] at f0 f1 f2
    rw [cells3] at f0 f1 f2
    dsimp only [List.drop, List.take] at f0 f1 f2
    obtain ⟨a, ha, b0⟩ := int_cell f0
    obtain ⟨b, hb, b1⟩ := int_cell f1
    obtain ⟨c, hc, b2⟩ := int_cell f2
    cases ha; cases hb; cases hc
    exact ⟨⟨a, b, c⟩, rfl, b0, b1, b2⟩

set_option maxRecDepth 100000 in
theorem open_pits {n : Nat} {c : Value} {x : DataW H × List MemPlace} (h : DataW.trod enc Try.prog W 0 sp hd n 26 [c] = some x) :
    ∃ (l : List Pit) (A : Option Addr) (ct : Nat), c = .slice A l.length ct ∧ Lies W W.heap.size A (pitsC l) ∧ l.length ≤ maxLen ∧ ∀ p ∈ l, i64 p.s ∧ i64 p.a ∧ i64 p.b :=
  open_rows (f := Pit.cells) Try.underlying26 cells87 (by omega) (fun _ => rfl) (fun h => pit_cells h) h
set_option maxRecDepth 100000 in
theorem open_mass {n : Nat} {c : Value} {x : DataW H × List MemPlace} (h : DataW.trod enc Try.prog W 0 sp hd n 27 [c] = some x) :
    ∃ (l : List Mas) (A : Option Addr) (ct : Nat), c = .slice A l.length ct ∧ Lies W W.heap.size A (massC l) ∧ l.length ≤ maxLen ∧ ∀ m ∈ l, m.name.size ≤ maxLen ∧ (i64 m.f ∧ i64 m.u ∧ i64 m.k) :=
  open_rows (f := Mas.cells) Try.underlying27 cells78 (by omega) (fun _ => rfl) (fun h => mas_cells h) h
set_option maxRecDepth 100000 in
set_option maxRecDepth 100000 in
theorem open_turns {n : Nat} {c : Value} {x : DataW H × List MemPlace} (h : DataW.trod enc Try.prog W 0 sp hd n 40 [c] = some x) :
    ∃ (l : List Tu) (A : Option Addr) (ct : Nat), c = .slice A l.length ct ∧ Lies W W.heap.size A (turnsC l) ∧ l.length ≤ maxLen ∧ ∀ p ∈ l, i64 p.day ∧ i64 p.pit ∧ i64 p.mas :=
  open_rows (f := Tu.cells) Try.underlying40 cells55 (by omega) (fun _ => rfl) (fun h => turn_cells h) h

/-- the integers of tasks and of a yard are the model's -/
def Tk.ok (t : Tk) : Prop := i64 t.work ∧ i64 t.need ∧ (∀ k ∈ t.af, i64 k) ∧ ∀ s ∈ t.co, s.size ≤ maxLen
structure Yd.ok (Y : Yd) : Prop where
  se : ∀ k, k < 24 → i64 (Y.se k)
  cl : ∀ k ∈ Y.cl, i64 k
  pi : ∀ p ∈ Y.pi, i64 p.s ∧ i64 p.a ∧ i64 p.b
  ma : ∀ m ∈ Y.ma, m.name.size ≤ maxLen ∧ (i64 m.f ∧ i64 m.u ∧ i64 m.k)
  dry : i64 Y.dry

set_option maxRecDepth 100000 in
theorem open_tasks {v : Value} {r : Reach} {b0 : Nat} {d : DataW H} {p : List MemPlace} (hv : Value.okWide Try.prog W r b0 30 v) (h : DataW.Trod enc Try.prog W 0 sp hd 30 v d p) :
    ∃ (l : List Tk) (A : Option Addr) (ct : Nat), v = .slice A l.length ct ∧ TasksAt W W.heap.size A l ∧ l.length ≤ maxLen ∧ ∀ t ∈ l, t.ok := by
  obtain ⟨a, len, cap, rfl⟩ := okWide_slice Try.underlying30 hv
  obtain ⟨fuel, hf⟩ := h
  obtain ⟨l, A, ct, h1, h2, h3, h4⟩ := open_rows (f := Tk.cells) Try.underlying30 cells48 (by omega) (fun _ => rfl) (fun h => task_cells h) hf
  exact ⟨l, A, ct, h1, ⟨h2, fun t ht => (h4 t ht).2.1.1, fun t ht => (h4 t ht).2.2.1⟩, h3, fun t ht => ⟨(h4 t ht).1.1, (h4 t ht).1.2, (h4 t ht).2.1.2.2, (h4 t ht).2.2.2.2⟩⟩
set_option maxRecDepth 100000 in
theorem open_intsV {v : Value} {r : Reach} {b0 : Nat} {d : DataW H} {p : List MemPlace} (hv : Value.okWide Try.prog W r b0 25 v) (h : DataW.Trod enc Try.prog W 0 sp hd 25 v d p) :
    ∃ (l : List Int) (A : Option Addr) (ct : Nat), v = .slice A l.length ct ∧ Lies W W.heap.size A (ints l) ∧ l.length ≤ maxLen ∧ ∀ k ∈ l, i64 k := by
  obtain ⟨a, len, cap, rfl⟩ := okWide_slice Try.underlying25 hv
  obtain ⟨fuel, hf⟩ := h
  exact open_ints hf
set_option maxRecDepth 100000 in
theorem open_plan {v : Value} {r : Reach} {b0 : Nat} {d : DataW H} {p : List MemPlace} (hv : Value.okWide Try.prog W r b0 42 v) (h : DataW.Trod enc Try.prog W 0 sp hd 42 v d p) :
    ∃ (l : List Tu) (A : Option Addr) (ct : Nat), v = .agg #[.slice A l.length ct] ∧ Lies W W.heap.size A (turnsC l) ∧ l.length ≤ maxLen ∧ ∀ p ∈ l, i64 p.day ∧ i64 p.pit ∧ i64 p.mas := by
  obtain ⟨cs, rfl, hsz⟩ := okWide_struct Try.underlying42 hv
  obtain ⟨fuel, hf⟩ := h
  obtain ⟨cl⟩ := cs
  rw [cells42] at hsz
  match cl, hsz with
  | [c0], _ =>
    obtain ⟨_, hg⟩ := struct_cells Try.underlying42 cells42 hf
    obtain ⟨_, _, f0⟩ := hg 0 _ rfl
    simp only [List.getElem_toArray, List.getElem_cons_zero, List.getElem_cons_succ] at f0
    simp only [Value.cells] at f0
    rw [cells40] at f0
    dsimp only [List.drop, List.take] at f0
    obtain ⟨l, A, ct, rfl, h1, h2⟩ := open_turns f0
    exact ⟨l, A, ct, rfl, h1, h2⟩

set_option maxRecDepth 100000 in
theorem season_cells {n : Nat} {cs : List Value} {x : DataW H × List MemPlace} (h : DataW.trod enc Try.prog W 0 sp hd n 23 cs = some x) : ∃ a b : Int, cs = [.int .i64 a, .int .i64 b] ∧ i64 a ∧ i64 b := by
  obtain ⟨hlen, hf⟩ := struct_cells Try.underlying23 cells23 h
  match cs, hlen with
  | [c0, c1], _ =>
    obtain ⟨_, _, f0⟩ := hf 0 _ rfl
    obtain ⟨_, _, f1⟩ := hf 1 _ rfl
    simp only [List.getElem_toArray, List.getElem_cons_zero, List.getElem_cons_succ] at f0 f1
    rw [cells3] at f0 f1
    dsimp only [List.drop, List.take] at f0 f1
    obtain ⟨a, ha, b0⟩ := int_cell f0
    obtain ⟨b, hb, b1⟩ := int_cell f1
    cases ha; cases hb
    exact ⟨a, b, rfl, b0, b1⟩
theorem seasons_cells {n : Nat} {cs : List Value} {x : DataW H × List MemPlace} (h : DataW.trod enc Try.prog W 0 sp hd n 24 cs = some x) : cs.length = 24 ∧ ∃ se : Nat → Int, ∀ k, k < 24 → cs[k]? = some (.int .i64 (se k)) ∧ i64 (se k) := by
  obtain ⟨xs, n', _, _, hlen, hxl, hf⟩ := DataW.trod_array Try.underlying24 h
  rw [cells24] at hlen
  rw [cells23] at hf
  refine ⟨hlen, ?_⟩
  obtain ⟨l, h1, h2⟩ := list_of (Q := fun k (y : Int) => cs[k]? = some (.int .i64 y) ∧ i64 y) 24 (fun k hk => by
    have h0 := (hf (k / 2) (by omega)).trans (List.getElem?_eq_getElem (by omega))
    obtain ⟨a, b, e, ia, ib⟩ := season_cells h0
    have hget : ∀ j, j < 2 → cs[k / 2 * 2 + j]? = ((cs.drop (k / 2 * 2)).take 2)[j]? := fun j hj => by
      rw [List.getElem?_take, if_pos hj, List.getElem?_drop]
    rcases Nat.mod_two_eq_zero_or_one k with hm | hm
    · refine ⟨a, ?_, ia⟩
      have := hget 0 (by omega)
      rw [e, show k / 2 * 2 + 0 = k by omega] at this
      exact this
    · refine ⟨b, ?_, ib⟩
      have := hget 1 (by omega)
      rw [e, show k / 2 * 2 + 1 = k by omega] at this
      exact this)
  exact ⟨fun k => l.getD k 0, fun k hk => by
    have := h2 k (by omega)
    dsimp only
    rw [List.getD_eq_getElem?_getD, show l[k]? = some l[k] from List.getElem?_eq_getElem (by omega)]; exact this⟩

set_option maxRecDepth 100000 in
theorem open_yard {v : Value} {r : Reach} {b0 : Nat} {d : DataW H} {p : List MemPlace} (hv : Value.okWide Try.prog W r b0 29 v) (h : DataW.Trod enc Try.prog W 0 sp hd 29 v d p) :
    ∃ (C : Array Value) (Y : Yd), v = .agg C ∧ YardAt W W.heap.size C Y ∧ Y.ok ∧ (Y.cl.length ≤ maxLen ∧ Y.pi.length ≤ maxLen ∧ Y.ma.length ≤ maxLen) := by
  obtain ⟨cs, rfl, hsz⟩ := okWide_struct Try.underlying29 hv
  obtain ⟨fuel, hf⟩ := h
  rw [cells29] at hsz
  obtain ⟨hlen, hg⟩ := struct_cells Try.underlying29 cells29 hf
  simp only [Value.cells] at hlen hg
  obtain ⟨_, _, f0⟩ := hg 0 _ rfl
  obtain ⟨_, _, f1⟩ := hg 1 _ rfl
  obtain ⟨_, _, f2⟩ := hg 2 _ rfl
  obtain ⟨_, _, f3⟩ := hg 3 _ rfl
  obtain ⟨_, _, f4⟩ := hg 4 _ rfl
  simp only [List.getElem_toArray, List.getElem_cons_zero, List.getElem_cons_succ] at f0 f1 f2 f3 f4
  rw [cells24] at f0
  rw [cells25] at f1
  rw [cells26] at f2
  rw [cells27] at f3
  rw [cells3] at f4
  have one : ∀ k, k < 28 → ∃ c, (cs.toList.drop k).take 1 = [c] ∧ cs[k]? = some c := fun k hk => by
    have hk' : k < cs.toList.length := by omega
    refine ⟨cs.toList[k], ?_, ?_⟩
    · rw [List.drop_eq_getElem_cons hk']; rfl
    · rw [← Array.getElem?_toList, List.getElem?_eq_getElem hk']
  obtain ⟨_, se, hse⟩ := seasons_cells f0
  obtain ⟨c1, e1, g1⟩ := one 24 (by omega)
  obtain ⟨c2, e2, g2⟩ := one 25 (by omega)
  obtain ⟨c3, e3, g3⟩ := one 26 (by omega)
  obtain ⟨c4, e4, g4⟩ := one 27 (by omega)
  rw [e1] at f1
  rw [e2] at f2
  rw [e3] at f3
  rw [e4] at f4
  obtain ⟨cl, A1, k1, rfl, l1, m1, o1⟩ := open_ints f1
  obtain ⟨pi, A2, k2, rfl, l2, m2, o2⟩ := open_pits f2
  obtain ⟨ma, A3, k3, rfl, l3, m3, o3⟩ := open_mass f3
  obtain ⟨dry, h4, o4⟩ := int_cell f4
  cases h4
  refine ⟨cs, ⟨se, cl, pi, ma, dry⟩, rfl, ⟨hsz, fun k hk => ?_, ⟨A1, k1, g1, l1⟩, ⟨A2, k2, g2, l2⟩, ⟨A3, k3, g3, l3⟩, g4⟩, ⟨fun k hk => (hse k hk).2, o1, o2, o3, o4⟩, m1, m2, m3⟩
  have := (hse k hk).1
  rw [List.getElem?_take, if_pos hk, List.drop_zero] at this
  rw [← Array.getElem?_toList]; exact this
end
end Go.Proofs.Ytjgnikmnadmheaa
