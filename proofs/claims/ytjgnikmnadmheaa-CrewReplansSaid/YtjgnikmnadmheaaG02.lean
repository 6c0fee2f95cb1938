/- The laws' arguments, opened: yards, tasks, plans, lists of integers. -/
import Derived.Test.YtjgnikmnadmheaaRows
import Derived.ProofKit
import Derived.Carry
import Derived.Deep.Slices
import Derived.Deep.Fields
import Derived.Laws.IdiomArrays
import Derived.OpenShut
import Derived.Deep.RegionHeld
import Derived.Deep.MidRow
import Derived.Deep.CutRange
import Derived.Deep.DeepCutAuto
import Derived.Test.YtjgnikmnadmheaaG01

namespace Go.Proofs.Ytjgnikmnadmheaa
open Go.ChangeShapes Go.WideShapes Go.ChangeAt Go.RowKit Go.Deep

theorem list_of {α : Type} {Q : Nat → α → Prop} : ∀ (n : Nat), (∀ i, i < n → ∃ x, Q i x) → ∃ l : List α, l.length = n ∧ ∀ i (hi : i < l.length), Q i l[i]
  | 0, _ => ⟨[], rfl, fun i hi => by simp at hi⟩
  | n + 1, h => by
    obtain ⟨l, h1, h2⟩ := list_of n (fun i hi => h i (by omega))
    obtain ⟨x, hx⟩ := h n (by omega)
    refine ⟨l ++ [x], by simp [h1], fun i hi => ?_⟩
    by_cases e : i < l.length
    · rw [List.getElem_append_left e]; exact h2 i e
    · have : i = l.length := by simp at hi; omega
      subst this
      rw [List.getElem_append_right (Nat.le_refl _)]
      simp only [Nat.sub_self, List.getElem_cons_zero]
      rw [h1]; exact hx

theorem lies_rows {α : Type} {w : World} {a : Addr} {f : α → List Value} {s : Nat} (hs : 0 < s) (hf : ∀ x, (f x).length = s) (l : List α) (h : ∀ i (hi : i < l.length) j, j < s → w.cell? (a.add (i * s + j)) = (f l[i])[j]?) : Lies w w.heap.size (some a) (l.flatMap f) := by
  intro hne
  have cell : ∀ j u, (l.flatMap f)[j]? = some u → w.cell? (a.add j) = some u := fun j u hj => by
    have hjl : j < l.length * s := by rw [← flat_length f s hf l]; exact (List.getElem?_eq_some_iff.1 hj).1
    have hk : j / s < l.length := Nat.div_lt_of_lt_mul (by rw [Nat.mul_comm]; exact hjl)
    have hr : j % s < s := Nat.mod_lt _ hs
    have hd : j / s * s + j % s = j := by rw [Nat.mul_comm]; exact Nat.div_add_mod j s
    have h1 := h (j / s) hk (j % s) hr
    have h2 := flat_at f s hf l (j / s) hk (j % s) hr
    rw [hd] at h1 h2
    rw [h1, ← h2]; exact hj
  refine ⟨a, rfl, ?_, cell⟩
  obtain ⟨u, hu⟩ : ∃ u, (l.flatMap f)[0]? = some u := by
    cases hl : l.flatMap f with
    | nil => exact absurd hl hne
    | cons x r => exact ⟨x, rfl⟩
  have h0 := cell 0 u hu
  have : (a.add 0).block = a.block := add_block a 0
  rw [← this]
  exact block_lt_of_cell h0

section
variable {H : Type} {enc : TypeId × Value → H} {W : World} {sp : Nat → Bool} {hd : Bool}

theorem open_rows {α : Type} {f : α → List Value} {Qp : α → Prop} {t e s : Nat} (ht : Try.prog.underlying t = some (.slice e)) (hc : Try.prog.cellsOf e = s) (hs : 0 < s) (hf : ∀ x, (f x).length = s)
    (hel : ∀ {n : Nat} {cs : List Value} {x : DataW H × List MemPlace}, DataW.trod enc Try.prog W 0 sp hd n e cs = some x → ∃ y, cs = f y ∧ Qp y)
    {n : Nat} {c : Value} {x : DataW H × List MemPlace} (h : DataW.trod enc Try.prog W 0 sp hd n t [c] = some x) :
    ∃ (l : List α) (A : Option Addr) (ct : Nat), c = .slice A l.length ct ∧ Lies W W.heap.size A (l.flatMap f) ∧ l.length ≤ maxLen ∧ ∀ t ∈ l, Qp t := by
  rcases open_slice ht h with ⟨hc, _⟩ | ⟨a, len, cap, m, n', D, Pl, hc', hb, hl, hm, hmm, _, hi⟩
  · cases hc
    exact ⟨[], none, 0, rfl, fun h => absurd rfl h, Nat.zero_le _, fun t ht => by simp at ht⟩
  · cases hc'
    have hlm : len ≤ m := by rw [hmm]; split <;> omega
    obtain ⟨l, h1, h2⟩ := list_of (Q := fun i (t : α) => W.cells? 0 (a.add (i * Try.prog.cellsOf e)) (Try.prog.cellsOf e) = some (f t) ∧ Qp t) len (fun i hil => by
      obtain ⟨cs', g1, g2⟩ := hi i (by omega)
      obtain ⟨t, rfl, ht⟩ := hel g2
      exact ⟨t, g1, ht⟩)
    subst h1
    refine ⟨l, some a, cap, rfl, ?_, by omega, fun t ht => ?_⟩
    · refine lies_rows hs hf l fun i hi j hj => ?_
      have := (World.cells?_some (h2 i hi).1).2.2
      rw [hc] at this
      have h3 := this j hj
      rw [Go.Deep.add_add] at h3
      exact h3
    · obtain ⟨i, hi, rfl⟩ := List.mem_iff_getElem.1 ht
      exact (h2 i hi).2

theorem cells3 : Try.prog.cellsOf 3 = 1 := by kernel_rfl
theorem cells9 : Try.prog.cellsOf 9 = 1 := by kernel_rfl
theorem cells23 : Try.prog.cellsOf 23 = 2 := by kernel_rfl
theorem cells24 : Try.prog.cellsOf 24 = 24 := by kernel_rfl
theorem cells25 : Try.prog.cellsOf 25 = 1 := by kernel_rfl
theorem cells26 : Try.prog.cellsOf 26 = 1 := by kernel_rfl
theorem cells27 : Try.prog.cellsOf 27 = 1 := by kernel_rfl
theorem cells29 : Try.prog.cellsOf 29 = 28 := by kernel_rfl
theorem cells40 : Try.prog.cellsOf 40 = 1 := by kernel_rfl
theorem cells42 : Try.prog.cellsOf 42 = 1 := by kernel_rfl
theorem cells46 : Try.prog.cellsOf 46 = 1 := by kernel_rfl
theorem cells48 : Try.prog.cellsOf 48 = 4 := by kernel_rfl
theorem cells55 : Try.prog.cellsOf 55 = 3 := by kernel_rfl
theorem cells78 : Try.prog.cellsOf 78 = 4 := by kernel_rfl
theorem cells87 : Try.prog.cellsOf 87 = 3 := by kernel_rfl

theorem int_cell {n : Nat} {cs : List Value} {x : DataW H × List MemPlace} (h : DataW.trod enc Try.prog W 0 sp hd n 3 cs = some x) : ∃ k : Int, cs = [.int .i64 k] ∧ (-9223372036854775808 ≤ k ∧ k ≤ 9223372036854775807) := by
  obtain ⟨k, h1, _, h2⟩ := DataW.trod_int Try.underlying3 h
  exact ⟨k, h1, Go.bounds_i64 h2⟩
theorem str_cell {n : Nat} {cs : List Value} {x : DataW H × List MemPlace} (h : DataW.trod enc Try.prog W 0 sp hd n 9 cs = some x) : ∃ s : ByteArray, cs = [.string s] ∧ s.size ≤ maxLen := by
  obtain ⟨s, h1, _, h2⟩ := DataW.trod_string Try.underlying9 h
  exact ⟨s, h1, h2⟩
theorem flat_one {α : Type} (g : α → Value) (l : List α) : l.flatMap (fun x => [g x]) = l.map g := by
  induction l with
  | nil => rfl
  | cons x l ih => rw [List.flatMap_cons, ih]; rfl
/-- what an int of the model's may be -/
def i64 (k : Int) : Prop := -9223372036854775808 ≤ k ∧ k ≤ 9223372036854775807
theorem open_ints {n : Nat} {c : Value} {x : DataW H × List MemPlace} (h : DataW.trod enc Try.prog W 0 sp hd n 25 [c] = some x) :
    ∃ (l : List Int) (A : Option Addr) (ct : Nat), c = .slice A l.length ct ∧ Lies W W.heap.size A (ints l) ∧ l.length ≤ maxLen ∧ ∀ k ∈ l, i64 k := by
  obtain ⟨l, A, ct, h1, h2, h3, h4⟩ := open_rows (f := fun k : Int => [Value.int .i64 k]) (Qp := i64) Try.underlying25 cells3 (by omega) (fun _ => rfl) (fun h => int_cell h) h
  exact ⟨l, A, ct, h1, by rw [flat_one (Value.int .i64)] at h2; exact h2, h3, h4⟩
theorem open_strs {n : Nat} {c : Value} {x : DataW H × List MemPlace} (h : DataW.trod enc Try.prog W 0 sp hd n 46 [c] = some x) :
    ∃ (l : List ByteArray) (A : Option Addr) (ct : Nat), c = .slice A l.length ct ∧ Lies W W.heap.size A (strsC l) ∧ l.length ≤ maxLen ∧ ∀ s ∈ l, s.size ≤ maxLen := by
  obtain ⟨l, A, ct, h1, h2, h3, h4⟩ := open_rows (f := fun s : ByteArray => [Value.string s]) (Qp := fun s => s.size ≤ maxLen) Try.underlying46 cells9 (by omega) (fun _ => rfl) (fun h => str_cell h) h
  exact ⟨l, A, ct, h1, by rw [flat_one Value.string] at h2; exact h2, h3, h4⟩

/-- a struct of one-cell fields, field by field -/
theorem struct_cells {n t s : Nat} {fs : Array Field} {cs : List Value} {x : DataW H × List MemPlace} (ht : Try.prog.underlying t = some (.struct fs)) (hC : Try.prog.cellsOf t = s) (h : DataW.trod enc Try.prog W 0 sp hd n t cs = some x) :
    cs.length = s ∧ ∀ (j : Nat) (f : Field), fs[j]? = some f → ∃ (m : Nat) (y : DataW H × List MemPlace), DataW.trod enc Try.prog W 0 sp hd m f.type ((cs.drop f.offset).take (Try.prog.cellsOf f.type)) = some y := by
  obtain ⟨xs, n', _, _, hlen, hxl, hf⟩ := DataW.trod_struct ht h
  refine ⟨hlen.trans hC, fun j f hj => ?_⟩
  have hjl : j < fs.size := (Array.getElem?_eq_some_iff.1 hj).1
  exact ⟨n', _, (hf j f hj).trans (List.getElem?_eq_getElem (by omega))⟩

set_option maxRecDepth 100000 in
theorem pit_cells {n : Nat} {cs : List Value} {x : DataW H × List MemPlace} (h : DataW.trod enc Try.prog W 0 sp hd n 87 cs = some x) : ∃ p : Pit, cs = p.cells ∧ (i64 p.s ∧ i64 p.a ∧ i64 p.b) := by
  obtain ⟨hlen, hf⟩ := struct_cells Try.underlying87 cells87 h
  match cs, hlen with
  | [c0, c1, c2], _ =>
    obtain ⟨_, _, f0⟩ := hf 0 _ rfl
    obtain ⟨_, _, f1⟩ := hf 1 _ rfl
    obtain ⟨_, _, f2⟩ := hf 2 _ rfl
    simp only [List.getElem_toArray, List.getElem_cons_zero, List.getElem_cons_succ] at f0 f1 f2
    rw [cells3] at f0 f1 f2
    dsimp only [List.drop, List.take] at f0 f1 f2
    obtain ⟨a, ha, b0⟩ := int_cell f0
    obtain ⟨b, hb, b1⟩ := int_cell f1
    obtain ⟨c, hc, b2⟩ := int_cell f2
    cases ha; cases hb; cases hc
    exact ⟨⟨a, b, c⟩, rfl, b0, b1, b2⟩
set_option maxRecDepth 100000 in
theorem mas_cells {n : Nat} {cs : List Value} {x : DataW H × List MemPlace} (h : DataW.trod enc Try.prog W 0 sp hd n 78 cs = some x) : ∃ m : Mas, cs = m.cells ∧ m.name.size ≤ maxLen ∧ (i64 m.f ∧ i64 m.u ∧ i64 m.k) := by
  obtain ⟨hlen, hf⟩ := struct_cells Try.underlying78 cells78 h
  match cs, hlen with
  | [c0, c1, c2, c3], _ =>
    obtain ⟨_, _, f0⟩ := hf 0 _ rfl
    obtain ⟨_, _, f1⟩ := hf 1 _ rfl
    obtain ⟨_, _, f2⟩ := hf 2 _ rfl
    obtain ⟨_, _, f3⟩ := hf 3 _ rfl
    simp only [List.getElem_toArray, List.getElem_cons_zero, List.getElem_cons_succ] at f0 f1 f2 f3
    rw [cells9] at f0
    rw [cells3] at f1 f2 f3
    dsimp only [List.drop, List.take] at f0 f1 f2 f3
    obtain ⟨s, hs, b0⟩ := str_cell f0
    obtain ⟨a, ha, b1⟩ := int_cell f1
    obtain ⟨b, hb, b2⟩ := int_cell f2
    obtain ⟨c, hc, b3⟩ := int_cell f3
    cases hs; cases ha; cases hb; cases hc
    exact ⟨⟨s, a, b, c⟩, rfl, b0, b1, b2, b3⟩
set_option maxRecDepth 100000 in
theorem task_cells {n : Nat} {cs : List Value} {x : DataW H × List MemPlace} (h : DataW.trod enc Try.prog W 0 sp hd n 48 cs = some x) :
    ∃ t : Tk, cs = t.cells ∧ (i64 t.work ∧ i64 t.need) ∧ (Lies W W.heap.size t.aA (ints t.af) ∧ t.af.length ≤ maxLen ∧ ∀ k ∈ t.af, i64 k) ∧ (Lies W W.heap.size t.cA (strsC t.co) ∧ t.co.length ≤ maxLen ∧ ∀ s ∈ t.co, s.size ≤ maxLen) := by
  obtain ⟨hlen, hf⟩ := struct_cells Try.underlying48 cells48 h
  match cs, hlen with
  | [c0, c1, c2, c3], _ =>
    obtain ⟨_, _, f0⟩ := hf 0 _ rfl
    obtain ⟨_, _, f1⟩ := hf 1 _ rfl
    obtain ⟨_, _, f2⟩ := hf 2 _ rfl
    obtain ⟨_, _, f3⟩ := hf 3 _ rfl
    simp only [List.getElem_toArray, List.getElem_cons_zero, List.getElem_cons_succ] at f0 f1 f2 f3
    rw [cells3] at f0 f1
    rw [cells25] at f2
    rw [cells46] at f3
    dsimp only [List.drop, List.take] at f0 f1 f2 f3
    obtain ⟨a, ha, b0⟩ := int_cell f0
    obtain ⟨b, hb, b1⟩ := int_cell f1
    obtain ⟨l, A, ct, hl, l1, l2, l3⟩ := open_ints f2
    obtain ⟨m, B, cu, hm, m1, m2, m3⟩ := open_strs f3
    cases ha; cases hb; cases hl; cases hm
    exact ⟨⟨a, b, A, ct, l, B, cu, m⟩, rfl, ⟨b0, b1⟩, ⟨l1, l2, l3⟩, m1, m2, m3⟩

/-- a turn of a plan -/
structure Tu where
  day : Int
  pit : Int
  mas : Int
abbrev Tu.cells (t : Tu) : List Value := [.int .i64 t.day, .int .i64 t.pit, .int .i64 t.mas]
abbrev Tu.agg (t : Tu) : Value := .agg #[.int .i64 t.day, .int .i64 t.pit, .int .i64 t.mas]
def turnsC (l : List Tu) : List Value := l.flatMap Tu.cells
set_option maxRecDepth 100000 in
theorem turn_cells {n : Nat} {cs : List Value} {x : DataW H × List MemPlace} (h : DataW.trod enc Try.prog W 0 sp hd n 55 cs = some x) : ∃ p : Tu, cs = p.cells ∧ (i64 p.day ∧ i64 p.pit ∧ i64 p.mas) := by
  obtain ⟨hlen, hf⟩ := struct_cells Try.underlying55 cells55 h
  match cs, hlen with
  | [c0, c1, c2], _ =>
    obtain ⟨_, _, f0⟩ := hf 0 _ rfl
    obtain ⟨_, _, f1⟩ := hf 1 _ rfl
    obtain ⟨_, _, f2⟩ := hf 2 _ rfl
    simp only [List.getElem_toArray, List.getElem_cons_zero, List.getElem_cons_succ] at f0 f1 f2
    rw [cells3] at f0 f1 f2
    dsimp only [List.drop, List.take] at f0 f1 f2
    obtain ⟨a, ha, b0⟩ := int_cell f0
    obtain ⟨b, hb, b1⟩ := int_cell f1
    obtain ⟨c, hc, b2⟩ := int_cell f2
    cases ha; cases hb; cases hc
    exact ⟨⟨a, b, c⟩, rfl, b0, b1, b2⟩

set_option maxRecDepth 100000 in
theorem open_pits {n : Nat} {c : Value} {x : DataW H × List MemPlace} (h : DataW.trod enc Try.prog W 0 sp hd n 26 [c] = some x) :
    ∃ (l : List Pit) (A : Option Addr) (ct : Nat), c = .slice A l.length ct ∧ Lies W W.heap.size A (pitsC l) ∧ l.length ≤ maxLen ∧ ∀ p ∈ l, i64 p.s ∧ i64 p.a ∧ i64 p.b :=
  open_rows (f := Pit.cells) Try.underlying26 cells87 (by omega) (fun _ => rfl) (fun h => pit_cells h) h
set_option maxRecDepth 100000 in
theorem open_mass {n : Nat} {c : Value} {x : DataW H × List MemPlace} (h : DataW.trod enc Try.prog W 0 sp hd n 27 [c] = some x) :
    ∃ (l : List Mas) (A : Option Addr) (ct : Nat), c = .slice A l.length ct ∧ Lies W W.heap.size A (massC l) ∧ l.length ≤ maxLen ∧ ∀ m ∈ l, m.name.size ≤ maxLen ∧ (i64 m.f ∧ i64 m.u ∧ i64 m.k) :=
  open_rows (f := Mas.cells) Try.underlying27 cells78 (by omega) (fun _ => rfl) (fun h => mas_cells h) h
set_option maxRecDepth 100000 in
set_option maxRecDepth 100000 in
theorem open_turns {n : Nat} {c : Value} {x : DataW H × List MemPlace} (h : DataW.trod enc Try.prog W 0 sp hd n 40 [c] = some x) :
    ∃ (l : List Tu) (A : Option Addr) (ct : Nat), c = .slice A l.length ct ∧ Lies W W.heap.size A (turnsC l) ∧ l.length ≤ maxLen ∧ ∀ p ∈ l, i64 p.day ∧ i64 p.pit ∧ i64 p.mas :=
  open_rows (f := Tu.cells) Try.underlying40 cells55 (by omega) (fun _ => rfl) (fun h => turn_cells h) h

/-- the integers of tasks and of a yard are the model's -/
def Tk.ok (t : Tk) : Prop := i64 t.work ∧ i64 t.need ∧ (∀ k ∈ t.af, i64 k) ∧ ∀ s ∈ t.co, s.size ≤ maxLen
structure Yd.ok (Y : Yd) : Prop where
  se : ∀ k, k < 24 → i64 (Y.se k)
  cl : ∀ k ∈ Y.cl, i64 k
  pi : ∀ p ∈ Y.pi, i64 p.s ∧ i64 p.a ∧ i64 p.b
  ma : ∀ m ∈ Y.ma, m.name.size ≤ maxLen ∧ (i64 m.f ∧ i64 m.u ∧ i64 m.k)
  dry : i64 Y.dry

set_option maxRecDepth 100000 in
theorem open_tasks {v : Value} {r : Reach} {b0 : Nat} {d : DataW H} {p : List MemPlace} (hv : Value.okWide Try.prog W r b0 30 v) (h : DataW.Trod enc Try.prog W 0 sp hd 30 v d p) :
    ∃ (l : List Tk) (A : Option Addr) (ct : Nat), v = .slice A l.length ct ∧ TasksAt W W.heap.size A l ∧ l.length ≤ maxLen ∧ ∀ t ∈ l, t.ok := by
  obtain ⟨a, len, cap, rfl⟩ := okWide_slice Try.underlying30 hv
  obtain ⟨fuel, hf⟩ := h
  obtain ⟨l, A, ct, h1, h2, h3, h4⟩ := open_rows (f := Tk.cells) Try.underlying30 cells48 (by omega) (fun _ => rfl) (fun h => task_cells h) hf
  exact ⟨l, A, ct, h1, ⟨h2, fun t ht => (h4 t ht).2.1.1, fun t ht => (h4 t ht).2.2.1⟩, h3, fun t ht => ⟨(h4 t ht).1.1, (h4 t ht).1.2, (h4 t ht).2.1.2.2, (h4 t ht).2.2.2.2⟩⟩
set_option maxRecDepth 100000 in
theorem open_intsV {v : Value} {r : Reach} {b0 : Nat} {d : DataW H} {p : List MemPlace} (hv : Value.okWide Try.prog W r b0 25 v) (h : DataW.Trod enc Try.prog W 0 sp hd 25 v d p) :
    ∃ (l : List Int) (A : Option Addr) (ct : Nat), v = .slice A l.length ct ∧ Lies W W.heap.size A (ints l) ∧ l.length ≤ maxLen ∧ ∀ k ∈ l, i64 k := by
  obtain ⟨a, len, cap, rfl⟩ := okWide_slice Try.underlying25 hv
  obtain ⟨fuel, hf⟩ := h
  exact open_ints hf
set_option maxRecDepth 100000 in
theorem open_plan {v : Value} {r : Reach} {b0 : Nat} {d : DataW H} {p : List MemPlace} (hv : Value.okWide Try.prog W r b0 42 v) (h : DataW.Trod enc Try.prog W 0 sp hd 42 v d p) :
    ∃ (l : List Tu) (A : Option Addr) (ct : Nat), v = .agg #[.slice A l.length ct] ∧ Lies W W.heap.size A (turnsC l) ∧ l.length ≤ maxLen ∧ ∀ p ∈ l, i64 p.day ∧ i64 p.pit ∧ i64 p.mas := by
  obtain ⟨cs, rfl, hsz⟩ := okWide_struct Try.underlying42 hv
  obtain ⟨fuel, hf⟩ := h
  obtain ⟨cl⟩ := cs
  rw [cells42] at hsz
  match cl, hsz with
  | [c0], _ =>
    obtain ⟨_, hg⟩ := struct_cells Try.underlying42 cells42 hf
    obtain ⟨_, _, f0⟩ := hg 0 _ rfl
    simp only [List.getElem_toArray, List.getElem_cons_zero, List.getElem_cons_succ] at f0
    simp only [Value.cells] at f0
    rw [cells40] at f0
    dsimp only [List.drop, List.take] at f0
    obtain ⟨l, A, ct, rfl, h1, h2⟩ := open_turns f0
    exact ⟨l, A, ct, rfl, h1, h2⟩

set_option maxRecDepth 100000 in
theorem season_cells {n : Nat} {cs : List Value} {x : DataW H × List MemPlace} (h : DataW.trod enc Try.prog W 0 sp hd n 23 cs = some x) : ∃ a b : Int, cs = [.int .i64 a, .int .i64 b] ∧ i64 a ∧ i64 b := by
  obtain ⟨hlen, hf⟩ := struct_cells Try.underlying23 cells23 h
  match cs, hlen with
  | [c0, c1], _ =>
    obtain ⟨_, _, f0⟩ := hf 0 _ rfl
    obtain ⟨_, _, f1⟩ := hf 1 _ rfl
    simp only [List.getElem_toArray, List.getElem_cons_zero, List.getElem_cons_succ] at f0 f1
    rw [cells3] at f0 f1
    dsimp only [List.drop, List.take] at f0 f1
    obtain ⟨a, ha, b0⟩ := int_cell f0
    obtain ⟨b, hb, b1⟩ := int_cell f1
    cases ha; cases hb
    exact ⟨a, b, rfl, b0, b1⟩
theorem seasons_cells {n : Nat} {cs : List Value} {x : DataW H × List MemPlace} (h : DataW.trod enc Try.prog W 0 sp hd n 24 cs = some x) : cs.length = 24 ∧ ∃ se : Nat → Int, ∀ k, k < 24 → cs[k]? = some (.int .i64 (se k)) ∧ i64 (se k) := by
  obtain ⟨xs, n', _, _, hlen, hxl, hf⟩ := DataW.trod_array Try.underlying24 h
  rw [cells24] at hlen
  rw [cells23] at hf
  refine ⟨hlen, ?_⟩
  obtain ⟨l, h1, h2⟩ := list_of (Q := fun k (y : Int) => cs[k]? = some (.int .i64 y) ∧ i64 y) 24 (fun k hk => by
    have h0 := (hf (k / 2) (by omega)).trans (List.getElem?_eq_getElem (by omega))
    obtain ⟨a, b, e, ia, ib⟩ := season_cells h0
    have hget : ∀ j, j < 2 → cs[k / 2 * 2 + j]? = ((cs.drop (k / 2 * 2)).take 2)[j]? := fun j hj => by
      rw [List.getElem?_take, if_pos hj, List.getElem?_drop]
    rcases Nat.mod_two_eq_zero_or_one k with hm | hm
    · refine ⟨a, ?_, ia⟩
      have := hget 0 (by omega)
      rw [e, show k / 2 * 2 + 0 = k by omega] at this
      exact this
    · refine ⟨b, ?_, ib⟩
      have := hget 1 (by omega)
      rw [e, show k / 2 * 2 + 1 = k by omega] at this
      exact this)
  exact ⟨fun k => l.getD k 0, fun k hk => by
    have := h2 k (by omega)
    dsimp only
    rw [List.getD_eq_getElem?_getD, show l[k]? = some l[k] from List.getElem?_eq_getElem (by omega)]; exact this⟩

set_option maxRecDepth 100000 in
theorem open_yard {v : Value} {r : Reach} {b0 : Nat} {d : DataW H} {p : List MemPlace} (hv : Value.okWide Try.prog W r b0 29 v) (h : DataW.Trod enc Try.prog W 0 sp hd 29 v d p) :
    ∃ (C : Array Value) (Y : Yd), v = .agg C ∧ YardAt W W.heap.size C Y ∧ Y.ok ∧ (Y.cl.length ≤ maxLen ∧ Y.pi.length ≤ maxLen ∧ Y.ma.length ≤ maxLen) := by
  obtain ⟨cs, rfl, hsz⟩ := okWide_struct Try.underlying29 hv
  obtain ⟨fuel, hf⟩ := h
  rw [cells29] at hsz
  obtain ⟨hlen, hg⟩ := struct_cells Try.underlying29 cells29 hf
  simp only [Value.cells] at hlen hg
  obtain ⟨_, _, f0⟩ := hg 0 _ rfl
  obtain ⟨_, _, f1⟩ := hg 1 _ rfl
  obtain ⟨_, _, f2⟩ := hg 2 _ rfl
  obtain ⟨_, _, f3⟩ := hg 3 _ rfl
  obtain ⟨_, _, f4⟩ := hg 4 _ rfl
  simp only [List.getElem_toArray, List.getElem_cons_zero, List.getElem_cons_succ] at f0 f1 f2 f3 f4
  rw [cells24] at f0
  rw [cells25] at f1
  rw [cells26] at f2
  rw [cells27] at f3
  rw [cells3] at f4
  have one : ∀ k, k < 28 → ∃ c, (cs.toList.drop k).take 1 = [c] ∧ cs[k]? = some c := fun k hk => by
    have hk' : k < cs.toList.length := by omega
    refine ⟨cs.toList[k], ?_, ?_⟩
    · rw [List.drop_eq_getElem_cons hk']; rfl
    · rw [← Array.getElem?_toList, List.getElem?_eq_getElem hk']
  obtain ⟨_, se, hse⟩ := seasons_cells f0
  obtain ⟨c1, e1, g1⟩ := one 24 (by omega)
  obtain ⟨c2, e2, g2⟩ := one 25 (by omega)
  obtain ⟨c3, e3, g3⟩ := one 26 (by omega)
  obtain ⟨c4, e4, g4⟩ := one 27 (by omega)
  rw [e1] at f1
  rw [e2] at f2
  rw [e3] at f3
  rw [e4] at f4
  obtain ⟨cl, A1, k1, rfl, l1, m1, o1⟩ := open_ints f1
  obtain ⟨pi, A2, k2, rfl, l2, m2, o2⟩ := open_pits f2
  obtain ⟨ma, A3, k3, rfl, l3, m3, o3⟩ := open_mass f3
  obtain ⟨dry, h4, o4⟩ := int_cell f4
  cases h4
  refine ⟨cs, ⟨se, cl, pi, ma, dry⟩, rfl, ⟨hsz, fun k hk => ?_, ⟨A1, k1, g1, l1⟩, ⟨A2, k2, g2, l2⟩, ⟨A3, k3, g3, l3⟩, g4⟩, ⟨fun k hk => (hse k hk).2, o1, o2, o3, o4⟩, m1, m2, m3⟩
  have := (hse k hk).1
  rw [List.getElem?_take, if_pos hk, List.drop_zero] at this
  rw [← Array.getElem?_toList]; exact this
end
end Go.Proofs.Ytjgnikmnadmheaa

namespace Go.Proofs.Ytjgnikmnadmheaa
open Go.ChangeShapes Go.WideShapes Go.ChangeAt Go.RowKit Go.Deep

theorem Try.own : ownKnob Try.prog.godebug = none := by kernel_rfl
theorem Try.laidOut : laidOutB Try.prog = true := by kernel_rfl

section
variable {H : Type} {enc : TypeId × Value → H} {P : Program}
theorem post_of_below {f : Func} {s : ChangeSpec} {apart fresh handsOn again : Bool} {W W' : World} {args : Array Value} {v : Value} {ds gs : List (DataW H)} {before pa pv : List MemPlace}
    (hW : DataW.Whole enc P f.params.toList s.vars apart W args.toList ds gs before)
    (hres : ∀ (b : Nat) (sp : Nat → Bool) (hd : Bool), DataW.TrodAll enc P W' b sp hd f.resultTypes.toList (v.resultList f.resultTypes.size) (s.fn H (ds ++ gs)).results [])
    (hargs : ∀ sp : Nat → Bool, (∀ p ∈ before, sp p.block = true) → DataW.TrodAll enc P W' 0 sp true f.params.toList args.toList (s.fn H (ds ++ gs)).args pa)
    (hvars : ∀ sp : Nat → Bool, (∀ p ∈ before, sp p.block = true) → DataW.TrodVars enc P W' sp s.vars (s.fn H (ds ++ gs)).vars pv)
    (hps : before = pa ++ pv) (hb : Below W.heap.size W W')
    (hok : ∀ (j : Nat) (t : TypeId) (r : Value), f.resultTypes[j]? = some t → (v.resultList f.resultTypes.size)[j]? = some r → Value.okWide P W' .any 0 t r) :
    s.post enc P f apart fresh handsOn again W args v W' := by
  have hlt : ∀ p ∈ before, p.block < W.heap.size := fun p hp => hW.lt p hp
  have hold : ∀ p ∈ before, (fun b => decide (b < W.heap.size)) p.block = true := fun p hp => by simpa using hlt p hp
  refine ⟨ds, gs, before, [], pa, pv, hW, hres _ _ _, hargs _ hold, hvars _ hold, World.keptBut_mono (fun p hp => ⟨hp, ?_⟩) (hb.frame (· ∈ before)), fun _ => ?_⟩
  · rw [hps, List.mem_append] at hp
    exact Or.inr hp
  · obtain ⟨_, _, _, _, _, hz, hn⟩ := hW
    refine ⟨hok, _, _, ([] ++ pa) ++ pv, ⟨[] ++ pa, pv, trodAll_append (hargs _ (fun _ _ => rfl)) (hres _ _ _), hvars _ (fun _ _ => rfl), rfl, ?_, ?_⟩, ?_⟩
    · intro b off hp
      have hin : MemPlace.cell b off ∈ before := by rw [hps]; simpa using hp
      rw [hb.frozen (hlt _ hin)]
      exact hz b off hin
    · intro ha
      have := hn ha
      rw [hps] at this
      simpa using this
    · intro p hp _
      rw [hps]
      simpa using hp
end

/-- a yard without anything -/
def yard0 : Value := .agg #[.int .i64 0, .int .i64 0, .int .i64 0, .int .i64 0, .int .i64 0, .int .i64 0, .int .i64 0, .int .i64 0, .int .i64 0, .int .i64 0, .int .i64 0, .int .i64 0, .int .i64 0, .int .i64 0, .int .i64 0, .int .i64 0, .int .i64 0, .int .i64 0, .int .i64 0, .int .i64 0, .int .i64 0, .int .i64 0, .int .i64 0, .int .i64 0, .slice none 0 0, .slice none 0 0, .slice none 0 0, .int .i64 0]

section
variable {H : Type} {enc : TypeId × Value → H} {P : Program} {w : World} {base : Nat} {spare : Nat → Bool} {held : Bool}
theorem trodAll_five {t t' t'' t3 t4 : TypeId} {args : Array Value} {ds : List (DataW H)} {ps : List MemPlace} (h : DataW.TrodAll enc P w base spare held [t, t', t'', t3, t4] args.toList ds ps) :
    ∃ v v' v'' v3 v4 d d' d'' d3 d4 p p' p'' p3 p4, args = #[v, v', v'', v3, v4] ∧ ds = [d, d', d'', d3, d4] ∧ ps = p ++ (p' ++ (p'' ++ (p3 ++ p4))) ∧ DataW.Trod enc P w base spare held t v d p ∧ DataW.Trod enc P w base spare held t' v' d' p' ∧ DataW.Trod enc P w base spare held t'' v'' d'' p'' ∧ DataW.Trod enc P w base spare held t3 v3 d3 p3 ∧ DataW.Trod enc P w base spare held t4 v4 d4 p4 := by
  obtain ⟨v, vs, d, ds', p, q, hargs, rfl, rfl, hd, hrest⟩ := trodAll_cons h
  obtain ⟨v', vs', d', ds'', p', q', rfl, rfl, rfl, hd', hrest'⟩ := trodAll_cons hrest
  obtain ⟨v'', vs'', d'', ds''', p'', q'', rfl, rfl, rfl, hd'', hrest''⟩ := trodAll_cons hrest'
  obtain ⟨v3, vs3, d3, ds3, p3, q3, rfl, rfl, rfl, hd3, hrest3⟩ := trodAll_cons hrest''
  obtain ⟨v4, vs4, d4, ds4, p4, q4, rfl, rfl, rfl, hd4, hrest4⟩ := trodAll_cons hrest3
  obtain ⟨rfl, rfl, rfl⟩ := trodAll_nil hrest4
  exact ⟨v, v', v'', v3, v4, d, d', d'', d3, d4, p, p', p'', p3, p4, by cases args; simp_all, rfl, by simp, hd, hd', hd'', hd3, hd4⟩
theorem trodAll_mk5 {t t' t'' t3 t4 : TypeId} {v v' v'' v3 v4 : Value} {d d' d'' d3 d4 : DataW H} {p p' p'' p3 p4 : List MemPlace} (h : DataW.Trod enc P w base spare held t v d p) (h' : DataW.Trod enc P w base spare held t' v' d' p')
    (h'' : DataW.Trod enc P w base spare held t'' v'' d'' p'') (h3 : DataW.Trod enc P w base spare held t3 v3 d3 p3) (h4 : DataW.Trod enc P w base spare held t4 v4 d4 p4) :
    DataW.TrodAll enc P w base spare held [t, t', t'', t3, t4] [v, v', v'', v3, v4] [d, d', d'', d3, d4] (p ++ (p' ++ (p'' ++ (p3 ++ p4)))) := ⟨p, _, h, ⟨p', _, h', trodAll_mk3 h'' h3 h4, rfl⟩, rfl⟩
end

section
variable {H : Type} {enc : TypeId × Value → H} {P : Program} {w : World} {base : Nat} {spare : Nat → Bool} {held : Bool}
theorem trodAll_six {t t' t'' t3 t4 t5 : TypeId} {args : Array Value} {ds : List (DataW H)} {ps : List MemPlace} (h : DataW.TrodAll enc P w base spare held [t, t', t'', t3, t4, t5] args.toList ds ps) :
    ∃ v v' v'' v3 v4 v5 d d' d'' d3 d4 d5 p p' p'' p3 p4 p5, args = #[v, v', v'', v3, v4, v5] ∧ ds = [d, d', d'', d3, d4, d5] ∧ ps = p ++ (p' ++ (p'' ++ (p3 ++ (p4 ++ p5)))) ∧ DataW.Trod enc P w base spare held t v d p ∧ DataW.Trod enc P w base spare held t' v' d' p' ∧ DataW.Trod enc P w base spare held t'' v'' d'' p'' ∧ DataW.Trod enc P w base spare held t3 v3 d3 p3 ∧ DataW.Trod enc P w base spare held t4 v4 d4 p4 ∧ DataW.Trod enc P w base spare held t5 v5 d5 p5 := by
  obtain ⟨v, vs, d, ds', p, q, hargs, rfl, rfl, hd, hrest⟩ := trodAll_cons h
  obtain ⟨v', vs', d', ds'', p', q', rfl, rfl, rfl, hd', hrest'⟩ := trodAll_cons hrest
  obtain ⟨v'', vs'', d'', dsc, p'', q'', rfl, rfl, rfl, hd'', hrest''⟩ := trodAll_cons hrest'
  obtain ⟨v3, vs3, d3, ds3, p3, q3, rfl, rfl, rfl, hd3, hrest3⟩ := trodAll_cons hrest''
  obtain ⟨v4, vs4, d4, ds4, p4, q4, rfl, rfl, rfl, hd4, hrest4⟩ := trodAll_cons hrest3
  obtain ⟨v5, vs5, d5, ds5, p5, q5, rfl, rfl, rfl, hd5, hrest5⟩ := trodAll_cons hrest4
  obtain ⟨rfl, rfl, rfl⟩ := trodAll_nil hrest5
  exact ⟨v, v', v'', v3, v4, v5, d, d', d'', d3, d4, d5, p, p', p'', p3, p4, p5, by cases args; simp_all, rfl, by simp, hd, hd', hd'', hd3, hd4, hd5⟩
theorem trodAll_mk6 {t t' t'' t3 t4 t5 : TypeId} {v v' v'' v3 v4 v5 : Value} {d d' d'' d3 d4 d5 : DataW H} {p p' p'' p3 p4 p5 : List MemPlace} (h : DataW.Trod enc P w base spare held t v d p) (h' : DataW.Trod enc P w base spare held t' v' d' p')
    (h'' : DataW.Trod enc P w base spare held t'' v'' d'' p'') (h3 : DataW.Trod enc P w base spare held t3 v3 d3 p3) (h4 : DataW.Trod enc P w base spare held t4 v4 d4 p4) (h5 : DataW.Trod enc P w base spare held t5 v5 d5 p5) :
    DataW.TrodAll enc P w base spare held [t, t', t'', t3, t4, t5] [v, v', v'', v3, v4, v5] [d, d', d'', d3, d4, d5] (p ++ (p' ++ (p'' ++ (p3 ++ (p4 ++ p5))))) := ⟨p, _, h, trodAll_mk5 h' h'' h3 h4 h5, rfl⟩
theorem trodAll_four_ {t t' t'' t3 : TypeId} {args : Array Value} {ds : List (DataW H)} {ps : List MemPlace} (h : DataW.TrodAll enc P w base spare held [t, t', t'', t3] args.toList ds ps) :
    ∃ v v' v'' v3 d d' d'' d3 p p' p'' p3, args = #[v, v', v'', v3] ∧ ds = [d, d', d'', d3] ∧ ps = p ++ (p' ++ (p'' ++ p3)) ∧ DataW.Trod enc P w base spare held t v d p ∧ DataW.Trod enc P w base spare held t' v' d' p' ∧ DataW.Trod enc P w base spare held t'' v'' d'' p'' ∧ DataW.Trod enc P w base spare held t3 v3 d3 p3 := by
  obtain ⟨v, vs, d, ds', p, q, hargs, rfl, rfl, hd, hrest⟩ := trodAll_cons h
  obtain ⟨v', vs', d', ds'', p', q', rfl, rfl, rfl, hd', hrest'⟩ := trodAll_cons hrest
  obtain ⟨v'', vs'', d'', dsc, p'', q'', rfl, rfl, rfl, hd'', hrest''⟩ := trodAll_cons hrest'
  obtain ⟨v3, vs3, d3, ds3, p3, q3, rfl, rfl, rfl, hd3, hrest3⟩ := trodAll_cons hrest''
  obtain ⟨rfl, rfl, rfl⟩ := trodAll_nil hrest3
  exact ⟨v, v', v'', v3, d, d', d'', d3, p, p', p'', p3, by cases args; simp_all, rfl, by simp, hd, hd', hd'', hd3⟩
theorem trodAll_mk4_ {t t' t'' t3 : TypeId} {v v' v'' v3 : Value} {d d' d'' d3 : DataW H} {p p' p'' p3 : List MemPlace} (h : DataW.Trod enc P w base spare held t v d p) (h' : DataW.Trod enc P w base spare held t' v' d' p')
    (h'' : DataW.Trod enc P w base spare held t'' v'' d'' p'') (h3 : DataW.Trod enc P w base spare held t3 v3 d3 p3) :
    DataW.TrodAll enc P w base spare held [t, t', t'', t3] [v, v', v'', v3] [d, d', d'', d3] (p ++ (p' ++ (p'' ++ p3))) := ⟨p, _, h, trodAll_mk3 h' h'' h3, rfl⟩
set_option maxRecDepth 100000 in
theorem open_int {v : Value} {d : DataW H} {p : List MemPlace} {r : Reach} {b0 : Nat} {sp : Nat → Bool} (hv : Value.okWide Try.prog w r b0 3 v) (h : DataW.Trod enc Try.prog w 0 sp held 3 v d p) : ∃ x : Int, v = .int .i64 x ∧ i64 x := by
  obtain ⟨x, rfl⟩ := okWide_int Try.underlying3 hv
  obtain ⟨fuel, hf⟩ := h
  obtain ⟨k, h1, h2⟩ := int_cell hf
  cases h1
  exact ⟨x, rfl, h2⟩
end

end Go.Proofs.Ytjgnikmnadmheaa

namespace Go.Proofs.Ytjgnikmnadmheaa

section
variable {P : Program} {ops : Array Oper} {Q : Exit → Act → World → Prop} {S : World → Prop} {fuel : Nat} {listed : Array Bool} {a : Act} {w : World}
theorem held_skip (i : Nat) (d : Option Tmp) (hd : (ops[i]?).map (fun o => o.dst) = some d) (hs : Region.noSelect ops = true) (hf : Region.free .any ops listed i = true) (hr : (Region.ready .any ops listed).contains i = true)
    (hw : (ops[i]?).map (fun o => Region.wanted o (yielded ops a.tmps)) = some false) (hQ : ∀ c a w, Q (.panic c) (a.put d undef) w → Q (.panic c) a w) (hS : S w)
    (h : wpAnyH P .any ops Q S fuel (listed.setIfInBounds i true) (a.put d undef) w) : wpAnyH P .any ops Q S (fuel + 1) listed a w := by
  obtain ⟨o, ho⟩ : ∃ o, ops[i]? = some o := by
    cases hx : ops[i]? with
    | none => rw [hx] at hd; cases hd
    | some o => exact ⟨o, rfl⟩
  rw [ho] at hd hw
  obtain rfl : o.dst = d := Option.some.inj hd
  exact wpAnyH_take ho hs hf hr hQ (.inr ⟨Option.some.inj hw, rfl⟩) hS h
theorem held_take (i : Nat) (d : Option Tmp) (v : Value) (hd : (ops[i]?).map (fun o => o.dst) = some d) (hs : Region.noSelect ops = true) (hf : Region.free .any ops listed i = true) (hr : (Region.ready .any ops listed).contains i = true)
    (hw : (ops[i]?).map (fun o => Region.wanted o (yielded ops a.tmps)) = some true) (hQ : ∀ c a w, Q (.panic c) (a.put d v) w → Q (.panic c) a w) (hS : S w)
    (hy : ∀ w, S w → (ops[i]?).map (fun o => (execOp a.eval o).run P w) = some (.ok (.value v) w))
    (h : wpAnyH P .any ops Q S fuel (listed.setIfInBounds i true) (a.put d v) w) : wpAnyH P .any ops Q S (fuel + 1) listed a w := by
  obtain ⟨o, ho⟩ : ∃ o, ops[i]? = some o := by
    cases hx : ops[i]? with
    | none => rw [hx] at hd; cases hd
    | some o => exact ⟨o, rfl⟩
  rw [ho] at hd hw hy
  obtain rfl : o.dst = d := Option.some.inj hd
  exact wpAnyH_take ho hs hf hr hQ (.inl ⟨Option.some.inj hw, fun w hSw => Option.some.inj (hy w hSw)⟩) hS h
/-- the load of a whole row -/
theorem held_row (i : Nat) (d : Option Tmp) (ty : TypeId) (x : Operand) (b o : Nat) (cs : List Value) (td : TypeDesc) (hd : (ops[i]?).map (fun o => o.dst) = some d) (hop : (ops[i]?).map (fun o => o.op) = some (.load ty x)) (hs : Region.noSelect ops = true) (hf : Region.free .any ops listed i = true) (hr : (Region.ready .any ops listed).contains i = true)
    (hw : (ops[i]?).map (fun o => Region.wanted o (yielded ops a.tmps)) = some true) (hx : a.eval x = .pointer (some ⟨b, o, none⟩)) (hQ : ∀ c a w, Q (.panic c) (a.put d (.agg cs.toArray)) w → Q (.panic c) a w) (hS : S w)
    (hc : ∀ w, S w → w.rangeAt b o cs) (hu : P.underlying ty = some td) (hdr : td.isRow = true) (hi : (P.info? ty).map (·.size) = some cs.length)
    (h : wpAnyH P .any ops Q S fuel (listed.setIfInBounds i true) (a.put d (.agg cs.toArray)) w) : wpAnyH P .any ops Q S (fuel + 1) listed a w := by
  obtain ⟨op, ho⟩ : ∃ o, ops[i]? = some o := by
    cases hx : ops[i]? with
    | none => rw [hx] at hd; cases hd
    | some o => exact ⟨o, rfl⟩
  rw [ho] at hd hw hop
  obtain rfl : op.dst = d := Option.some.inj hd
  exact wpAnyH_take ho hs hf hr hQ (yieldsIf_load_mid (Option.some.inj hw) ty x (Option.some.inj hop) b o hx cs td hc hu hdr hi) hS h
/-- the call is the only one that may come up -/
theorem held_call (i : Nat) (d : Option Tmp) (f : FuncId) (args : Array Value) {R : Ending → World → Prop} (hd : (ops[i]?).map (fun o => o.dst) = some d) (hr : Region.ready .any ops listed = [i])
    (hw : (ops[i]?).map (fun o => Region.wanted o (yielded ops a.tmps)) = some true) (he : (ops[i]?).map (fun o => (execOp a.eval o).run P w) = some (.ok (.enter f args) w))
    (hc : Calls P f args w R) (h : ∀ e w', R e w' → ∃ v, e = .returned v ∧ S w' ∧ (S w' → wpAnyH P .any ops Q S fuel (listed.setIfInBounds i true) (a.put d v) w')) : wpAnyH P .any ops Q S (fuel + 1) listed a w := by
  obtain ⟨o, ho⟩ : ∃ o, ops[i]? = some o := by
    cases hx : ops[i]? with
    | none => rw [hx] at hd; cases hd
    | some o => exact ⟨o, rfl⟩
  rw [ho] at hd hw he
  obtain rfl : o.dst = d := Option.some.inj hd
  refine wpAnyH_all hr (by simp) fun j hj => ?_
  obtain rfl : j = i := by simpa using hj
  unfold wpOp
  rw [ho]
  dsimp only
  rw [if_pos (Option.some.inj hw)]
  refine .inl ?_
  unfold Oper.wp
  have he' := Option.some.inj he
  dsimp only at he'
  rw [he']
  refine hc.mono fun e w' hR => ?_
  obtain ⟨v, rfl, hS, hk⟩ := h e w' hR
  exact ⟨hS, hk hS⟩
end
end Go.Proofs.Ytjgnikmnadmheaa

namespace Go.Proofs.Ytjgnikmnadmheaa
open Go.RowKit

section
variable {P : Program} {ops : Array Oper} {Q : Exit → Act → World → Prop} {S : World → Prop} {fuel fuel' : Nat} {listed l' : Array Bool} {a a' : Act} {w : World}
/-- an operation that is not wanted -/
theorem sk (i d : Nat) (h : wpAnyH P .any ops Q S fuel l' a' w) (hfu : fuel' = fuel + 1 := by exact rfl) (hd : (ops[i]?).map (fun o => o.dst) = some (some d) := by rfl) (hs : Region.noSelect ops = true := by kernel_rfl) (hf : Region.free .any ops listed i = true := by kernel_rfl) (hr : (Region.ready .any ops listed).contains i = true := by kernel_rfl)
    (hw : (ops[i]?).map (fun o => Region.wanted o (yielded ops a.tmps)) = some false := by rfl) (hQ : ∀ c a w, Q (.panic c) (a.put (some d) undef) w → Q (.panic c) a w := by exact fun _ _ _ h => h) (hS : S w := by assumption)
    (hl : listed.setIfInBounds i true = l' := by ((try simp only [List.setIfInBounds_toArray, List.set_cons_zero, List.set_cons_succ]); exact rfl)) (ha : a.put (some d) undef = a' := by ((try simp only [Act.put, List.setIfInBounds_toArray, List.set_cons_zero, List.set_cons_succ]); exact rfl)) : wpAnyH P .any ops Q S fuel' listed a w := by
  subst hl; subst ha; subst hfu
  exact held_skip i (some d) hd hs hf hr hw hQ hS h
/-- an operation that yields its value, as the walk's words reckon it -/
theorem tk (i d : Nat) {v : Value} (h : wpAnyH P .any ops Q S fuel l' a' w) (hfu : fuel' = fuel + 1 := by exact rfl) (hd : (ops[i]?).map (fun o => o.dst) = some (some d) := by rfl) (hs : Region.noSelect ops = true := by kernel_rfl) (hf : Region.free .any ops listed i = true := by kernel_rfl) (hr : (Region.ready .any ops listed).contains i = true := by kernel_rfl)
    (hw : (ops[i]?).map (fun o => Region.wanted o (yielded ops a.tmps)) = some true := by rfl) (hQ : ∀ c v a w, Q (.panic c) (a.put (some d) v) w → Q (.panic c) a w := by exact fun _ _ _ _ h => h) (hS : S w := by assumption)
    (hy : ∀ w, S w → (ops[i]?).map (fun o => (execOp a.eval o).run P w) = some (.ok (.value v) w) := by (intro w hSw; (try dsimp only at hSw); simp only [List.getElem?_toArray, List.getElem?_cons_zero, List.getElem?_cons_succ, Option.map_some]; refine congrArg some ?_; go_simp; (try with_reducible rfl)))
    (hl : listed.setIfInBounds i true = l' := by ((try simp only [List.setIfInBounds_toArray, List.set_cons_zero, List.set_cons_succ]); exact rfl)) (ha : a.put (some d) v = a' := by ((try simp only [Act.put, List.setIfInBounds_toArray, List.set_cons_zero, List.set_cons_succ]); exact rfl)) : wpAnyH P .any ops Q S fuel' listed a w := by
  subst hl; subst ha; subst hfu
  exact held_take i (some d) v hd hs hf hr hw (fun c a w => hQ c v a w) hS hy h
end
end Go.Proofs.Ytjgnikmnadmheaa

namespace Go.Proofs.Ytjgnikmnadmheaa
open Go.RowKit
/-- what lay below n still lies: through draws, allocs and stores above n -/
theorem bw {n : Nat} {a w : World} (h : Below n a w := by repeat (first | with_reducible exact Below.refl _ _ | with_reducible assumption | with_reducible refine Below.drew ?_ | with_reducible refine below_drewN ?_ _ | (with_reducible refine Below.alloc ?_ ?_ _; rotate_left; (try simp) <;> omega) | (with_reducible refine Below.setCell ?_ ?_ _; rotate_left; (try simp) <;> omega))) : Below n a w := h
/-- a block is still known whole -/
theorem bkw {w : World} {g t : Nat} {cs : Array Value} (h : Bk w g t cs := by repeat (first | with_reducible assumption | with_reducible exact Bk.new _ _ _ | with_reducible refine Bk.drew ?_ | with_reducible refine Bk.drewN ?_ _ | with_reducible refine Bk.alloc ?_ _ | (with_reducible refine Bk.far ?_ ?_ _; rotate_left; (try simp) <;> omega))) : Bk w g t cs := h
end Go.Proofs.Ytjgnikmnadmheaa

namespace Go.Proofs.Ytjgnikmnadmheaa
open Go.RowKit

def seC (se : Nat → Int) : List Value := (List.range 24).map fun k => Value.int .i64 (se k)
theorem seC_len (se : Nat → Int) : (seC se).length = 24 := by simp [seC]
theorem seC_at (se : Nat → Int) (k : Nat) (hk : k < 24) : (seC se)[k]? = some (.int .i64 (se k)) := by simp [seC, hk]
theorem info23 : (Try.prog.info? 23).map (·.size) = some 2 := by kernel_rfl
theorem info24 : (Try.prog.info? 24).map (·.size) = some 24 := by kernel_rfl
theorem index24 (se : Nat → Int) (k : Nat) (hk : k < 12) (w : World) :
    (Instr.index 24 (.agg (seC se).toArray) (.int .i64 k)).run Try.prog w = .ok (.agg #[.int .i64 (se (2 * k)), .int .i64 (se (2 * k + 1))]) w := by
  have h1 : (isAgg 23).run Try.prog w = .ok true w := by simp [isAgg, run_underlying Try.underlying23]
  have h2 : (sizeOf 23).run Try.prog w = .ok 2 w := by
    obtain ⟨i, hi, hs⟩ := Option.map_eq_some_iff.1 info23
    simp [sizeOf, typeInfo, hi, hs]
  have e : ((seC se).toArray).extract (k * 2) (k * 2 + 2) = #[.int .i64 (se (2 * k)), .int .i64 (se (2 * k + 1))] := by
    apply Array.toList_inj.1
    simp only [Array.toList_extract, List.extract_eq_take_drop]
    have a0 := seC_at se (2 * k) (by omega)
    have a1 := seC_at se (2 * k + 1) (by omega)
    apply List.ext_getElem?
    intro i
    rw [List.getElem?_take, List.getElem?_drop]
    match i with
    | 0 => simp; rw [show k * 2 = 2 * k by omega]; exact a0
    | 1 => simp; rw [show k * 2 + 1 = 2 * k + 1 by omega]; exact a1
    | i + 2 => simp; omega
  have hk1 : (0 : Int) ≤ (k : Int) ∧ (k : Int) < ((12 : Nat) : Int) := by omega
  simp only [Instr.index, asIntOf, Sem.run_bind, Sem.run_pure, Result.andThen_ok, run_underlying Try.underlying24]
  rw [if_pos hk1]
  simp only [part, Sem.run_bind, Sem.run_pure, Result.andThen_ok, h1, h2, if_true, Int.toNat_natCast]
  rw [e]
theorem wpList_index_run {P : Program} {ops : Array Oper} {rest : List Oper} {o : Oper} {a : Act} {w : World} {Q : Exit → Act → World → Prop} (hgd : o.guard = none) (t : TypeId) (x i : Operand) (ho : o.op = .index t x i)
    {v u r : Value} (hx : a.eval x = v) (hi : a.eval i = u) (hr : (Instr.index t v u).run P w = .ok r w) (h : wpList P ops Q rest (a.put o.dst r) w) : wpList P ops Q (o :: rest) a w :=
  wpList_plain hgd fun K hK => by
    unfold Oper.wp execOp
    simp only [ho, hx, hi, hr, Sem.run_bind, Sem.run_pure, Result.andThen_ok]
    exact hK _ _ h
theorem YardAt.seas {w0 w : World} {b B : Nat} {C : Array Value} {Y : Yd} (h : YardAt w0 B C Y) (hb : Bk w b 29 C) : w.rangeAt b 0 (seC Y.se) := fun j v hj => by
  have hlt : j < 24 := by have := (List.getElem?_eq_some_iff.1 hj).1; rwa [seC_len] at this
  rw [seC_at _ _ hlt] at hj
  cases hj
  rw [Nat.zero_add]
  exact hb.cell j (h.se j hlt)
end Go.Proofs.Ytjgnikmnadmheaa
