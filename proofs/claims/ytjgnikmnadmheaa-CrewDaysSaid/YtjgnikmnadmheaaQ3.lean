/- The yard as data: where its parts lie. -/
import Derived.Test.YtjgnikmnadmheaaQ2
namespace Go.Proofs.Ytjgnikmnadmheaa
open Go.RowKit

theorem add_rec (a : Addr) (i j : Nat) (hj : 0 < j) : a.add (i + j) = ⟨(a.add i).block, (a.add i).off + j, none⟩ := by
  rw [← add_add']; unfold Addr.add; rw [if_neg (by omega)]

/-- rows of records: element j of record k -/
theorem flat_at {α : Type} (f : α → List Value) (n : Nat) (hf : ∀ x, (f x).length = n) : ∀ (l : List α) (k : Nat) (hk : k < l.length) (j : Nat), j < n → (l.flatMap f)[k * n + j]? = (f l[k])[j]?
  | [], k, hk, _, _ => absurd hk (by simp)
  | x :: l, 0, _, j, hj => by simp only [List.flatMap_cons]; rw [List.getElem?_append_left (by rw [hf]; omega)]; simp
  | x :: l, k + 1, hk, j, hj => by
    simp only [List.flatMap_cons]
    rw [List.getElem?_append_right (by rw [hf, Nat.add_mul]; omega), hf]
    rw [show (k + 1) * n + j - n = k * n + j by rw [Nat.add_mul]; omega, flat_at f n hf l k (by simpa using hk) j hj]
    simp
theorem flat_length {α : Type} (f : α → List Value) (n : Nat) (hf : ∀ x, (f x).length = n) (l : List α) : (l.flatMap f).length = l.length * n := by
  induction l with
  | nil => simp
  | cons x l ih => simp only [List.flatMap_cons, List.length_append, List.length_cons, hf, ih]; rw [Nat.add_mul]; omega
theorem Lies.rec_at {α : Type} {f : α → List Value} {n : Nat} (hf : ∀ x, (f x).length = n) {w : World} {B : Nat} {A : Option Addr} {l : List α} (h : Lies w B A (l.flatMap f)) (hn : 0 < n) {k : Nat} (hk : k < l.length) :
    ∃ ad, A = some ad ∧ ad.block < B ∧ ∀ j v, (f l[k])[j]? = some v → w.cell? (ad.add (k * n + j)) = some v := by
  have hlen := flat_length f n hf l
  have hpos : 0 < l.length * n := Nat.mul_pos (by omega) hn
  obtain ⟨ad, e, hb, hc⟩ := h (by intro e; rw [e] at hlen; simp at hlen; omega)
  refine ⟨ad, e, hb, fun j v hv => hc _ _ ?_⟩
  have hj : j < n := by rw [← hf l[k]]; exact (List.getElem?_eq_some_iff.1 hv).1
  rw [flat_at f n hf l k hk j hj]; exact hv

structure Pit where
  s : Int
  a : Int
  b : Int
structure Mas where
  name : ByteArray
  f : Int
  u : Int
  k : Int
abbrev Pit.cells (p : Pit) : List Value := [.int .i64 p.s, .int .i64 p.a, .int .i64 p.b]
abbrev Mas.cells (m : Mas) : List Value := [.string m.name, .int .i64 m.f, .int .i64 m.u, .int .i64 m.k]
abbrev Pit.agg (p : Pit) : Value := .agg #[.int .i64 p.s, .int .i64 p.a, .int .i64 p.b]
abbrev Mas.agg (m : Mas) : Value := .agg #[.string m.name, .int .i64 m.f, .int .i64 m.u, .int .i64 m.k]
def pitsC (l : List Pit) : List Value := l.flatMap Pit.cells
def massC (l : List Mas) : List Value := l.flatMap Mas.cells
theorem pit_at {w : World} {B : Nat} {A : Option Addr} {l : List Pit} (h : Lies w B A (pitsC l)) {k : Nat} (hk : k < l.length) :
    ∃ ad, A = some ad ∧ ad.block < B ∧ w.cell? (ad.add (k * 3)) = some (.int .i64 l[k].s) ∧ w.cell? ⟨(ad.add (k * 3)).block, (ad.add (k * 3)).off + 1, none⟩ = some (.int .i64 l[k].a) ∧ w.cell? ⟨(ad.add (k * 3)).block, (ad.add (k * 3)).off + 2, none⟩ = some (.int .i64 l[k].b) := by
  obtain ⟨ad, e, hb, hc⟩ := Lies.rec_at (f := Pit.cells) (n := 3) (fun _ => rfl) h (by omega) hk
  refine ⟨ad, e, hb, hc 0 _ rfl, ?_, ?_⟩
  · rw [← add_rec _ _ _ (by omega)]; exact hc 1 _ rfl
  · rw [← add_rec _ _ _ (by omega)]; exact hc 2 _ rfl
theorem mas_at {w : World} {B : Nat} {A : Option Addr} {l : List Mas} (h : Lies w B A (massC l)) {k : Nat} (hk : k < l.length) :
    ∃ ad, A = some ad ∧ ad.block < B ∧ w.cell? (ad.add (k * 4)) = some (.string l[k].name) ∧ w.cell? ⟨(ad.add (k * 4)).block, (ad.add (k * 4)).off + 1, none⟩ = some (.int .i64 l[k].f) ∧ w.cell? ⟨(ad.add (k * 4)).block, (ad.add (k * 4)).off + 2, none⟩ = some (.int .i64 l[k].u)
      ∧ w.cell? ⟨(ad.add (k * 4)).block, (ad.add (k * 4)).off + 3, none⟩ = some (.int .i64 l[k].k) := by
  obtain ⟨ad, e, hb, hc⟩ := Lies.rec_at (f := Mas.cells) (n := 4) (fun _ => rfl) h (by omega) hk
  refine ⟨ad, e, hb, hc 0 _ rfl, ?_, ?_, ?_⟩
  · rw [← add_rec _ _ _ (by omega)]; exact hc 1 _ rfl
  · rw [← add_rec _ _ _ (by omega)]; exact hc 2 _ rfl
  · rw [← add_rec _ _ _ (by omega)]; exact hc 3 _ rfl

/-- a yard -/
structure Yd where
  se : Nat → Int
  cl : List Int
  pi : List Pit
  ma : List Mas
  dry : Int
/-- the cells of a yard's value, and where its lists lie -/
structure YardAt (w : World) (B : Nat) (C : Array Value) (Y : Yd) : Prop where
  size : C.size = 28
  se : ∀ k, k < 24 → C[k]? = some (.int .i64 (Y.se k))
  cl : ∃ A c, C[24]? = some (.slice A Y.cl.length c) ∧ Lies w B A (ints Y.cl)
  pi : ∃ A c, C[25]? = some (.slice A Y.pi.length c) ∧ Lies w B A (pitsC Y.pi)
  ma : ∃ A c, C[26]? = some (.slice A Y.ma.length c) ∧ Lies w B A (massC Y.ma)
  dry : C[27]? = some (.int .i64 Y.dry)
theorem YardAt.below {w w' : World} {B B' : Nat} {C : Array Value} {Y : Yd} (h : YardAt w B C Y) (hb : Below B' w w') (hB : B ≤ B') : YardAt w' B C Y :=
  ⟨h.size, h.se, by obtain ⟨A, c, h1, h2⟩ := h.cl; exact ⟨A, c, h1, h2.below hb hB⟩, by obtain ⟨A, c, h1, h2⟩ := h.pi; exact ⟨A, c, h1, h2.below hb hB⟩, by obtain ⟨A, c, h1, h2⟩ := h.ma; exact ⟨A, c, h1, h2.below hb hB⟩, h.dry⟩
theorem YardAt.more {w : World} {B B' : Nat} {C : Array Value} {Y : Yd} (h : YardAt w B C Y) (hB : B ≤ B') : YardAt w B' C Y :=
  ⟨h.size, h.se, by obtain ⟨A, c, h1, h2⟩ := h.cl; exact ⟨A, c, h1, h2.more hB⟩, by obtain ⟨A, c, h1, h2⟩ := h.pi; exact ⟨A, c, h1, h2.more hB⟩, by obtain ⟨A, c, h1, h2⟩ := h.ma; exact ⟨A, c, h1, h2.more hB⟩, h.dry⟩

def seasB (se : Nat → Int) (k : Nat) : Bool := inB (se (2 * k)) 0 1440 && inB (se (2 * k + 1)) 0 1440
def pitB (p : Pit) : Bool := inB p.s 0 100000 && inB p.a 0 10000 && inB p.b 1 100
def masB (m : Mas) : Bool := decide (0 ≤ m.f) && decide (m.f < m.u) && decide (m.u ≤ 100001) && inB m.k 1 9
def dayB (d : Int) : Bool := inB d 0 100000
def badName (m : Mas) : Bool := !nameB m.name
def fineY (Y : Yd) : Bool := inB Y.dry 0 30 && risingB Y.cl && (List.range 12).all (seasB Y.se) && Y.cl.all dayB && Y.pi.all pitB && Y.ma.all masB
def chkY (Y : Yd) : Int := if 200 < Y.cl.length ∨ 8 < Y.pi.length ∨ 12 < Y.ma.length then 2 else if Y.ma.any badName = true then 4 else if fineY Y = true then 0 else 1
def IntEnd (n : Int) (w : World) (e : Ending) (w' : World) : Prop := e = .returned (.int .i64 n) ∧ Below w.heap.size w w'
theorem int_end {m n : Int} {w w' : World} (h : m = n) (hb : Below w.heap.size w w') : IntEnd n w (.returned (.int .i64 m)) w' := ⟨by rw [h], hb⟩
def ShEnd (b : Bool) (w : World) (e : Ending) (w' : World) : Prop := e = .returned (.bool b) ∧ Below w.heap.size w w'
theorem sh_ret {a b : Bool} {w w' : World} (h : a = b) (hb : Below w.heap.size w w') : ShEnd b w (.returned (.bool a)) w' := ⟨by rw [h], hb⟩
theorem all_take {α : Type} (p : α → Bool) (l : List α) (k : Nat) (hk : k < l.length) : (l.take (k + 1)).all p = ((l.take k).all p && p l[k]) := by
  rw [List.take_succ_eq_append_getElem hk, List.all_append]; simp only [List.all_cons, List.all_nil, Bool.and_true]
theorem all_range (p : Nat → Bool) (k : Nat) : (List.range (k + 1)).all p = ((List.range k).all p && p k) := by
  rw [List.range_succ]; simp
end Go.Proofs.Ytjgnikmnadmheaa
