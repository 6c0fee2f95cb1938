/- crew.suited; the job of a plan: until, first. -/
import Derived.Test.YtjgnikmnadmheaaT1
namespace Go.Proofs.Ytjgnikmnadmheaa
open Go.RowKit
attribute [local go_sem] Oper.semAt_some

def suitFn (b : Nat) : Value := .func (.func 122) #[] #[.pointer (some ⟨b + 3, 0, none⟩), .pointer (some ⟨b + 4, 0, none⟩), .pointer (some ⟨b, 0, none⟩), .pointer (some ⟨b + 1, 0, none⟩), .pointer (some ⟨b + 2, 0, none⟩)]
def SuitEnd (C : Array Value) (Y : Yd) (l : List Tk) (A : Option Addr) (c i : Nat) (d0 d1 : Int) (w : World) (e : Ending) (w' : World) : Prop :=
  e = .returned (suitFn w.heap.size) ∧ SuitW w.heap.size C Y l A c i (w.heap.size + 3) (w.heap.size + 4) w.heap.size (w.heap.size + 1) (w.heap.size + 2) d0 d1 w' ∧ Below w.heap.size w w' ∧ w'.heap.size = w.heap.size + 5

set_option maxRecDepth 100000 in
set_option maxHeartbeats 400000 in
theorem suited_any (C : Array Value) (Y : Yd) (l : List Tk) (A : Option Addr) (c i : Nat) (d0 d1 : Int) (w : World) (hY : YardAt w w.heap.size C Y) (hT : TasksAt w w.heap.size A l) :
    Calls Try.prog 92 #[.agg C, .slice A l.length c, .int .i64 i, .int .i64 d0, .int .i64 d1] w (SuitEnd C Y l A c i d0 d1 w) := by
  have k0 : Bk (((((w.alloc (.cells C 29)).alloc (.cells #[.slice A l.length c] 30)).alloc (.cells #[.int .i64 i] 3)).alloc (.cells #[.int .i64 d0] 3)).alloc (.cells #[.int .i64 d1] 3)) w.heap.size 29 C := ((((Bk.new _ _ _).alloc _).alloc _).alloc _).alloc _
  have k1 : Bk (((((w.alloc (.cells C 29)).alloc (.cells #[.slice A l.length c] 30)).alloc (.cells #[.int .i64 i] 3)).alloc (.cells #[.int .i64 d0] 3)).alloc (.cells #[.int .i64 d1] 3)) (w.heap.size + 1) 30 #[.slice A l.length c] := (((by simpa using Bk.new (w.alloc (.cells C 29)) 30 #[.slice A l.length c] : Bk ((w.alloc (.cells C 29)).alloc (.cells #[.slice A l.length c] 30)) (w.heap.size + 1) 30 #[.slice A l.length c]).alloc _).alloc _).alloc _
  have k2 : Bk (((((w.alloc (.cells C 29)).alloc (.cells #[.slice A l.length c] 30)).alloc (.cells #[.int .i64 i] 3)).alloc (.cells #[.int .i64 d0] 3)).alloc (.cells #[.int .i64 d1] 3)) (w.heap.size + 2) 3 #[.int .i64 i] := ((by simpa using Bk.new ((w.alloc (.cells C 29)).alloc (.cells #[.slice A l.length c] 30)) 3 #[.int .i64 i] : Bk (((w.alloc (.cells C 29)).alloc (.cells #[.slice A l.length c] 30)).alloc (.cells #[.int .i64 i] 3)) (w.heap.size + 2) 3 #[.int .i64 i]).alloc _).alloc _
  have k3 : Bk (((((w.alloc (.cells C 29)).alloc (.cells #[.slice A l.length c] 30)).alloc (.cells #[.int .i64 i] 3)).alloc (.cells #[.int .i64 d0] 3)).alloc (.cells #[.int .i64 d1] 3)) (w.heap.size + 3) 3 #[.int .i64 d0] := (by simpa using Bk.new (((w.alloc (.cells C 29)).alloc (.cells #[.slice A l.length c] 30)).alloc (.cells #[.int .i64 i] 3)) 3 #[.int .i64 d0] : Bk ((((w.alloc (.cells C 29)).alloc (.cells #[.slice A l.length c] 30)).alloc (.cells #[.int .i64 i] 3)).alloc (.cells #[.int .i64 d0] 3)) (w.heap.size + 3) 3 #[.int .i64 d0]).alloc _
  have k4 : Bk (((((w.alloc (.cells C 29)).alloc (.cells #[.slice A l.length c] 30)).alloc (.cells #[.int .i64 i] 3)).alloc (.cells #[.int .i64 d0] 3)).alloc (.cells #[.int .i64 d1] 3)) (w.heap.size + 4) 3 #[.int .i64 d1] := by simpa using Bk.new ((((w.alloc (.cells C 29)).alloc (.cells #[.slice A l.length c] 30)).alloc (.cells #[.int .i64 i] 3)).alloc (.cells #[.int .i64 d0] 3)) 3 #[.int .i64 d1]
  have hb : Below w.heap.size w (((((w.alloc (.cells C 29)).alloc (.cells #[.slice A l.length c] 30)).alloc (.cells #[.int .i64 i] 3)).alloc (.cells #[.int .i64 d0] 3)).alloc (.cells #[.int .i64 d1] 3)) := by exact (by repeat (first | with_reducible exact Below.refl _ _ | with_reducible assumption | with_reducible refine Below.drew ?_ | with_reducible refine below_drewN ?_ _ | (with_reducible refine Below.alloc ?_ ?_ _; rotate_left; (try simp) <;> omega) | (with_reducible refine Below.setCell ?_ ?_ _; rotate_left; (try simp) <;> omega)))
  have HE : Hid (SuitEnd C Y l A c i d0 d1 w (.returned (suitFn w.heap.size)) (((((w.alloc (.cells C 29)).alloc (.cells #[.slice A l.length c] 30)).alloc (.cells #[.int .i64 i] 3)).alloc (.cells #[.int .i64 d0] 3)).alloc (.cells #[.int .i64 d1] 3))) :=
    ⟨rfl, ⟨k3.cell 0 rfl, k4.cell 0 rfl, k0, k1.cell 0 rfl, k2.cell 0 rfl, hY.below hb (Nat.le_refl _), hT.below hb (Nat.le_refl _), hb.size⟩, hb, by simp⟩
  clear k0 k1 k2 k3 k4 hb hY hT
  go_enter Try.func92, Try.ntmps92
  go_wp2
  go_ret
  exact HE.out

/-- a job: a yard, tasks, a first day -/
structure JobAt (w : World) (B bj : Nat) (C : Array Value) (Y : Yd) (l : List Tk) (A : Option Addr) (c : Nat) (f : Int) : Prop where
  blk : Bk w bj 107 (C ++ #[.slice A l.length c, .int .i64 f])
  yat : YardAt w B C Y
  tat : TasksAt w B A l
  lt : bj < B
section
variable {w w' : World} {B B' bj : Nat} {C : Array Value} {Y : Yd} {l : List Tk} {A : Option Addr} {c : Nat} {f : Int}
theorem JobAt.below (h : JobAt w B bj C Y l A c f) (hb : Below B' w w') (hB : B ≤ B') : JobAt w' B bj C Y l A c f := ⟨h.blk.below hb (by have := h.lt; omega), h.yat.below hb hB, h.tat.below hb hB, h.lt⟩
theorem JobAt.more (h : JobAt w B bj C Y l A c f) (hB : B ≤ B') : JobAt w B' bj C Y l A c f := ⟨h.blk, h.yat.more hB, h.tat.more hB, by have := h.lt; omega⟩
theorem JobAt.yard (h : JobAt w B bj C Y l A c f) : w.rangeAt bj 0 C.toList := fun j v hj => by
  rw [Nat.zero_add]
  have hj' : C[j]? = some v := by simpa using hj
  exact h.blk.cell j (by rw [Array.getElem?_append_left (Array.getElem?_eq_some_iff.1 hj').1]; exact hj')
theorem JobAt.tasks (h : JobAt w B bj C Y l A c f) : w.cell? ⟨bj, 28, none⟩ = some (.slice A l.length c) := h.blk.cell 28 (by have := h.yat.size; rw [Array.getElem?_append_right (by omega)]; simp [this])
theorem JobAt.from_ (h : JobAt w B bj C Y l A c f) : w.cell? ⟨bj, 29, none⟩ = some (.int .i64 f) := h.blk.cell 29 (by have := h.yat.size; rw [Array.getElem?_append_right (by omega)]; simp [this])
end

set_option maxHeartbeats 400000 in
theorem until_any (bj : Nat) (f : Int) (w : World) (h : w.cell? ⟨bj, 29, none⟩ = some (.int .i64 f)) (h0 : 0 ≤ f ∧ f ≤ 1000000) : Calls Try.prog 95 #[.pointer (some ⟨bj, 0, none⟩)] w fun e w' => e = .returned (.int .i64 (f + 400)) ∧ w = w' := by
  obtain ⟨h1, h2⟩ := h0
  go_enter Try.func95, Try.ntmps95
  go_wp2
  go_ret
  exact ⟨rfl, rfl⟩

/-- the first one -/
def firstL (l : List Int) : Int := match l with
  | [] => 0
  | x :: _ => x
def someL (l : List Int) : Bool := match l with
  | [] => false
  | _ :: _ => true
def FirstEnd (L : List Int) (w : World) (e : Ending) (w' : World) : Prop := e = .returned (.tuple #[.int .i64 (firstL L), .bool (someL L)]) ∧ Below w.heap.size w w'
end Go.Proofs.Ytjgnikmnadmheaa
