/- What CheckCheapest answers (program and reference), and the boxes of its arguments. -/
import Derived.Test.YtkjceegmmhnajaaD1
namespace Go.Proofs.Ytkjceegmmhnajaa
open Go.RowKit

def numB (n : Int) : Bool := decide (-1000000000000000 ≤ n) && decide (n ≤ 1000000000000000)
def denB (n : Int) : Bool := decide (1 ≤ n) && decide (n ≤ 1000000000000)
def dualB (d : Du) : Bool := denB d.den && (numB d.n0 && (numB d.n1 && (numB d.n2 && numB d.n3)))
theorem numB_iff {n : Int} : numB n = true ↔ numOk n := by unfold numB numOk; rw [Bool.and_eq_true, decide_eq_true_iff, decide_eq_true_iff]
theorem dualB_ok {d : Du} (h : dualB d = true) : okDu d := by
  unfold dualB denB at h
  simp only [Bool.and_eq_true, numB_iff, decide_eq_true_iff] at h
  exact ⟨h.2.1, h.2.2.1, h.2.2.2.1, h.2.2.2.2, h.1.1, h.1.2⟩
def sameF (f g : Int × Int) : Bool := f.1 == g.1 && f.2 == g.2
def ccB (l : List Tn) (x y z : Int) (ps : List Pt) (d : Du) : Bool :=
  decide (chkW l x y z = 0) && (recB l.length ps && (rgiveB l ps x y z && (dualB d && (belowB d l && sameF (lowest (atD d x y z) d.den) (lowest (wsum Tn.price l ps) (wall ps))))))
def CcEnd (b : Bool) (n : Int) (w : World) (e : Ending) (w' : World) : Prop := e = .returned (.tuple #[.bool b, .int .i64 n]) ∧ Below w.heap.size w w'
theorem cc_ret {b c : Bool} {m n : Int} {w w' : World} (h : c = b) (h2 : m = n) (hb : Below w.heap.size w w') : CcEnd b n w (.returned (.tuple #[.bool c, .int .i64 m])) w' := ⟨by rw [h, h2], hb⟩

/-- the three boxes of the arguments -/
def Bx (w : World) (b : Nat) (x y z : Int) (A : Option Addr) (n c : Nat) (d : Du) : Prop := Bk w b 37 #[.int .i64 x, .int .i64 y, .int .i64 z] ∧ Bk w (b + 1) 25 #[.slice A n c] ∧ Bk w (b + 1 + 1) 44 d.arr
section
variable {w w' : World} {b : Nat} {x y z : Int} {A : Option Addr} {n c : Nat} {d : Du}
theorem Bx.new (w : World) : Bx (((w.alloc (.cells #[.int .i64 x, .int .i64 y, .int .i64 z] 37)).alloc (.cells #[.slice A n c] 25)).alloc (.cells d.arr 44)) w.heap.size x y z A n c d := by
  have h2 := (Bk.new (w.alloc (.cells #[.int .i64 x, .int .i64 y, .int .i64 z] 37)) 25 #[.slice A n c]).alloc (.cells d.arr 44)
  have h3 := Bk.new ((w.alloc (.cells #[.int .i64 x, .int .i64 y, .int .i64 z] 37)).alloc (.cells #[.slice A n c] 25)) 44 d.arr
  rw [World.size_alloc] at h2
  rw [World.size_alloc, World.size_alloc] at h3
  exact ⟨((Bk.new w 37 _).alloc _).alloc _, h2, h3⟩
theorem Bx.lt (h : Bx w b x y z A n c d) : b + 1 + 1 < w.heap.size := h.2.2.lt
theorem Bx.below {B : Nat} (h : Bx w b x y z A n c d) (hb : Below B w w') (hB : b + 1 + 1 < B) : Bx w' b x y z A n c d := ⟨h.1.below hb (by omega), h.2.1.below hb (by omega), h.2.2.below hb hB⟩
theorem Bx.drewN (h : Bx w b x y z A n c d) (k : Nat) : Bx (w.drewN k) b x y z A n c d := h
theorem Bx.drew (h : Bx w b x y z A n c d) : Bx w.drew b x y z A n c d := h
theorem Bx.facts (h : Bx w b x y z A n c d) : (b < w.heap.size ∧ b + 1 < w.heap.size ∧ b + 1 + 1 < w.heap.size) ∧ (w.cell? ⟨b, 0, none⟩ = some (.int .i64 x) ∧ w.cell? ⟨b, 1, none⟩ = some (.int .i64 y) ∧ w.cell? ⟨b, 2, none⟩ = some (.int .i64 z)) ∧ w.cell? ⟨b + 1, 0, none⟩ = some (.slice A n c) ∧
    w.cell? ⟨b + 1 + 1, 0, none⟩ = some (.int .i64 d.n0) ∧ w.cell? ⟨b + 1 + 1, 1, none⟩ = some (.int .i64 d.n1) ∧ w.cell? ⟨b + 1 + 1, 2, none⟩ = some (.int .i64 d.n2) ∧ w.cell? ⟨b + 1 + 1, 3, none⟩ = some (.int .i64 d.n3) ∧ w.cell? ⟨b + 1 + 1, 4, none⟩ = some (.int .i64 d.den) := by
  have := h.lt
  exact ⟨⟨by omega, by omega, by omega⟩, ⟨h.1.cell 0 rfl, h.1.cell 1 rfl, h.1.cell 2 rfl⟩, h.2.1.cell 0 rfl, h.2.2.cell 0 rfl, h.2.2.cell 1 rfl, h.2.2.cell 2 rfl, h.2.2.cell 3 rfl, h.2.2.cell 4 rfl⟩
end

theorem Bx.alloc {w : World} {b : Nat} {x y z : Int} {A : Option Addr} {n c : Nat} {d : Du} (h : Bx w b x y z A n c d) (o : Obj) : Bx (w.alloc o) b x y z A n c d := ⟨h.1.alloc o, h.2.1.alloc o, h.2.2.alloc o⟩
theorem shIn_of {x y z : Int} (h : shadeB x y z = true) : shIn x y z := by
  unfold shadeB inShade at h
  simp only [Bool.and_eq_true, decide_eq_true_iff] at h
  exact ⟨h.1.1, h.1.2, h.2⟩

end Go.Proofs.Ytkjceegmmhnajaa
