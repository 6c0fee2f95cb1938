import Derived.Test.YtkjceegmmhnajaaA4a
namespace Go.Proofs.Ytkjceegmmhnajaa
open Go.RowKit

structure Vc where
  x : Int
  y : Int
  z : Int
  deriving DecidableEq
def Vc.cells (v : Vc) : List Value := [.int .i64 v.x, .int .i64 v.y, .int .i64 v.z]
def vecsC (l : List Vc) : List Value := l.flatMap Vc.cells
abbrev Vc.agg (v : Vc) : Value := .agg #[.int .i64 v.x, .int .i64 v.y, .int .i64 v.z]
def Vc.sub (a b : Vc) : Vc := ⟨a.x - b.x, a.y - b.y, a.z - b.z⟩
def Vc.dot (a b : Vc) : Int := a.x * b.x + a.y * b.y + a.z * b.z
def Vc.crs (a b : Vc) : Vc := ⟨a.y * b.z - a.z * b.y, a.z * b.x - a.x * b.z, a.x * b.y - a.y * b.x⟩
def Vc.mul (a : Vc) (n : Int) : Vc := ⟨a.x * n, a.y * n, a.z * n⟩

/-- pigment's weights -/
def pwts : List Vc → Vc → Option (List Int)
  | [a], w => if w = a then some [1] else none
  | [a, b], w => let u := w.sub a; let d := b.sub a; let y := d.dot d; let x := u.dot d
    if y ≠ 0 ∧ u.mul y = d.mul x then some [y - x, x] else none
  | [a, b, c], w => let u := w.sub a; let d := b.sub a; let f := c.sub a; let n := d.crs f; let y := n.dot n
    if y = 0 ∨ u.dot n ≠ 0 then none else
      let x := (u.crs f).dot n; let z := (d.crs u).dot n; let g : Int := gcdL [x, y, z]
      some [(y - x - z).tdiv g, x.tdiv g, z.tdiv g]
  | [a, b, c, e], w => let u := w.sub a; let d := b.sub a; let f := c.sub a; let g := e.sub a; let y := (d.crs f).dot g
    if y = 0 then none else
      let p := (u.crs f).dot g; let q := (d.crs u).dot g; let r := (d.crs f).dot u
      if y < 0 then some [-y - -p - -q - -r, -p, -q, -r] else some [y - p - q - r, p, q, r]
  | _, _ => none

def WEnd (ws : Option (List Int)) (w : World) (e : Ending) (w' : World) : Prop := ∃ (A : Option Addr) (n c : Nat) (b : Bool), e = .returned (.tuple #[.slice A n c, .bool b]) ∧
  (match ws with | none => b = false | some l => b = true ∧ n = l.length ∧ Lies w' w'.heap.size A (ints l)) ∧ n ≤ c ∧ c ≤ 1000 ∧ Below w.heap.size w w'
def shadeV (v : Vc) : Prop := (0 ≤ v.x ∧ v.x ≤ 1000) ∧ (0 ≤ v.y ∧ v.y ≤ 1000) ∧ (0 ≤ v.z ∧ v.z ≤ 1000)
theorem shadeV_vb {v : Vc} (h : shadeV v) : vb 1000 v.x v.y v.z := by unfold shadeV at h; unfold vb ab; omega

theorem vb_sub {a b : Vc} (h : shadeV a) (k : shadeV b) : vb 1000 (a.x - b.x) (a.y - b.y) (a.z - b.z) := by unfold shadeV at h k; unfold vb ab; omega

theorem w_end {ws : Option (List Int)} {l : List Int} {b : Bool} {A : Option Addr} {n c : Nat} {w w' : World} (hE : ws = if b = true then some l else none) (hn : n = l.length) (hL : Lies w' w'.heap.size A (ints l)) (hc : n ≤ c) (hc2 : c ≤ 1000) (hb : Below w.heap.size w w') :
    WEnd ws w (.returned (.tuple #[.slice A n c, .bool b])) w' := by
  refine ⟨A, n, c, b, rfl, ?_, hc, hc2, hb⟩
  subst hE
  cases b
  · exact rfl
  · exact ⟨rfl, hn, hL⟩

theorem w_none {ws : Option (List Int)} {A : Option Addr} {n c : Nat} {w w' : World} (hE : ws = none) (hc : n ≤ c) (hc2 : c ≤ 1000) (hb : Below w.heap.size w w') :
    WEnd ws w (.returned (.tuple #[.slice A n c, .bool false])) w' := by
  subst hE
  exact ⟨A, n, c, false, rfl, rfl, hc, hc2, hb⟩

set_option maxRecDepth 100000 in
set_option maxHeartbeats 1000000 in
theorem weights1 (a x : Vc) (ad : Addr) (c : Nat) (w : World) (hb : ad.block < w.heap.size) (h0 : w.cell? ad = some (.int .i64 a.x)) (h1 : w.cell? ⟨ad.block, ad.off + 1, none⟩ = some (.int .i64 a.y)) (h2 : w.cell? ⟨ad.block, ad.off + 2, none⟩ = some (.int .i64 a.z)) (ha : shadeV a) (hx : shadeV x) :
    Calls Try.prog 86 #[.slice (some ad) 1 c, x.agg] w (WEnd (pwts [a] x) w) := by
  have hv := shadeV_vb ha
  have hu := shadeV_vb hx
  obtain ⟨a1, a2, a3⟩ := a
  obtain ⟨x1, x2, x3⟩ := x
  have HE : Hid (pwts [⟨a1, a2, a3⟩] ⟨x1, x2, x3⟩ = if x1 = a1 ∧ x2 = a2 ∧ x3 = a3 then some [1] else none) := by show _ = _; simp [pwts]
  clear ha hx
  dsimp only at *
  have q84 := eq84
  go_enter Try.func86, Try.ntmps86
  go_wp2_with (go_at_call 75; refine (minus_b _ (by with_reducible assumption) (by with_reducible assumption) (by omega)).mono ?_; rintro e w1 ⟨r, s, t, rfl, HR, hv1, hb1, hz1⟩; obtain ⟨hc1, hf1⟩ := bcell hb1; (try simp at hz1))
  go_region
  go_wp2
  go_ret2
  refine w_end (l := [1]) ?_ rfl (Lies.fresh rfl (by simp [hz1]) (by simp [hz1]) rfl) (by omega) (by omega) ?_
  · rw [HE.out]; simp
  · have hB : Below w.heap.size w w1 := Below.trans (by repeat (first | with_reducible exact Below.refl _ _ | with_reducible assumption | with_reducible refine Below.drew ?_ | with_reducible refine below_drewN ?_ _ | (with_reducible refine Below.alloc ?_ ?_ _; rotate_left; (try simp) <;> omega) | (with_reducible refine Below.setCell ?_ ?_ _; rotate_left; (try simp) <;> omega))) (hb1.mono (by first | omega | (simp; omega) | simp))
    exact (by repeat (first | with_reducible exact Below.refl _ _ | with_reducible assumption | with_reducible refine Below.drew ?_ | with_reducible refine below_drewN ?_ _ | (with_reducible refine Below.alloc ?_ ?_ _; rotate_left; (try simp) <;> omega) | (with_reducible refine Below.setCell ?_ ?_ _; rotate_left; (try simp) <;> omega)))
end Go.Proofs.Ytkjceegmmhnajaa
