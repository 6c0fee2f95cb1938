/- The weights of few points, the normals, the slopes: what the program reckons, and that it suffices. Plain mathematics. -/
import Derived.Deep.CutRange
import Derived.RangeFuncWrites
import Derived.OrdersHeld
import Derived.OrdersIn
import Derived.ArgAppend
import Derived.IntWalk
import Derived.Lib.Hide
import Derived.Deep.DeepCutAuto
import Derived.Shelf.Abstract
import Derived.RangeFuncNested
import Derived.RangeFuncBound
import Derived.RangeFuncCalls
import Derived.RangeFuncLeaves
import Derived.OwnWalkIn
import Derived.TacticsInMore
import Derived.LoopNIn
import Derived.LoopIn
import Derived.Test.YtkjceegmmhnajaaG06
import Derived.Test.YtkjceegmmhnajaaG08
import Derived.Test.YtkjceegmmhnajaaG10
import Derived.Test.YtkjceegmmhnajaaG11

set_option linter.unusedVariables false
set_option linter.unusedSimpArgs false

namespace Go.Proofs.Ytkjceegmmhnajaa.LPX

def V.mul (a : V) (k : Int) : V := ⟨a.x * k, a.y * k, a.z * k⟩
/-- the weights of one to four points that give a point, not reduced -/
def rwts : List V → V → Option (List Int)
  | [a], x => if x = a then some [1] else none
  | [a, b], x => let u := x.sub a; let d := b.sub a
    if d.dot d ≠ 0 ∧ d.crs u = ⟨0, 0, 0⟩ then some [d.dot d - u.dot d, u.dot d] else none
  | [a, b, c], x => let u := x.sub a; let d := b.sub a; let f := c.sub a; let m := d.crs f
    if m.dot m ≠ 0 ∧ u.dot m = 0 then some [m.dot m - (u.crs f).dot m - (d.crs u).dot m, (u.crs f).dot m, (d.crs u).dot m] else none
  | [a, b, c, e], x => let u := x.sub a; let d := b.sub a; let f := c.sub a; let g := e.sub a; let y := (d.crs f).dot g
    if y = 0 then none else if y < 0 then some [-(y - (u.crs f).dot g - (d.crs u).dot g - (d.crs f).dot u), -(u.crs f).dot g, -(d.crs u).dot g, -(d.crs f).dot u]
      else some [y - (u.crs f).dot g - (d.crs u).dot g - (d.crs f).dot u, (u.crs f).dot g, (d.crs u).dot g, (d.crs f).dot u]
  | _, _ => none
section
variable {n : Nat} {s : Nat → V} {x : V}
theorem e_self (i : Nat) : e i i = 1 := by unfold e; rw [if_pos rfl]
theorem e_far {i t : Nat} (h : t ≠ i) : e i t = 0 := by unfold e; rw [if_neg h]
theorem nv_congr {w w' : Nat → Int} (h : ∀ i, i < n → w i = w' i) : D n w = D n w' ∧ nv n s x w = nv n s x w' := by
  have e1 : ∀ g, sm n w g = sm n w' g := fun g => sm_congr n fun i hi => by rw [h i hi]
  refine ⟨e1 one, ?_⟩
  unfold nv M D
  simp only [e1]
theorem eq0 {a b : V} (h : a = b) : a.x = b.x ∧ a.y = b.y ∧ a.z = b.z := by rw [h]; exact ⟨rfl, rfl, rfl⟩
/-- free points that mix a point with positive weights have positive weights -/
theorem wts_pos {w : Nat → Int} (hw : NN n w) (hz : nv n s x w = ⟨0, 0, 0⟩) : ∀ {L : List Nat}, L.Nodup → (∀ i, i ∈ L ↔ i < n ∧ 0 < w i) → FreeP (L.map s) → ∃ ws, rwts (L.map s) x = some ws ∧ ∀ v ∈ ws, 0 < v
  | [], _, _, h => h.elim
  | [i], _, hL, _ => by
    have hi := (hL i).1 (by simp)
    have hwe : ∀ t, t < n → w t = (fun t => w i * e i t + 0 * e i t) t := fun t ht => by
      by_cases h : t = i
      · subst h; simp [e_self]
      · have : ¬ 0 < w t := fun h0 => h (by simpa using (hL t).2 ⟨ht, h0⟩)
        have := hw.1 t ht
        simp [e_far h]; omega
    have h1 := (nv_congr (s := s) (x := x) hwe).2
    rw [hz, nv_lin, nv_e n s x hi.1] at h1
    obtain ⟨a1, a2, a3⟩ := eq0 h1
    simp only [V.sub] at a1 a2 a3
    have hx : x = s i := by
      have z : ∀ t : Int, 0 = w i * t + 0 * t → t = 0 := fun t ht => by
        have : w i * t = 0 := by omega
        rcases Int.mul_eq_zero.1 this with h | h
        · omega
        · exact h
      exact V.ext' (by have := z _ a1; omega) (by have := z _ a2; omega) (by have := z _ a3; omega)
    exact ⟨[1], by show (if x = s i then some [1] else none) = _; rw [if_pos hx], by simp⟩
  | [i, j], hnd, hL, h => by
    have hi := (hL i).1 (by simp)
    have hj := (hL j).1 (by simp)
    have hij : i ≠ j := by simp at hnd; exact hnd
    have hwe : ∀ t, t < n → w t = c2 (w i) (w j) i j t := fun t ht => by
      unfold c2
      by_cases h1 : t = i
      · subst h1; simp [e_self, e_far hij]
      · by_cases h2 : t = j
        · subst h2; simp [e_self, e_far h1]
        · have : ¬ 0 < w t := fun h0 => by have := (hL t).2 ⟨ht, h0⟩; simp at this; omega
          have := hw.1 t ht
          simp [e_far h1, e_far h2]; omega
    have h1 := (nv_congr (s := s) (x := x) hwe).2
    rw [hz, (nv_c2 hi.1 hj.1).2] at h1
    obtain ⟨a1, a2, a3⟩ := eq0 h1
    have h : ((s j).sub (s i)).dot ((s j).sub (s i)) ≠ 0 := h
    have hy := dot_self ((s j).sub (s i))
    have b : x.sub (s j) = (x.sub (s i)).sub ((s j).sub (s i)) := by unfold V.sub; refine V.ext' ?_ ?_ ?_ <;> simp only <;> omega
    rw [b] at a1 a2 a3
    show ∃ ws, (if ((s j).sub (s i)).dot ((s j).sub (s i)) ≠ 0 ∧ ((s j).sub (s i)).crs (x.sub (s i)) = ⟨0, 0, 0⟩ then some [((s j).sub (s i)).dot ((s j).sub (s i)) - (x.sub (s i)).dot ((s j).sub (s i)), (x.sub (s i)).dot ((s j).sub (s i))] else none) = some ws ∧ _
    generalize (s j).sub (s i) = d at *
    generalize x.sub (s i) = u at *
    obtain ⟨_, hwi⟩ := hi
    obtain ⟨_, hwj⟩ := hj
    generalize w i = p at *
    generalize w j = q at *
    simp only [V.sub] at a1 a2 a3
    -- (p + q) u = q d
    have k1 : (p + q) * u.x = q * d.x := by grind
    have k2 : (p + q) * u.y = q * d.y := by grind
    have k3 : (p + q) * u.z = q * d.z := by grind
    have z : ∀ t : Int, (p + q) * t = 0 → t = 0 := fun t ht => by
      rcases Int.mul_eq_zero.1 ht with h | h
      · omega
      · exact h
    have hc : d.crs u = ⟨0, 0, 0⟩ := by
      unfold V.crs
      refine V.ext' ?_ ?_ ?_ <;> simp only <;> refine z _ ?_
      · have : (p + q) * (d.y * u.z - d.z * u.y) = d.y * ((p + q) * u.z) - d.z * ((p + q) * u.y) := by grind
        rw [this, k2, k3]; grind
      · have : (p + q) * (d.z * u.x - d.x * u.z) = d.z * ((p + q) * u.x) - d.x * ((p + q) * u.z) := by grind
        rw [this, k1, k3]; grind
      · have : (p + q) * (d.x * u.y - d.y * u.x) = d.x * ((p + q) * u.y) - d.y * ((p + q) * u.x) := by grind
        rw [this, k1, k2]; grind
    rw [if_pos ⟨h, hc⟩]
    have m1 : (p + q) * u.dot d = q * d.dot d := by
      have : (p + q) * u.dot d = ((p + q) * u.x) * d.x + ((p + q) * u.y) * d.y + ((p + q) * u.z) * d.z := by unfold V.dot; grind
      rw [this, k1, k2, k3]; unfold V.dot; grind
    have hyp : 0 < d.dot d := by omega
    have pos : ∀ t r : Int, 0 < r → (p + q) * t = r * d.dot d → 0 < t := fun t r hr ht => by
      have h0 : 0 < (p + q) * t := by rw [ht]; exact Int.mul_pos hr hyp
      exact Int.pos_of_mul_pos_right h0 (by omega)
    refine ⟨_, rfl, fun v hv => ?_⟩
    have hv' : v = d.dot d - u.dot d ∨ v = u.dot d := by simpa using hv
    rcases hv' with rfl | rfl
    · have e1 : (p + q) * (d.dot d - u.dot d) = (p + q) * d.dot d - (p + q) * u.dot d := by rw [Int.mul_sub]
      exact pos _ p hwi (by rw [e1, m1]; simp only [Int.add_mul]; omega)
    · exact pos _ q hwj m1
  | [i, j, k], hnd, hL, h => by
    have hi := (hL i).1 (by simp)
    have hj := (hL j).1 (by simp)
    have hk := (hL k).1 (by simp)
    have hne : i ≠ j ∧ i ≠ k ∧ j ≠ k := by simp at hnd; exact ⟨hnd.1.1, hnd.1.2, hnd.2⟩
    obtain ⟨hij, hik, hjk⟩ := hne
    have hwe : ∀ t, t < n → w t = c3 (w i) (w j) (w k) i j k t := fun t ht => by
      unfold c3 c2
      by_cases h1 : t = i
      · subst h1; simp [e_self, e_far hij, e_far hik]
      · by_cases h2 : t = j
        · subst h2; simp [e_self, e_far h1, e_far hjk]
        · by_cases h3 : t = k
          · subst h3; simp [e_self, e_far h1, e_far h2]
          · have : ¬ 0 < w t := fun h0 => by have := (hL t).2 ⟨ht, h0⟩; simp at this; omega
            have := hw.1 t ht
            simp [e_far h1, e_far h2, e_far h3]; omega
    have h1 := (nv_congr (s := s) (x := x) hwe).2
    rw [hz, (nv_c3 hi.1 hj.1 hk.1).2] at h1
    obtain ⟨a1, a2, a3⟩ := eq0 h1
    have h : (((s j).sub (s i)).crs ((s k).sub (s i))).dot (((s j).sub (s i)).crs ((s k).sub (s i))) ≠ 0 := h
    have hy := dot_self (((s j).sub (s i)).crs ((s k).sub (s i)))
    have b : ∀ t, x.sub (s t) = (x.sub (s i)).sub ((s t).sub (s i)) := fun t => by unfold V.sub; refine V.ext' ?_ ?_ ?_ <;> simp only <;> omega
    rw [b j, b k] at a1 a2 a3
    show ∃ ws, (if (((s j).sub (s i)).crs ((s k).sub (s i))).dot (((s j).sub (s i)).crs ((s k).sub (s i))) ≠ 0 ∧ (x.sub (s i)).dot (((s j).sub (s i)).crs ((s k).sub (s i))) = 0 then some [(((s j).sub (s i)).crs ((s k).sub (s i))).dot (((s j).sub (s i)).crs ((s k).sub (s i))) - ((x.sub (s i)).crs ((s k).sub (s i))).dot (((s j).sub (s i)).crs ((s k).sub (s i))) - (((s j).sub (s i)).crs (x.sub (s i))).dot (((s j).sub (s i)).crs ((s k).sub (s i))), ((x.sub (s i)).crs ((s k).sub (s i))).dot (((s j).sub (s i)).crs ((s k).sub (s i))), (((s j).sub (s i)).crs (x.sub (s i))).dot (((s j).sub (s i)).crs ((s k).sub (s i)))] else none) = some ws ∧ _
    generalize (s j).sub (s i) = d at *
    generalize (s k).sub (s i) = f at *
    generalize x.sub (s i) = u at *
    obtain ⟨_, hwi⟩ := hi
    obtain ⟨_, hwj⟩ := hj
    obtain ⟨_, hwk⟩ := hk
    generalize w i = p at *
    generalize w j = q at *
    generalize w k = r at *
    simp only [V.sub] at a1 a2 a3
    have k1 : (p + q + r) * u.x = q * d.x + r * f.x := by grind
    have k2 : (p + q + r) * u.y = q * d.y + r * f.y := by grind
    have k3 : (p + q + r) * u.z = q * d.z + r * f.z := by grind
    have z : ∀ t : Int, (p + q + r) * t = 0 → t = 0 := fun t ht => by
      rcases Int.mul_eq_zero.1 ht with h | h
      · omega
      · exact h
    have lin : ∀ g : V, (p + q + r) * u.dot g = q * d.dot g + r * f.dot g := fun g => by
      have : (p + q + r) * u.dot g = ((p + q + r) * u.x) * g.x + ((p + q + r) * u.y) * g.y + ((p + q + r) * u.z) * g.z := by unfold V.dot; grind
      rw [this, k1, k2, k3]; unfold V.dot; grind
    have t1 : u.dot (d.crs f) = 0 := z _ (by rw [lin]; unfold V.dot V.crs; grind)
    have swap1 : (u.crs f).dot (d.crs f) = u.dot (f.crs (d.crs f)) := by unfold V.dot V.crs; grind
    have swap2 : (d.crs u).dot (d.crs f) = u.dot ((d.crs f).crs d) := by unfold V.dot V.crs; grind
    have m1 : (p + q + r) * (u.crs f).dot (d.crs f) = q * (d.crs f).dot (d.crs f) := by
      rw [swap1, lin]; unfold V.dot V.crs; grind
    have m2 : (p + q + r) * (d.crs u).dot (d.crs f) = r * (d.crs f).dot (d.crs f) := by
      rw [swap2, lin]; unfold V.dot V.crs; grind
    rw [if_pos ⟨h, t1⟩]
    have hyp : 0 < (d.crs f).dot (d.crs f) := by omega
    generalize (d.crs f).dot (d.crs f) = y at *
    generalize (u.crs f).dot (d.crs f) = aa at *
    generalize (d.crs u).dot (d.crs f) = bb at *
    have pos : ∀ t r' : Int, 0 < r' → (p + q + r) * t = r' * y → 0 < t := fun t r' hr ht => by
      have h0 : 0 < (p + q + r) * t := by rw [ht]; exact Int.mul_pos hr hyp
      exact Int.pos_of_mul_pos_right h0 (by omega)
    refine ⟨_, rfl, fun v hv => ?_⟩
    have hv' : v = y - aa - bb ∨ v = aa ∨ v = bb := by simpa using hv
    rcases hv' with rfl | rfl | rfl
    · have e1 : (p + q + r) * (y - aa - bb) = (p + q + r) * y - (p + q + r) * aa - (p + q + r) * bb := by simp only [Int.mul_sub]
      exact pos _ p hwi (by rw [e1, m1, m2]; simp only [Int.add_mul]; omega)
    · exact pos _ q hwj m1
    · exact pos _ r hwk m2
  | [i, j, k, l], hnd, hL, h => by
    have hi := (hL i).1 (by simp)
    have hj := (hL j).1 (by simp)
    have hk := (hL k).1 (by simp)
    have hl := (hL l).1 (by simp)
    have hne : (i ≠ j ∧ i ≠ k ∧ i ≠ l) ∧ (j ≠ k ∧ j ≠ l) ∧ k ≠ l := by simp at hnd; exact hnd
    obtain ⟨⟨hij, hik, hil⟩, ⟨hjk, hjl⟩, hkl⟩ := hne
    have hwe : ∀ t, t < n → w t = c4 (w i) (w j) (w k) (w l) i j k l t := fun t ht => by
      unfold c4 c3 c2
      by_cases h1 : t = i
      · subst h1; simp [e_self, e_far hij, e_far hik, e_far hil]
      · by_cases h2 : t = j
        · subst h2; simp [e_self, e_far h1, e_far hjk, e_far hjl]
        · by_cases h3 : t = k
          · subst h3; simp [e_self, e_far h1, e_far h2, e_far hkl]
          · by_cases h4 : t = l
            · subst h4; simp [e_self, e_far h1, e_far h2, e_far h3]
            · have : ¬ 0 < w t := fun h0 => by have := (hL t).2 ⟨ht, h0⟩; simp at this; omega
              have := hw.1 t ht
              simp [e_far h1, e_far h2, e_far h3, e_far h4]; omega
    have h1 := (nv_congr (s := s) (x := x) hwe).2
    rw [hz, (nv_c4 hi.1 hj.1 hk.1 hl.1).2] at h1
    obtain ⟨a1, a2, a3⟩ := eq0 h1
    have h : (((s j).sub (s i)).crs ((s k).sub (s i))).dot ((s l).sub (s i)) ≠ 0 := h
    have b : ∀ t, x.sub (s t) = (x.sub (s i)).sub ((s t).sub (s i)) := fun t => by unfold V.sub; refine V.ext' ?_ ?_ ?_ <;> simp only <;> omega
    rw [b j, b k, b l] at a1 a2 a3
    show ∃ ws, (if (((s j).sub (s i)).crs ((s k).sub (s i))).dot ((s l).sub (s i)) = 0 then none else if (((s j).sub (s i)).crs ((s k).sub (s i))).dot ((s l).sub (s i)) < 0 then some [-((((s j).sub (s i)).crs ((s k).sub (s i))).dot ((s l).sub (s i)) - ((x.sub (s i)).crs ((s k).sub (s i))).dot ((s l).sub (s i)) - (((s j).sub (s i)).crs (x.sub (s i))).dot ((s l).sub (s i)) - (((s j).sub (s i)).crs ((s k).sub (s i))).dot (x.sub (s i))), -((x.sub (s i)).crs ((s k).sub (s i))).dot ((s l).sub (s i)), -(((s j).sub (s i)).crs (x.sub (s i))).dot ((s l).sub (s i)), -(((s j).sub (s i)).crs ((s k).sub (s i))).dot (x.sub (s i))]
      else some [(((s j).sub (s i)).crs ((s k).sub (s i))).dot ((s l).sub (s i)) - ((x.sub (s i)).crs ((s k).sub (s i))).dot ((s l).sub (s i)) - (((s j).sub (s i)).crs (x.sub (s i))).dot ((s l).sub (s i)) - (((s j).sub (s i)).crs ((s k).sub (s i))).dot (x.sub (s i)), ((x.sub (s i)).crs ((s k).sub (s i))).dot ((s l).sub (s i)), (((s j).sub (s i)).crs (x.sub (s i))).dot ((s l).sub (s i)), (((s j).sub (s i)).crs ((s k).sub (s i))).dot (x.sub (s i))]) = some ws ∧ _
    generalize (s j).sub (s i) = d at *
    generalize (s k).sub (s i) = f at *
    generalize (s l).sub (s i) = g at *
    generalize x.sub (s i) = u at *
    obtain ⟨_, hwi⟩ := hi
    obtain ⟨_, hwj⟩ := hj
    obtain ⟨_, hwk⟩ := hk
    obtain ⟨_, hwl⟩ := hl
    generalize w i = p at *
    generalize w j = q at *
    generalize w k = r at *
    generalize w l = t at *
    simp only [V.sub] at a1 a2 a3
    have k1 : (p + q + r + t) * u.x = q * d.x + r * f.x + t * g.x := by grind
    have k2 : (p + q + r + t) * u.y = q * d.y + r * f.y + t * g.y := by grind
    have k3 : (p + q + r + t) * u.z = q * d.z + r * f.z + t * g.z := by grind
    have lin : ∀ m : V, (p + q + r + t) * u.dot m = q * d.dot m + r * f.dot m + t * g.dot m := fun m => by
      have : (p + q + r + t) * u.dot m = ((p + q + r + t) * u.x) * m.x + ((p + q + r + t) * u.y) * m.y + ((p + q + r + t) * u.z) * m.z := by unfold V.dot; grind
      rw [this, k1, k2, k3]; unfold V.dot; grind
    have s1 : (u.crs f).dot g = u.dot (f.crs g) := by unfold V.dot V.crs; grind
    have s2 : (d.crs u).dot g = u.dot (g.crs d) := by unfold V.dot V.crs; grind
    have s3 : (d.crs f).dot u = u.dot (d.crs f) := by unfold V.dot; grind
    have m1 : (p + q + r + t) * (u.crs f).dot g = q * (d.crs f).dot g := by rw [s1, lin]; unfold V.dot V.crs; grind
    have m2 : (p + q + r + t) * (d.crs u).dot g = r * (d.crs f).dot g := by rw [s2, lin]; unfold V.dot V.crs; grind
    have m3 : (p + q + r + t) * (d.crs f).dot u = t * (d.crs f).dot g := by rw [s3, lin]; unfold V.dot V.crs; grind
    generalize (d.crs f).dot g = y at *
    generalize (u.crs f).dot g = aa at *
    generalize (d.crs u).dot g = bb at *
    generalize (d.crs f).dot u = cc at *
    rw [if_neg h]
    by_cases hneg : y < 0
    · rw [if_pos hneg]
      have pos : ∀ v r' : Int, 0 < r' → (p + q + r + t) * v = r' * y → 0 < -v := fun v r' hr ht => by
        have h0 : 0 < (p + q + r + t) * (-v) := by
          have : (p + q + r + t) * (-v) = r' * (-y) := by rw [Int.mul_neg, ht, Int.mul_neg]
          rw [this]; exact Int.mul_pos hr (by omega)
        exact Int.pos_of_mul_pos_right h0 (by omega)
      refine ⟨_, rfl, fun v hv => ?_⟩
      have hv' : v = -(y - aa - bb - cc) ∨ v = -aa ∨ v = -bb ∨ v = -cc := by simpa using hv
      have e1 : (p + q + r + t) * (y - aa - bb - cc) = (p + q + r + t) * y - (p + q + r + t) * aa - (p + q + r + t) * bb - (p + q + r + t) * cc := by simp only [Int.mul_sub]
      rcases hv' with rfl | rfl | rfl | rfl
      · exact pos _ p hwi (by rw [e1, m1, m2, m3]; simp only [Int.add_mul]; omega)
      · exact pos _ q hwj m1
      · exact pos _ r hwk m2
      · exact pos _ t hwl m3
    · rw [if_neg hneg]
      have pos : ∀ v r' : Int, 0 < r' → (p + q + r + t) * v = r' * y → 0 < v := fun v r' hr ht => by
        have h0 : 0 < (p + q + r + t) * v := by rw [ht]; exact Int.mul_pos hr (by omega)
        exact Int.pos_of_mul_pos_right h0 (by omega)
      refine ⟨_, rfl, fun v hv => ?_⟩
      have hv' : v = y - aa - bb - cc ∨ v = aa ∨ v = bb ∨ v = cc := by simpa using hv
      have e1 : (p + q + r + t) * (y - aa - bb - cc) = (p + q + r + t) * y - (p + q + r + t) * aa - (p + q + r + t) * bb - (p + q + r + t) * cc := by simp only [Int.mul_sub]
      rcases hv' with rfl | rfl | rfl | rfl
      · exact pos _ p hwi (by rw [e1, m1, m2, m3]; simp only [Int.add_mul]; omega)
      · exact pos _ q hwj m1
      · exact pos _ r hwk m2
      · exact pos _ t hwl m3
  | _ :: _ :: _ :: _ :: _ :: _, _, _, h => h.elim
/-- a mixed point has a list of free points, in order, with positive weights -/
theorem mix_found {w : Nat → Int} (hw : NN n w) (hz : nv n s x w = ⟨0, 0, 0⟩) : ∃ L : List Nat, L.Sublist (List.range n) ∧ (1 ≤ L.length ∧ L.length ≤ 4) ∧ (∀ i ∈ L, 0 < w i) ∧ ∃ ws, rwts (L.map s) x = some ws ∧ ∀ v ∈ ws, 0 < v := by
  obtain ⟨w', a, h1, h2, h3, h4, h5, h6⟩ := carath (s := s) (cnt n w) w (Nat.le_refl _) hw
  have hz' : nv n s x w' = ⟨0, 0, 0⟩ := by rw [h5, hz]; simp
  have hlen := free_len h6
  rw [List.length_map] at hlen
  exact ⟨suppL n w', by unfold suppL; exact List.filter_sublist, hlen, fun i hi => h3 i (mem_supp.1 hi).1 (mem_supp.1 hi).2, wts_pos h1 hz' (by unfold suppL; exact List.Nodup.sublist List.filter_sublist List.nodup_range) (fun i => mem_supp) h6⟩
end
end Go.Proofs.Ytkjceegmmhnajaa.LPX

namespace Go.Proofs.Ytkjceegmmhnajaa.LPX

/-- weights at some places -/
def wl : List Nat → List Int → Nat → Int
  | i :: L, a :: ws => fun t => a * e i t + 1 * wl L ws t
  | _, _ => fun _ => 0
def dotL : List Int → List Int → Int
  | a :: l, b :: m => a * b + dotL l m
  | _, _ => 0
theorem sm_wl (n : Nat) (g : Nat → Int) : ∀ (L : List Nat) (ws : List Int), (∀ i ∈ L, i < n) → sm n (wl L ws) g = dotL ws (L.map g)
  | [], ws, _ => by
    cases ws <;> exact sm_zero n fun i _ => rfl
  | i :: L, [], _ => sm_zero n fun i _ => rfl
  | i :: L, a :: ws, h => by
    show sm n (fun t => a * e i t + 1 * wl L ws t) g = a * g i + dotL ws (L.map g)
    rw [sm_lin, sm_e i g n (h i (by simp)), sm_wl n g L ws (fun j hj => h j (by simp [hj]))]
    simp
theorem wl_mem : ∀ (L : List Nat) (ws : List Int) (t : Nat), wl L ws t ≠ 0 → t ∈ L
  | [], ws, t, h => absurd rfl h
  | i :: L, [], t, h => absurd rfl h
  | i :: L, a :: ws, t, h => by
    by_cases h1 : e i t = 0
    · have : wl L ws t ≠ 0 := fun h2 => h (by show a * e i t + 1 * wl L ws t = 0; rw [h1, h2]; simp)
      exact List.mem_cons_of_mem _ (wl_mem L ws t this)
    · rw [e_ne h1]; simp
theorem wl_nn : ∀ (L : List Nat) (ws : List Int) (t : Nat), (∀ v ∈ ws, 0 < v) → 0 ≤ wl L ws t ∧ (L.length = ws.length → t ∈ L → 0 < wl L ws t)
  | [], ws, t, _ => ⟨Int.le_refl _, fun _ h => by cases h⟩
  | i :: L, [], t, _ => ⟨Int.le_refl _, fun h => by simp at h⟩
  | i :: L, a :: ws, t, h => by
    have ih := wl_nn L ws t (fun v hv => h v (by simp [hv]))
    have ha := h a (by simp)
    have he : 0 ≤ e i t := by unfold e; split <;> omega
    have h1 : 0 ≤ a * e i t := Int.mul_nonneg (by omega) he
    refine ⟨by show 0 ≤ a * e i t + 1 * wl L ws t; omega, fun hl ht => ?_⟩
    show 0 < a * e i t + 1 * wl L ws t
    rcases List.mem_cons.1 ht with rfl | ht
    · rw [e_self]; omega
    · have := ih.2 (by simpa using hl) ht
      omega
section
variable {n : Nat} {s : Nat → V} {x : V}
theorem rwts_len : ∀ {ps : List V} {ws : List Int}, rwts ps x = some ws → ps.length = ws.length ∧ 1 ≤ ps.length ∧ ps.length ≤ 4
  | [], _, h => by cases h
  | [a], ws, h => by
    simp only [rwts] at h
    split at h <;> cases h; simp
  | [a, b], ws, h => by
    simp only [rwts] at h
    split at h <;> cases h; simp
  | [a, b, c], ws, h => by
    simp only [rwts] at h
    split at h <;> cases h; simp
  | [a, b, c, d], ws, h => by
    simp only [rwts] at h
    split at h
    · cases h
    · split at h <;> cases h <;> simp
  | _ :: _ :: _ :: _ :: _ :: _, _, h => by cases h
/-- the weights give the point -/
theorem rwts_sum : ∀ {ps : List V} {ws : List Int}, rwts ps x = some ws → dotL ws (ps.map fun a => x.x - a.x) = 0 ∧ dotL ws (ps.map fun a => x.y - a.y) = 0 ∧ dotL ws (ps.map fun a => x.z - a.z) = 0
  | [], _, h => by cases h
  | [a], ws, h => by
    simp only [rwts] at h
    split at h
    · rename_i hx; cases h; subst hx; simp [dotL]
    · cases h
  | [a, b], ws, h => by
    simp only [rwts] at h
    split at h
    · rename_i hx
      cases h
      have hc := hx.2
      have b1 : x.x - b.x = (x.sub a).x - (b.sub a).x ∧ x.y - b.y = (x.sub a).y - (b.sub a).y ∧ x.z - b.z = (x.sub a).z - (b.sub a).z := by unfold V.sub; refine ⟨?_, ?_, ?_⟩ <;> simp only <;> omega
      have b2 : x.x - a.x = (x.sub a).x ∧ x.y - a.y = (x.sub a).y ∧ x.z - a.z = (x.sub a).z := ⟨rfl, rfl, rfl⟩
      simp only [List.map, dotL]
      rw [b1.1, b1.2.1, b1.2.2, b2.1, b2.2.1, b2.2.2]
      generalize b.sub a = d at *
      generalize x.sub a = u at *
      obtain ⟨h1, h2, h3⟩ := eq0 hc
      have g1 : d.dot d * u.x - u.dot d * d.x = d.z * (d.crs u).y - d.y * (d.crs u).z := by simp only [V.dot, V.crs]; grind
      have g2 : d.dot d * u.y - u.dot d * d.y = d.x * (d.crs u).z - d.z * (d.crs u).x := by simp only [V.dot, V.crs]; grind
      have g3 : d.dot d * u.z - u.dot d * d.z = d.y * (d.crs u).x - d.x * (d.crs u).y := by simp only [V.dot, V.crs]; grind
      rw [h2, h3] at g1; rw [h1, h3] at g2; rw [h1, h2] at g3
      simp only [Int.mul_zero, Int.sub_self] at g1 g2 g3
      generalize d.dot d = y at *
      generalize u.dot d = z at *
      refine ⟨?_, ?_, ?_⟩ <;> grind
    · cases h
  | [a, b, c], ws, h => by
    simp only [rwts] at h
    split at h
    · rename_i hx
      cases h
      have hc := hx.2
      have b1 : ∀ b : V, x.x - b.x = (x.sub a).x - (b.sub a).x ∧ x.y - b.y = (x.sub a).y - (b.sub a).y ∧ x.z - b.z = (x.sub a).z - (b.sub a).z := fun b => by unfold V.sub; refine ⟨?_, ?_, ?_⟩ <;> simp only <;> omega
      have b2 : x.x - a.x = (x.sub a).x ∧ x.y - a.y = (x.sub a).y ∧ x.z - a.z = (x.sub a).z := ⟨rfl, rfl, rfl⟩
      simp only [List.map, dotL]
      rw [(b1 b).1, (b1 b).2.1, (b1 b).2.2, (b1 c).1, (b1 c).2.1, (b1 c).2.2, b2.1, b2.2.1, b2.2.2]
      clear b1 b2 hx
      generalize b.sub a = d at *
      generalize c.sub a = f at *
      generalize x.sub a = u at *
      have i1 : (d.crs f).dot (d.crs f) * u.x = (u.crs f).dot (d.crs f) * d.x + (d.crs u).dot (d.crs f) * f.x + u.dot (d.crs f) * (d.crs f).x := by simp only [V.dot, V.crs]; grind
      have i2 : (d.crs f).dot (d.crs f) * u.y = (u.crs f).dot (d.crs f) * d.y + (d.crs u).dot (d.crs f) * f.y + u.dot (d.crs f) * (d.crs f).y := by simp only [V.dot, V.crs]; grind
      have i3 : (d.crs f).dot (d.crs f) * u.z = (u.crs f).dot (d.crs f) * d.z + (d.crs u).dot (d.crs f) * f.z + u.dot (d.crs f) * (d.crs f).z := by simp only [V.dot, V.crs]; grind
      rw [hc] at i1 i2 i3
      generalize (d.crs f).dot (d.crs f) = y at *
      generalize (u.crs f).dot (d.crs f) = p at *
      generalize (d.crs u).dot (d.crs f) = q at *
      refine ⟨?_, ?_, ?_⟩ <;> grind
    · cases h
  | [a, b, c, e], ws, h => by
    have b1 : ∀ b : V, x.x - b.x = (x.sub a).x - (b.sub a).x ∧ x.y - b.y = (x.sub a).y - (b.sub a).y ∧ x.z - b.z = (x.sub a).z - (b.sub a).z := fun b => by unfold V.sub; refine ⟨?_, ?_, ?_⟩ <;> simp only <;> omega
    have b2 : x.x - a.x = (x.sub a).x ∧ x.y - a.y = (x.sub a).y ∧ x.z - a.z = (x.sub a).z := ⟨rfl, rfl, rfl⟩
    simp only [rwts] at h
    simp only [List.map]
    rw [(b1 b).1, (b1 b).2.1, (b1 b).2.2, (b1 c).1, (b1 c).2.1, (b1 c).2.2, (b1 e).1, (b1 e).2.1, (b1 e).2.2, b2.1, b2.2.1, b2.2.2]
    clear b1 b2
    generalize b.sub a = d at *
    generalize c.sub a = f at *
    generalize e.sub a = g at *
    generalize x.sub a = u at *
    have i1 : (d.crs f).dot g * u.x = (u.crs f).dot g * d.x + (d.crs u).dot g * f.x + (d.crs f).dot u * g.x := by simp only [V.dot, V.crs]; grind
    have i2 : (d.crs f).dot g * u.y = (u.crs f).dot g * d.y + (d.crs u).dot g * f.y + (d.crs f).dot u * g.y := by simp only [V.dot, V.crs]; grind
    have i3 : (d.crs f).dot g * u.z = (u.crs f).dot g * d.z + (d.crs u).dot g * f.z + (d.crs f).dot u * g.z := by simp only [V.dot, V.crs]; grind
    generalize (d.crs f).dot g = y at *
    generalize (u.crs f).dot g = p at *
    generalize (d.crs u).dot g = q at *
    generalize (d.crs f).dot u = r at *
    split at h
    · cases h
    · split at h
      · cases h
        simp only [dotL]
        refine ⟨?_, ?_, ?_⟩ <;> grind
      · cases h
        simp only [dotL]
        refine ⟨?_, ?_, ?_⟩ <;> grind
  | _ :: _ :: _ :: _ :: _ :: _, _, h => by cases h
/-- a list with positive weights mixes the point -/
theorem wts_mix {L : List Nat} {ws : List Int} (hL : ∀ i ∈ L, i < n) (h : rwts (L.map s) x = some ws) (hp : ∀ v ∈ ws, 0 < v) : NN n (wl L ws) ∧ nv n s x (wl L ws) = ⟨0, 0, 0⟩ ∧ (∀ i, i < n → 0 < wl L ws i → i ∈ L) ∧ ∀ g, sm n (wl L ws) g = dotL ws (L.map g) := by
  obtain ⟨h1, h2, h3⟩ := rwts_len h
  rw [List.length_map] at h1 h2
  have hs := fun g => sm_wl n g L ws hL
  refine ⟨⟨fun i _ => (wl_nn L ws i hp).1, D_pos n (fun i _ => (wl_nn L ws i hp).1) ?_⟩, ?_, fun i _ h0 => wl_mem L ws i (by omega), hs⟩
  · cases hLc : L with
    | nil => rw [hLc] at h2; simp at h2
    | cons i r => exact ⟨i, hL i (by rw [hLc]; simp), by rw [← hLc]; exact (wl_nn L ws i hp).2 h1 (by rw [hLc]; simp)⟩
  · obtain ⟨a1, a2, a3⟩ := rwts_sum h
    have key : ∀ (c : V → Int), sm n (wl L ws) (fun i => c x * one i + (-1) * c (s i)) = dotL ws ((L.map s).map fun a => c x - c a) := fun c => by
      rw [hs, List.map_map]
      congr 1
      refine List.map_congr_left fun i _ => ?_
      simp only [one, Function.comp]; omega
    have k1 := key V.x
    have k2 := key V.y
    have k3 := key V.z
    rw [sm_glin] at k1 k2 k3
    have f1 : sm n (wl L ws) (fun i => (s i).x) = (M n s (wl L ws)).x := rfl
    have f2 : sm n (wl L ws) (fun i => (s i).y) = (M n s (wl L ws)).y := rfl
    have f3 : sm n (wl L ws) (fun i => (s i).z) = (M n s (wl L ws)).z := rfl
    have f4 : sm n (wl L ws) one = D n (wl L ws) := rfl
    unfold nv
    rw [a1] at k1; rw [a2] at k2; rw [a3] at k3
    rw [f4] at k1 k2 k3
    have q : ∀ a : Int, D n (wl L ws) * a = a * D n (wl L ws) := fun a => Int.mul_comm _ _
    refine V.ext' ?_ ?_ ?_
    · show D n (wl L ws) * x.x - (M n s (wl L ws)).x = 0
      rw [q]; omega
    · show D n (wl L ws) * x.y - (M n s (wl L ws)).y = 0
      rw [q]; omega
    · show D n (wl L ws) * x.z - (M n s (wl L ws)).z = 0
      rw [q]; omega
/-- the normals that are tried -/
def nrm : List V → V → V
  | [a], x => x.sub a
  | [a, b], x => let u := x.sub a; let d := b.sub a
    (u.mul (d.dot d)).sub (d.mul (u.dot d))
  | [a, b, c], x => let u := x.sub a; let m := (b.sub a).crs (c.sub a)
    if m.dot u < 0 then m.mul (-1) else m
  | _, _ => ⟨0, 0, 0⟩
theorem dot_diff (m a b : V) : m.dot (a.sub b) = m.dot a - m.dot b := by unfold V.dot V.sub; grind
/-- where the point is not mixed, one of the normals parts it -/
theorem sep_found (hn : 0 < n) (hno : ¬ ∃ w, NN n w ∧ nv n s x w = ⟨0, 0, 0⟩) : ∃ L : List Nat, L.Sublist (List.range n) ∧ (1 ≤ L.length ∧ L.length ≤ 3) ∧ ∀ k, k < n → (nrm (L.map s) x).dot (s k) < (nrm (L.map s) x).dot x := by
  rcases near (n := n) (s := s) (x := x) hn with h | ⟨w, hw, ⟨h0, ho⟩, hsep⟩
  · exact absurd h hno
  obtain ⟨w', a, h1, ha, h3, hD, hv, hF⟩ := carath (s := s) (cnt n w) w (Nat.le_refl _) hw
  have hv' := hv x
  have hda : ∀ u : V, (nv n s x w').dot u = a * (nv n s x w).dot u := fun u => by rw [hv']; unfold V.dot; grind
  have hsep' : ∀ k, k < n → 0 < (nv n s x w').dot (x.sub (s k)) := fun k hk => by
    rw [hda, dot_diff]
    exact Int.mul_pos ha (by have := hsep k hk; omega)
  have hort : ∀ i ∈ suppL n w', ∀ j ∈ suppL n w', (nv n s x w').dot ((s j).sub (s i)) = 0 := fun i hi j hj => by
    have i1 := mem_supp.1 hi
    have j1 := mem_supp.1 hj
    rw [hda, dot_diff, ho i i1.1 (h3 i i1.1 i1.2), ho j j1.1 (h3 j j1.1 j1.2)]
    simp
  have hsub : (suppL n w').Sublist (List.range n) := by unfold suppL; exact List.filter_sublist
  have hmem : ∀ i, i ∈ suppL n w' ↔ i < n ∧ 0 < w' i := fun i => mem_supp
  have hnd : (suppL n w').Nodup := hsub.nodup List.nodup_range
  have fin : ∀ q : V, (∀ k, k < n → 0 < q.dot (x.sub (s k))) → ∀ k, k < n → q.dot (s k) < q.dot x := fun q hq k hk => by
    have := hq k hk; rw [dot_diff] at this; omega
  generalize hLe : suppL n w' = L at *
  match L, hF with
  | [], h => exact h.elim
  | [i], _ =>
    refine ⟨[i], hsub, by simp, fin _ fun k hk => ?_⟩
    have hi := (hmem i).1 (by simp)
    have hwe : ∀ t, t < n → w' t = (fun t => w' i * e i t + 0 * e i t) t := fun t ht => by
      by_cases h : t = i
      · subst h; simp [e_self]
      · have : ¬ 0 < w' t := fun h0 => h (by simpa using (hmem t).2 ⟨ht, h0⟩)
        have := h1.1 t ht
        simp [e_far h]; omega
    have e1 := (nv_congr (s := s) (x := x) hwe).2
    rw [nv_lin, nv_e n s x hi.1] at e1
    have := hsep' k hk
    rw [e1] at this
    show 0 < (x.sub (s i)).dot (x.sub (s k))
    have e2 : (⟨w' i * (x.sub (s i)).x + 0 * (x.sub (s i)).x, w' i * (x.sub (s i)).y + 0 * (x.sub (s i)).y, w' i * (x.sub (s i)).z + 0 * (x.sub (s i)).z⟩ : V).dot (x.sub (s k)) = w' i * (x.sub (s i)).dot (x.sub (s k)) := by unfold V.dot; grind
    rw [e2] at this
    exact Int.pos_of_mul_pos_right this (by have := hi.2; omega)
  | [i, j], hF =>
    refine ⟨[i, j], hsub, by simp, fin _ fun k hk => ?_⟩
    have hi := (hmem i).1 (by simp)
    have hj := (hmem j).1 (by simp)
    have hij : i ≠ j := by simp at hnd; exact hnd
    have hwe : ∀ t, t < n → w' t = c2 (w' i) (w' j) i j t := fun t ht => by
      unfold c2
      by_cases h1' : t = i
      · subst h1'; simp [e_self, e_far hij]
      · by_cases h2 : t = j
        · subst h2; simp [e_self, e_far h1']
        · have : ¬ 0 < w' t := fun h0 => by have := (hmem t).2 ⟨ht, h0⟩; simp at this; omega
          have := h1.1 t ht
          simp [e_far h1', e_far h2]; omega
    have e1 := (nv_congr (s := s) (x := x) hwe)
    rw [(nv_c2 (s := s) (v := x) hi.1 hj.1).2, (nv_c2 (s := s) (v := x) hi.1 hj.1).1] at e1
    have ho2 := hort i (by simp) j (by simp)
    have hF : ((s j).sub (s i)).dot ((s j).sub (s i)) ≠ 0 := hF
    have hy := dot_self ((s j).sub (s i))
    have hsp := hsep' k hk
    have hDp := h1.2
    rw [e1.1] at hDp
    show 0 < ((((x.sub (s i)).mul (((s j).sub (s i)).dot ((s j).sub (s i)))).sub (((s j).sub (s i)).mul ((x.sub (s i)).dot ((s j).sub (s i))))) : V).dot (x.sub (s k))
    have b : x.sub (s j) = (x.sub (s i)).sub ((s j).sub (s i)) := by unfold V.sub; refine V.ext' ?_ ?_ ?_ <;> simp only <;> omega
    rw [e1.2, b] at ho2 hsp
    generalize (s j).sub (s i) = d at *
    generalize x.sub (s i) = u at *
    generalize x.sub (s k) = v at *
    generalize w' i = p at *
    generalize w' j = q at *
    -- m = (p + q) u - q d; m . d = 0; (p + q) nrm = (d.d) m
    have k1 : (⟨p * u.x + q * (u.sub d).x, p * u.y + q * (u.sub d).y, p * u.z + q * (u.sub d).z⟩ : V) = ⟨(p + q) * u.x - q * d.x, (p + q) * u.y - q * d.y, (p + q) * u.z - q * d.z⟩ := by
      unfold V.sub; refine V.ext' ?_ ?_ ?_ <;> simp only <;> grind
    rw [k1] at ho2 hsp
    have k2 : (p + q) * u.dot d = q * d.dot d := by unfold V.dot at ho2 ⊢; grind
    have k3 : (p + q) * (((u.mul (d.dot d)).sub (d.mul (u.dot d))) : V).dot v = d.dot d * (⟨(p + q) * u.x - q * d.x, (p + q) * u.y - q * d.y, (p + q) * u.z - q * d.z⟩ : V).dot v := by
      have l1 : (((u.mul (d.dot d)).sub (d.mul (u.dot d))) : V).dot v = d.dot d * u.dot v - u.dot d * d.dot v := by unfold V.mul V.sub V.dot; grind
      have l2 : (⟨(p + q) * u.x - q * d.x, (p + q) * u.y - q * d.y, (p + q) * u.z - q * d.z⟩ : V).dot v = (p + q) * u.dot v - q * d.dot v := by unfold V.dot; grind
      rw [l1, l2]
      have l3 : (p + q) * (d.dot d * u.dot v - u.dot d * d.dot v) = d.dot d * ((p + q) * u.dot v) - ((p + q) * u.dot d) * d.dot v := by grind
      rw [l3, k2]; grind
    have k4 : 0 < (p + q) * (((u.mul (d.dot d)).sub (d.mul (u.dot d))) : V).dot v := by rw [k3]; exact Int.mul_pos (by omega) hsp
    exact Int.pos_of_mul_pos_right k4 (by omega)
  | [i, j, k'], hF =>
    refine ⟨[i, j, k'], hsub, by simp, fin _ fun k hk => ?_⟩
    have hi := (hmem i).1 (by simp)
    have o1 := hort i (by simp) j (by simp)
    have o2 := hort i (by simp) k' (by simp)
    have hF : (((s j).sub (s i)).crs ((s k').sub (s i))).dot (((s j).sub (s i)).crs ((s k').sub (s i))) ≠ 0 := hF
    have hy := dot_self (((s j).sub (s i)).crs ((s k').sub (s i)))
    have hsp := hsep' k hk
    have hsi := hsep' i hi.1
    generalize nv n s x w' = m at *
    show 0 < (if (((s j).sub (s i)).crs ((s k').sub (s i))).dot (x.sub (s i)) < 0 then (((s j).sub (s i)).crs ((s k').sub (s i))).mul (-1) else ((s j).sub (s i)).crs ((s k').sub (s i)) : V).dot (x.sub (s k))
    generalize (s j).sub (s i) = d at *
    generalize (s k').sub (s i) = f at *
    generalize x.sub (s i) = u at *
    generalize x.sub (s k) = v at *
    -- (c.c) m = (m.c) c
    have par : ∀ g : V, (d.crs f).dot (d.crs f) * m.dot g = m.dot (d.crs f) * (d.crs f).dot g := fun g => by
      have i1 : (m.crs (d.crs f)).x = d.x * m.dot f - f.x * m.dot d := by simp only [V.crs, V.dot]; grind
      have i2 : (m.crs (d.crs f)).y = d.y * m.dot f - f.y * m.dot d := by simp only [V.crs, V.dot]; grind
      have i3 : (m.crs (d.crs f)).z = d.z * m.dot f - f.z * m.dot d := by simp only [V.crs, V.dot]; grind
      rw [o1, o2] at i1 i2 i3
      simp only [Int.mul_zero, Int.sub_self] at i1 i2 i3
      generalize d.crs f = c at *
      have e1 : c.dot c * m.dot g - m.dot c * c.dot g = g.x * (c.y * (m.crs c).z - c.z * (m.crs c).y) + g.y * (c.z * (m.crs c).x - c.x * (m.crs c).z) + g.z * (c.x * (m.crs c).y - c.y * (m.crs c).x) := by simp only [V.dot, V.crs]; grind
      rw [i1, i2, i3] at e1
      simp at e1
      omega
    have p1 := par u
    have p2 := par v
    generalize d.crs f = c at *
    have q1 : 0 < m.dot c * c.dot u := by rw [← p1]; exact Int.mul_pos (by omega) hsi
    have q2 : 0 < m.dot c * c.dot v := by rw [← p2]; exact Int.mul_pos (by omega) hsp
    by_cases hneg : c.dot u < 0
    · rw [if_pos hneg]
      have r1 : m.dot c < 0 := Classical.byContradiction fun h => by
        have : m.dot c * c.dot u ≤ 0 := Int.mul_nonpos_of_nonneg_of_nonpos (by omega) (by omega)
        omega
      have r2 : (c.mul (-1)).dot v = - c.dot v := by unfold V.mul V.dot; grind
      rw [r2]
      exact Classical.byContradiction fun h => by
        have : m.dot c * c.dot v ≤ 0 := Int.mul_nonpos_of_nonpos_of_nonneg (by omega) (by omega)
        omega
    · rw [if_neg hneg]
      have r1 : 0 < m.dot c := Classical.byContradiction fun h => by
        have : m.dot c * c.dot u ≤ 0 := Int.mul_nonpos_of_nonpos_of_nonneg (by omega) (by omega)
        omega
      exact Int.pos_of_mul_pos_right q2 (by omega)
  | [i, j, k', l], hF =>
    exfalso
    have hi := (hmem i).1 (by simp)
    have o1 := hort i (by simp) j (by simp)
    have o2 := hort i (by simp) k' (by simp)
    have o3 := hort i (by simp) l (by simp)
    have hF : (((s j).sub (s i)).crs ((s k').sub (s i))).dot ((s l).sub (s i)) ≠ 0 := hF
    have hsi := hsep' i hi.1
    generalize nv n s x w' = m at *
    generalize (s j).sub (s i) = d at *
    generalize (s k').sub (s i) = f at *
    generalize (s l).sub (s i) = g at *
    generalize x.sub (s i) = u at *
    have e1 : (d.crs f).dot g * m.dot u = m.dot d * (f.crs g).dot u + m.dot f * (g.crs d).dot u + m.dot g * (d.crs f).dot u := by unfold V.dot V.crs; grind
    rw [o1, o2, o3] at e1
    have e2 : (d.crs f).dot g * m.dot u = 0 := by rw [e1]; simp
    rcases Int.mul_eq_zero.1 e2 with h | h
    · exact hF h
    · omega
  | _ :: _ :: _ :: _ :: _ :: _, h => exact h.elim
end
end Go.Proofs.Ytkjceegmmhnajaa.LPX

namespace Go.Proofs.Ytkjceegmmhnajaa.LPX

section
variable {n : Nat} {s : Nat → V} {p : Nat → Int} {x : V}
end
end Go.Proofs.Ytkjceegmmhnajaa.LPX

namespace Go.Proofs.Ytkjceegmmhnajaa.LPX

/-- all ascending lists of k numbers from 'a' on, below n, in order -/
def chs (n : Nat) : Nat → Nat → List (List Nat)
  | 0, _ => [[]]
  | k + 1, a => (List.range' a (n - a)).flatMap fun i => (chs n k (i + 1)).map (i :: ·)
theorem mem_chs (n : Nat) : ∀ (k a : Nat) (L : List Nat), L ∈ chs n k a ↔ L.length = k ∧ L.Pairwise (· < ·) ∧ ∀ i ∈ L, a ≤ i ∧ i < n
  | 0, a, L => by
    simp only [chs, List.mem_singleton]
    constructor
    · rintro rfl; simp
    · intro h; exact List.length_eq_zero_iff.1 h.1
  | k + 1, a, L => by
    simp only [chs, List.mem_flatMap, List.mem_range'_1, List.mem_map]
    constructor
    · rintro ⟨i, ⟨h1, h2⟩, M, hM, rfl⟩
      obtain ⟨g1, g2, g3⟩ := (mem_chs n k (i + 1) M).1 hM
      refine ⟨by simp [g1], List.pairwise_cons.2 ⟨fun j hj => by have := g3 j hj; omega, g2⟩, fun j hj => ?_⟩
      rcases List.mem_cons.1 hj with rfl | hj
      · omega
      · have := g3 j hj; omega
    · rintro ⟨h1, h2, h3⟩
      cases L with
      | nil => simp at h1
      | cons i M =>
        have h4 := List.pairwise_cons.1 h2
        have h5 := h3 i (by simp)
        exact ⟨i, by omega, M, (mem_chs n k (i + 1) M).2 ⟨by simpa using h1, h4.2, fun j hj => by have := h4.1 j hj; have := h3 j (by simp [hj]); omega⟩, rfl⟩
/-- all choices of one to four numbers, in order -/
def allc (n : Nat) : List (List Nat) := chs n 1 0 ++ (chs n 2 0 ++ (chs n 3 0 ++ chs n 4 0))
theorem mem_allc {n : Nat} {L : List Nat} : L ∈ allc n ↔ (1 ≤ L.length ∧ L.length ≤ 4) ∧ L.Pairwise (· < ·) ∧ ∀ i ∈ L, i < n := by
  unfold allc
  simp only [List.mem_append, mem_chs]
  constructor
  · rintro (⟨h1, h2, h3⟩ | ⟨h1, h2, h3⟩ | ⟨h1, h2, h3⟩ | ⟨h1, h2, h3⟩) <;> exact ⟨by omega, h2, fun i hi => (h3 i hi).2⟩
  · rintro ⟨h1, h2, h3⟩
    have h4 : ∀ i ∈ L, 0 ≤ i ∧ i < n := fun i hi => ⟨Nat.zero_le _, h3 i hi⟩
    have : L.length = 1 ∨ L.length = 2 ∨ L.length = 3 ∨ L.length = 4 := by omega
    rcases this with h | h | h | h
    · exact .inl ⟨h, h2, h4⟩
    · exact .inr (.inl ⟨h, h2, h4⟩)
    · exact .inr (.inr (.inl ⟨h, h2, h4⟩))
    · exact .inr (.inr (.inr ⟨h, h2, h4⟩))
theorem sub_range {n : Nat} {L : List Nat} (h : L.Sublist (List.range n)) : L.Pairwise (· < ·) ∧ ∀ i ∈ L, i < n :=
  ⟨List.Pairwise.sublist h List.pairwise_lt_range, fun i hi => List.mem_range.1 (h.subset hi)⟩
section
variable {n : Nat} {s : Nat → V} {p : Nat → Int} {x : V}
/-- a choice that gives the point: its weights, not reduced -/
def recW (s : Nat → V) (x : V) (L : List Nat) : Option (List Int) := match rwts (L.map s) x with
  | some ws => if ws.all (fun v => decide (0 < v)) then some ws else none
  | none => none
theorem recW_iff {L : List Nat} {ws : List Int} : recW s x L = some ws ↔ rwts (L.map s) x = some ws ∧ ∀ v ∈ ws, 0 < v := by
  unfold recW
  cases h : rwts (L.map s) x with
  | none => simp
  | some vs =>
    dsimp only
    by_cases ha : vs.all (fun v => decide (0 < v)) = true
    · rw [if_pos ha]
      constructor
      · intro e; cases e; exact ⟨rfl, fun v hv => by simpa using List.all_eq_true.1 ha v hv⟩
      · intro e; exact e.1
    · rw [if_neg ha]
      constructor
      · intro e; cases e
      · intro e
        have e1 := e.1
        cases e1
        exact absurd (List.all_eq_true.2 fun v hv => by simpa using e.2 v hv) ha
/-- some choice gives the point exactly if it is mixed -/
theorem reach_iff : (∃ L ∈ allc n, ∃ ws, recW s x L = some ws) ↔ ∃ w, NN n w ∧ nv n s x w = ⟨0, 0, 0⟩ := by
  constructor
  · rintro ⟨L, hL, ws, h⟩
    obtain ⟨h1, h2⟩ := recW_iff.1 h
    obtain ⟨m1, m2, _⟩ := wts_mix (mem_allc.1 hL).2.2 h1 h2
    exact ⟨_, m1, m2⟩
  · rintro ⟨w, hw, hz⟩
    obtain ⟨L, h1, h2, _, ws, h4, h5⟩ := mix_found hw hz
    obtain ⟨g1, g2⟩ := sub_range h1
    exact ⟨L, mem_allc.2 ⟨h2, g1, g2⟩, ws, recW_iff.2 ⟨h4, h5⟩⟩
/-- else one of the normals parts it -/
theorem plane_found (hn : 0 < n) (hno : ∀ L ∈ allc n, recW s x L = none) : ∃ L, (L ∈ chs n 1 0 ∨ L ∈ chs n 2 0 ∨ L ∈ chs n 3 0) ∧ ∀ k, k < n → (nrm (L.map s) x).dot (s k) < (nrm (L.map s) x).dot x := by
  obtain ⟨L, h1, h2, h3⟩ := sep_found (s := s) (x := x) hn (fun h => by
    obtain ⟨L, hL, ws, hw⟩ := reach_iff.2 h
    rw [hno L hL] at hw; cases hw)
  obtain ⟨g1, g2⟩ := sub_range h1
  refine ⟨L, ?_, h3⟩
  have h4 : ∀ i ∈ L, 0 ≤ i ∧ i < n := fun i hi => ⟨Nat.zero_le _, g2 i hi⟩
  have : L.length = 1 ∨ L.length = 2 ∨ L.length = 3 := by omega
  rcases this with h | h | h
  · exact .inl ((mem_chs n 1 0 L).2 ⟨h, g1, h4⟩)
  · exact .inr (.inl ((mem_chs n 2 0 L).2 ⟨h, g1, h4⟩))
  · exact .inr (.inr ((mem_chs n 3 0 L).2 ⟨h, g1, h4⟩))
end
end Go.Proofs.Ytkjceegmmhnajaa.LPX

namespace Go.Proofs.Ytkjceegmmhnajaa
open Go.RowKit

theorem callsIn_round {n l : Nat} {P : Program} {f : FuncId} {args : Array Value} {w : World} {R : Ending → World → Prop} (h : Calls P f args w R) : CallsIn (Fence.wide.inRound l) n P f args w R := (callsIn_wide (n := n)).2 h
theorem opIn_round {n l : Nat} {P : Program} {o : Oper} {a : Act} {w : World} {K : Act → World → Prop} {Q : Exit → Act → World → Prop} (hd : ∀ c, o.op ≠ .defer c) (h : o.wp P a w K Q) : o.wpIn (Fence.wide.inRound l) n P a w K Q := by
  refine ⟨fun _ _ => trivial, ?_⟩
  rw [Oper.semAt_eq _ _ _ hd]
  unfold Oper.wp at h
  generalize (execOp a.eval o).run P w = r at *
  cases r with
  | ok x w' =>
    cases x <;> simp only [Oper.upon, Oper.uponIn] at h ⊢ <;>
      first
        | exact h
        | exact ⟨fun h0 => (by cases h0), callsIn_round h⟩
        | exact ⟨fun h0 => (by cases h0), fun c cs _ => let ⟨v, w', r, s⟩ := h c cs; ⟨v, w', r, stepsIn_wide.2 s⟩⟩
        | exact h.elim
  | halt x w' => cases x <;> simp only [Oper.upon, Oper.uponIn] at h ⊢ <;> first | exact h | exact h.elim
theorem opsIn_round {n l : Nat} {P : Program} {ops : Array Oper} {Q : Exit → Act → World → Prop} (hd : ∀ (i : Nat) o, ops[i]? = some o → ∀ c, o.op ≠ .defer c) (hL : ¬ LetsOut Q) : ∀ (is : List Nat) (a : Act) (w : World), wpOps P ops Q is a w → wpOpsIn (Fence.wide.inRound l) n P ops Q is a w
  | [], _, _, h => h
  | i :: rest, a, w, h => by
    unfold wpOps at h
    unfold wpOpsIn
    cases ho : ops[i]? with
    | none =>
      rw [ho] at h
      exact opsIn_round hd hL rest a w h
    | some o =>
      rw [ho] at h
      dsimp only at h ⊢
      by_cases hw : Region.wanted o (yielded ops a.tmps) = true
      · rw [if_pos hw] at h ⊢
        rcases h with h | ⟨_, h⟩
        · exact Oper.wpIn_mono (fun a w h => opsIn_round hd hL rest a w h) (opIn_round (hd i o ho) h)
        · exact absurd h hL
      · rw [if_neg hw] at h ⊢
        exact ⟨fun _ _ => trivial, opsIn_round hd hL rest _ _ h⟩
def noDefer (ops : Array Oper) : Bool := ops.all fun o => match o.op with | .defer _ => false | _ => true
theorem noDefer_at {ops : Array Oper} (h : noDefer ops = true) (i : Nat) (o : Oper) (ho : ops[i]? = some o) : ∀ c, o.op ≠ .defer c := by
  intro c
  obtain ⟨hi, rfl⟩ := Array.getElem?_eq_some_iff.1 ho
  have := Array.all_eq_true.1 h i hi
  intro e
  rw [e] at this
  cases this
theorem wpIn_region_round {n l : Nat} {P : Program} {id : Nat} {ops : Array Oper} {Q : Exit → Act → World → Prop} {S : World → Prop} {a : Act} {w : World} (hm : P.follows .mixedOrders = true) (hdf : noDefer ops = true) (hL : ¬ LetsOut Q) (hS : S w.drew)
    (h : S w.drew → wpAnyH P .any ops Q S ops.size (Array.replicate ops.size false) a w.drew) : (Code.region id ops true).wpIn (Fence.wide.inRound l) n P Q a w :=
  wpIn_region_draw fun t => by
    simp only [Region.schedule, hm, Bool.true_or, if_true]
    exact opsIn_round (noDefer_at hdf) hL _ _ _ (wpAny_sound ops.size t _ a _ (wpAny_of_held _ _ _ _ (h hS)))
end Go.Proofs.Ytkjceegmmhnajaa

namespace Go.Proofs.Ytkjceegmmhnajaa
open Go.RowKit LPX

/-- what is cells lies as it lay, but for what is one's own -/
structure KpC (own : Nat → Prop) (W W' : World) : Prop where
  size : W.heap.size ≤ W'.heap.size
  keep : ∀ g o, W.heap[g]? = some o → o.isCells = true → ¬ own g → W'.heap[g]? = some o
section
variable {own : Nat → Prop} {W W' W'' : World}
theorem KpC.refl (W : World) : KpC own W W := ⟨Nat.le_refl _, fun _ _ h _ _ => h⟩
theorem KpC.trans (h : KpC own W W') (k : KpC own W' W'') : KpC own W W'' := ⟨Nat.le_trans h.size k.size, fun g o h1 h2 h3 => k.keep g o (h.keep g o h1 h2 h3) h2 h3⟩
theorem KpC.putObj {l : Nat} {o : Obj} (o' : Obj) (h : W.heap[l]? = some o) (ho : o.isCells = false) : KpC own W (W.putObj l o') :=
  ⟨by simp, fun g x h1 h2 _ => by
    have hne : g ≠ l := fun e => by subst e; rw [h] at h1; cases h1; rw [ho] at h2; cases h2
    rw [World.putObj_heap_other hne]; exact h1⟩
theorem KpC.cell (h : KpC own W W') {p : Addr} {v : Value} (hc : W.cell? p = some v) (hp : ¬ own p.block) : W'.cell? p = some v := by
  obtain ⟨o, ho, hcl⟩ : ∃ o, W.heap[p.block]? = some o ∧ o.isCells = true := by
    unfold World.cell? at hc
    cases hx : W.heap[p.block]? with
    | none => rw [hx] at hc; cases hc
    | some o =>
      rw [hx] at hc
      refine ⟨o, rfl, ?_⟩
      cases o <;> first | rfl | (simp at hc)
  have := h.keep _ _ ho hcl hp
  unfold World.cell? at hc ⊢
  rw [this]; rw [ho] at hc; exact hc
theorem KpC.lies (h : KpC own W W') {B : Nat} {A : Option Addr} {cs : List Value} (hl : Lies W B A cs) (ho : ∀ ad, A = some ad → ¬ own ad.block) : Lies W' B A cs := fun hne => by
  obtain ⟨ad, e, hb, hc⟩ := hl hne
  exact ⟨ad, e, hb, fun j u hu => h.cell (hc j u hu) (by rw [add_block]; exact ho _ e)⟩
theorem KpC.of_below (h : Below W.heap.size W W') : KpC own W W' := ⟨h.size, fun g o h1 _ _ => (h.block g (Array.getElem?_eq_some_iff.1 h1).1).trans h1⟩
end
theorem grown_below {W W' : World} (h : Below W.heap.size W W') : W.grownBy W' none := ⟨h.os, h.tape, h.output, h.size, fun k hk _ => h.block k hk⟩

def nats (L : List Nat) : List Value := L.map fun i : Nat => Value.int .i64 (i : Int)
theorem nats_len (L : List Nat) : (nats L).length = L.length := by simp [nats]
theorem nats_snoc (L : List Nat) (i : Nat) : nats L ++ [Value.int .i64 (i : Int)] = nats (L ++ [i]) := by simp [nats]
/-- a list that lies in memory -/
structure El where
  L : List Nat
  A : Option Addr
  c : Nat
def El.v (x : El) : Value := .slice x.A x.L.length x.c
def El.At (x : El) (W : World) : Prop := Lies W W.heap.size x.A (nats x.L) ∧ (x.A = none → x.L = [] ∧ x.c = 0) ∧ x.L.length ≤ x.c
theorem El.At.below {x : El} {W W' : World} (h : x.At W) (hb : Below W.heap.size W W') : x.At W' := ⟨(h.1.below hb (Nat.le_refl _)).more hb.size, h.2⟩

theorem ownsSlice {w : World} {b : Nat} {e : TypeId} {size n : Nat} {v : Value} {xs : List Value} (h : w.ownsRow b e size v n xs) : ∃ A c, v = .slice A n c ∧ n ≤ c ∧ c ≤ maxLen := by
  rcases h.2 with ⟨rfl, rfl⟩ | ⟨g, cap, cur, rfl, _, _, h1, h2, _⟩
  · exact ⟨none, 0, rfl, Nat.le_refl _, Nat.zero_le _⟩
  · exact ⟨_, _, rfl, h1, h2⟩
theorem own_some {w : World} {b : Nat} {e : TypeId} {size n c : Nat} {A : Option Addr} {xs : List Value} (h : w.ownsRow b e size (.slice A n c) n xs) (hn : 0 < n) : ∃ g, A = some ⟨g, 0, none⟩ ∧ b ≤ g := by
  rcases h.2 with ⟨h1, h2⟩ | ⟨g, cap, cur, h1, h2, _⟩
  · omega
  · cases h1; exact ⟨g, rfl, h2⟩
theorem bk_cells {w : World} {b : Nat} {t : TypeId} {C : Array Value} (h : Bk w b t C) : ∀ j u, C.toList[j]? = some u → w.cell? ((⟨b, 0, none⟩ : Addr).add j) = some u := fun j u hj => by
  obtain ⟨ad, e, _, hc⟩ := (h.lies (B := b + 1) (Nat.lt_succ_self b)) (by intro e; rw [e] at hj; simp at hj)
  cases e; exact hc j u hj
/-- two operations that may come up -/
theorem held_two {P : Program} {ops : Array Oper} {Q : Exit → Act → World → Prop} {S : World → Prop} {fuel : Nat} {listed : Array Bool} {a : Act} {w : World} (i j : Nat) (o p : Oper) (ho : ops[i]? = some o) (hp : ops[j]? = some p) (hr : Region.ready .any ops listed = [i, j])
    (hw : Region.wanted o (yielded ops a.tmps) = true) (hv : Region.wanted p (yielded ops a.tmps) = true) (h : o.wp P a w (fun a' w' => S w' ∧ wpAnyH P .any ops Q S fuel (listed.setIfInBounds i true) a' w') Q) (h2 : p.wp P a w (fun a' w' => S w' ∧ wpAnyH P .any ops Q S fuel (listed.setIfInBounds j true) a' w') Q) : wpAnyH P .any ops Q S (fuel + 1) listed a w := by
  refine wpAnyH_all hr (by simp) fun k hk => ?_
  have hk' : k = i ∨ k = j := by simpa using hk
  rcases hk' with rfl | rfl
  · unfold wpOp
    rw [ho]
    dsimp only
    rw [if_pos hw]
    exact .inl h
  · unfold wpOp
    rw [hp]
    dsimp only
    rw [if_pos hv]
    exact .inl h2
theorem held_one {P : Program} {ops : Array Oper} {Q : Exit → Act → World → Prop} {S : World → Prop} {fuel : Nat} {listed : Array Bool} {a : Act} {w : World} (i : Nat) (o : Oper) (ho : ops[i]? = some o) (hr : Region.ready .any ops listed = [i])
    (hw : Region.wanted o (yielded ops a.tmps) = true) (h : o.wp P a w (fun a' w' => S w' ∧ wpAnyH P .any ops Q S fuel (listed.setIfInBounds i true) a' w') Q) : wpAnyH P .any ops Q S (fuel + 1) listed a w := by
  refine wpAnyH_all hr (by simp) fun j hj => ?_
  obtain rfl : j = i := by simpa using hj
  unfold wpOp
  rw [ho]
  dsimp only
  rw [if_pos hw]
  exact .inl h

set_option maxHeartbeats 400000 in
theorem clip_any (A : Option Addr) (n c : Nat) (w : World) (hn : n ≤ c) (hA : A = none → n = 0) (hc : c ≤ maxLen) : Calls Try.prog 74 #[.slice A n c] w fun e w' => e = .returned (.slice A n n) ∧ w' = w := by
  have h0 : (0 : Int) ≤ (n : Int) := by omega
  have h1 : (n : Int) ≤ (c : Int) := by omega
  cases A with
  | none =>
    obtain rfl := hA rfl
    go_enter Try.func74, Try.ntmps74
    go_wp2
    go_ret
    exact ⟨by simp, rfl⟩
  | some ad =>
    go_enter Try.func74, Try.ntmps74
    go_wp2
    go_ret
    exact ⟨by simp, rfl⟩
theorem wp_call {P : Program} {o : Oper} {a : Act} {w : World} {f : FuncId} {args : Array Value} {R : Ending → World → Prop} {K : Act → World → Prop} {Q : Exit → Act → World → Prop} (he : (execOp a.eval o).run P w = .ok (.enter f args) w) (hc : Calls P f args w R)
    (h : ∀ e w', R e w' → ∃ v, e = .returned v ∧ K (a.put o.dst v) w') : o.wp P a w K Q := by
  unfold Oper.wp
  rw [he]
  exact hc.mono fun e w' hR => by obtain ⟨v, rfl, hk⟩ := h e w' hR; exact hk
theorem wp_append_grows {P : Program} (w : World) {o : Oper} {a : Act} {K : Act → World → Prop} {Q : Exit → Act → World → Prop} (s x : Operand) (t : TypeId) (hop : o.op = Op.call { callee := Callee.builtin Builtin.append, args := #[s, x], argTypes := #[t, t] })
    (e : TypeId) (i : TypeInfo) (z : Value) (size bytes : Nat) (h1 : P.underlying t = some (.slice e)) (h2 : P.info? e = some i) (h3 : i.zero = some z) (h4 : i.size = size) (h5 : i.bytes = bytes) (h6 : z.cells.size = size) (h7 : 0 < size)
    (ao : Option Addr) (n cap : Nat) (olds : List Value) (hs : a.eval s = .slice ao n cap) (hnone : ao = none → n = 0 ∧ cap = 0) (hlo : olds.length = n * size) (holds : ∀ b, ao = some b → ∀ j u, olds[j]? = some u → w.cell? (b.add j) = some u)
    (ad : Addr) (m c : Nat) (news : List Value) (hx : a.eval x = .slice (some ad) m c) (hn : news.length = m * size) (hc : ∀ j u, news[j]? = some u → w.cell? (ad.add j) = some u) (h1c : ∀ u ∈ news, u.oneCell' = true)
    (hfull : cap < n + m) (b1 : n + m ≤ maxLen) (b2 : (n + m) * bytes ≤ 140737488355328)
    (hK : ∀ v' w', w'.ownsRow w.heap.size e size v' (n + m) (olds ++ news) → w.grownBy w' none → K (a.put o.dst v') w') : o.wp P a w K Q := by
  cases ao with
  | some b =>
    obtain ⟨v', w', hrun, r1, r2⟩ := run_append_arg_grows (P := P) w t o.type e i z size bytes h1 h2 h3 h4 h5 h6 h7 b n cap olds hlo (holds b rfl) ad m c news hn hc hfull b1 b2
    unfold Oper.wp
    simp [execOp, hop, resolve, invoke, builtin, hs, hx, hrun, Result.andThen]
    exact hK v' w' r1 r2
  | none =>
    obtain ⟨rfl, rfl⟩ := hnone rfl
    obtain rfl : olds = [] := List.eq_nil_of_length_eq_zero (by simpa using hlo)
    obtain ⟨v', w', hrun, r1, r2, _⟩ := run_append_own (P := P) w w.heap.size t o.type e i z size bytes h1 h2 h3 h4 h5 h6 h7 (.slice none 0 0) 0 [] (World.ownsRow_nil w _ e size) ad m c news hn hc h1c b1 b2 (Nat.le_refl _)
    unfold Oper.wp
    simp [execOp, hop, resolve, invoke, builtin, hs, hx, hrun, Result.andThen]
    exact hK v' w' r1 r2
end Go.Proofs.Ytkjceegmmhnajaa

namespace Go.Proofs.Ytkjceegmmhnajaa
open Go.RowKit

/-- the reference's weights -/
def rpw : List Vc → Vc → Option (List Int)
  | [a], w => if w = a then some [1] else none
  | [a, b], w => let x := w.sub a; let u := b.sub a; let c := u.crs x; let n := u.dot u
    if 0 < n ∧ c = ⟨0, 0, 0⟩ then some [n - u.dot x, u.dot x] else none
  | [a, b, c], w => let x := w.sub a; let u := b.sub a; let v := c.sub a; let n := u.crs v; let p := n.dot (x.crs v); let q := n.dot (u.crs x)
    if n ≠ ⟨0, 0, 0⟩ ∧ n.dot x = 0 then some [n.dot n - p - q, p, q] else none
  | [a, b, c, e], w => let x := w.sub a; let u := b.sub a; let v := c.sub a; let n := u.crs v; let g := e.sub a; let d := n.dot g; let p := (x.crs v).dot g; let q := (u.crs x).dot g; let r := n.dot x
    if d < 0 then some [p + q + r - d, -p, -q, -r] else if 0 < d then some [d - p - q - r, p, q, r] else none
  | _, _ => none

set_option maxRecDepth 100000 in
theorem eq37 (a b c x y z : Int) (w : World) : (Op.equalIn 10000 37 (.agg #[.int .i64 a, .int .i64 b, .int .i64 c]) (.agg #[.int .i64 x, .int .i64 y, .int .i64 z])).run Try.prog w = .ok (a == x && (b == y && c == z)) w := by
  obtain ⟨i0, hi0, hz0, hz1, hz2⟩ := info_parts info3
  rw [run_equalIn_array w 9999 _ _ Try.underlying37 hi0, cells3]
  simp [Op.eqItems, part, List.range_succ, go_sem, Try.underlying3]
  by_cases h1 : a = x <;> by_cases h2 : b = y <;> by_cases h3 : c = z <;> simp [h1, h2, h3]

abbrev vG (a b c : Int) : Value := .agg #[.int .i64 a, .int .i64 b, .int .i64 c]
theorem minus_pre {a b c x y z : Int} (h : vb 1000 (a - x) (b - y) (c - z)) : ∃ r s t : Int, Hid (r = a - x ∧ s = b - y ∧ t = c - z) ∧ vb 1000 r s t ∧ Hid (∀ W, Calls Try.prog 91 #[.agg #[.int .i64 a, .int .i64 b, .int .i64 c], .agg #[.int .i64 x, .int .i64 y, .int .i64 z]] W fun e w' => e = .returned (.agg #[.int .i64 r, .int .i64 s, .int .i64 t]) ∧ Below W.heap.size W w') :=
  ⟨_, _, _, ⟨rfl, rfl, rfl⟩, h, fun W => rminus_any _ _ _ _ _ _ W (ab_big h.1 (by omega)) (ab_big h.2.1 (by omega)) (ab_big h.2.2 (by omega))⟩
theorem crs_pre {A B : Nat} {a b c x y z : Int} (h : vb A a b c) (k : vb B x y z) (hAB : A * B + A * B ≤ 3050000000000000000) : ∃ r s t : Int, Hid (r = b * z - c * y ∧ s = c * x - a * z ∧ t = a * y - b * x) ∧ vb (A * B + A * B) r s t ∧ Hid (∀ W, Calls Try.prog 92 #[.agg #[.int .i64 a, .int .i64 b, .int .i64 c], .agg #[.int .i64 x, .int .i64 y, .int .i64 z]] W fun e w' => e = .returned (.agg #[.int .i64 r, .int .i64 s, .int .i64 t]) ∧ Below W.heap.size W w') :=
  ⟨_, _, _, ⟨rfl, rfl, rfl⟩, ⟨ab_sub (ab_mul h.2.1 k.2.2) (ab_mul h.2.2 k.2.1), ab_sub (ab_mul h.2.2 k.1) (ab_mul h.1 k.2.2), ab_sub (ab_mul h.1 k.2.1) (ab_mul h.2.1 k.1)⟩, fun W => (rcross_b W h k hAB).mono (by
    rintro e w' ⟨r, s, t, rfl, HE, hv, hb, _⟩
    obtain ⟨rfl, rfl, rfl⟩ := HE.out
    exact ⟨rfl, hb⟩)⟩
theorem dot_pre {A B : Nat} {a b c x y z : Int} (h : vb A a b c) (k : vb B x y z) (hAB : A * B + A * B + A * B ≤ 3050000000000000000) : ∃ r : Int, Hid (r = a * x + b * y + c * z) ∧ ab (A * B + A * B + A * B) r ∧ Hid (∀ W, Calls Try.prog 50 #[.agg #[.int .i64 a, .int .i64 b, .int .i64 c], .agg #[.int .i64 x, .int .i64 y, .int .i64 z]] W fun e w' => e = .returned (.int .i64 r) ∧ Below W.heap.size W w') :=
  ⟨_, rfl, ab_add (ab_add (ab_mul h.1 k.1) (ab_mul h.2.1 k.2.1)) (ab_mul h.2.2 k.2.2), fun W => (dot_b W h k hAB).mono (by
    rintro e w' ⟨r, rfl, HE, hv, hb, _⟩
    obtain rfl := HE.out
    exact ⟨rfl, hb⟩)⟩
end Go.Proofs.Ytkjceegmmhnajaa
