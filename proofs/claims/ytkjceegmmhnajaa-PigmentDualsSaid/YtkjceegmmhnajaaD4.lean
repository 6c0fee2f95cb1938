/- Weak duality: no recipe that gives the shade is cheaper than a dual that stays below all prices says. -/
import Derived.Test.YtkjceegmmhnajaaD2
namespace Go.Proofs.Ytkjceegmmhnajaa

theorem dual_take {l : List Tn} {d : Du} (hd : ∀ t ∈ l, atD d t.a t.b t.c ≤ d.den * t.price) {ps : List Pt} (h : goodP l.length ps) : ∀ k, k ≤ ps.length →
    d.n0 * wall (ps.take k) + d.n1 * wsum (sel 0) l (ps.take k) + d.n2 * wsum (sel 1) l (ps.take k) + d.n3 * wsum (sel 2) l (ps.take k) ≤ d.den * wsum Tn.price l (ps.take k)
  | 0, _ => by simp [wall, wsum]
  | k + 1, hk => by
    have ih := dual_take hd h k (by omega)
    obtain ⟨⟨h1, h2⟩, h3, _⟩ := h k (by omega)
    have ht := hd _ (List.getElem_mem h2)
    rw [wall_take ps k (by omega), wsum_take _ _ _ _ (by omega), wsum_take _ _ _ _ (by omega), wsum_take _ _ _ _ (by omega), wsum_take _ _ _ _ (by omega), tv_in _ _ _ h2, tv_in _ _ _ h2, tv_in _ _ _ h2, tv_in _ _ _ h2]
    show _ + d.n1 * (_ + _ * l[ps[k].t.toNat].a) + d.n2 * (_ + _ * l[ps[k].t.toNat].b) + d.n3 * (_ + _ * l[ps[k].t.toNat].c) ≤ d.den * (_ + _ * l[ps[k].t.toNat].price)
    generalize l[ps[k].t.toNat] = t at *
    generalize ps[k].w = v at *
    have hm := Int.mul_le_mul_of_nonneg_left ht (show 0 ≤ v by omega)
    unfold atD at hm
    generalize wall (ps.take k) = W at *
    generalize wsum (sel 0) l (ps.take k) = S0 at *
    generalize wsum (sel 1) l (ps.take k) = S1 at *
    generalize wsum (sel 2) l (ps.take k) = S2 at *
    generalize wsum Tn.price l (ps.take k) = P at *
    grind

theorem weak_dual {l : List Tn} {d : Du} (hd : ∀ t ∈ l, atD d t.a t.b t.c ≤ d.den * t.price) {ps : List Pt} (h : goodP l.length ps) {x y z : Int} (hg : rgiveB l ps x y z = true) :
    atD d x y z * wall ps ≤ d.den * wsum Tn.price l ps := by
  have h0 := dual_take hd h ps.length (Nat.le_refl _)
  rw [List.take_length] at h0
  unfold rgiveB at hg
  simp only [Bool.and_eq_true, decide_eq_true_iff] at hg
  rw [hg.1, hg.2.1, hg.2.2] at h0
  unfold atD
  generalize wall ps = W at *
  grind

theorem lowest_parts (a b : Int) (hb : 1 ≤ b) : ∃ g : Int, 1 ≤ g ∧ a = (lowest a b).1 * g ∧ b = (lowest a b).2 * g := by
  have hg1 : ((Int.gcd a b : Nat) : Int) ∣ a := Int.gcd_dvd_left ..
  have hg2 : ((Int.gcd a b : Nat) : Int) ∣ b := Int.gcd_dvd_right ..
  exact ⟨_, gcd_pos_right a b hb, (Int.tdiv_mul_cancel hg1).symm, (Int.tdiv_mul_cancel hg2).symm⟩

theorem no_less {P Q a b : Int} (hQ : 1 ≤ Q) (hb : 1 ≤ b) (h : a * Q ≤ b * P) : ¬ ((lowest P Q).1 * (lowest a b).2 < (lowest a b).1 * (lowest P Q).2) := by
  obtain ⟨g, hg, e1, e2⟩ := lowest_parts P Q hQ
  obtain ⟨k, hk, e3, e4⟩ := lowest_parts a b hb
  intro hc
  generalize (lowest P Q).1 = p at *
  generalize (lowest P Q).2 = q at *
  generalize (lowest a b).1 = u at *
  generalize (lowest a b).2 = v at *
  have hgk : 0 < g * k := Int.mul_pos (by omega) (by omega)
  have := Int.mul_lt_mul_of_pos_right hc hgk
  rw [e1, e2, e3, e4] at h
  have e5 : u * k * (q * g) = u * q * (g * k) := by grind
  have e6 : v * k * (p * g) = p * v * (g * k) := by grind
  rw [e5, e6] at h
  omega
end Go.Proofs.Ytkjceegmmhnajaa
