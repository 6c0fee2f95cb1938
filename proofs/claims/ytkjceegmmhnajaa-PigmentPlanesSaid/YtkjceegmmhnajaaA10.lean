/- Where a plane separates, no weights of a choice of points are all positive. -/
import Derived.Test.YtkjceegmmhnajaaA9
namespace Go.Proofs.Ytkjceegmmhnajaa
open Go.RowKit

def dotN (a b c : Int) (v : Vc) : Int := a * v.x + b * v.y + c * v.z

theorem id3 {u1 u2 u3 d1 d2 d3 f1 f2 f3 n1 n2 n3 y t e1 e2 e3 x k1 k2 k3 z : Int} (hn : n1 = d2 * f3 - d3 * f2 ∧ n2 = d3 * f1 - d1 * f3 ∧ n3 = d1 * f2 - d2 * f1) (hy : y = n1 * n1 + n2 * n2 + n3 * n3) (ht : t = u1 * n1 + u2 * n2 + u3 * n3)
    (he : e1 = u2 * f3 - u3 * f2 ∧ e2 = u3 * f1 - u1 * f3 ∧ e3 = u1 * f2 - u2 * f1) (hx : x = e1 * n1 + e2 * n2 + e3 * n3) (hk : k1 = d2 * u3 - d3 * u2 ∧ k2 = d3 * u1 - d1 * u3 ∧ k3 = d1 * u2 - d2 * u1) (hz : z = k1 * n1 + k2 * n2 + k3 * n3) :
    y * u1 = x * d1 + z * f1 + t * n1 ∧ y * u2 = x * d2 + z * f2 + t * n2 ∧ y * u3 = x * d3 + z * f3 + t * n3 := by
  obtain ⟨rfl, rfl, rfl⟩ := hn
  obtain ⟨rfl, rfl, rfl⟩ := he
  obtain ⟨rfl, rfl, rfl⟩ := hk
  subst hy; subst ht; subst hx; subst hz
  refine ⟨by grind, by grind, by grind⟩
theorem id4 {u1 u2 u3 d1 d2 d3 f1 f2 f3 g1 g2 g3 y p q r : Int} (hy : y = (d2 * f3 - d3 * f2) * g1 + (d3 * f1 - d1 * f3) * g2 + (d1 * f2 - d2 * f1) * g3) (hp : p = (u2 * f3 - u3 * f2) * g1 + (u3 * f1 - u1 * f3) * g2 + (u1 * f2 - u2 * f1) * g3)
    (hq : q = (d2 * u3 - d3 * u2) * g1 + (d3 * u1 - d1 * u3) * g2 + (d1 * u2 - d2 * u1) * g3) (hr : r = (d2 * f3 - d3 * f2) * u1 + (d3 * f1 - d1 * f3) * u2 + (d1 * f2 - d2 * f1) * u3) :
    y * u1 = p * d1 + q * f1 + r * g1 ∧ y * u2 = p * d2 + q * f2 + r * g2 ∧ y * u3 = p * d3 + q * f3 + r * g3 := by
  subst hy; subst hp; subst hq; subst hr
  refine ⟨by grind, by grind, by grind⟩
theorem pwts3_at {a1 a2 a3 p1 p2 p3 q1 q2 q3 x1 x2 x3 u1 u2 u3 d1 d2 d3 f1 f2 f3 n1 n2 n3 y t e1 e2 e3 xx k1 k2 k3 z : Int} (hu : x1 - a1 = u1 ∧ x2 - a2 = u2 ∧ x3 - a3 = u3) (hd : p1 - a1 = d1 ∧ p2 - a2 = d2 ∧ p3 - a3 = d3) (hf : q1 - a1 = f1 ∧ q2 - a2 = f2 ∧ q3 - a3 = f3)
    (hn : n1 = d2 * f3 - d3 * f2 ∧ n2 = d3 * f1 - d1 * f3 ∧ n3 = d1 * f2 - d2 * f1) (hy : y = n1 * n1 + n2 * n2 + n3 * n3) (ht : t = u1 * n1 + u2 * n2 + u3 * n3)
    (he : e1 = u2 * f3 - u3 * f2 ∧ e2 = u3 * f1 - u1 * f3 ∧ e3 = u1 * f2 - u2 * f1) (hx : xx = e1 * n1 + e2 * n2 + e3 * n3) (hk : k1 = d2 * u3 - d3 * u2 ∧ k2 = d3 * u1 - d1 * u3 ∧ k3 = d1 * u2 - d2 * u1) (hz : z = k1 * n1 + k2 * n2 + k3 * n3) :
    pwts [⟨a1, a2, a3⟩, ⟨p1, p2, p3⟩, ⟨q1, q2, q3⟩] ⟨x1, x2, x3⟩ = if y = 0 ∨ t ≠ 0 then none else some [(y - xx - z).tdiv (gcdL [xx, y, z] : Nat), xx.tdiv (gcdL [xx, y, z] : Nat), z.tdiv (gcdL [xx, y, z] : Nat)] := by
  obtain ⟨rfl, rfl, rfl⟩ := hu
  obtain ⟨rfl, rfl, rfl⟩ := hd
  obtain ⟨rfl, rfl, rfl⟩ := hf
  obtain ⟨rfl, rfl, rfl⟩ := hn
  obtain ⟨rfl, rfl, rfl⟩ := he
  obtain ⟨rfl, rfl, rfl⟩ := hk
  subst hy; subst ht; subst hx; subst hz
  simp only [pwts, Vc.sub, Vc.dot, Vc.crs]
  rfl
theorem pwts4_at {a1 a2 a3 p1 p2 p3 q1 q2 q3 s1 s2 s3 x1 x2 x3 u1 u2 u3 d1 d2 d3 f1 f2 f3 g1 g2 g3 y pp qq rr : Int} (hu : x1 - a1 = u1 ∧ x2 - a2 = u2 ∧ x3 - a3 = u3) (hd : p1 - a1 = d1 ∧ p2 - a2 = d2 ∧ p3 - a3 = d3) (hf : q1 - a1 = f1 ∧ q2 - a2 = f2 ∧ q3 - a3 = f3) (hg : s1 - a1 = g1 ∧ s2 - a2 = g2 ∧ s3 - a3 = g3)
    (hy : y = (d2 * f3 - d3 * f2) * g1 + (d3 * f1 - d1 * f3) * g2 + (d1 * f2 - d2 * f1) * g3) (hp : pp = (u2 * f3 - u3 * f2) * g1 + (u3 * f1 - u1 * f3) * g2 + (u1 * f2 - u2 * f1) * g3)
    (hq : qq = (d2 * u3 - d3 * u2) * g1 + (d3 * u1 - d1 * u3) * g2 + (d1 * u2 - d2 * u1) * g3) (hr : rr = (d2 * f3 - d3 * f2) * u1 + (d3 * f1 - d1 * f3) * u2 + (d1 * f2 - d2 * f1) * u3) :
    pwts [⟨a1, a2, a3⟩, ⟨p1, p2, p3⟩, ⟨q1, q2, q3⟩, ⟨s1, s2, s3⟩] ⟨x1, x2, x3⟩ = if y = 0 then none else if y < 0 then some [-y - -pp - -qq - -rr, -pp, -qq, -rr] else some [y - pp - qq - rr, pp, qq, rr] := by
  obtain ⟨rfl, rfl, rfl⟩ := hu
  obtain ⟨rfl, rfl, rfl⟩ := hd
  obtain ⟨rfl, rfl, rfl⟩ := hf
  obtain ⟨rfl, rfl, rfl⟩ := hg
  subst hy; subst hp; subst hq; subst hr
  simp only [pwts, Vc.sub, Vc.dot, Vc.crs]
  rfl
theorem pwts2_at {a1 a2 a3 p1 p2 p3 x1 x2 x3 u1 u2 u3 d1 d2 d3 y z : Int} (hu : x1 - a1 = u1 ∧ x2 - a2 = u2 ∧ x3 - a3 = u3) (hd : p1 - a1 = d1 ∧ p2 - a2 = d2 ∧ p3 - a3 = d3) (hy : y = d1 * d1 + d2 * d2 + d3 * d3) (hz : z = u1 * d1 + u2 * d2 + u3 * d3) :
    pwts [⟨a1, a2, a3⟩, ⟨p1, p2, p3⟩] ⟨x1, x2, x3⟩ = if y ≠ 0 ∧ (u1 * y = d1 * z ∧ u2 * y = d2 * z ∧ u3 * y = d3 * z) then some [y - z, z] else none := by
  obtain ⟨rfl, rfl, rfl⟩ := hu
  obtain ⟨rfl, rfl, rfl⟩ := hd
  subst hy; subst hz
  simp only [pwts, Vc.sub, Vc.dot, Vc.mul, Vc.mk.injEq]

theorem pos_of {ws : List Int} (h : ws.any notPos = false) : ∀ v ∈ ws, 0 < v := fun v hv => by
  have := List.any_eq_false.1 h v hv
  unfold notPos at this
  simp at this
  exact this

theorem neg_pos {w a : Int} (hw : 0 < w) (ha : a < 0) : w * a < 0 := Int.mul_neg_of_pos_of_neg hw ha

/-- sums of positive weights of what is negative are not 0 -/
theorem sep2 {W1 W2 A B : Int} (h1 : 0 < W1) (h2 : 0 < W2) (hA : A < 0) (hB : B < 0) (h : W1 * A + W2 * B = 0) : False := by
  have := neg_pos h1 hA; have := neg_pos h2 hB; omega
theorem sep3 {W1 W2 W3 A B C : Int} (h1 : 0 < W1) (h2 : 0 < W2) (h3 : 0 < W3) (hA : A < 0) (hB : B < 0) (hC : C < 0) (h : W1 * A + W2 * B + W3 * C = 0) : False := by
  have := neg_pos h1 hA; have := neg_pos h2 hB; have := neg_pos h3 hC; omega
theorem sep4 {W1 W2 W3 W4 A B C D : Int} (h1 : 0 < W1) (h2 : 0 < W2) (h3 : 0 < W3) (h4 : 0 < W4) (hA : A < 0) (hB : B < 0) (hC : C < 0) (hD : D < 0) (h : W1 * A + W2 * B + W3 * C + W4 * D = 0) : False := by
  have := neg_pos h1 hA; have := neg_pos h2 hB; have := neg_pos h3 hC; have := neg_pos h4 hD; omega

theorem dvd_gcd3 (x y z : Int) : ((gcdL [x, y, z] : Nat) : Int) ∣ x ∧ ((gcdL [x, y, z] : Nat) : Int) ∣ y ∧ ((gcdL [x, y, z] : Nat) : Int) ∣ z := by
  refine ⟨?_, ?_, ?_⟩ <;> refine Int.ofNat_dvd_left.2 ?_
  · exact Nat.dvd_trans (Nat.gcd_dvd_left ..) (Nat.dvd_trans (Nat.gcd_dvd_left ..) (Nat.gcd_dvd_right ..))
  · exact Nat.dvd_trans (Nat.gcd_dvd_left ..) (Nat.gcd_dvd_right ..)
  · exact Nat.gcd_dvd_right ..

theorem sep_no {n1 n2 n3 : Int} : ∀ (pts : List Vc) (w : Vc) (ws : List Int), pwts pts w = some ws → (∀ p ∈ pts, dotN n1 n2 n3 p < dotN n1 n2 n3 w) → ws.any notPos = true
  | [], _, _, h, _ => by simp [pwts] at h
  | [a], w, ws, h, hs => by
    simp only [pwts] at h
    by_cases e : w = a
    · subst e; exact absurd (hs w (by simp)) (by omega)
    · rw [if_neg e] at h; cases h
  | [a, b], w, ws, h, hs => by
    cases hany : ws.any notPos with
    | true => rfl
    | false =>
      exfalso
      have hp := pos_of hany
      have hA := hs a (by simp)
      have hB := hs b (by simp)
      obtain ⟨a1, a2, a3⟩ := a
      obtain ⟨b1, b2, b3⟩ := b
      obtain ⟨w1, w2, w3⟩ := w
      rw [pwts2_at (y := (b1 - a1) * (b1 - a1) + (b2 - a2) * (b2 - a2) + (b3 - a3) * (b3 - a3)) (z := (w1 - a1) * (b1 - a1) + (w2 - a2) * (b2 - a2) + (w3 - a3) * (b3 - a3)) ⟨rfl, rfl, rfl⟩ ⟨rfl, rfl, rfl⟩ rfl rfl] at h
      unfold dotN at hA hB
      dsimp only at hA hB
      generalize (b1 - a1) * (b1 - a1) + (b2 - a2) * (b2 - a2) + (b3 - a3) * (b3 - a3) = y at *
      generalize (w1 - a1) * (b1 - a1) + (w2 - a2) * (b2 - a2) + (w3 - a3) * (b3 - a3) = x at *
      split at h
      · rename_i hc
        cases h
        obtain ⟨_, e1, e2, e3⟩ := hc
        have p1 := hp _ (List.mem_cons_self ..)
        have p2 := hp _ (List.mem_cons_of_mem _ (List.mem_singleton.2 rfl))
        refine sep2 p1 p2 (A := (n1 * a1 + n2 * a2 + n3 * a3) - (n1 * w1 + n2 * w2 + n3 * w3)) (B := (n1 * b1 + n2 * b2 + n3 * b3) - (n1 * w1 + n2 * w2 + n3 * w3)) (by omega) (by omega) ?_
        have : (y - x) * ((n1 * a1 + n2 * a2 + n3 * a3) - (n1 * w1 + n2 * w2 + n3 * w3)) + x * ((n1 * b1 + n2 * b2 + n3 * b3) - (n1 * w1 + n2 * w2 + n3 * w3)) = n1 * ((b1 - a1) * x - (w1 - a1) * y) + n2 * ((b2 - a2) * x - (w2 - a2) * y) + n3 * ((b3 - a3) * x - (w3 - a3) * y) := by grind
        rw [this, e1, e2, e3]
        simp
      · cases h
  | [a, b, c], w, ws, h, hs => by
    cases hany : ws.any notPos with
    | true => rfl
    | false =>
      exfalso
      have hp := pos_of hany
      have hA := hs a (by simp)
      have hB := hs b (by simp)
      have hC := hs c (by simp)
      obtain ⟨a1, a2, a3⟩ := a
      obtain ⟨b1, b2, b3⟩ := b
      obtain ⟨c1, c2, c3⟩ := c
      obtain ⟨w1, w2, w3⟩ := w
      obtain ⟨u1, hu1⟩ : ∃ u, w1 - a1 = u := ⟨_, rfl⟩
      obtain ⟨u2, hu2⟩ : ∃ u, w2 - a2 = u := ⟨_, rfl⟩
      obtain ⟨u3, hu3⟩ : ∃ u, w3 - a3 = u := ⟨_, rfl⟩
      obtain ⟨d1, hd1⟩ : ∃ u, b1 - a1 = u := ⟨_, rfl⟩
      obtain ⟨d2, hd2⟩ : ∃ u, b2 - a2 = u := ⟨_, rfl⟩
      obtain ⟨d3, hd3⟩ : ∃ u, b3 - a3 = u := ⟨_, rfl⟩
      obtain ⟨f1, hf1⟩ : ∃ u, c1 - a1 = u := ⟨_, rfl⟩
      obtain ⟨f2, hf2⟩ : ∃ u, c2 - a2 = u := ⟨_, rfl⟩
      obtain ⟨f3, hf3⟩ : ∃ u, c3 - a3 = u := ⟨_, rfl⟩
      obtain ⟨m1, m2, m3, hm⟩ : ∃ m1 m2 m3, m1 = d2 * f3 - d3 * f2 ∧ m2 = d3 * f1 - d1 * f3 ∧ m3 = d1 * f2 - d2 * f1 := ⟨_, _, _, rfl, rfl, rfl⟩
      obtain ⟨e1, e2, e3, he⟩ : ∃ e1 e2 e3, e1 = u2 * f3 - u3 * f2 ∧ e2 = u3 * f1 - u1 * f3 ∧ e3 = u1 * f2 - u2 * f1 := ⟨_, _, _, rfl, rfl, rfl⟩
      obtain ⟨k1, k2, k3, hk⟩ : ∃ k1 k2 k3, k1 = d2 * u3 - d3 * u2 ∧ k2 = d3 * u1 - d1 * u3 ∧ k3 = d1 * u2 - d2 * u1 := ⟨_, _, _, rfl, rfl, rfl⟩
      obtain ⟨y, hy⟩ : ∃ y, y = m1 * m1 + m2 * m2 + m3 * m3 := ⟨_, rfl⟩
      obtain ⟨t, ht⟩ : ∃ t, t = u1 * m1 + u2 * m2 + u3 * m3 := ⟨_, rfl⟩
      obtain ⟨x, hx⟩ : ∃ x, x = e1 * m1 + e2 * m2 + e3 * m3 := ⟨_, rfl⟩
      obtain ⟨z, hz⟩ : ∃ z, z = k1 * m1 + k2 * m2 + k3 * m3 := ⟨_, rfl⟩
      obtain ⟨i1, i2, i3⟩ := id3 hm hy ht he hx hk hz
      rw [pwts3_at ⟨hu1, hu2, hu3⟩ ⟨hd1, hd2, hd3⟩ ⟨hf1, hf2, hf3⟩ hm hy ht he hx hk hz] at h
      unfold dotN at hA hB hC
      dsimp only at hA hB hC
      clear hm hy ht he hx hk hz
      subst hu1; subst hu2; subst hu3; subst hd1; subst hd2; subst hd3; subst hf1; subst hf2; subst hf3
      split at h
      · cases h
      · rename_i hc
        cases h
        have q1 := hp _ (List.mem_cons_self ..)
        have q2 := hp _ (List.mem_cons_of_mem _ (List.mem_cons_self ..))
        have q3 := hp _ (List.mem_cons_of_mem _ (List.mem_cons_of_mem _ (List.mem_singleton.2 rfl)))
        have hy : y ≠ 0 := fun e => hc (.inl e)
        have ht0 : t = 0 := Classical.byContradiction fun e => hc (.inr e)
        subst ht0
        obtain ⟨dx, dy, dz⟩ := dvd_gcd3 x y z
        have hg := gcd3_pos x y z hy
        generalize ((gcdL [x, y, z] : Nat) : Int) = G at *
        have g1 := Int.tdiv_mul_cancel (Int.dvd_sub (Int.dvd_sub dy dx) dz)
        have g2 := Int.tdiv_mul_cancel dx
        have g3 := Int.tdiv_mul_cancel dz
        replace q1 := Int.mul_pos q1 (show 0 < G by omega)
        replace q2 := Int.mul_pos q2 (show 0 < G by omega)
        replace q3 := Int.mul_pos q3 (show 0 < G by omega)
        rw [g1] at q1
        rw [g2] at q2
        rw [g3] at q3
        refine sep3 q1 q2 q3 (A := (n1 * a1 + n2 * a2 + n3 * a3) - (n1 * w1 + n2 * w2 + n3 * w3)) (B := (n1 * b1 + n2 * b2 + n3 * b3) - (n1 * w1 + n2 * w2 + n3 * w3)) (C := (n1 * c1 + n2 * c2 + n3 * c3) - (n1 * w1 + n2 * w2 + n3 * w3)) (by omega) (by omega) (by omega) ?_
        have : (y - x - z) * ((n1 * a1 + n2 * a2 + n3 * a3) - (n1 * w1 + n2 * w2 + n3 * w3)) + x * ((n1 * b1 + n2 * b2 + n3 * b3) - (n1 * w1 + n2 * w2 + n3 * w3)) + z * ((n1 * c1 + n2 * c2 + n3 * c3) - (n1 * w1 + n2 * w2 + n3 * w3))
          = n1 * (x * (b1 - a1) + z * (c1 - a1) - y * (w1 - a1)) + n2 * (x * (b2 - a2) + z * (c2 - a2) - y * (w2 - a2)) + n3 * (x * (b3 - a3) + z * (c3 - a3) - y * (w3 - a3)) := by grind
        rw [this, i1, i2, i3]
        simp
  | [a, b, c, e], w, ws, h, hs => by
    cases hany : ws.any notPos with
    | true => rfl
    | false =>
      exfalso
      have hp := pos_of hany
      have hA := hs a (by simp)
      have hB := hs b (by simp)
      have hC := hs c (by simp)
      have hD := hs e (by simp)
      obtain ⟨a1, a2, a3⟩ := a
      obtain ⟨b1, b2, b3⟩ := b
      obtain ⟨c1, c2, c3⟩ := c
      obtain ⟨e1, e2, e3⟩ := e
      obtain ⟨w1, w2, w3⟩ := w
      obtain ⟨y, hy⟩ : ∃ y, y = ((b2 - a2) * (c3 - a3) - (b3 - a3) * (c2 - a2)) * (e1 - a1) + ((b3 - a3) * (c1 - a1) - (b1 - a1) * (c3 - a3)) * (e2 - a2) + ((b1 - a1) * (c2 - a2) - (b2 - a2) * (c1 - a1)) * (e3 - a3) := ⟨_, rfl⟩
      obtain ⟨p, hpp⟩ : ∃ p, p = ((w2 - a2) * (c3 - a3) - (w3 - a3) * (c2 - a2)) * (e1 - a1) + ((w3 - a3) * (c1 - a1) - (w1 - a1) * (c3 - a3)) * (e2 - a2) + ((w1 - a1) * (c2 - a2) - (w2 - a2) * (c1 - a1)) * (e3 - a3) := ⟨_, rfl⟩
      obtain ⟨q, hqq⟩ : ∃ q, q = ((b2 - a2) * (w3 - a3) - (b3 - a3) * (w2 - a2)) * (e1 - a1) + ((b3 - a3) * (w1 - a1) - (b1 - a1) * (w3 - a3)) * (e2 - a2) + ((b1 - a1) * (w2 - a2) - (b2 - a2) * (w1 - a1)) * (e3 - a3) := ⟨_, rfl⟩
      obtain ⟨r, hrr⟩ : ∃ r, r = ((b2 - a2) * (c3 - a3) - (b3 - a3) * (c2 - a2)) * (w1 - a1) + ((b3 - a3) * (c1 - a1) - (b1 - a1) * (c3 - a3)) * (w2 - a2) + ((b1 - a1) * (c2 - a2) - (b2 - a2) * (c1 - a1)) * (w3 - a3) := ⟨_, rfl⟩
      obtain ⟨i1, i2, i3⟩ := id4 hy hpp hqq hrr
      rw [pwts4_at ⟨rfl, rfl, rfl⟩ ⟨rfl, rfl, rfl⟩ ⟨rfl, rfl, rfl⟩ ⟨rfl, rfl, rfl⟩ hy hpp hqq hrr] at h
      unfold dotN at hA hB hC hD
      dsimp only at hA hB hC hD
      clear hy hpp hqq hrr
      have main : (y - p - q - r) * ((n1 * a1 + n2 * a2 + n3 * a3) - (n1 * w1 + n2 * w2 + n3 * w3)) + p * ((n1 * b1 + n2 * b2 + n3 * b3) - (n1 * w1 + n2 * w2 + n3 * w3)) + q * ((n1 * c1 + n2 * c2 + n3 * c3) - (n1 * w1 + n2 * w2 + n3 * w3)) + r * ((n1 * e1 + n2 * e2 + n3 * e3) - (n1 * w1 + n2 * w2 + n3 * w3)) = 0 := by
        have : (y - p - q - r) * ((n1 * a1 + n2 * a2 + n3 * a3) - (n1 * w1 + n2 * w2 + n3 * w3)) + p * ((n1 * b1 + n2 * b2 + n3 * b3) - (n1 * w1 + n2 * w2 + n3 * w3)) + q * ((n1 * c1 + n2 * c2 + n3 * c3) - (n1 * w1 + n2 * w2 + n3 * w3)) + r * ((n1 * e1 + n2 * e2 + n3 * e3) - (n1 * w1 + n2 * w2 + n3 * w3))
          = n1 * (p * (b1 - a1) + q * (c1 - a1) + r * (e1 - a1) - y * (w1 - a1)) + n2 * (p * (b2 - a2) + q * (c2 - a2) + r * (e2 - a2) - y * (w2 - a2)) + n3 * (p * (b3 - a3) + q * (c3 - a3) + r * (e3 - a3) - y * (w3 - a3)) := by grind
        rw [this, i1, i2, i3]
        simp
      have kA : ((n1 * a1 + n2 * a2 + n3 * a3) - (n1 * w1 + n2 * w2 + n3 * w3)) < 0 := by omega
      have kB : ((n1 * b1 + n2 * b2 + n3 * b3) - (n1 * w1 + n2 * w2 + n3 * w3)) < 0 := by omega
      have kC : ((n1 * c1 + n2 * c2 + n3 * c3) - (n1 * w1 + n2 * w2 + n3 * w3)) < 0 := by omega
      have kD : ((n1 * e1 + n2 * e2 + n3 * e3) - (n1 * w1 + n2 * w2 + n3 * w3)) < 0 := by omega
      generalize ((n1 * a1 + n2 * a2 + n3 * a3) - (n1 * w1 + n2 * w2 + n3 * w3)) = A at *
      generalize ((n1 * b1 + n2 * b2 + n3 * b3) - (n1 * w1 + n2 * w2 + n3 * w3)) = B at *
      generalize ((n1 * c1 + n2 * c2 + n3 * c3) - (n1 * w1 + n2 * w2 + n3 * w3)) = C at *
      generalize ((n1 * e1 + n2 * e2 + n3 * e3) - (n1 * w1 + n2 * w2 + n3 * w3)) = D at *
      clear hA hB hC hD i1 i2 i3
      split at h
      · cases h
      · split at h
        · cases h
          have m1 := hp _ (List.mem_cons_self ..)
          have m2 := hp _ (List.mem_cons_of_mem _ (List.mem_cons_self ..))
          have m3 := hp _ (List.mem_cons_of_mem _ (List.mem_cons_of_mem _ (List.mem_cons_self ..)))
          have m4 := hp _ (List.mem_cons_of_mem _ (List.mem_cons_of_mem _ (List.mem_cons_of_mem _ (List.mem_singleton.2 rfl))))
          refine sep4 m1 m2 m3 m4 kA kB kC kD ?_
          have : (-y - -p - -q - -r) * A + -p * B + -q * C + -r * D = -((y - p - q - r) * A + p * B + q * C + r * D) := by grind
          rw [this, main]; rfl
        · cases h
          have m1 := hp _ (List.mem_cons_self ..)
          have m2 := hp _ (List.mem_cons_of_mem _ (List.mem_cons_self ..))
          have m3 := hp _ (List.mem_cons_of_mem _ (List.mem_cons_of_mem _ (List.mem_cons_self ..)))
          have m4 := hp _ (List.mem_cons_of_mem _ (List.mem_cons_of_mem _ (List.mem_cons_of_mem _ (List.mem_singleton.2 rfl))))
          exact sep4 m1 m2 m3 m4 kA kB kC kD main
  | _ :: _ :: _ :: _ :: _ :: _, _, _, h, _ => by simp [pwts] at h
end Go.Proofs.Ytkjceegmmhnajaa
