/- The normals that Plane tries: their spec, and what its calls find. -/
import Derived.Test.YtkjceegmmhnajaaG18
import Derived.Test.YtkjceegmmhnajaaG19

set_option linter.unusedVariables false
set_option linter.unusedSimpArgs false

namespace Go.Proofs.Ytkjceegmmhnajaa
open Go.RowKit LPX

/-- the normals that are tried -/
def nrmV : List Vc → Vc → Vc
  | [a], x => x.sub a
  | [a, b], x => let u := x.sub a; let d := b.sub a
    (u.mul (d.dot d)).sub (d.mul (u.dot d))
  | [a, b, c], x => let u := x.sub a; let m := (b.sub a).crs (c.sub a)
    if m.dot u < 0 then m.mul (-1) else m
  | _, _ => ⟨0, 0, 0⟩
def nrmL (l : List Tn) (x : Vc) (L : List Nat) : Vc := nrmV (ptsOf l (natI L)) x
theorem pts_cons {l : List Tn} {i : Nat} {L : List Nat} (h : i < l.length) : ptsOf l (natI (i :: L)) = ptOf l[i] :: ptsOf l (natI L) := by
  simp [ptsOf, natI, h]
theorem pts_nil {l : List Tn} : ptsOf l (natI []) = [] := rfl
theorem nrm_one {l : List Tn} {x : Vc} {i : Nat} (h : i < l.length) {u1 u2 u3 : Int} (hu : u1 = x.x - l[i].a ∧ u2 = x.y - l[i].b ∧ u3 = x.z - l[i].c) : nrmL l x [i] = ⟨u1, u2, u3⟩ := by
  obtain ⟨rfl, rfl, rfl⟩ := hu
  unfold nrmL
  rw [pts_cons h, pts_nil]; rfl
theorem nrm_two {l : List Tn} {x : Vc} {i j : Nat} (h : i < l.length) (k : j < l.length) {u1 u2 u3 d1 d2 d3 dd ud s1 s2 s3 t1 t2 t3 n1 n2 n3 : Int} (hu : u1 = x.x - l[i].a ∧ u2 = x.y - l[i].b ∧ u3 = x.z - l[i].c) (hd : d1 = l[j].a - l[i].a ∧ d2 = l[j].b - l[i].b ∧ d3 = l[j].c - l[i].c)
    (h1 : dd = d1 * d1 + d2 * d2 + d3 * d3) (h2 : ud = u1 * d1 + u2 * d2 + u3 * d3) (h3 : s1 = u1 * dd ∧ s2 = u2 * dd ∧ s3 = u3 * dd) (h4 : t1 = d1 * ud ∧ t2 = d2 * ud ∧ t3 = d3 * ud) (h5 : n1 = s1 - t1 ∧ n2 = s2 - t2 ∧ n3 = s3 - t3) : nrmL l x [i, j] = ⟨n1, n2, n3⟩ := by
  obtain ⟨rfl, rfl, rfl⟩ := hu
  obtain ⟨rfl, rfl, rfl⟩ := hd
  subst h1 h2
  obtain ⟨rfl, rfl, rfl⟩ := h3
  obtain ⟨rfl, rfl, rfl⟩ := h4
  obtain ⟨rfl, rfl, rfl⟩ := h5
  unfold nrmL
  rw [pts_cons h, pts_cons k, pts_nil]; rfl
theorem nrm_three {l : List Tn} {x : Vc} {i j t : Nat} (h : i < l.length) (k : j < l.length) (m : t < l.length) {u1 u2 u3 d1 d2 d3 f1 f2 f3 m1 m2 m3 : Int} (hu : u1 = x.x - l[i].a ∧ u2 = x.y - l[i].b ∧ u3 = x.z - l[i].c) (hd : d1 = l[j].a - l[i].a ∧ d2 = l[j].b - l[i].b ∧ d3 = l[j].c - l[i].c)
    (hf : f1 = l[t].a - l[i].a ∧ f2 = l[t].b - l[i].b ∧ f3 = l[t].c - l[i].c) (h1 : m1 = d2 * f3 - d3 * f2 ∧ m2 = d3 * f1 - d1 * f3 ∧ m3 = d1 * f2 - d2 * f1) : nrmL l x [i, j, t] = if m1 * u1 + m2 * u2 + m3 * u3 < 0 then ⟨m1 * (-1), m2 * (-1), m3 * (-1)⟩ else ⟨m1, m2, m3⟩ := by
  obtain ⟨rfl, rfl, rfl⟩ := hu
  obtain ⟨rfl, rfl, rfl⟩ := hd
  obtain ⟨rfl, rfl, rfl⟩ := hf
  obtain ⟨rfl, rfl, rfl⟩ := h1
  unfold nrmL
  rw [pts_cons h, pts_cons k, pts_cons m, pts_nil]; rfl

theorem pmin {a b c x y z : Int} {N : Nat} (h : vb N (a - x) (b - y) (c - z)) (hN : N ≤ 3050000000000000000) : ∃ r s t : Int, Hid (r = a - x ∧ s = b - y ∧ t = c - z) ∧ vb N r s t ∧ Hid (∀ W, Calls Try.prog 75 #[.agg #[.int .i64 a, .int .i64 b, .int .i64 c], .agg #[.int .i64 x, .int .i64 y, .int .i64 z]] W fun e w' => e = .returned (.agg #[.int .i64 r, .int .i64 s, .int .i64 t]) ∧ Below W.heap.size W w') :=
  ⟨_, _, _, ⟨rfl, rfl, rfl⟩, h, fun W => minus_any _ _ _ _ _ _ W (ab_big h.1 hN) (ab_big h.2.1 hN) (ab_big h.2.2 hN)⟩
theorem pcrs {A B : Nat} {a b c x y z : Int} (h : vb A a b c) (k : vb B x y z) (hAB : A * B + A * B ≤ 3050000000000000000) : ∃ r s t : Int, Hid (r = b * z - c * y ∧ s = c * x - a * z ∧ t = a * y - b * x) ∧ vb (A * B + A * B) r s t ∧ Hid (∀ W, Calls Try.prog 82 #[.agg #[.int .i64 a, .int .i64 b, .int .i64 c], .agg #[.int .i64 x, .int .i64 y, .int .i64 z]] W fun e w' => e = .returned (.agg #[.int .i64 r, .int .i64 s, .int .i64 t]) ∧ Below W.heap.size W w') :=
  ⟨_, _, _, ⟨rfl, rfl, rfl⟩, ⟨ab_sub (ab_mul h.2.1 k.2.2) (ab_mul h.2.2 k.2.1), ab_sub (ab_mul h.2.2 k.1) (ab_mul h.1 k.2.2), ab_sub (ab_mul h.1 k.2.1) (ab_mul h.2.1 k.1)⟩, fun W => (cross_b W h k hAB).mono (by
    rintro e w' ⟨r, s, t, rfl, HE, hv, hb, _⟩
    obtain ⟨rfl, rfl, rfl⟩ := HE.out
    exact ⟨rfl, hb⟩)⟩
theorem pdot {A B : Nat} {a b c x y z : Int} (h : vb A a b c) (k : vb B x y z) (hAB : A * B + A * B + A * B ≤ 3050000000000000000) : ∃ r : Int, Hid (r = a * x + b * y + c * z) ∧ ab (A * B + A * B + A * B) r ∧ Hid (∀ W, Calls Try.prog 46 #[.agg #[.int .i64 a, .int .i64 b, .int .i64 c], .agg #[.int .i64 x, .int .i64 y, .int .i64 z]] W fun e w' => e = .returned (.int .i64 r) ∧ Below W.heap.size W w') :=
  ⟨_, rfl, ab_add (ab_add (ab_mul h.1 k.1) (ab_mul h.2.1 k.2.1)) (ab_mul h.2.2 k.2.2), fun W => (times_b W h k hAB).mono (by
    rintro e w' ⟨r, rfl, HE, hv, hb, _⟩
    obtain rfl := HE.out
    exact ⟨rfl, hb⟩)⟩
theorem pscl {A B : Nat} {a b c n : Int} (h : vb A a b c) (k : ab B n) (hAB : A * B ≤ 3050000000000000000) : ∃ r s t : Int, Hid (r = a * n ∧ s = b * n ∧ t = c * n) ∧ vb (A * B) r s t ∧ Hid (∀ W, Calls Try.prog 77 #[.agg #[.int .i64 a, .int .i64 b, .int .i64 c], .int .i64 n] W fun e w' => e = .returned (.agg #[.int .i64 r, .int .i64 s, .int .i64 t]) ∧ Below W.heap.size W w') :=
  ⟨_, _, _, ⟨rfl, rfl, rfl⟩, ⟨ab_mul h.1 k, ab_mul h.2.1 k, ab_mul h.2.2 k⟩, fun W => (scaled_b W h k hAB).mono (by
    rintro e w' ⟨r, s, t, rfl, HE, hv, hb, _⟩
    obtain ⟨rfl, rfl, rfl⟩ := HE.out
    exact ⟨rfl, hb⟩)⟩
theorem vsub_b {A B : Nat} {a b c x y z : Int} (h : vb A a b c) (k : vb B x y z) : vb (A + B) (a - x) (b - y) (c - z) := ⟨ab_sub h.1 k.1, ab_sub h.2.1 k.2.1, ab_sub h.2.2 k.2.2⟩
theorem tin_vb {l : List Tn} (hsh : ∀ t ∈ l, shIn t.a t.b t.c) {x : Vc} (hx : shIn x.x x.y x.z) {i : Nat} (h : i < l.length) : vb 1000 (x.x - l[i].a) (x.y - l[i].b) (x.z - l[i].c) :=
  vb_sub (a := x) (b := ⟨l[i].a, l[i].b, l[i].c⟩) hx (hsh _ (List.getElem_mem h))
theorem tin_vb2 {l : List Tn} (hsh : ∀ t ∈ l, shIn t.a t.b t.c) {i j : Nat} (h : i < l.length) (k : j < l.length) : vb 1000 (l[j].a - l[i].a) (l[j].b - l[i].b) (l[j].c - l[i].c) :=
  vb_sub (a := ⟨l[j].a, l[j].b, l[j].c⟩) (b := ⟨l[i].a, l[i].b, l[i].c⟩) (hsh _ (List.getElem_mem k)) (hsh _ (List.getElem_mem h))

/-- a list of numbers that lies in memory, as the walk reads it -/
theorem el_at {W : World} {e : El} (h : e.At W) {i : Nat} {L : List Nat} (hL : e.L = i :: L) : ∃ ad, e.A = some ad ∧ ad.block < W.heap.size ∧ W.cell? ad = some (.int .i64 (i : Int)) ∧ ∀ (j m : Nat), L[j]? = some m → W.cell? ⟨ad.block, ad.off + (j + 1), none⟩ = some (.int .i64 (m : Int)) := by
  have h1 := h.1
  rw [hL] at h1
  obtain ⟨ad, e1, hb, hc⟩ := h1 (by simp [nats])
  have h0 := hc 0 _ rfl
  have e0 : ad.add 0 = ad := by unfold Addr.add; simp
  rw [e0] at h0
  refine ⟨ad, e1, hb, h0, fun j m hm => ?_⟩
  have h2 := hc (j + 1) (.int .i64 (m : Int)) (by simp [nats, hm])
  have e2 : ad.add (j + 1) = ⟨ad.block, ad.off + (j + 1), none⟩ := by unfold Addr.add; simp
  rw [e2] at h2; exact h2
theorem tint_vec {W : World} {B : Nat} {At : Option Addr} {l : List Tn} (h : Lies W B At (tintsC l)) {k : Nat} (hk : k < l.length) : ∃ ad, At = some ad ∧ ad.block < B ∧ (W.cell? ⟨(ad.add (k * 5)).block, (ad.add (k * 5)).off + 1, none⟩ = some (.int .i64 l[k].a) ∧ W.cell? ⟨(ad.add (k * 5)).block, (ad.add (k * 5)).off + 2, none⟩ = some (.int .i64 l[k].b) ∧ W.cell? ⟨(ad.add (k * 5)).block, (ad.add (k * 5)).off + 3, none⟩ = some (.int .i64 l[k].c)) := by
  obtain ⟨ad, h1, h2, _, h3, h4, h5, _⟩ := tint_at h hk
  exact ⟨ad, h1, h2, h3, h4, h5⟩
end Go.Proofs.Ytkjceegmmhnajaa
