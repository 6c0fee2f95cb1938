/- pigment.weights of four points. -/
import Derived.RangeFuncWrites
import Derived.Test.YtkjceegmmhnajaaG09

set_option linter.unusedVariables false
set_option linter.unusedSimpArgs false

namespace Go.Proofs.Ytkjceegmmhnajaa
open Go.RowKit

set_option maxRecDepth 100000 in
set_option maxHeartbeats 4000000 in
theorem weights4 (a p q s x : Vc) (ad : Addr) (c : Nat) (w : World) (hb : ad.block < w.heap.size) (h0 : vecAt w ad a) (h3 : vecAt w ⟨ad.block, ad.off + 3, none⟩ p) (h6 : vecAt w ⟨ad.block, ad.off + 6, none⟩ q) (h9 : vecAt w ⟨ad.block, ad.off + 9, none⟩ s) (ha : shadeV a) (hp : shadeV p) (hq : shadeV q) (hs : shadeV s) (hx : shadeV x) :
    Calls Try.prog 86 #[.slice (some ad) 4 c, x.agg] w (WEnd (pwts [a, p, q, s] x) w) := by
  have hu := vb_sub hx ha
  have hd := vb_sub hp ha
  have hf := vb_sub hq ha
  have hg := vb_sub hs ha
  obtain ⟨a1, a2, a3⟩ := a
  obtain ⟨p1, p2, p3⟩ := p
  obtain ⟨q1, q2, q3⟩ := q
  obtain ⟨s1, s2, s3⟩ := s
  obtain ⟨x1, x2, x3⟩ := x
  dsimp only at hu hd hf hg
  have HMu : Hid (∀ W, Calls Try.prog 75 #[.agg #[.int .i64 x1, .int .i64 x2, .int .i64 x3], .agg #[.int .i64 a1, .int .i64 a2, .int .i64 a3]] W fun e w' => e = .returned (.agg #[.int .i64 (x1 - a1), .int .i64 (x2 - a2), .int .i64 (x3 - a3)]) ∧ Below W.heap.size W w') := fun W => minus_any _ _ _ _ _ _ W (ab_big hu.1 (by omega)) (ab_big hu.2.1 (by omega)) (ab_big hu.2.2 (by omega))
  have HMd : Hid (∀ W, Calls Try.prog 75 #[.agg #[.int .i64 p1, .int .i64 p2, .int .i64 p3], .agg #[.int .i64 a1, .int .i64 a2, .int .i64 a3]] W fun e w' => e = .returned (.agg #[.int .i64 (p1 - a1), .int .i64 (p2 - a2), .int .i64 (p3 - a3)]) ∧ Below W.heap.size W w') := fun W => minus_any _ _ _ _ _ _ W (ab_big hd.1 (by omega)) (ab_big hd.2.1 (by omega)) (ab_big hd.2.2 (by omega))
  have HMf : Hid (∀ W, Calls Try.prog 75 #[.agg #[.int .i64 q1, .int .i64 q2, .int .i64 q3], .agg #[.int .i64 a1, .int .i64 a2, .int .i64 a3]] W fun e w' => e = .returned (.agg #[.int .i64 (q1 - a1), .int .i64 (q2 - a2), .int .i64 (q3 - a3)]) ∧ Below W.heap.size W w') := fun W => minus_any _ _ _ _ _ _ W (ab_big hf.1 (by omega)) (ab_big hf.2.1 (by omega)) (ab_big hf.2.2 (by omega))
  have HMg : Hid (∀ W, Calls Try.prog 75 #[.agg #[.int .i64 s1, .int .i64 s2, .int .i64 s3], .agg #[.int .i64 a1, .int .i64 a2, .int .i64 a3]] W fun e w' => e = .returned (.agg #[.int .i64 (s1 - a1), .int .i64 (s2 - a2), .int .i64 (s3 - a3)]) ∧ Below W.heap.size W w') := fun W => minus_any _ _ _ _ _ _ W (ab_big hg.1 (by omega)) (ab_big hg.2.1 (by omega)) (ab_big hg.2.2 (by omega))
  have HE : Hid (∀ u1 u2 u3 d1 d2 d3 f1 f2 f3 g1 g2 g3 n1 n2 n3 y e1 e2 e3 pp h1 h2 h3 qq m1 m2 m3 rr : Int, (x1 - a1 = u1 ∧ x2 - a2 = u2 ∧ x3 - a3 = u3) → (p1 - a1 = d1 ∧ p2 - a2 = d2 ∧ p3 - a3 = d3) → (q1 - a1 = f1 ∧ q2 - a2 = f2 ∧ q3 - a3 = f3) → (s1 - a1 = g1 ∧ s2 - a2 = g2 ∧ s3 - a3 = g3) →
      (n1 = d2 * f3 - d3 * f2 ∧ n2 = d3 * f1 - d1 * f3 ∧ n3 = d1 * f2 - d2 * f1) → y = n1 * g1 + n2 * g2 + n3 * g3 →
      (e1 = u2 * f3 - u3 * f2 ∧ e2 = u3 * f1 - u1 * f3 ∧ e3 = u1 * f2 - u2 * f1) → pp = e1 * g1 + e2 * g2 + e3 * g3 → (h1 = d2 * u3 - d3 * u2 ∧ h2 = d3 * u1 - d1 * u3 ∧ h3 = d1 * u2 - d2 * u1) → qq = h1 * g1 + h2 * g2 + h3 * g3 →
      (m1 = d2 * f3 - d3 * f2 ∧ m2 = d3 * f1 - d1 * f3 ∧ m3 = d1 * f2 - d2 * f1) → rr = m1 * u1 + m2 * u2 + m3 * u3 →
      pwts [⟨a1, a2, a3⟩, ⟨p1, p2, p3⟩, ⟨q1, q2, q3⟩, ⟨s1, s2, s3⟩] ⟨x1, x2, x3⟩ = if y = 0 then none else if y < 0 then some [-y - -pp - -qq - -rr, -pp, -qq, -rr] else some [y - pp - qq - rr, pp, qq, rr]) := by
    rintro _ _ _ _ _ _ _ _ _ _ _ _ _ _ _ _ _ _ _ _ _ _ _ _ _ _ _ _ ⟨rfl, rfl, rfl⟩ ⟨rfl, rfl, rfl⟩ ⟨rfl, rfl, rfl⟩ ⟨rfl, rfl, rfl⟩ ⟨rfl, rfl, rfl⟩ rfl ⟨rfl, rfl, rfl⟩ rfl ⟨rfl, rfl, rfl⟩ rfl ⟨rfl, rfl, rfl⟩ rfl
    simp only [pwts, Vc.sub, Vc.dot, Vc.crs]
    rfl
  generalize hu1 : x1 - a1 = u1 at *
  generalize hu2 : x2 - a2 = u2 at *
  generalize hu3 : x3 - a3 = u3 at *
  generalize hd1 : p1 - a1 = d1 at *
  generalize hd2 : p2 - a2 = d2 at *
  generalize hd3 : p3 - a3 = d3 at *
  generalize hf1 : q1 - a1 = f1 at *
  generalize hf2 : q2 - a2 = f2 at *
  generalize hf3 : q3 - a3 = f3 at *
  generalize hg1 : s1 - a1 = g1 at *
  generalize hg2 : s2 - a2 = g2 at *
  generalize hg3 : s3 - a3 = g3 at *
  have HE2 := Lib.hid (fun n1 n2 n3 y e1 e2 e3 pp h1 h2 h3 qq m1 m2 m3 rr => HE.out u1 u2 u3 d1 d2 d3 f1 f2 f3 g1 g2 g3 n1 n2 n3 y e1 e2 e3 pp h1 h2 h3 qq m1 m2 m3 rr ⟨rfl, rfl, rfl⟩ ⟨rfl, rfl, rfl⟩ ⟨rfl, rfl, rfl⟩ ⟨rfl, rfl, rfl⟩)
  clear hu1 hu2 hu3 hd1 hd2 hd3 hf1 hf2 hf3 hg1 hg2 hg3 HE
  have H0 := Lib.hid h0
  have H3 := Lib.hid h3
  have H6 := Lib.hid h6
  have H9 := Lib.hid h9
  have Hu := Lib.hid hu
  have Hd := Lib.hid hd
  have Hf := Lib.hid hf
  have Hg := Lib.hid hg
  unfold vecAt at h0
  obtain ⟨h00, h01, h02⟩ := h0
  dsimp only at *
  clear ha hp hq hs hx h3 h6 h9 hu hd hf hg
  go_enter Try.func86, Try.ntmps86
  go_wp2_with (go_at_call 75; refine (HMu.out _).mono ?_; rintro e w1 ⟨rfl, hb1⟩; have hB1 : Below w.heap.size w w1 := (Below.trans (by repeat (first | with_reducible exact Below.refl _ _ | with_reducible assumption | with_reducible refine Below.drew ?_ | with_reducible refine below_drewN ?_ _ | (with_reducible refine Below.alloc ?_ ?_ _; rotate_left; (try simp) <;> omega) | (with_reducible refine Below.setCell ?_ ?_ _; rotate_left; (try simp) <;> omega))) (hb1.mono (by first | omega | (simp; omega) | simp))); have xa1 := (Bk.new (w.alloc (.cells #[.int .i64 x1, .int .i64 x2, .int .i64 x3] 84)) 84 #[.int .i64 a1, .int .i64 a2, .int .i64 a3]).below hb1 (by simp); rw [World.size_alloc] at xa1; have l1 := xa1.lt)
  have xu := Bk.new w1 84 #[.int .i64 u1, .int .i64 u2, .int .i64 u3]
  have xa := xa1.alloc (.cells #[.int .i64 u1, .int .i64 u2, .int .i64 u3] 84)
  have hBa : Below w.heap.size w (w1.alloc (.cells #[.int .i64 u1, .int .i64 u2, .int .i64 u3] 84)) := hB1.alloc hB1.size _
  have l2 := xu.lt
  have l3 := xa.lt
  clear xa1 hb1 l1
  go_wp2
  obtain ⟨wa, hwa⟩ : ∃ wa, wa = w1.alloc (.cells #[.int .i64 u1, .int .i64 u2, .int .i64 u3] 84) := ⟨_, rfl⟩
  have hsza : wa.heap.size = w1.heap.size + 1 := by rw [hwa]; simp
  rw [← hwa] at xu xa hBa l2 l3 ⊢
  clear hwa h00 h01 h02
  have c30 : wa.cell? ⟨ad.block, ad.off + 3, none⟩ = some (.int .i64 p1) := (H3.out.below hBa hb).1
  have c31 : wa.cell? ⟨ad.block, ad.off + 3 + 1, none⟩ = some (.int .i64 p2) := (H3.out.below hBa hb).2.1
  have c32 : wa.cell? ⟨ad.block, ad.off + 3 + 2, none⟩ = some (.int .i64 p3) := (H3.out.below hBa hb).2.2
  have c60 : wa.cell? ⟨ad.block, ad.off + 6, none⟩ = some (.int .i64 q1) := (H6.out.below hBa hb).1
  have c61 : wa.cell? ⟨ad.block, ad.off + 6 + 1, none⟩ = some (.int .i64 q2) := (H6.out.below hBa hb).2.1
  have c62 : wa.cell? ⟨ad.block, ad.off + 6 + 2, none⟩ = some (.int .i64 q3) := (H6.out.below hBa hb).2.2
  have c90 : wa.cell? ⟨ad.block, ad.off + 9, none⟩ = some (.int .i64 s1) := (H9.out.below hBa hb).1
  have c91 : wa.cell? ⟨ad.block, ad.off + 9 + 1, none⟩ = some (.int .i64 s2) := (H9.out.below hBa hb).2.1
  have c92 : wa.cell? ⟨ad.block, ad.off + 9 + 2, none⟩ = some (.int .i64 s3) := (H9.out.below hBa hb).2.2
  have la : ad.block < wa.heap.size := Nat.lt_of_lt_of_le hb hBa.size
  have a0 := xa.cell 0 rfl
  have a1' := xa.cell 1 rfl
  have a2' := xa.cell 2 rfl
  refine wp_region_held_drew (S := fun w' => (w'.cell? ⟨w.heap.size + 1, 0, none⟩ = some (.int .i64 a1) ∧ w'.cell? ⟨w.heap.size + 1, 1, none⟩ = some (.int .i64 a2) ∧ w'.cell? ⟨w.heap.size + 1, 2, none⟩ = some (.int .i64 a3)) ∧ (w'.cell? ⟨ad.block, ad.off + 3, none⟩ = some (.int .i64 p1) ∧ w'.cell? ⟨ad.block, ad.off + 3 + 1, none⟩ = some (.int .i64 p2) ∧ w'.cell? ⟨ad.block, ad.off + 3 + 2, none⟩ = some (.int .i64 p3)) ∧ (w'.cell? ⟨ad.block, ad.off + 6, none⟩ = some (.int .i64 q1) ∧ w'.cell? ⟨ad.block, ad.off + 6 + 1, none⟩ = some (.int .i64 q2) ∧ w'.cell? ⟨ad.block, ad.off + 6 + 2, none⟩ = some (.int .i64 q3)) ∧ (w'.cell? ⟨ad.block, ad.off + 9, none⟩ = some (.int .i64 s1) ∧ w'.cell? ⟨ad.block, ad.off + 9 + 1, none⟩ = some (.int .i64 s2) ∧ w'.cell? ⟨ad.block, ad.off + 9 + 2, none⟩ = some (.int .i64 s3))) (by kernel_rfl) ?_ (fun hHeld => ?_)
  · exact ⟨⟨a0, a1', a2'⟩, ⟨c30, c31, c32⟩, ⟨c60, c61, c62⟩, ⟨c90, c91, c92⟩⟩
  (refine held_take 0 (some 123) ?_ rfl (by kernel_rfl) (by kernel_rfl) (by kernel_rfl) (by rfl) (fun _ _ _ h => h) (by assumption) (fun w hSw => ?_) ?_; rotate_left; ((try dsimp only at hSw); simp only [List.getElem?_toArray, List.getElem?_cons_zero, List.getElem?_cons_succ, Option.map_some]; refine congrArg some ?_; go_simp; (try with_reducible rfl)); (try simp only [Act.put, List.setIfInBounds_toArray, List.set_cons_zero, List.set_cons_succ]))
  (refine held_take 1 (some 124) ?_ rfl (by kernel_rfl) (by kernel_rfl) (by kernel_rfl) (by rfl) (fun _ _ _ h => h) (by assumption) (fun w hSw => ?_) ?_; rotate_left; ((try dsimp only at hSw); simp only [List.getElem?_toArray, List.getElem?_cons_zero, List.getElem?_cons_succ, Option.map_some]; refine congrArg some ?_; go_simp; (try with_reducible rfl)); (try simp only [Act.put, List.setIfInBounds_toArray, List.set_cons_zero, List.set_cons_succ]))
  (refine held_take 2 (some 125) ?_ rfl (by kernel_rfl) (by kernel_rfl) (by kernel_rfl) (by rfl) (fun _ _ _ h => h) (by assumption) (fun w hSw => ?_) ?_; rotate_left; ((try dsimp only at hSw); simp only [List.getElem?_toArray, List.getElem?_cons_zero, List.getElem?_cons_succ, Option.map_some]; refine congrArg some ?_; go_simp; (try with_reducible rfl)); (try simp only [Act.put, List.setIfInBounds_toArray, List.set_cons_zero, List.set_cons_succ]))
  (refine held_take 3 (some 126) ?_ rfl (by kernel_rfl) (by kernel_rfl) (by kernel_rfl) (by rfl) (fun _ _ _ h => h) (by assumption) (fun w hSw => ?_) ?_; rotate_left; ((try dsimp only at hSw); simp only [List.getElem?_toArray, List.getElem?_cons_zero, List.getElem?_cons_succ, Option.map_some]; refine congrArg some ?_; go_simp; (try with_reducible rfl)); (try simp only [Act.put, List.setIfInBounds_toArray, List.set_cons_zero, List.set_cons_succ]))
  (refine held_take 5 (some 128) ?_ rfl (by kernel_rfl) (by kernel_rfl) (by kernel_rfl) (by rfl) (fun _ _ _ h => h) (by assumption) (fun w hSw => ?_) ?_; rotate_left; ((try dsimp only at hSw); simp only [List.getElem?_toArray, List.getElem?_cons_zero, List.getElem?_cons_succ, Option.map_some]; refine congrArg some ?_; go_simp; (try with_reducible rfl)); (try simp only [Act.put, List.setIfInBounds_toArray, List.set_cons_zero, List.set_cons_succ]))
  (refine held_take 6 (some 129) ?_ rfl (by kernel_rfl) (by kernel_rfl) (by kernel_rfl) (by rfl) (fun _ _ _ h => h) (by assumption) (fun w hSw => ?_) ?_; rotate_left; ((try dsimp only at hSw); simp only [List.getElem?_toArray, List.getElem?_cons_zero, List.getElem?_cons_succ, Option.map_some]; refine congrArg some ?_; go_simp; (try with_reducible rfl)); (try simp only [Act.put, List.setIfInBounds_toArray, List.set_cons_zero, List.set_cons_succ]))
  (refine held_take 7 (some 130) ?_ rfl (by kernel_rfl) (by kernel_rfl) (by kernel_rfl) (by rfl) (fun _ _ _ h => h) (by assumption) (fun w hSw => ?_) ?_; rotate_left; ((try dsimp only at hSw); simp only [List.getElem?_toArray, List.getElem?_cons_zero, List.getElem?_cons_succ, Option.map_some]; refine congrArg some ?_; go_simp; (try with_reducible rfl)); (try simp only [Act.put, List.setIfInBounds_toArray, List.set_cons_zero, List.set_cons_succ]))
  (refine held_take 8 (some 131) ?_ rfl (by kernel_rfl) (by kernel_rfl) (by kernel_rfl) (by rfl) (fun _ _ _ h => h) (by assumption) (fun w hSw => ?_) ?_; rotate_left; ((try dsimp only at hSw); simp only [List.getElem?_toArray, List.getElem?_cons_zero, List.getElem?_cons_succ, Option.map_some]; refine congrArg some ?_; go_simp; (try with_reducible rfl)); (try simp only [Act.put, List.setIfInBounds_toArray, List.set_cons_zero, List.set_cons_succ]))
  (refine held_take 10 (some 133) ?_ rfl (by kernel_rfl) (by kernel_rfl) (by kernel_rfl) (by rfl) (fun _ _ _ h => h) (by assumption) (fun w hSw => ?_) ?_; rotate_left; ((try dsimp only at hSw); simp only [List.getElem?_toArray, List.getElem?_cons_zero, List.getElem?_cons_succ, Option.map_some]; refine congrArg some ?_; go_simp; (try with_reducible rfl)); (try simp only [Act.put, List.setIfInBounds_toArray, List.set_cons_zero, List.set_cons_succ]))
  (refine held_take 11 (some 134) ?_ rfl (by kernel_rfl) (by kernel_rfl) (by kernel_rfl) (by rfl) (fun _ _ _ h => h) (by assumption) (fun w hSw => ?_) ?_; rotate_left; ((try dsimp only at hSw); simp only [List.getElem?_toArray, List.getElem?_cons_zero, List.getElem?_cons_succ, Option.map_some]; refine congrArg some ?_; go_simp; (try with_reducible rfl)); (try simp only [Act.put, List.setIfInBounds_toArray, List.set_cons_zero, List.set_cons_succ]))
  (refine held_take 12 (some 135) ?_ rfl (by kernel_rfl) (by kernel_rfl) (by kernel_rfl) (by rfl) (fun _ _ _ h => h) (by assumption) (fun w hSw => ?_) ?_; rotate_left; ((try dsimp only at hSw); simp only [List.getElem?_toArray, List.getElem?_cons_zero, List.getElem?_cons_succ, Option.map_some]; refine congrArg some ?_; go_simp; (try with_reducible rfl)); (try simp only [Act.put, List.setIfInBounds_toArray, List.set_cons_zero, List.set_cons_succ]))
  (refine held_take 13 (some 136) ?_ rfl (by kernel_rfl) (by kernel_rfl) (by kernel_rfl) (by rfl) (fun _ _ _ h => h) (by assumption) (fun w hSw => ?_) ?_; rotate_left; ((try dsimp only at hSw); simp only [List.getElem?_toArray, List.getElem?_cons_zero, List.getElem?_cons_succ, Option.map_some]; refine congrArg some ?_; go_simp; (try with_reducible rfl)); (try simp only [Act.put, List.setIfInBounds_toArray, List.set_cons_zero, List.set_cons_succ]))
  refine vectors_laid (ds := [127, 132, 137, 18, 19, 20]) (f := 75) (vs := [⟨4, 15, 18, 127, 18, #[.agg #[.int .i64 p1, .int .i64 p2, .int .i64 p3], .agg #[.int .i64 a1, .int .i64 a2, .int .i64 a3]], d1, d2, d3⟩, ⟨9, 16, 19, 132, 19, #[.agg #[.int .i64 q1, .int .i64 q2, .int .i64 q3], .agg #[.int .i64 a1, .int .i64 a2, .int .i64 a3]], f1, f2, f3⟩, ⟨14, 17, 20, 137, 20, #[.agg #[.int .i64 s1, .int .i64 s2, .int .i64 s3], .agg #[.int .i64 a1, .int .i64 a2, .int .i64 a3]], g1, g2, g3⟩]) (B := wa.heap.size) ?hv (by simp) (by simp) (by simp) ?hac ?hB ?hS ?hcalls ?hQ ?hsz ?hl ?hl2 ?hfuel ?hsl
  case hv =>
    intro v hv
    rcases List.mem_cons.1 hv with rfl | hv
    · refine ⟨by simp, by simp, by simp, by simp, ⟨_, rfl, rfl, rfl, fun V W => ?_⟩, ⟨_, rfl, rfl, rfl, fun a W => ?_⟩, ⟨_, rfl, rfl, rfl, by kernel_rfl, by kernel_rfl, fun a W b g1 g2 g3 => ?_⟩⟩
      · go_simp
        constructor <;> (rw [canon_get, if_neg (by simp)]; simp)
      · go_simp
        rfl
      · simp only [Vj.row] at g1 g2
        have t0 := g3.cell 0 rfl
        have t1 := g3.cell 1 rfl
        have t2 := g3.cell 2 rfl
        have r0 := g3.fro 0
        have r1 := g3.fro 1
        have r2 := g3.fro 2
        refine ⟨_, _, ?_, .inl rfl, rfl⟩
        go_simp
    rcases List.mem_cons.1 hv with rfl | hv
    · refine ⟨by simp, by simp, by simp, by simp, ⟨_, rfl, rfl, rfl, fun V W => ?_⟩, ⟨_, rfl, rfl, rfl, fun a W => ?_⟩, ⟨_, rfl, rfl, rfl, by kernel_rfl, by kernel_rfl, fun a W b g1 g2 g3 => ?_⟩⟩
      · go_simp
        constructor <;> (rw [canon_get, if_neg (by simp)]; simp)
      · go_simp
        rfl
      · simp only [Vj.row] at g1 g2
        have t0 := g3.cell 0 rfl
        have t1 := g3.cell 1 rfl
        have t2 := g3.cell 2 rfl
        have r0 := g3.fro 0
        have r1 := g3.fro 1
        have r2 := g3.fro 2
        refine ⟨_, _, ?_, .inl rfl, rfl⟩
        go_simp
    obtain rfl := List.mem_singleton.1 hv
    · refine ⟨by simp, by simp, by simp, by simp, ⟨_, rfl, rfl, rfl, fun V W => ?_⟩, ⟨_, rfl, rfl, rfl, fun a W => ?_⟩, ⟨_, rfl, rfl, rfl, by kernel_rfl, by kernel_rfl, fun a W b g1 g2 g3 => ?_⟩⟩
      · go_simp
        constructor <;> (rw [canon_get, if_neg (by simp)]; simp)
      · go_simp
        rfl
      · simp only [Vj.row] at g1 g2
        have t0 := g3.cell 0 rfl
        have t1 := g3.cell 1 rfl
        have t2 := g3.cell 2 rfl
        have r0 := g3.fro 0
        have r1 := g3.fro 1
        have r2 := g3.fro 2
        refine ⟨_, _, ?_, .inl rfl, rfl⟩
        go_simp
  case hac => exact acB_spec (by kernel_rfl)
  case hB => exact Nat.le_refl _
  case hsz => simp
  case hS =>
    intro W hW
    have hW' : Below wa.heap.size wa W := (Below.drew (Below.refl _ _)).trans hW
    exact ⟨⟨(hW'.cell l3).trans a0, (hW'.cell l3).trans a1', (hW'.cell l3).trans a2'⟩, ⟨(hW'.cell (p := ⟨ad.block, ad.off + 3, none⟩) la).trans c30, (hW'.cell (p := ⟨ad.block, ad.off + 3 + 1, none⟩) la).trans c31, (hW'.cell (p := ⟨ad.block, ad.off + 3 + 2, none⟩) la).trans c32⟩, ⟨(hW'.cell (p := ⟨ad.block, ad.off + 6, none⟩) la).trans c60, (hW'.cell (p := ⟨ad.block, ad.off + 6 + 1, none⟩) la).trans c61, (hW'.cell (p := ⟨ad.block, ad.off + 6 + 2, none⟩) la).trans c62⟩, ⟨(hW'.cell (p := ⟨ad.block, ad.off + 9, none⟩) la).trans c90, (hW'.cell (p := ⟨ad.block, ad.off + 9 + 1, none⟩) la).trans c91, (hW'.cell (p := ⟨ad.block, ad.off + 9 + 2, none⟩) la).trans c92⟩⟩
  case hcalls =>
    intro v hv W hW
    rcases List.mem_cons.1 hv with rfl | hv
    · exact HMd.out W
    rcases List.mem_cons.1 hv with rfl | hv
    · exact HMf.out W
    obtain rfl := List.mem_singleton.1 hv
    exact HMg.out W
  case hl => exact hlB_spec (by kernel_rfl)
  case hl2 => simp
  case hfuel => simp [left]
  case hsl => simp
  case hQ =>
    intro V W hW hV ⟨g, hg⟩ hrest
    have m1 : ∀ {α : Type} {x y z : α}, x ∈ [x, y, z] := by simp
    have m2 : ∀ {α : Type} {x y z : α}, y ∈ [x, y, z] := by simp
    have m3 : ∀ {α : Type} {x y z : α}, z ∈ [x, y, z] := by simp
    have e127 := hV _ m1
    have e132 := hV _ m2
    have e137 := hV _ m3
    obtain ⟨e18, _, k18⟩ := hg _ m1
    obtain ⟨e19, _, k19⟩ := hg _ m2
    obtain ⟨e20, _, k20⟩ := hg _ m3
    dsimp only [Vj.row] at e127 e132 e137 e18 e19 e20 k18 k19 k20
    simp only [canon, List.foldl_cons, List.foldl_nil]
    rw [e127, e132, e137, e18, e19, e20]
    simp only [List.setIfInBounds_toArray, List.set_cons_zero, List.set_cons_succ]
    generalize g 18 = k1 at *
    generalize g 19 = k2 at *
    generalize g 20 = k3 at *
    have hW' : Below wa.heap.size wa W := (Below.drew (Below.refl _ _)).trans hW
    have hBW : Below w.heap.size w W := hBa.trans (hW'.mono hBa.size)
    have yu := xu.below hW' l2
    clear hrest hV hg e127 e132 e137 e18 e19 e20 hW hW' xu xa a0 a1' a2' c30 c31 c32 c60 c61 c62 c90 c91 c92 hHeld HMu HMd HMf HMg H0 H3 H6 H9 hB1 hBa l2 l3 la hsza m1 m2 m3
    have HK : Hid (∀ W', Below W.heap.size W W' → (W'.cell? ⟨w1.heap.size, 0, none⟩ = some (.int .i64 u1) ∧ W'.cell? ⟨w1.heap.size, 1, none⟩ = some (.int .i64 u2) ∧ W'.cell? ⟨w1.heap.size, 2, none⟩ = some (.int .i64 u3)) ∧ (W'.cell? ⟨k1, 0, none⟩ = some (.int .i64 d1) ∧ W'.cell? ⟨k1, 1, none⟩ = some (.int .i64 d2) ∧ W'.cell? ⟨k1, 2, none⟩ = some (.int .i64 d3)) ∧ (W'.cell? ⟨k2, 0, none⟩ = some (.int .i64 f1) ∧ W'.cell? ⟨k2, 1, none⟩ = some (.int .i64 f2) ∧ W'.cell? ⟨k2, 2, none⟩ = some (.int .i64 f3)) ∧ (W'.cell? ⟨k3, 0, none⟩ = some (.int .i64 g1) ∧ W'.cell? ⟨k3, 1, none⟩ = some (.int .i64 g2) ∧ W'.cell? ⟨k3, 2, none⟩ = some (.int .i64 g3))) := fun W' hb' => by
      have z1 := yu.below hb' yu.lt
      have z2 := k18.below hb' k18.lt
      have z3 := k19.below hb' k19.lt
      have z4 := k20.below hb' k20.lt
      exact ⟨⟨z1.cell 0 rfl, z1.cell 1 rfl, z1.cell 2 rfl⟩, ⟨z2.cell 0 rfl, z2.cell 1 rfl, z2.cell 2 rfl⟩, ⟨z3.cell 0 rfl, z3.cell 1 rfl, z3.cell 2 rfl⟩, ⟨z4.cell 0 rfl, z4.cell 1 rfl, z4.cell 2 rfl⟩⟩
    have t1 := yu.lt
    have t2 := k18.lt
    have t3 := k19.lt
    have t4 := k20.lt
    obtain ⟨⟨u0, u1', u2'⟩, ⟨d0, d1', d2'⟩, ⟨f0, f1', f2'⟩, ⟨g0, g1', g2'⟩⟩ := HK.out W (Below.refl _ _)
    clear yu k18 k19 k20
    go_wp2
    have hR1 : Below W.heap.size W W := Below.refl _ _
    go_region_held3 (fun w' => (w'.cell? ⟨w1.heap.size, 0, none⟩ = some (.int .i64 u1) ∧ w'.cell? ⟨w1.heap.size, 1, none⟩ = some (.int .i64 u2) ∧ w'.cell? ⟨w1.heap.size, 2, none⟩ = some (.int .i64 u3)) ∧ (w'.cell? ⟨k1, 0, none⟩ = some (.int .i64 d1) ∧ w'.cell? ⟨k1, 1, none⟩ = some (.int .i64 d2) ∧ w'.cell? ⟨k1, 2, none⟩ = some (.int .i64 d3)) ∧ (w'.cell? ⟨k2, 0, none⟩ = some (.int .i64 f1) ∧ w'.cell? ⟨k2, 1, none⟩ = some (.int .i64 f2) ∧ w'.cell? ⟨k2, 2, none⟩ = some (.int .i64 f3)) ∧ (w'.cell? ⟨k3, 0, none⟩ = some (.int .i64 g1) ∧ w'.cell? ⟨k3, 1, none⟩ = some (.int .i64 g2) ∧ w'.cell? ⟨k3, 2, none⟩ = some (.int .i64 g3)))
      (first | go_keep | (refine ⟨⟨?_, ?_, ?_⟩, ⟨?_, ?_, ?_⟩, ⟨?_, ?_, ?_⟩, ⟨?_, ?_, ?_⟩⟩ <;> first | assumption | go_keep))
      (first | (go_at_call 82; ((with_reducible refine (cross_b (A := 1000) (B := 1000) (a := d1) (x := f1) _ Hd.out Hf.out (by omega)).mono ?_); rintro e w2 ⟨n1, n2, n3, rfl, HN, hv2, hb2, hz2⟩); clear hz2; have hR2 : Below W.heap.size W w2 := hR1.trans (Below.mono (Below.trans (by repeat (first | with_reducible exact Below.refl _ _ | with_reducible assumption | with_reducible refine Below.drew ?_ | with_reducible refine below_drewN ?_ _ | (with_reducible refine Below.alloc ?_ ?_ _; rotate_left; (try simp) <;> omega) | (with_reducible refine Below.setCell ?_ ?_ _; rotate_left; (try simp) <;> omega))) hb2) hR1.size); have r2 := hR2.size; obtain ⟨⟨c0, c1, c2⟩, ⟨c3, c4, c5⟩, ⟨c6, c7, c8⟩, ⟨c9, c10, c11⟩⟩ := HK.out w2 hR2) | (go_at_call 46; ((with_reducible refine (times_b (A := 2000000) (B := 1000) (a := n1) _ hv2 Hg.out (by omega)).mono ?_); rintro e w3 ⟨y, rfl, HY, hv3, hb3, hz3⟩); clear hz3; have hR3 : Below W.heap.size W w3 := hR2.trans (Below.mono (Below.trans (by repeat (first | with_reducible exact Below.refl _ _ | with_reducible assumption | with_reducible refine Below.drew ?_ | with_reducible refine below_drewN ?_ _ | (with_reducible refine Below.alloc ?_ ?_ _; rotate_left; (try simp) <;> omega) | (with_reducible refine Below.setCell ?_ ?_ _; rotate_left; (try simp) <;> omega))) hb3) hR2.size); have r3 := hR3.size; obtain ⟨⟨c0, c1, c2⟩, ⟨c3, c4, c5⟩, ⟨c6, c7, c8⟩, ⟨c9, c10, c11⟩⟩ := HK.out w3 hR3))
    all_goals
      have hyb : -6000000000 ≤ y ∧ y ≤ 6000000000 := by have := hv3; unfold ab at this; omega
      have hB3 : Below w.heap.size w w3 := hBW.trans (hR3.mono hBW.size)
      have q1' : w1.heap.size < w3.heap.size := by omega
      have q2' : k1 < w3.heap.size := by omega
      have q3' : k2 < w3.heap.size := by omega
      have q4' : k3 < w3.heap.size := by omega
      have HE3 := Lib.hid (fun e1 e2 e3 pp h1 h2 h3 qq m1 m2 m3 rr => HE2.out n1 n2 n3 y e1 e2 e3 pp h1 h2 h3 qq m1 m2 m3 rr HN.out HY.out)
      clear HE2 hv2 hv3 HN HY t1 t2 t3 t4 u0 u1' u2' d0 d1' d2' f0 f1' f2' g0 g1' g2' hb2 hb3
      obtain ⟨hyb1, hyb2⟩ := hyb
      by_cases hy0 : y = 0
      · have hyn : (y == 0) = true := by rw [hy0]; rfl
        have HY0 := Lib.hid hy0
        clear hy0
        go_wp2
        go_ret2
        refine w_none (by rw [HE3.out _ _ _ _ _ _ _ _ _ _ _ _ ⟨rfl, rfl, rfl⟩ rfl ⟨rfl, rfl, rfl⟩ rfl ⟨rfl, rfl, rfl⟩ rfl, if_pos HY0.out]) (by omega) (by omega) ?_
        exact (by repeat (first | with_reducible exact Below.refl _ _ | with_reducible assumption | with_reducible refine Below.drew ?_ | with_reducible refine below_drewN ?_ _ | (with_reducible refine Below.alloc ?_ ?_ _; rotate_left; (try simp) <;> omega) | (with_reducible refine Below.setCell ?_ ?_ _; rotate_left; (try simp) <;> omega)))
      · have hyn : (y == 0) = false := by rw [beq_eq_false_iff_ne]; exact hy0
        have HY0 := Lib.hid hy0
        clear hy0
        go_wp2
        go_region_held3 (fun w' => (w'.cell? ⟨w1.heap.size, 0, none⟩ = some (.int .i64 u1) ∧ w'.cell? ⟨w1.heap.size, 1, none⟩ = some (.int .i64 u2) ∧ w'.cell? ⟨w1.heap.size, 2, none⟩ = some (.int .i64 u3)) ∧ (w'.cell? ⟨k1, 0, none⟩ = some (.int .i64 d1) ∧ w'.cell? ⟨k1, 1, none⟩ = some (.int .i64 d2) ∧ w'.cell? ⟨k1, 2, none⟩ = some (.int .i64 d3)) ∧ (w'.cell? ⟨k2, 0, none⟩ = some (.int .i64 f1) ∧ w'.cell? ⟨k2, 1, none⟩ = some (.int .i64 f2) ∧ w'.cell? ⟨k2, 2, none⟩ = some (.int .i64 f3)) ∧ (w'.cell? ⟨k3, 0, none⟩ = some (.int .i64 g1) ∧ w'.cell? ⟨k3, 1, none⟩ = some (.int .i64 g2) ∧ w'.cell? ⟨k3, 2, none⟩ = some (.int .i64 g3)))
          (first | go_keep | (refine ⟨⟨?_, ?_, ?_⟩, ⟨?_, ?_, ?_⟩, ⟨?_, ?_, ?_⟩, ⟨?_, ?_, ?_⟩⟩ <;> first | assumption | go_keep))
          (first | (go_at_call 82; ((with_reducible refine (cross_b (A := 1000) (B := 1000) (a := u1) (x := f1) _ Hu.out Hf.out (by omega)).mono ?_); rintro e w4 ⟨e1, e2, e3, rfl, HC1, hv4, hb4, hz4⟩); clear hz4; have hR4 : Below W.heap.size W w4 := hR3.trans (Below.mono (Below.trans (by repeat (first | with_reducible exact Below.refl _ _ | with_reducible assumption | with_reducible refine Below.drew ?_ | with_reducible refine below_drewN ?_ _ | (with_reducible refine Below.alloc ?_ ?_ _; rotate_left; (try simp) <;> omega) | (with_reducible refine Below.setCell ?_ ?_ _; rotate_left; (try simp) <;> omega))) hb4) hR3.size); have r4 := hR4.size; obtain ⟨⟨c0, c1, c2⟩, ⟨c3, c4, c5⟩, ⟨c6, c7, c8⟩, ⟨c9, c10, c11⟩⟩ := HK.out w4 hR4) | (go_at_call 82; ((with_reducible refine (cross_b (A := 1000) (B := 1000) (a := d1) (x := u1) _ Hd.out Hu.out (by omega)).mono ?_); rintro e w6 ⟨h1, h2, h3, rfl, HC2, hv6, hb6, hz6⟩); clear hz6; have hR6 : Below W.heap.size W w6 := hR5.trans (Below.mono (Below.trans (by repeat (first | with_reducible exact Below.refl _ _ | with_reducible assumption | with_reducible refine Below.drew ?_ | with_reducible refine below_drewN ?_ _ | (with_reducible refine Below.alloc ?_ ?_ _; rotate_left; (try simp) <;> omega) | (with_reducible refine Below.setCell ?_ ?_ _; rotate_left; (try simp) <;> omega))) hb6) hR5.size); have r6 := hR6.size; obtain ⟨⟨c0, c1, c2⟩, ⟨c3, c4, c5⟩, ⟨c6, c7, c8⟩, ⟨c9, c10, c11⟩⟩ := HK.out w6 hR6) | (go_at_call 82; ((with_reducible refine (cross_b (A := 1000) (B := 1000) (a := d1) (x := f1) _ Hd.out Hf.out (by omega)).mono ?_); rintro e w8 ⟨m1, m2, m3, rfl, HC3, hv8, hb8, hz8⟩); clear hz8; have hR8 : Below W.heap.size W w8 := hR7.trans (Below.mono (Below.trans (by repeat (first | with_reducible exact Below.refl _ _ | with_reducible assumption | with_reducible refine Below.drew ?_ | with_reducible refine below_drewN ?_ _ | (with_reducible refine Below.alloc ?_ ?_ _; rotate_left; (try simp) <;> omega) | (with_reducible refine Below.setCell ?_ ?_ _; rotate_left; (try simp) <;> omega))) hb8) hR7.size); have r8 := hR8.size; obtain ⟨⟨c0, c1, c2⟩, ⟨c3, c4, c5⟩, ⟨c6, c7, c8⟩, ⟨c9, c10, c11⟩⟩ := HK.out w8 hR8) | (go_at_call 46; ((with_reducible refine (times_b (A := 2000000) (B := 1000) (a := e1) _ hv4 Hg.out (by omega)).mono ?_); rintro e w5 ⟨pp, rfl, HP, hv5, hb5, hz5⟩); clear hz5; have hR5 : Below W.heap.size W w5 := hR4.trans (Below.mono (Below.trans (by repeat (first | with_reducible exact Below.refl _ _ | with_reducible assumption | with_reducible refine Below.drew ?_ | with_reducible refine below_drewN ?_ _ | (with_reducible refine Below.alloc ?_ ?_ _; rotate_left; (try simp) <;> omega) | (with_reducible refine Below.setCell ?_ ?_ _; rotate_left; (try simp) <;> omega))) hb5) hR4.size); have r5 := hR5.size; obtain ⟨⟨c0, c1, c2⟩, ⟨c3, c4, c5⟩, ⟨c6, c7, c8⟩, ⟨c9, c10, c11⟩⟩ := HK.out w5 hR5) | (go_at_call 46; ((with_reducible refine (times_b (A := 2000000) (B := 1000) (a := h1) _ hv6 Hg.out (by omega)).mono ?_); rintro e w7 ⟨qq, rfl, HQ, hv7, hb7, hz7⟩); clear hz7; have hR7 : Below W.heap.size W w7 := hR6.trans (Below.mono (Below.trans (by repeat (first | with_reducible exact Below.refl _ _ | with_reducible assumption | with_reducible refine Below.drew ?_ | with_reducible refine below_drewN ?_ _ | (with_reducible refine Below.alloc ?_ ?_ _; rotate_left; (try simp) <;> omega) | (with_reducible refine Below.setCell ?_ ?_ _; rotate_left; (try simp) <;> omega))) hb7) hR6.size); have r7 := hR7.size; obtain ⟨⟨c0, c1, c2⟩, ⟨c3, c4, c5⟩, ⟨c6, c7, c8⟩, ⟨c9, c10, c11⟩⟩ := HK.out w7 hR7) | (go_at_call 46; ((with_reducible refine (times_b (A := 2000000) (B := 1000) (a := m1) _ hv8 Hu.out (by omega)).mono ?_); rintro e w9 ⟨rr, rfl, HRR, hv9, hb9, hz9⟩); clear hz9; have hR9 : Below W.heap.size W w9 := hR8.trans (Below.mono (Below.trans (by repeat (first | with_reducible exact Below.refl _ _ | with_reducible assumption | with_reducible refine Below.drew ?_ | with_reducible refine below_drewN ?_ _ | (with_reducible refine Below.alloc ?_ ?_ _; rotate_left; (try simp) <;> omega) | (with_reducible refine Below.setCell ?_ ?_ _; rotate_left; (try simp) <;> omega))) hb9) hR8.size); have r9 := hR9.size; obtain ⟨⟨c0, c1, c2⟩, ⟨c3, c4, c5⟩, ⟨c6, c7, c8⟩, ⟨c9, c10, c11⟩⟩ := HK.out w9 hR9))
        all_goals
          have HE4 := Lib.hid (HE3.out _ _ _ pp _ _ _ qq _ _ _ rr HC1.out HP.out HC2.out HQ.out HC3.out HRR.out)
          have hpb : -6000000000 ≤ pp ∧ pp ≤ 6000000000 := by have := hv5; unfold ab at this; omega
          have hqb : -6000000000 ≤ qq ∧ qq ≤ 6000000000 := by have := hv7; unfold ab at this; omega
          have hrb : -6000000000 ≤ rr ∧ rr ≤ 6000000000 := by have := hv9; unfold ab at this; omega
          have hB9 : Below w.heap.size w w9 := hBW.trans (hR9.mono hBW.size)
          have hz9 := hB9.size
          clear HC1 HC2 HC3 HP HQ HRR HE3 hv4 hv5 hv6 hv7 hv8 hv9 HK hR1 hR2 hR3 hR4 hR5 hR6 hR7 hR8 hR9 hb4 hb5 hb6 hb7 hb8 hb9 c0 c1 c2 c3 c4 c5 c6 c7 c8 c9 c10 c11 Hu Hd Hf Hg
          obtain ⟨hpb1, hpb2⟩ := hpb
          obtain ⟨hqb1, hqb2⟩ := hqb
          obtain ⟨hrb1, hrb2⟩ := hrb
          by_cases hyl : y < 0
          · have HYL := Lib.hid hyl
            go_wp2
            go_ret2
            refine w_end (l := [-y - -pp - -qq - -rr, -pp, -qq, -rr]) ?hE rfl ?hL (by omega) (by omega) ?hB
            case hE => rw [HE4.out, if_neg HY0.out, if_pos HYL.out]; rfl
            case hL => exact Lies.fresh rfl (by simp) (by simp) (by simp [ints])
            case hB => exact (by repeat (first | with_reducible exact Below.refl _ _ | with_reducible assumption | with_reducible refine Below.drew ?_ | with_reducible refine below_drewN ?_ _ | (with_reducible refine Below.alloc ?_ ?_ _; rotate_left; (try simp) <;> omega) | (with_reducible refine Below.setCell ?_ ?_ _; rotate_left; (try simp) <;> omega)))
          · have HYL := Lib.hid hyl
            go_wp2
            go_ret2
            refine w_end (l := [y - pp - qq - rr, pp, qq, rr]) ?hE rfl ?hL (by omega) (by omega) ?hB
            case hE => rw [HE4.out, if_neg HY0.out, if_neg (by have := HYL.out; omega)]; rfl
            case hL => exact Lies.fresh rfl (by simp) (by simp) rfl
            case hB => exact (by repeat (first | with_reducible exact Below.refl _ _ | with_reducible assumption | with_reducible refine Below.drew ?_ | with_reducible refine below_drewN ?_ _ | (with_reducible refine Below.alloc ?_ ?_ _; rotate_left; (try simp) <;> omega) | (with_reducible refine Below.setCell ?_ ?_ _; rotate_left; (try simp) <;> omega)))
end Go.Proofs.Ytkjceegmmhnajaa

namespace Go.Proofs.Ytkjceegmmhnajaa
open Go.RowKit
section
variable {P : Program} {ops : Array Oper} {Q : Exit → Act → World → Prop} {S : World → Prop}
/-- the frame behind it -/
def putCP (T : Array Value) (kc kp : Nat) (v u : Value) : Array Value := (T.setIfInBounds kc v).setIfInBounds kp u
theorem box_laid {fuel : Nat} {listed : Array Bool} {T args R Z : Array Value} {f : FuncId} {ty : TypeId} {w0 : World} (c p s kc kp : Nat) (hkk : kc ≠ kp)
    (hcall : ∃ o, ops[c]? = some o ∧ o.guard = none ∧ o.dst = some kc ∧ (∀ w, (execOp (Act.eval { tmps := T, defers := [] }) o).run P w = .ok (.enter f args) w) ∧ ∀ u w, (execOp (Act.eval { tmps := T.setIfInBounds kp u, defers := [] }) o).run P w = .ok (.enter f args) w)
    (halloc : ∃ o, ops[p]? = some o ∧ o.guard = none ∧ o.dst = some kp ∧ ∀ (a : Act) w, (execOp a.eval o).run P w = .ok (.value (.pointer (some ⟨w.heap.size, 0, none⟩))) (w.alloc (.cells Z ty)))
    (hstore : ∃ o, ops[s]? = some o ∧ o.guard = none ∧ o.dst = none ∧ ∀ w g, Bk w g ty Z → ∃ w', (execOp (Act.eval { tmps := putCP T kc kp (.agg R) (.pointer (some ⟨g, 0, none⟩)), defers := [] }) o).run P w = .ok .skip w' ∧ Bk w' g ty R ∧ ∀ (B : Nat) (v : World), B ≤ g → Below B v w → Below B v w')
    (hr0 : Region.ready .any ops listed = [c, p]) (hr1 : Region.ready .any ops (listed.setIfInBounds c true) = [p]) (hr2 : Region.ready .any ops (listed.setIfInBounds p true) = [c]) (hr3 : Region.ready .any ops ((listed.setIfInBounds c true).setIfInBounds p true) = [s]) (hr4 : Region.ready .any ops ((listed.setIfInBounds p true).setIfInBounds c true) = [s])
    (hr5 : Region.ready .any ops (((listed.setIfInBounds c true).setIfInBounds p true).setIfInBounds s true) = []) (hr6 : Region.ready .any ops (((listed.setIfInBounds p true).setIfInBounds c true).setIfInBounds s true) = [])
    (hS : ∀ W, Below w0.heap.size w0 W → S W) (hC : ∀ W, Below w0.heap.size w0 W → Calls P f args W fun e w' => e = .returned (.agg R) ∧ Below W.heap.size W w')
    (hK : ∀ g W, Below w0.heap.size w0 W → w0.heap.size ≤ g → Bk W g ty R → Q .normal { tmps := putCP T kc kp (.agg R) (.pointer (some ⟨g, 0, none⟩)), defers := [] } W) : wpAnyH P .any ops Q S (fuel + 3) listed { tmps := T, defers := [] } w0 := by
  obtain ⟨oc, c1, c2, c3, c4, c5⟩ := hcall
  obtain ⟨op, p1, p2, p3, p4⟩ := halloc
  obtain ⟨os, s1, s2, s3, s4⟩ := hstore
  have fin : ∀ (l : Array Bool) (g : Nat) (W : World), Region.ready .any ops l = [s] → Region.ready .any ops (l.setIfInBounds s true) = [] → Below w0.heap.size w0 W → w0.heap.size ≤ g → Bk W g ty Z → wpAnyH P .any ops Q S (fuel + 1) l { tmps := putCP T kc kp (.agg R) (.pointer (some ⟨g, 0, none⟩)), defers := [] } W := fun l g W h1 h2 hb hg hk => by
    refine wpAnyH_all h1 (by simp) fun j hj => ?_
    obtain rfl : j = s := by simpa using hj
    obtain ⟨w', q1, q2, q3⟩ := s4 W g hk
    refine held_plain s1 s2 (oper_skip q1 ?_)
    rw [s3]
    have hb' := q3 _ _ hg hb
    refine ⟨hS _ hb', ?_⟩
    cases fuel with
    | zero => exact ⟨h2, hK g _ hb' hg q2⟩
    | succ n => exact ⟨fun _ => hK g _ hb' hg q2, by rw [h2]; simp⟩
  refine wpAnyH_all hr0 (by simp) fun j hj => ?_
  have hj' : j = c ∨ j = p := by simpa using hj
  rcases hj' with rfl | rfl
  · refine held_plain c1 c2 (oper_call (c4 w0) (hC w0 (Below.refl _ _)) fun e w1 ⟨he, hb1⟩ => ⟨_, he, hS _ hb1, ?_⟩)
    refine wpAnyH_all hr1 (by simp) fun j hj => ?_
    obtain rfl : j = p := by simpa using hj
    refine held_plain p1 p2 (oper_run (p4 _ w1) ?_)
    have hb2 : Below w0.heap.size w0 (w1.alloc (.cells Z ty)) := hb1.alloc hb1.size _
    refine ⟨hS _ hb2, ?_⟩
    rw [c3, p3]
    exact fin _ w1.heap.size _ hr3 hr5 hb2 hb1.size (Bk.new _ _ _)
  · refine held_plain p1 p2 (oper_run (p4 _ w0) ?_)
    have hb1 : Below w0.heap.size w0 (w0.alloc (.cells Z ty)) := (Below.refl _ _).alloc (Nat.le_refl _) _
    refine ⟨hS _ hb1, ?_⟩
    refine wpAnyH_all hr2 (by simp) fun j hj => ?_
    obtain rfl : j = c := by simpa using hj
    have kz : Bk (w0.alloc (.cells Z ty)) w0.heap.size ty Z := Bk.new _ _ _
    refine held_plain c1 c2 (oper_call (by rw [p3]; exact c5 _ _) (hC _ hb1) fun e w1 ⟨he, hb2⟩ => ⟨_, he, hS _ (hb1.trans (hb2.mono hb1.size)), ?_⟩)
    rw [c3, p3]
    have e : (T.setIfInBounds kp (.pointer (some ⟨w0.heap.size, 0, none⟩))).setIfInBounds kc (.agg R) = putCP T kc kp (.agg R) (.pointer (some ⟨w0.heap.size, 0, none⟩)) := by
      unfold putCP; rw [Array.setIfInBounds_comm _ _ (fun h => hkk h.symm)]
    show wpAnyH P .any ops Q S (fuel + 1) _ { tmps := (T.setIfInBounds kp (.pointer (some ⟨w0.heap.size, 0, none⟩))).setIfInBounds kc (.agg R), defers := [] } w1
    rw [e]
    exact fin _ w0.heap.size _ hr4 hr6 (hb1.trans (hb2.mono hb1.size)) (Nat.le_refl _) (kz.below hb2 kz.lt)
end
end Go.Proofs.Ytkjceegmmhnajaa

namespace Go.Proofs.Ytkjceegmmhnajaa
open Go.RowKit

section
variable {F : Fence} {n : Nat} {P : Program} {α : Type}
/-- the iterator's word: it hands over elements of which Pre holds -/
def SeqP (F : Fence) (n : Nat) (P : Program) (g : Nat) (lb : Array Value) (encs : α → Array Value) (Pre : α → World → Prop) (Kp : World → World → Prop) (S Sp : List α → Prop) (N : Nat) (w : World) : Prop :=
  ∀ (l : Nat) (J Jx : List α → World → Prop) (W : World), l < W.heap.size → Below w.heap.size w W → OwnFrom W.heap.size J → OwnFrom W.heap.size Jx →
    (∀ pre x W1, J pre W1 → Pre x W1 → pre.length < N → YieldAt F (n - 1) P l (encs x) W1 fun e W' => (e = .returned (.bool true) ∧ J (pre ++ [x]) W' ∧ Kp W1 W' ∧ KeepsFrom (l + 1) W1 W') ∨ (e = .returned (.bool false) ∧ Jx (pre ++ [x]) W' ∧ Kp W1 W' ∧ KeepsFrom (l + 1) W1 W')) →
    J [] W → CallsIn F n P g (#[.func (.yield l) #[] #[]] ++ lb) W fun e W' => (∃ v, e = .returned v) ∧ ((∃ xs, S xs ∧ J xs W') ∨ (∃ pre, Sp pre ∧ Jx pre W'))
/-- the round's word: it keeps what it must, whichever way it ends -/
def roundPost (B : Nat) (Kp : World → World → Prop) (I : List α → World → Prop) (Ix : Code → List α → World → Prop) (xs : List α) (W : World) : Exit → Act → World → Prop
  | .normal, _, W' => KeepsFrom B W W' ∧ Kp W W' ∧ I xs W'
  | .ret, _, W' => KeepsFrom B W W' ∧ Kp W W' ∧ Ix .ret xs W'
  | .exit id, _, W' => KeepsFrom B W W' ∧ Kp W W' ∧ Ix (.exit id) xs W'
  | .goto t, _, W' => KeepsFrom B W W' ∧ Kp W W' ∧ Ix (.goto t) xs W'
  | _, _, _ => False
/-- the loop's record, in a state -/
abbrev recAt (fn : FuncId) (a : Act) (ps : Array Tmp) (assign body : Code) (d : Nat) (st : LoopState) (pe : Option Code) : Loop := { state := st, pending := pe, fn, tmps := a.tmps, params := ps, assign, body, defers := d }
theorem rangeFunc_pre {g : Operand} {ps : Array Tmp} {assign body : Code} {Q : Exit → Act → World → Prop} {a : Act} {w w0 : World} (hro : F.round = none) (h1 : 1 ≤ n) {gf : Nat} {lb : Array Value} (hg : a.eval g = .func (.func gf) #[] lb) (hFg : F.fn gf)
    (eg : ∀ args w, (callFunc gf args).run P w = .ok (.enter gf args) w) {encs : α → Array Value} {Pre : α → World → Prop} {Kp : World → World → Prop} {S Sp : List α → Prop} {N : Nat} (hseq : SeqP F (n - 1) P gf lb encs Pre Kp S Sp N w0)
    (hKt : ∀ {A B C : World}, Kp A B → Kp B C → Kp A C) (hKb : ∀ (W : World) (l : Nat) (o o' : Obj), w.heap.size ≤ l → W.heap[l]? = some o → o.isCells = false → o.isWalk = false → Kp W (W.putObj l o')) (hb0 : Below w0.heap.size w0 w) (hps : ∀ x, (encs x).size = ps.size)
    (I : List α → World → Prop) (Ix : Code → List α → World → Prop) (hI : OwnFrom w.heap.size I) (hIx : ∀ c, OwnFrom w.heap.size (Ix c)) (hPre : OwnFrom w.heap.size Pre) (h0 : I [] w) (a₁ : α → Act)
    (hassign : ∀ (l : Nat) (x : α) (W : World) (K : Act → World → Prop), K (a₁ x) W → assign.wpIn (F.inRound l) (n - 1 - 1) P (Exit.then K (fun _ _ _ => False)) { tmps := (ps.zip (encs x)).foldl (fun t (p, v) => t.setIfInBounds p v) a.tmps, defers := [] } W)
    (hbody : ∀ (l : Nat) (pre : List α) (x : α) (W : World), I pre W → Pre x W → pre.length < N → body.wpIn (F.inRound l) (n - 1 - 1) P (roundPost w.heap.size Kp I Ix (pre ++ [x]) W) (a₁ x) W)
    (hdone : ∀ (D : Nat) (xs : List α) (W : World), w.heap.size ≤ D → S xs → I xs W → W.heap[D]? = some (.deferred (some [])) → Q .normal { a with defers := { target := .collected D, args := #[] } :: a.defers } W)
    (hstop : ∀ (D : Nat) (c : Code) (pre : List α) (W : World), w.heap.size ≤ D → Sp pre → Ix c pre W → W.heap[D]? = some (.deferred (some [])) → c.wpIn F n P Q { a with defers := { target := .collected D, args := #[] } :: a.defers } W) :
    (Code.rangeFunc g ps assign body).wpIn F n P Q a w := by
  refine wpIn_rangeFunc fun fn hfn => ?_
  rw [hro]
  let R := recAt fn a ps assign body w.heap.size
  let D := w.heap.size
  let l := w.heap.size + 1
  have hW : ∃ W1, (w.alloc (.deferred (some []))).alloc (.loop (R .ready none)) = W1 := ⟨_, rfl⟩
  obtain ⟨W1, hW1⟩ := hW
  have z1 : W1.heap.size = w.heap.size + 2 := by rw [← hW1]; simp
  have q1 : W1.heap[l]? = some (.loop (R .ready none)) := by
    have := World.alloc_heap_new (w.alloc (.deferred (some []))) (.loop (R .ready none))
    rw [World.size_alloc, hW1] at this
    exact this
  have q2 : W1.heap[D]? = some (.deferred (some [])) := by rw [← hW1]; exact (Below.heap_alloc _ _ _ (by simp [D])).trans (World.alloc_heap_new w _)
  have q3 : Below w0.heap.size w0 W1 := by rw [← hW1]; exact hb0.trans ((((Below.refl _ w).alloc (Nat.le_refl _) _).alloc (by simp) _).mono hb0.size)
  have q4 : I [] W1 := by rw [← hW1]; exact hI.alloc _ (hI.alloc _ h0)
  refine ⟨l, [{ target := .collected D, args := #[] }], W1, { target := .fn (.func gf) lb, args := #[.func (.yield l) #[] #[]] }, W1, gf, #[.func (.yield l) #[] #[]] ++ lb, W1, by rw [← hW1]; exact run_enterLoop_outer _ _ _ _ _, by simp only [resolve, hg]; simp [go_sem, l], fun f' hf' => by simp [Target.leads] at hf'; subst hf'; exact hFg, by simp [invoke, go_sem, eg], fun _ => h1, ?_⟩
  -- what the iterator turns is no cells and lies behind
  have turn : ∀ {A : World} {row : Option Nat}, (∀ r, row = some r → W1.heap.size ≤ r ∧ ∃ o : Obj, A.heap[r]? = some o ∧ o.isCells = false) → ∀ r, row = some r → w.heap.size ≤ r ∧ ∃ o : Obj, A.heap[r]? = some o ∧ o.isCells = false := fun hr r e => ⟨by have := (hr r e).1; omega, (hr r e).2⟩
  have held : ∀ {A B : World} {row : Option Nat} {k : Nat} {o : Obj}, A.grownBy B row → (∀ r, row = some r → W1.heap.size ≤ r ∧ ∃ o : Obj, A.heap[r]? = some o ∧ o.isCells = false) → k < W1.heap.size → A.heap[k]? = some o → B.heap[k]? = some o := fun hg' hr hlt hk => (hg'.block _ (Array.getElem?_eq_some_iff.1 hk).1 (fun e => by have := (hr _ e.symm).1; omega)).trans hk
  have hl1 : l < W1.heap.size := by simp [l]; omega
  have hD1 : D < W1.heap.size := by simp [D]; omega
  refine CallsIn.mono (hseq l (fun pre W => I pre W ∧ W.heap[l]? = some (.loop (R .ready none)) ∧ W.heap[D]? = some (.deferred (some []))) (fun pre W => ∃ c, Ix c pre W ∧ W.heap[l]? = some (.loop (R .done (some c))) ∧ W.heap[D]? = some (.deferred (some []))) W1 hl1 q3
    (fun s A B row hs hg' hr => ⟨hI s A B row hs.1 hg' (turn hr), held hg' hr hl1 hs.2.1, held hg' hr hD1 hs.2.2⟩) (fun s A B row ⟨c, hc, hl, hk⟩ hg' hr => ⟨c, hIx c s A B row hc hg' (turn hr), held hg' hr hl1 hl, held hg' hr hD1 hk⟩) ?_ ⟨q4, q1, q2⟩) ?_
  · rintro pre x W ⟨hi, hl, hk⟩ hpx hlen
    have hlt : l < W.heap.size := (Array.getElem?_eq_some_iff.1 hl).1
    let Wb := W.putObj l (.loop { R .ready none with state := .busy })
    have b1 : Wb.heap[l]? = some (.loop { R .ready none with state := .busy }) := World.putObj_heap_same hlt
    have b2 : Wb.heap[D]? = some (.deferred (some [])) := (World.putObj_heap_other (by simp [l, D])).trans hk
    refine ⟨fn, _, assign, body, run_yield (P := P) (args := encs x) hl (hps x), roundIn_of_wpIn hfn (hassign _ x W _ ⟨_, run_beginRound hl rfl, ?_⟩)⟩
    have turned : ∀ (W3 : World) (o : Obj), KeepsFrom w.heap.size Wb W3 → KeepsFrom (l + 1) W (W3.putObj l o) := fun W3 o h => ⟨by have := h.size; simp [Wb] at this ⊢; exact this, fun k x hk hx hc => by
      rw [World.putObj_heap_other (by omega)]
      exact h.same k x (by simp [l] at hk; omega) ((World.putObj_heap_other (by omega)).trans hx) hc⟩
    have over : ∀ (jump : Option Code) (W3 : World), KeepsFrom w.heap.size Wb W3 → W3.heap[l]? = some (.loop { R .ready none with state := .busy }) ∧ (Instr.endRound l jump).run P W3 = .ok (.bool jump.isNone) (W3.putObj l (.loop (R (if jump.isNone then .ready else .done) jump)))
        ∧ (W3.putObj l (.loop (R (if jump.isNone then .ready else .done) jump))).heap[l]? = some (.loop (R (if jump.isNone then .ready else .done) jump)) ∧ (W3.putObj l (.loop (R (if jump.isNone then .ready else .done) jump))).heap[D]? = some (.deferred (some [])) := fun jump W3 h => by
      have c1 := h.same _ _ (by simp [l]) b1 rfl
      exact ⟨c1, run_endRound (P := P) jump c1, World.putObj_heap_same (Array.getElem?_eq_some_iff.1 c1).1, (World.putObj_heap_other (by simp [l, D])).trans (h.same _ _ (by simp [D]) b2 rfl)⟩
    have left : ∀ (c : Code) (a3 : Act) (W3 : World), KeepsFrom w.heap.size Wb W3 → Kp Wb W3 → Ix c (pre ++ [x]) W3 → ∃ v W4, (Instr.endRound l (some c)).run P W3 = .ok v W4 ∧ ((Ending.returned v = .returned (.bool true) ∧ (I (pre ++ [x]) W4 ∧ W4.heap[l]? = some (.loop (R .ready none)) ∧ W4.heap[D]? = some (.deferred (some []))) ∧ Kp W W4 ∧ KeepsFrom (l + 1) W W4) ∨ (Ending.returned v = .returned (.bool false) ∧ (∃ c, Ix c (pre ++ [x]) W4 ∧ W4.heap[l]? = some (.loop (R .done (some c))) ∧ W4.heap[D]? = some (.deferred (some []))) ∧ Kp W W4 ∧ KeepsFrom (l + 1) W W4)) := fun c a3 W3 hk3 hkp3 hi3 => by
      obtain ⟨c1, c2, c3, c4⟩ := over (some c) W3 hk3
      exact ⟨_, _, c2, .inr ⟨rfl, ⟨c, (hIx c).putObj _ hi3 (by simp [l]) c1 rfl, c3, c4⟩, hKt (hKt (hKb W l _ _ (by simp [l]) hl rfl rfl) hkp3) (hKb W3 l _ _ (by simp [l]) c1 rfl rfl), turned W3 _ hk3⟩⟩
    refine wpIn_mono (hbody _ pre x Wb (hI.putObj _ hi (by simp [l]) hl rfl) (hPre.putObj _ hpx (by simp [l]) hl rfl) hlen) ?_
    rintro e a3 W3 hp
    cases e with
    | normal =>
      obtain ⟨hk3, hkp3, hi3⟩ := hp
      obtain ⟨c1, c2, c3, c4⟩ := over none W3 hk3
      exact ⟨_, _, c2, .inl ⟨rfl, ⟨hI.putObj _ hi3 (by simp [l]) c1 rfl, c3, c4⟩, hKt (hKt (hKb W l _ _ (by simp [l]) hl rfl rfl) hkp3) (hKb W3 l _ _ (by simp [l]) c1 rfl rfl), turned W3 _ hk3⟩⟩
    | ret => exact left .ret a3 W3 hp.1 hp.2.1 hp.2.2
    | exit id => exact left (.exit id) a3 W3 hp.1 hp.2.1 hp.2.2
    | goto t => exact left (.goto t) a3 W3 hp.1 hp.2.1 hp.2.2
    | panic ch => exact hp.elim
    | outgrown => exact hp.elim
  · rintro e W2 ⟨⟨v, rfl⟩, (⟨xs, hS, hi, hl, hk⟩ | ⟨pre, hSp, c, hi, hl, hk⟩)⟩
    · exact ⟨none, _, run_endLoop (P := P) hl (by simp [R, recAt]), hdone _ xs _ (Nat.le_refl _) hS (hI.putObj _ hi (by simp [l]) hl rfl) ((World.putObj_heap_other (by simp [l, D])).trans hk)⟩
    · exact ⟨some c, _, run_endLoop (P := P) hl (by simp [R, recAt]), hstop _ c pre _ (Nat.le_refl _) hSp ((hIx c).putObj _ hi (by simp [l]) hl rfl) ((World.putObj_heap_other (by simp [l, D])).trans hk)⟩
theorem rangeFunc_box {g : Operand} {ps : Array Tmp} {assign body : Code} {Q : Exit → Act → World → Prop} {a : Act} {w w0 : World} (hro : F.round = none) (h1 : 1 ≤ n) {gf : Nat} {lb : Array Value} (hg : a.eval g = .func (.func gf) #[] lb) (hFg : F.fn gf)
    (eg : ∀ args w, (callFunc gf args).run P w = .ok (.enter gf args) w) {encs : α → Array Value} {Pre : α → World → Prop} {Kp : World → World → Prop} {S Sp : List α → Prop} {N : Nat} (hseq : SeqP F (n - 1) P gf lb encs Pre Kp S Sp N w0)
    (hKt : ∀ {A B C : World}, Kp A B → Kp B C → Kp A C) (hKb : ∀ (W : World) (l : Nat) (o o' : Obj), w.heap.size ≤ l → W.heap[l]? = some o → o.isCells = false → o.isWalk = false → Kp W (W.putObj l o')) (hb0 : Below w0.heap.size w0 w) (hps : ∀ x, (encs x).size = ps.size)
    (I : List α → World → Prop) (Ix : Code → List α → World → Prop) (hI : OwnFrom w.heap.size I) (hIx : ∀ c, OwnFrom w.heap.size (Ix c)) (hPre : OwnFrom w.heap.size Pre) (h0 : I [] w) (obj : α → Obj) (hKa : ∀ (W : World) (o : Obj), Kp W (W.alloc o)) (a₁ : α → Nat → Act)
    (hassign : ∀ (l : Nat) (x : α) (W : World) (K : Act → World → Prop), K (a₁ x W.heap.size) (W.alloc (obj x)) → assign.wpIn (F.inRound l) (n - 1 - 1) P (Exit.then K (fun _ _ _ => False)) { tmps := (ps.zip (encs x)).foldl (fun t (p, v) => t.setIfInBounds p v) a.tmps, defers := [] } W)
    (hbody : ∀ (l : Nat) (pre : List α) (x : α) (W : World) (k : Nat), w.heap.size ≤ k → W.heap[k]? = some (obj x) → I pre W → Pre x W → pre.length < N → body.wpIn (F.inRound l) (n - 1 - 1) P (roundPost w.heap.size Kp I Ix (pre ++ [x]) W) (a₁ x k) W)
    (hdone : ∀ (D : Nat) (xs : List α) (W : World), w.heap.size ≤ D → S xs → I xs W → W.heap[D]? = some (.deferred (some [])) → Q .normal { a with defers := { target := .collected D, args := #[] } :: a.defers } W)
    (hstop : ∀ (D : Nat) (c : Code) (pre : List α) (W : World), w.heap.size ≤ D → Sp pre → Ix c pre W → W.heap[D]? = some (.deferred (some [])) → c.wpIn F n P Q { a with defers := { target := .collected D, args := #[] } :: a.defers } W) :
    (Code.rangeFunc g ps assign body).wpIn F n P Q a w := by
  refine wpIn_rangeFunc fun fn hfn => ?_
  rw [hro]
  let R := recAt fn a ps assign body w.heap.size
  let D := w.heap.size
  let l := w.heap.size + 1
  have hW : ∃ W1, (w.alloc (.deferred (some []))).alloc (.loop (R .ready none)) = W1 := ⟨_, rfl⟩
  obtain ⟨W1, hW1⟩ := hW
  have z1 : W1.heap.size = w.heap.size + 2 := by rw [← hW1]; simp
  have q1 : W1.heap[l]? = some (.loop (R .ready none)) := by
    have := World.alloc_heap_new (w.alloc (.deferred (some []))) (.loop (R .ready none))
    rw [World.size_alloc, hW1] at this
    exact this
  have q2 : W1.heap[D]? = some (.deferred (some [])) := by rw [← hW1]; exact (Below.heap_alloc _ _ _ (by simp [D])).trans (World.alloc_heap_new w _)
  have q3 : Below w0.heap.size w0 W1 := by rw [← hW1]; exact hb0.trans ((((Below.refl _ w).alloc (Nat.le_refl _) _).alloc (by simp) _).mono hb0.size)
  have q4 : I [] W1 := by rw [← hW1]; exact hI.alloc _ (hI.alloc _ h0)
  refine ⟨l, [{ target := .collected D, args := #[] }], W1, { target := .fn (.func gf) lb, args := #[.func (.yield l) #[] #[]] }, W1, gf, #[.func (.yield l) #[] #[]] ++ lb, W1, by rw [← hW1]; exact run_enterLoop_outer _ _ _ _ _, by simp only [resolve, hg]; simp [go_sem, l], fun f' hf' => by simp [Target.leads] at hf'; subst hf'; exact hFg, by simp [invoke, go_sem, eg], fun _ => h1, ?_⟩
  -- what the iterator turns is no cells and lies behind
  have turn : ∀ {A : World} {row : Option Nat}, (∀ r, row = some r → W1.heap.size ≤ r ∧ ∃ o : Obj, A.heap[r]? = some o ∧ o.isCells = false) → ∀ r, row = some r → w.heap.size ≤ r ∧ ∃ o : Obj, A.heap[r]? = some o ∧ o.isCells = false := fun hr r e => ⟨by have := (hr r e).1; omega, (hr r e).2⟩
  have held : ∀ {A B : World} {row : Option Nat} {k : Nat} {o : Obj}, A.grownBy B row → (∀ r, row = some r → W1.heap.size ≤ r ∧ ∃ o : Obj, A.heap[r]? = some o ∧ o.isCells = false) → k < W1.heap.size → A.heap[k]? = some o → B.heap[k]? = some o := fun hg' hr hlt hk => (hg'.block _ (Array.getElem?_eq_some_iff.1 hk).1 (fun e => by have := (hr _ e.symm).1; omega)).trans hk
  have hl1 : l < W1.heap.size := by simp [l]; omega
  have hD1 : D < W1.heap.size := by simp [D]; omega
  refine CallsIn.mono (hseq l (fun pre W => I pre W ∧ W.heap[l]? = some (.loop (R .ready none)) ∧ W.heap[D]? = some (.deferred (some []))) (fun pre W => ∃ c, Ix c pre W ∧ W.heap[l]? = some (.loop (R .done (some c))) ∧ W.heap[D]? = some (.deferred (some []))) W1 hl1 q3
    (fun s A B row hs hg' hr => ⟨hI s A B row hs.1 hg' (turn hr), held hg' hr hl1 hs.2.1, held hg' hr hD1 hs.2.2⟩) (fun s A B row ⟨c, hc, hl, hk⟩ hg' hr => ⟨c, hIx c s A B row hc hg' (turn hr), held hg' hr hl1 hl, held hg' hr hD1 hk⟩) ?_ ⟨q4, q1, q2⟩) ?_
  · rintro pre x W0 ⟨hi0, hl0, hk0⟩ hpx0 hlen
    have hlt0 : l < W0.heap.size := (Array.getElem?_eq_some_iff.1 hl0).1
    have hltD : D < W0.heap.size := (Array.getElem?_eq_some_iff.1 hk0).1
    let W := W0.alloc (obj x)
    have hi : I pre W := hI.alloc _ hi0
    have hl : W.heap[l]? = some (.loop (R .ready none)) := (Below.heap_alloc _ _ _ hlt0).trans hl0
    have hk : W.heap[D]? = some (.deferred (some [])) := (Below.heap_alloc _ _ _ hltD).trans hk0
    have hpx : Pre x W := hPre.alloc _ hpx0
    have hsz : W.heap.size = W0.heap.size + 1 := by simp [W]
    have hbx : W.heap[W0.heap.size]? = some (obj x) := World.alloc_heap_new W0 (obj x)
    have hkf : KeepsFrom (l + 1) W0 W := ⟨by omega, fun k o _ h1 _ => (Below.heap_alloc _ _ _ (Array.getElem?_eq_some_iff.1 h1).1).trans h1⟩
    have hlt : l < W.heap.size := (Array.getElem?_eq_some_iff.1 hl).1
    let Wb := W.putObj l (.loop { R .ready none with state := .busy })
    have b1 : Wb.heap[l]? = some (.loop { R .ready none with state := .busy }) := World.putObj_heap_same hlt
    have b2 : Wb.heap[D]? = some (.deferred (some [])) := (World.putObj_heap_other (by simp [l, D])).trans hk
    refine ⟨fn, _, assign, body, run_yield (P := P) (args := encs x) hl0 (hps x), roundIn_of_wpIn hfn (hassign _ x W0 _ ⟨_, run_beginRound hl rfl, ?_⟩)⟩
    have turned : ∀ (W3 : World) (o : Obj), KeepsFrom w.heap.size Wb W3 → KeepsFrom (l + 1) W (W3.putObj l o) := fun W3 o h => ⟨by have := h.size; simp [Wb] at this ⊢; exact this, fun k x hk hx hc => by
      rw [World.putObj_heap_other (by omega)]
      exact h.same k x (by simp [l] at hk; omega) ((World.putObj_heap_other (by omega)).trans hx) hc⟩
    have over : ∀ (jump : Option Code) (W3 : World), KeepsFrom w.heap.size Wb W3 → W3.heap[l]? = some (.loop { R .ready none with state := .busy }) ∧ (Instr.endRound l jump).run P W3 = .ok (.bool jump.isNone) (W3.putObj l (.loop (R (if jump.isNone then .ready else .done) jump)))
        ∧ (W3.putObj l (.loop (R (if jump.isNone then .ready else .done) jump))).heap[l]? = some (.loop (R (if jump.isNone then .ready else .done) jump)) ∧ (W3.putObj l (.loop (R (if jump.isNone then .ready else .done) jump))).heap[D]? = some (.deferred (some [])) := fun jump W3 h => by
      have c1 := h.same _ _ (by simp [l]) b1 rfl
      exact ⟨c1, run_endRound (P := P) jump c1, World.putObj_heap_same (Array.getElem?_eq_some_iff.1 c1).1, (World.putObj_heap_other (by simp [l, D])).trans (h.same _ _ (by simp [D]) b2 rfl)⟩
    have left : ∀ (c : Code) (a3 : Act) (W3 : World), KeepsFrom w.heap.size Wb W3 → Kp Wb W3 → Ix c (pre ++ [x]) W3 → ∃ v W4, (Instr.endRound l (some c)).run P W3 = .ok v W4 ∧ ((Ending.returned v = .returned (.bool true) ∧ (I (pre ++ [x]) W4 ∧ W4.heap[l]? = some (.loop (R .ready none)) ∧ W4.heap[D]? = some (.deferred (some []))) ∧ Kp W0 W4 ∧ KeepsFrom (l + 1) W0 W4) ∨ (Ending.returned v = .returned (.bool false) ∧ (∃ c, Ix c (pre ++ [x]) W4 ∧ W4.heap[l]? = some (.loop (R .done (some c))) ∧ W4.heap[D]? = some (.deferred (some []))) ∧ Kp W0 W4 ∧ KeepsFrom (l + 1) W0 W4)) := fun c a3 W3 hk3 hkp3 hi3 => by
      obtain ⟨c1, c2, c3, c4⟩ := over (some c) W3 hk3
      exact ⟨_, _, c2, .inr ⟨rfl, ⟨c, (hIx c).putObj _ hi3 (by simp [l]) c1 rfl, c3, c4⟩, hKt (hKa W0 (obj x)) (hKt (hKt (hKb W l _ _ (by simp [l]) hl rfl rfl) hkp3) (hKb W3 l _ _ (by simp [l]) c1 rfl rfl)), hkf.trans (turned W3 _ hk3)⟩⟩
    refine wpIn_mono (hbody _ pre x Wb W0.heap.size (by omega) ((World.putObj_heap_other (by omega)).trans hbx) (hI.putObj _ hi (by simp [l]) hl rfl) (hPre.putObj _ hpx (by simp [l]) hl rfl) hlen) ?_
    rintro e a3 W3 hp
    cases e with
    | normal =>
      obtain ⟨hk3, hkp3, hi3⟩ := hp
      obtain ⟨c1, c2, c3, c4⟩ := over none W3 hk3
      exact ⟨_, _, c2, .inl ⟨rfl, ⟨hI.putObj _ hi3 (by simp [l]) c1 rfl, c3, c4⟩, hKt (hKa W0 (obj x)) (hKt (hKt (hKb W l _ _ (by simp [l]) hl rfl rfl) hkp3) (hKb W3 l _ _ (by simp [l]) c1 rfl rfl)), hkf.trans (turned W3 _ hk3)⟩⟩
    | ret => exact left .ret a3 W3 hp.1 hp.2.1 hp.2.2
    | exit id => exact left (.exit id) a3 W3 hp.1 hp.2.1 hp.2.2
    | goto t => exact left (.goto t) a3 W3 hp.1 hp.2.1 hp.2.2
    | panic ch => exact hp.elim
    | outgrown => exact hp.elim
  · rintro e W2 ⟨⟨v, rfl⟩, (⟨xs, hS, hi, hl, hk⟩ | ⟨pre, hSp, c, hi, hl, hk⟩)⟩
    · exact ⟨none, _, run_endLoop (P := P) hl (by simp [R, recAt]), hdone _ xs _ (Nat.le_refl _) hS (hI.putObj _ hi (by simp [l]) hl rfl) ((World.putObj_heap_other (by simp [l, D])).trans hk)⟩
    · exact ⟨some c, _, run_endLoop (P := P) hl (by simp [R, recAt]), hstop _ c pre _ (Nat.le_refl _) hSp ((hIx c).putObj _ hi (by simp [l]) hl rfl) ((World.putObj_heap_other (by simp [l, D])).trans hk)⟩
end
end Go.Proofs.Ytkjceegmmhnajaa
