/- pigment.weights of three points. -/
import Derived.Test.YtkjceegmmhnajaaA4c
import Derived.Test.YtkjceegmmhnajaaA6b
import Derived.Test.YtkjceegmmhnajaaD2a
namespace Go.Proofs.Ytkjceegmmhnajaa
open Go.RowKit

theorem gcd3_pos (x y z : Int) (h : y ≠ 0) : 1 ≤ (gcdL [x, y, z] : Int) ∧ (gcdL [x, y, z] : Int) ≤ y.natAbs := by
  have hd : gcdL [x, y, z] ∣ y.natAbs := Nat.dvd_trans (Nat.gcd_dvd_left ..) (Nat.gcd_dvd_right ..)
  have hp : 0 < y.natAbs := by omega
  have h1 := Nat.pos_of_dvd_of_pos hd hp
  have h2 := Nat.le_of_dvd hp hd
  omega

set_option maxRecDepth 100000 in
set_option maxHeartbeats 4000000 in
theorem weights3 (a p q x : Vc) (ad : Addr) (c : Nat) (w : World) (hb : ad.block < w.heap.size) (h0 : vecAt w ad a) (h3 : vecAt w ⟨ad.block, ad.off + 3, none⟩ p) (h6 : vecAt w ⟨ad.block, ad.off + 6, none⟩ q) (ha : shadeV a) (hp : shadeV p) (hq : shadeV q) (hx : shadeV x) :
    Calls Try.prog 86 #[.slice (some ad) 3 c, x.agg] w (WEnd (pwts [a, p, q] x) w) := by
  have hu := vb_sub hx ha
  have hd := vb_sub hp ha
  have hf := vb_sub hq ha
  obtain ⟨a1, a2, a3⟩ := a
  obtain ⟨p1, p2, p3⟩ := p
  obtain ⟨q1, q2, q3⟩ := q
  obtain ⟨x1, x2, x3⟩ := x
  dsimp only at hu hd hf
  have HMu : Hid (∀ W, Calls Try.prog 75 #[.agg #[.int .i64 x1, .int .i64 x2, .int .i64 x3], .agg #[.int .i64 a1, .int .i64 a2, .int .i64 a3]] W fun e w' => e = .returned (.agg #[.int .i64 (x1 - a1), .int .i64 (x2 - a2), .int .i64 (x3 - a3)]) ∧ Below W.heap.size W w') := fun W => minus_any _ _ _ _ _ _ W (ab_big hu.1 (by omega)) (ab_big hu.2.1 (by omega)) (ab_big hu.2.2 (by omega))
  have HMd : Hid (∀ W, Calls Try.prog 75 #[.agg #[.int .i64 p1, .int .i64 p2, .int .i64 p3], .agg #[.int .i64 a1, .int .i64 a2, .int .i64 a3]] W fun e w' => e = .returned (.agg #[.int .i64 (p1 - a1), .int .i64 (p2 - a2), .int .i64 (p3 - a3)]) ∧ Below W.heap.size W w') := fun W => minus_any _ _ _ _ _ _ W (ab_big hd.1 (by omega)) (ab_big hd.2.1 (by omega)) (ab_big hd.2.2 (by omega))
  have HMf : Hid (∀ W, Calls Try.prog 75 #[.agg #[.int .i64 q1, .int .i64 q2, .int .i64 q3], .agg #[.int .i64 a1, .int .i64 a2, .int .i64 a3]] W fun e w' => e = .returned (.agg #[.int .i64 (q1 - a1), .int .i64 (q2 - a2), .int .i64 (q3 - a3)]) ∧ Below W.heap.size W w') := fun W => minus_any _ _ _ _ _ _ W (ab_big hf.1 (by omega)) (ab_big hf.2.1 (by omega)) (ab_big hf.2.2 (by omega))
  have HE : Hid (∀ u1 u2 u3 d1 d2 d3 f1 f2 f3 n1 n2 n3 y t e1 e2 e3 xx k1 k2 k3 z : Int, (x1 - a1 = u1 ∧ x2 - a2 = u2 ∧ x3 - a3 = u3) → (p1 - a1 = d1 ∧ p2 - a2 = d2 ∧ p3 - a3 = d3) → (q1 - a1 = f1 ∧ q2 - a2 = f2 ∧ q3 - a3 = f3) →
      (n1 = d2 * f3 - d3 * f2 ∧ n2 = d3 * f1 - d1 * f3 ∧ n3 = d1 * f2 - d2 * f1) → y = n1 * n1 + n2 * n2 + n3 * n3 → t = u1 * n1 + u2 * n2 + u3 * n3 →
      (e1 = u2 * f3 - u3 * f2 ∧ e2 = u3 * f1 - u1 * f3 ∧ e3 = u1 * f2 - u2 * f1) → xx = e1 * n1 + e2 * n2 + e3 * n3 → (k1 = d2 * u3 - d3 * u2 ∧ k2 = d3 * u1 - d1 * u3 ∧ k3 = d1 * u2 - d2 * u1) → z = k1 * n1 + k2 * n2 + k3 * n3 →
      pwts [⟨a1, a2, a3⟩, ⟨p1, p2, p3⟩, ⟨q1, q2, q3⟩] ⟨x1, x2, x3⟩ = if y = 0 ∨ t ≠ 0 then none else some [(y - xx - z).tdiv (gcdL [xx, y, z] : Nat), xx.tdiv (gcdL [xx, y, z] : Nat), z.tdiv (gcdL [xx, y, z] : Nat)]) := by
    rintro _ _ _ _ _ _ _ _ _ _ _ _ _ _ _ _ _ _ _ _ _ _ ⟨rfl, rfl, rfl⟩ ⟨rfl, rfl, rfl⟩ ⟨rfl, rfl, rfl⟩ ⟨rfl, rfl, rfl⟩ rfl rfl ⟨rfl, rfl, rfl⟩ rfl ⟨rfl, rfl, rfl⟩ rfl
    simp only [pwts, Vc.sub, Vc.dot, Vc.crs]
    rfl
  generalize hu1 : x1 - a1 = u1 at *
  generalize hu2 : x2 - a2 = u2 at *
  generalize hu3 : x3 - a3 = u3 at *
  generalize hd1 : p1 - a1 = d1 at *
  generalize hd2 : p2 - a2 = d2 at *
  generalize hd3 : p3 - a3 = d3 at *
  generalize hf1 : q1 - a1 = f1 at *
  generalize hf2 : q2 - a2 = f2 at *
  generalize hf3 : q3 - a3 = f3 at *
  have HE2 := Lib.hid (fun n1 n2 n3 y t e1 e2 e3 xx k1 k2 k3 z => HE.out u1 u2 u3 d1 d2 d3 f1 f2 f3 n1 n2 n3 y t e1 e2 e3 xx k1 k2 k3 z ⟨rfl, rfl, rfl⟩ ⟨rfl, rfl, rfl⟩ ⟨rfl, rfl, rfl⟩)
  clear hu1 hu2 hu3 hd1 hd2 hd3 hf1 hf2 hf3 HE
  have H0 := Lib.hid h0
  have H3 := Lib.hid h3
  have H6 := Lib.hid h6
  have Hu := Lib.hid hu
  have Hd := Lib.hid hd
  have Hf := Lib.hid hf
  unfold vecAt at h0 h3 h6
  obtain ⟨h00, h01, h02⟩ := h0
  dsimp only at *
  clear ha hp hq hx h3 h6 hu hd hf
  go_enter Try.func86, Try.ntmps86
  go_wp2_with (go_at_call 75; refine (HMu.out _).mono ?_; rintro e w1 ⟨rfl, hb1⟩; have hB1 : Below w.heap.size w w1 := (Below.trans (by repeat (first | with_reducible exact Below.refl _ _ | with_reducible assumption | with_reducible refine Below.drew ?_ | with_reducible refine below_drewN ?_ _ | (with_reducible refine Below.alloc ?_ ?_ _; rotate_left; (try simp) <;> omega) | (with_reducible refine Below.setCell ?_ ?_ _; rotate_left; (try simp) <;> omega))) (hb1.mono (by first | omega | (simp; omega) | simp))); have xa1 := (Bk.new (w.alloc (.cells #[.int .i64 x1, .int .i64 x2, .int .i64 x3] 84)) 84 #[.int .i64 a1, .int .i64 a2, .int .i64 a3]).below hb1 (by simp); rw [World.size_alloc] at xa1; have l1 := xa1.lt)
  have xu := Bk.new w1 84 #[.int .i64 u1, .int .i64 u2, .int .i64 u3]
  have xa := xa1.alloc (.cells #[.int .i64 u1, .int .i64 u2, .int .i64 u3] 84)
  have hBa : Below w.heap.size w (w1.alloc (.cells #[.int .i64 u1, .int .i64 u2, .int .i64 u3] 84)) := hB1.alloc hB1.size _
  have l2 := xu.lt
  have l3 := xa.lt
  clear xa1 hb1 l1
  go_wp2
  obtain ⟨wa, hwa⟩ : ∃ wa, wa = w1.alloc (.cells #[.int .i64 u1, .int .i64 u2, .int .i64 u3] 84) := ⟨_, rfl⟩
  have hsza : wa.heap.size = w1.heap.size + 1 := by rw [hwa]; simp
  rw [← hwa] at xu xa hBa l2 l3 ⊢
  clear hwa h00 h01 h02
  have k30 : wa.cell? ⟨ad.block, ad.off + 3, none⟩ = some (.int .i64 p1) := (H3.out.below hBa hb).1
  have k31 : wa.cell? ⟨ad.block, ad.off + 3 + 1, none⟩ = some (.int .i64 p2) := (H3.out.below hBa hb).2.1
  have k32 : wa.cell? ⟨ad.block, ad.off + 3 + 2, none⟩ = some (.int .i64 p3) := (H3.out.below hBa hb).2.2
  have k60 : wa.cell? ⟨ad.block, ad.off + 6, none⟩ = some (.int .i64 q1) := (H6.out.below hBa hb).1
  have k61 : wa.cell? ⟨ad.block, ad.off + 6 + 1, none⟩ = some (.int .i64 q2) := (H6.out.below hBa hb).2.1
  have k62 : wa.cell? ⟨ad.block, ad.off + 6 + 2, none⟩ = some (.int .i64 q3) := (H6.out.below hBa hb).2.2
  have la : ad.block < wa.heap.size := Nat.lt_of_lt_of_le hb hBa.size
  have a0 := xa.cell 0 rfl
  have a1' := xa.cell 1 rfl
  have a2' := xa.cell 2 rfl
  refine wp_region_held_drew (S := fun w' => (w'.cell? ⟨w.heap.size + 1, 0, none⟩ = some (.int .i64 a1) ∧ w'.cell? ⟨w.heap.size + 1, 1, none⟩ = some (.int .i64 a2) ∧ w'.cell? ⟨w.heap.size + 1, 2, none⟩ = some (.int .i64 a3)) ∧ (w'.cell? ⟨ad.block, ad.off + 3, none⟩ = some (.int .i64 p1) ∧ w'.cell? ⟨ad.block, ad.off + 3 + 1, none⟩ = some (.int .i64 p2) ∧ w'.cell? ⟨ad.block, ad.off + 3 + 2, none⟩ = some (.int .i64 p3)) ∧ (w'.cell? ⟨ad.block, ad.off + 6, none⟩ = some (.int .i64 q1) ∧ w'.cell? ⟨ad.block, ad.off + 6 + 1, none⟩ = some (.int .i64 q2) ∧ w'.cell? ⟨ad.block, ad.off + 6 + 2, none⟩ = some (.int .i64 q3))) (by kernel_rfl) ?_ (fun hHeld => ?_)
  · exact ⟨⟨a0, a1', a2'⟩, ⟨k30, k31, k32⟩, ⟨k60, k61, k62⟩⟩
  (refine held_take 0 (some 70) ?_ rfl (by kernel_rfl) (by kernel_rfl) (by kernel_rfl) (by rfl) (fun _ _ _ h => h) (by assumption) (fun w hSw => ?_) ?_; rotate_left; ((try dsimp only at hSw); simp only [List.getElem?_toArray, List.getElem?_cons_zero, List.getElem?_cons_succ, Option.map_some]; refine congrArg some ?_; go_simp; (try with_reducible rfl)); (try simp only [Act.put, List.setIfInBounds_toArray, List.set_cons_zero, List.set_cons_succ]))
  (refine held_take 1 (some 71) ?_ rfl (by kernel_rfl) (by kernel_rfl) (by kernel_rfl) (by rfl) (fun _ _ _ h => h) (by assumption) (fun w hSw => ?_) ?_; rotate_left; ((try dsimp only at hSw); simp only [List.getElem?_toArray, List.getElem?_cons_zero, List.getElem?_cons_succ, Option.map_some]; refine congrArg some ?_; go_simp; (try with_reducible rfl)); (try simp only [Act.put, List.setIfInBounds_toArray, List.set_cons_zero, List.set_cons_succ]))
  (refine held_take 2 (some 72) ?_ rfl (by kernel_rfl) (by kernel_rfl) (by kernel_rfl) (by rfl) (fun _ _ _ h => h) (by assumption) (fun w hSw => ?_) ?_; rotate_left; ((try dsimp only at hSw); simp only [List.getElem?_toArray, List.getElem?_cons_zero, List.getElem?_cons_succ, Option.map_some]; refine congrArg some ?_; go_simp; (try with_reducible rfl)); (try simp only [Act.put, List.setIfInBounds_toArray, List.set_cons_zero, List.set_cons_succ]))
  (refine held_take 3 (some 73) ?_ rfl (by kernel_rfl) (by kernel_rfl) (by kernel_rfl) (by rfl) (fun _ _ _ h => h) (by assumption) (fun w hSw => ?_) ?_; rotate_left; ((try dsimp only at hSw); simp only [List.getElem?_toArray, List.getElem?_cons_zero, List.getElem?_cons_succ, Option.map_some]; refine congrArg some ?_; go_simp; (try with_reducible rfl)); (try simp only [Act.put, List.setIfInBounds_toArray, List.set_cons_zero, List.set_cons_succ]))
  (refine held_take 5 (some 75) ?_ rfl (by kernel_rfl) (by kernel_rfl) (by kernel_rfl) (by rfl) (fun _ _ _ h => h) (by assumption) (fun w hSw => ?_) ?_; rotate_left; ((try dsimp only at hSw); simp only [List.getElem?_toArray, List.getElem?_cons_zero, List.getElem?_cons_succ, Option.map_some]; refine congrArg some ?_; go_simp; (try with_reducible rfl)); (try simp only [Act.put, List.setIfInBounds_toArray, List.set_cons_zero, List.set_cons_succ]))
  (refine held_take 6 (some 76) ?_ rfl (by kernel_rfl) (by kernel_rfl) (by kernel_rfl) (by rfl) (fun _ _ _ h => h) (by assumption) (fun w hSw => ?_) ?_; rotate_left; ((try dsimp only at hSw); simp only [List.getElem?_toArray, List.getElem?_cons_zero, List.getElem?_cons_succ, Option.map_some]; refine congrArg some ?_; go_simp; (try with_reducible rfl)); (try simp only [Act.put, List.setIfInBounds_toArray, List.set_cons_zero, List.set_cons_succ]))
  (refine held_take 7 (some 77) ?_ rfl (by kernel_rfl) (by kernel_rfl) (by kernel_rfl) (by rfl) (fun _ _ _ h => h) (by assumption) (fun w hSw => ?_) ?_; rotate_left; ((try dsimp only at hSw); simp only [List.getElem?_toArray, List.getElem?_cons_zero, List.getElem?_cons_succ, Option.map_some]; refine congrArg some ?_; go_simp; (try with_reducible rfl)); (try simp only [Act.put, List.setIfInBounds_toArray, List.set_cons_zero, List.set_cons_succ]))
  (refine held_take 8 (some 78) ?_ rfl (by kernel_rfl) (by kernel_rfl) (by kernel_rfl) (by rfl) (fun _ _ _ h => h) (by assumption) (fun w hSw => ?_) ?_; rotate_left; ((try dsimp only at hSw); simp only [List.getElem?_toArray, List.getElem?_cons_zero, List.getElem?_cons_succ, Option.map_some]; refine congrArg some ?_; go_simp; (try with_reducible rfl)); (try simp only [Act.put, List.setIfInBounds_toArray, List.set_cons_zero, List.set_cons_succ]))
  refine vectors_laid (ds := [74, 79, 11, 12]) (f := 75) (vs := [⟨4, 10, 12, 74, 11, #[.agg #[.int .i64 p1, .int .i64 p2, .int .i64 p3], .agg #[.int .i64 a1, .int .i64 a2, .int .i64 a3]], d1, d2, d3⟩, ⟨9, 11, 13, 79, 12, #[.agg #[.int .i64 q1, .int .i64 q2, .int .i64 q3], .agg #[.int .i64 a1, .int .i64 a2, .int .i64 a3]], f1, f2, f3⟩]) (B := wa.heap.size) ?hv (by simp) (by simp) (by simp) ?hac ?hB ?hS ?hcalls ?hQ ?hsz ?hl ?hl2 ?hfuel ?hsl
  case hv =>
    intro v hv
    rcases List.mem_cons.1 hv with rfl | hv
    · refine ⟨by simp, by simp, by simp, by simp, ⟨_, rfl, rfl, rfl, fun V W => ?_⟩, ⟨_, rfl, rfl, rfl, fun a W => ?_⟩, ⟨_, rfl, rfl, rfl, by kernel_rfl, by kernel_rfl, fun a W b g1 g2 g3 => ?_⟩⟩
      · go_simp
        constructor <;> (rw [canon_get, if_neg (by simp)]; simp)
      · go_simp
        rfl
      · simp only [Vj.row] at g1 g2
        have t0 := g3.cell 0 rfl
        have t1 := g3.cell 1 rfl
        have t2 := g3.cell 2 rfl
        have r0 := g3.fro 0
        have r1 := g3.fro 1
        have r2 := g3.fro 2
        refine ⟨_, _, ?_, .inl rfl, rfl⟩
        go_simp
    obtain rfl := List.mem_singleton.1 hv
    · refine ⟨by simp, by simp, by simp, by simp, ⟨_, rfl, rfl, rfl, fun V W => ?_⟩, ⟨_, rfl, rfl, rfl, fun a W => ?_⟩, ⟨_, rfl, rfl, rfl, by kernel_rfl, by kernel_rfl, fun a W b g1 g2 g3 => ?_⟩⟩
      · go_simp
        constructor <;> (rw [canon_get, if_neg (by simp)]; simp)
      · go_simp
        rfl
      · simp only [Vj.row] at g1 g2
        have t0 := g3.cell 0 rfl
        have t1 := g3.cell 1 rfl
        have t2 := g3.cell 2 rfl
        have r0 := g3.fro 0
        have r1 := g3.fro 1
        have r2 := g3.fro 2
        refine ⟨_, _, ?_, .inl rfl, rfl⟩
        go_simp
  case hac =>
    exact acB_spec (by kernel_rfl)
  case hB => exact Nat.le_refl _
  case hsz => simp
  case hS =>
    intro W hW
    have hW' : Below wa.heap.size wa W := (Below.drew (Below.refl _ _)).trans hW
    exact ⟨⟨(hW'.cell l3).trans a0, (hW'.cell l3).trans a1', (hW'.cell l3).trans a2'⟩, ⟨(hW'.cell (p := ⟨ad.block, ad.off + 3, none⟩) la).trans k30, (hW'.cell (p := ⟨ad.block, ad.off + 3 + 1, none⟩) la).trans k31, (hW'.cell (p := ⟨ad.block, ad.off + 3 + 2, none⟩) la).trans k32⟩, ⟨(hW'.cell (p := ⟨ad.block, ad.off + 6, none⟩) la).trans k60, (hW'.cell (p := ⟨ad.block, ad.off + 6 + 1, none⟩) la).trans k61, (hW'.cell (p := ⟨ad.block, ad.off + 6 + 2, none⟩) la).trans k62⟩⟩
  case hcalls =>
    intro v hv W hW
    rcases List.mem_cons.1 hv with rfl | hv
    · exact HMd.out W
    · obtain rfl := List.mem_singleton.1 hv
      exact HMf.out W
  case hl =>
    exact hlB_spec (by kernel_rfl)
  case hl2 => simp
  case hfuel => simp [left]
  case hsl => simp
  case hQ =>
    intro V W hW hV ⟨g, hg⟩ hrest
    have e74 := hV _ (List.mem_cons_self ..)
    have e79 := hV _ (List.mem_cons_of_mem _ (List.mem_singleton.2 rfl))
    obtain ⟨e11, b11, k11⟩ := hg _ (List.mem_cons_self ..)
    obtain ⟨e12, b12, k12⟩ := hg _ (List.mem_cons_of_mem _ (List.mem_singleton.2 rfl))
    dsimp only [Vj.row] at e74 e79 e11 e12 b11 b12 k11 k12
    simp only [canon, List.foldl_cons, List.foldl_nil]
    rw [e74, e79, e11, e12]
    simp only [List.setIfInBounds_toArray, List.set_cons_zero, List.set_cons_succ]
    generalize g 11 = g1 at *
    generalize g 12 = g2 at *
    have hW' : Below wa.heap.size wa W := (Below.drew (Below.refl _ _)).trans hW
    have hBW : Below w.heap.size w W := hBa.trans (hW'.mono hBa.size)
    have yu := xu.below hW' l2
    clear hrest hV hg e74 e79 e11 e12 hW hW' xu xa a0 a1' a2' k30 k31 k32 k60 k61 k62 hHeld HMu HMd HMf H0 H3 H6 hB1 hBa l2 l3 la hsza b11 b12
    have lu := yu.lt
    have l11 := k11.lt
    have l12 := k12.lt
    have u0 := yu.cell 0 rfl
    have u1' := yu.cell 1 rfl
    have u2' := yu.cell 2 rfl
    have d0 := k11.cell 0 rfl
    have d1' := k11.cell 1 rfl
    have d2' := k11.cell 2 rfl
    have f0 := k12.cell 0 rfl
    have f1' := k12.cell 1 rfl
    have f2' := k12.cell 2 rfl
    go_wp2_with fail
    refine (cross_b (A := 1000) (B := 1000) _ Hd.out Hf.out (by omega)).mono ?_
    rintro e w2 ⟨n1, n2, n3, rfl, HN, hvn, hb2, hz2⟩
    clear hz2
    have HK : Hid (∀ W', Below (w2.alloc (.cells #[.int .i64 n1, .int .i64 n2, .int .i64 n3] 84)).heap.size (w2.alloc (.cells #[.int .i64 n1, .int .i64 n2, .int .i64 n3] 84)) W' → (W'.cell? ⟨w1.heap.size, 0, none⟩ = some (.int .i64 u1) ∧ W'.cell? ⟨w1.heap.size, 1, none⟩ = some (.int .i64 u2) ∧ W'.cell? ⟨w1.heap.size, 2, none⟩ = some (.int .i64 u3)) ∧ (W'.cell? ⟨g1, 0, none⟩ = some (.int .i64 d1) ∧ W'.cell? ⟨g1, 1, none⟩ = some (.int .i64 d2) ∧ W'.cell? ⟨g1, 2, none⟩ = some (.int .i64 d3)) ∧ (W'.cell? ⟨g2, 0, none⟩ = some (.int .i64 f1) ∧ W'.cell? ⟨g2, 1, none⟩ = some (.int .i64 f2) ∧ W'.cell? ⟨g2, 2, none⟩ = some (.int .i64 f3)) ∧ (W'.cell? ⟨w2.heap.size, 0, none⟩ = some (.int .i64 n1) ∧ W'.cell? ⟨w2.heap.size, 1, none⟩ = some (.int .i64 n2) ∧ W'.cell? ⟨w2.heap.size, 2, none⟩ = some (.int .i64 n3))) := fun W' hW' => by
      have hb' : Below W.heap.size W W' := (hb2.alloc hb2.size _).trans (hW'.mono (by have := hb2.size; simp; omega))
      have z1 := yu.below hb' lu
      have z2 := k11.below hb' l11
      have z3 := k12.below hb' l12
      have z4 := (Bk.new w2 84 #[.int .i64 n1, .int .i64 n2, .int .i64 n3]).below hW' (by simp)
      exact ⟨⟨z1.cell 0 rfl, z1.cell 1 rfl, z1.cell 2 rfl⟩, ⟨z2.cell 0 rfl, z2.cell 1 rfl, z2.cell 2 rfl⟩, ⟨z3.cell 0 rfl, z3.cell 1 rfl, z3.cell 2 rfl⟩, ⟨z4.cell 0 rfl, z4.cell 1 rfl, z4.cell 2 rfl⟩⟩
    have hBn : Below w.heap.size w (w2.alloc (.cells #[.int .i64 n1, .int .i64 n2, .int .i64 n3] 84)) := (hBW.trans (hb2.mono hBW.size)).alloc (Nat.le_trans hBW.size hb2.size) _
    have s1 : w1.heap.size < w2.heap.size := Nat.lt_of_lt_of_le lu hb2.size
    have s2 : g1 < w2.heap.size := Nat.lt_of_lt_of_le l11 hb2.size
    have s3 : g2 < w2.heap.size := Nat.lt_of_lt_of_le l12 hb2.size
    clear hBW hb2 lu l11 l12 u0 u1' u2' d0 d1' d2' f0 f1' f2' yu k11 k12
    go_wp2_with fail
    obtain ⟨wn, hwn⟩ : ∃ wn, wn = w2.alloc (.cells #[.int .i64 n1, .int .i64 n2, .int .i64 n3] 84) := ⟨_, rfl⟩
    rw [← hwn] at HK hBn ⊢
    have hszn : wn.heap.size = w2.heap.size + 1 := by rw [hwn]; simp
    clear hwn
    refine (times_b (A := 2000000) (B := 2000000) (a := n1) _ hvn hvn (by omega)).mono ?_
    rintro e w3 ⟨y, rfl, HY, hvy, hb3, hz3⟩
    clear hz3
    have hB3 : Below w.heap.size w w3 := hBn.trans (hb3.mono hBn.size)
    have hyb : -12000000000000 ≤ y ∧ y ≤ 12000000000000 := by have := hvy; unfold ab at this; omega
    obtain ⟨⟨u0, u1', u2'⟩, ⟨d0, d1', d2'⟩, ⟨f0, f1', f2'⟩, ⟨n0, n1', n2'⟩⟩ := HK.out w3 hb3
    have t1 : w1.heap.size < w3.heap.size := by have := hb3.size; omega
    have t2 : g1 < w3.heap.size := by have := hb3.size; omega
    have t3 : g2 < w3.heap.size := by have := hb3.size; omega
    have t4 : w2.heap.size < w3.heap.size := by have := hb3.size; omega
    have HE3 := Lib.hid (fun t e1 e2 e3 xx k1 k2 k3 z => HE2.out n1 n2 n3 y t e1 e2 e3 xx k1 k2 k3 z HN.out HY.out)
    clear HE2 hvy
    by_cases hy0 : y = 0
    · have hyn : (y == 0) = true := by rw [hy0]; rfl
      have HY0 := Lib.hid hy0
      clear hy0
      go_wp2
      go_ret2
      refine w_none (by rw [HE3.out _ _ _ _ _ _ _ _ _ rfl ⟨rfl, rfl, rfl⟩ rfl ⟨rfl, rfl, rfl⟩ rfl, if_pos (.inl HY0.out)]) (by omega) (by omega) ?_
      exact (by repeat (first | with_reducible exact Below.refl _ _ | with_reducible assumption | with_reducible refine Below.drew ?_ | with_reducible refine below_drewN ?_ _ | (with_reducible refine Below.alloc ?_ ?_ _; rotate_left; (try simp) <;> omega) | (with_reducible refine Below.setCell ?_ ?_ _; rotate_left; (try simp) <;> omega)))
    · have hyn : (y == 0) = false := by rw [beq_eq_false_iff_ne]; exact hy0
      have HY0 := Lib.hid hy0
      clear hy0
      go_wp2_with fail
      refine (times_b (A := 1000) (B := 2000000) (a := u1) _ Hu.out hvn (by omega)).mono ?_
      rintro e w4 ⟨t, rfl, HT, hvt, hb4, hz4⟩
      clear hz4
      have hR4 : Below wn.heap.size wn w4 := hb3.trans (hb4.mono hb3.size)
      have hB4 : Below w.heap.size w w4 := hB3.trans (hb4.mono hB3.size)
      clear u0 u1' u2' d0 d1' d2' f0 f1' f2' n0 n1' n2' hvt
      obtain ⟨⟨u0, u1', u2'⟩, ⟨d0, d1', d2'⟩, ⟨f0, f1', f2'⟩, ⟨n0, n1', n2'⟩⟩ := HK.out w4 hR4
      have t1 : w1.heap.size < w4.heap.size := by have := hR4.size; omega
      have t2 : g1 < w4.heap.size := by have := hR4.size; omega
      have t3 : g2 < w4.heap.size := by have := hR4.size; omega
      have t4 : w2.heap.size < w4.heap.size := by have := hR4.size; omega
      by_cases ht0 : t = 0
      · have htn : (t != 0) = false := by rw [ht0]; rfl
        have HT0 := Lib.hid ht0
        clear ht0
        go_wp2
        go_region_held3 (fun w' => (w'.cell? ⟨w1.heap.size, 0, none⟩ = some (.int .i64 u1) ∧ w'.cell? ⟨w1.heap.size, 1, none⟩ = some (.int .i64 u2) ∧ w'.cell? ⟨w1.heap.size, 2, none⟩ = some (.int .i64 u3)) ∧ (w'.cell? ⟨g1, 0, none⟩ = some (.int .i64 d1) ∧ w'.cell? ⟨g1, 1, none⟩ = some (.int .i64 d2) ∧ w'.cell? ⟨g1, 2, none⟩ = some (.int .i64 d3)) ∧ (w'.cell? ⟨g2, 0, none⟩ = some (.int .i64 f1) ∧ w'.cell? ⟨g2, 1, none⟩ = some (.int .i64 f2) ∧ w'.cell? ⟨g2, 2, none⟩ = some (.int .i64 f3)) ∧ (w'.cell? ⟨w2.heap.size, 0, none⟩ = some (.int .i64 n1) ∧ w'.cell? ⟨w2.heap.size, 1, none⟩ = some (.int .i64 n2) ∧ w'.cell? ⟨w2.heap.size, 2, none⟩ = some (.int .i64 n3)))
          (first | go_keep | (refine ⟨⟨?_, ?_, ?_⟩, ⟨?_, ?_, ?_⟩, ⟨?_, ?_, ?_⟩, ⟨?_, ?_, ?_⟩⟩ <;> first | assumption | go_keep))
          (first | (go_at_call 82; ((with_reducible refine (cross_b (A := 1000) (B := 1000) (a := u1) _ Hu.out Hf.out (by omega)).mono ?_); rintro e w5 ⟨e1, e2, e3, rfl, HC1, hv5, hb5, hz5⟩); clear hz5; have hR5 : Below wn.heap.size wn w5 := hR4.trans (Below.mono (Below.trans (by repeat (first | with_reducible exact Below.refl _ _ | with_reducible assumption | with_reducible refine Below.drew ?_ | with_reducible refine below_drewN ?_ _ | (with_reducible refine Below.alloc ?_ ?_ _; rotate_left; (try simp) <;> omega) | (with_reducible refine Below.setCell ?_ ?_ _; rotate_left; (try simp) <;> omega))) hb5) hR4.size); have r5 := hR5.size; obtain ⟨⟨c0, c1, c2⟩, ⟨c3, c4, c5⟩, ⟨c6, c7, c8⟩, ⟨c9, c10, c11⟩⟩ := HK.out w5 hR5) | (go_at_call 82; ((with_reducible refine (cross_b (A := 1000) (B := 1000) (a := d1) _ Hd.out Hu.out (by omega)).mono ?_); rintro e w7 ⟨k1, k2, k3, rfl, HC2, hv7, hb7, hz7⟩); clear hz7; have hR7 : Below wn.heap.size wn w7 := hR6.trans (Below.mono (Below.trans (by repeat (first | with_reducible exact Below.refl _ _ | with_reducible assumption | with_reducible refine Below.drew ?_ | with_reducible refine below_drewN ?_ _ | (with_reducible refine Below.alloc ?_ ?_ _; rotate_left; (try simp) <;> omega) | (with_reducible refine Below.setCell ?_ ?_ _; rotate_left; (try simp) <;> omega))) hb7) hR6.size); have r7 := hR7.size; obtain ⟨⟨c0, c1, c2⟩, ⟨c3, c4, c5⟩, ⟨c6, c7, c8⟩, ⟨c9, c10, c11⟩⟩ := HK.out w7 hR7) | (go_at_call 46; ((with_reducible refine (times_b (A := 2000000) (B := 2000000) (a := e1) _ hv5 hvn (by omega)).mono ?_); rintro e w6 ⟨xx, rfl, HX, hv6, hb6, hz6⟩); clear hz6; have hR6 : Below wn.heap.size wn w6 := hR5.trans (Below.mono (Below.trans (by repeat (first | with_reducible exact Below.refl _ _ | with_reducible assumption | with_reducible refine Below.drew ?_ | with_reducible refine below_drewN ?_ _ | (with_reducible refine Below.alloc ?_ ?_ _; rotate_left; (try simp) <;> omega) | (with_reducible refine Below.setCell ?_ ?_ _; rotate_left; (try simp) <;> omega))) hb6) hR5.size); have r6 := hR6.size; obtain ⟨⟨c0, c1, c2⟩, ⟨c3, c4, c5⟩, ⟨c6, c7, c8⟩, ⟨c9, c10, c11⟩⟩ := HK.out w6 hR6) | (go_at_call 46; ((with_reducible refine (times_b (A := 2000000) (B := 2000000) (a := k1) _ hv7 hvn (by omega)).mono ?_); rintro e w8 ⟨z, rfl, HZ, hv8, hb8, hz8⟩); clear hz8; have hR8 : Below wn.heap.size wn w8 := hR7.trans (Below.mono (Below.trans (by repeat (first | with_reducible exact Below.refl _ _ | with_reducible assumption | with_reducible refine Below.drew ?_ | with_reducible refine below_drewN ?_ _ | (with_reducible refine Below.alloc ?_ ?_ _; rotate_left; (try simp) <;> omega) | (with_reducible refine Below.setCell ?_ ?_ _; rotate_left; (try simp) <;> omega))) hb8) hR7.size); have r8 := hR8.size; obtain ⟨⟨c0, c1, c2⟩, ⟨c3, c4, c5⟩, ⟨c6, c7, c8⟩, ⟨c9, c10, c11⟩⟩ := HK.out w8 hR8))
        all_goals
          have HE4 := Lib.hid (HE3.out t _ _ _ xx _ _ _ z HT.out HC1.out HX.out HC2.out HZ.out)
          have hxb : -12000000000000 ≤ xx ∧ xx ≤ 12000000000000 := by have := hv6; unfold ab at this; omega
          have hzb : -12000000000000 ≤ z ∧ z ≤ 12000000000000 := by have := hv8; unfold ab at this; omega
          have hB8 : Below w.heap.size w w8 := hBn.trans (hR8.mono hBn.size)
          have hgp := gcd3_pos xx y z HY0.out
          have hD : ∀ W : World, Lies W W.heap.size (some ⟨w8.heap.size, 0, none⟩) (ints [xx, y, z]) → Calls Try.prog 61 #[.slice (some ⟨w8.heap.size, 0, none⟩) 3 3] W fun e w' => e = .returned (.int .i64 (gcdL [xx, y, z])) ∧ ∃ n, w' = W.drewN n := fun W hL =>
            divisor_aux [xx, y, z] _ 3 W hL (by intro n hn; simp at hn; unfold bigP; rcases hn with rfl | rfl | rfl <;> omega) (by simp)
          generalize (gcdL [xx, y, z] : Int) = G at HE4 hgp hD
          have HD := Lib.hid hD
          obtain ⟨hg1, hg2⟩ := hgp
          have hgn : (G == 0) = false := by rw [beq_eq_false_iff_ne]; omega
          have t1 := tdiv_range (y - xx - z) G (by unfold bigP; omega) hg1
          have t2 := tdiv_range xx G (by unfold bigP; omega) hg1
          have t3 := tdiv_range z G (by unfold bigP; omega) hg1
          have p1 : -24000000000000 ≤ y - xx ∧ y - xx ≤ 24000000000000 := by omega
          have p2 : -36000000000000 ≤ y - xx - z ∧ y - xx - z ≤ 36000000000000 := by omega
          clear hD HK HC1 HC2 HX HZ HT HE3 HN HY hv5 hv6 hv7 hv8 hvn Hu Hd Hf hR4 hR5 hR6 hR7 hR8 hb3 hb4 hb5 hb6 hb7 hb8 c0 c1 c2 c3 c4 c5 c6 c7 c8 c9 c10 c11 u0 u1' u2' d0 d1' d2' f0 f1' f2' n0 n1' n2'
          obtain ⟨p11, p12⟩ := p1
          obtain ⟨p21, p22⟩ := p2
          obtain ⟨t11, t12⟩ := t1
          obtain ⟨t21, t22⟩ := t2
          obtain ⟨t31, t32⟩ := t3
          go_wp2_with (go_at_call 61; refine (HD.out _ (Lies.fresh rfl (by simp) (by simp) rfl)).mono ?_; rintro e w9 ⟨rfl, n, rfl⟩)
          go_region
          all_goals
            go_wp2
            go_ret2
            refine w_end (l := [(y - xx - z).tdiv G, xx.tdiv G, z.tdiv G]) ?hE rfl ?hL (by omega) (by omega) ?hB
            case hE => rw [HE4.out, if_neg (by intro h; rcases h with h | h; exact HY0.out h; exact h HT0.out)]; rfl
            case hL => exact Lies.fresh rfl (by simp) (by simp) rfl
            case hB =>
              have hz8 := hB8.size
              exact (by repeat (first | with_reducible exact Below.refl _ _ | with_reducible assumption | with_reducible refine Below.drew ?_ | with_reducible refine below_drewN ?_ _ | (with_reducible refine Below.alloc ?_ ?_ _; rotate_left; (try simp) <;> omega) | (with_reducible refine Below.setCell ?_ ?_ _; rotate_left; (try simp) <;> omega)))
      · have htn : (t != 0) = true := by rw [bne_iff_ne]; exact ht0
        have HT0 := Lib.hid ht0
        clear ht0
        go_wp2
        go_ret2
        refine w_none (by rw [HE3.out _ _ _ _ _ _ _ _ _ HT.out ⟨rfl, rfl, rfl⟩ rfl ⟨rfl, rfl, rfl⟩ rfl, if_pos (.inr HT0.out)]) (by omega) (by omega) ?_
        exact (by repeat (first | with_reducible exact Below.refl _ _ | with_reducible assumption | with_reducible refine Below.drew ?_ | with_reducible refine below_drewN ?_ _ | (with_reducible refine Below.alloc ?_ ?_ _; rotate_left; (try simp) <;> omega) | (with_reducible refine Below.setCell ?_ ?_ _; rotate_left; (try simp) <;> omega)))
end Go.Proofs.Ytkjceegmmhnajaa
