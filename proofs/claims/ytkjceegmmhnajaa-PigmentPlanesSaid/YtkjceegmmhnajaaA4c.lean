import Derived.Test.YtkjceegmmhnajaaA4b
import Derived.Deep.RegionHeld3
import Derived.Deep.DeepCutAuto
namespace Go.Proofs.Ytkjceegmmhnajaa
open Go.RowKit

/-- the cells of vector k of a slice of vectors -/
def vecAt (w : World) (ad : Addr) (v : Vc) : Prop := w.cell? ad = some (.int .i64 v.x) ∧ w.cell? ⟨ad.block, ad.off + 1, none⟩ = some (.int .i64 v.y) ∧ w.cell? ⟨ad.block, ad.off + 2, none⟩ = some (.int .i64 v.z)
theorem vecAt.below {w w' : World} {ad : Addr} {v : Vc} {B : Nat} (h : vecAt w ad v) (hb : Below B w w') (hB : ad.block < B) : vecAt w' ad v :=
  ⟨(hb.cell hB).trans h.1, (hb.cell (p := ⟨ad.block, ad.off + 1, none⟩) hB).trans h.2.1, (hb.cell (p := ⟨ad.block, ad.off + 2, none⟩) hB).trans h.2.2⟩
abbrev C3 (w : World) (b : Nat) (x y z : Int) : Prop := w.cell? ⟨b, 0, none⟩ = some (.int .i64 x) ∧ w.cell? ⟨b, 1, none⟩ = some (.int .i64 y) ∧ w.cell? ⟨b, 2, none⟩ = some (.int .i64 z)

theorem Lies.via {W W' : World} {b : Nat} {t : TypeId} {cs : Array Value} {l : List Value} (h : Bk W b t cs) (hb : Below W.heap.size W W') (hl : l = cs.toList) : Lies W' W'.heap.size (some ⟨b, 0, none⟩) l := by
  subst hl
  have h' := h.below hb h.lt
  exact h'.lies h'.lt

set_option maxRecDepth 100000 in
set_option maxHeartbeats 2000000 in
theorem weights2 (a p x : Vc) (ad : Addr) (c : Nat) (w : World) (hb : ad.block < w.heap.size) (h0 : vecAt w ad a) (h3 : vecAt w ⟨ad.block, ad.off + 3, none⟩ p) (ha : shadeV a) (hp : shadeV p) (hx : shadeV x) :
    Calls Try.prog 86 #[.slice (some ad) 2 c, x.agg] w (WEnd (pwts [a, p] x) w) := by
  have hv := shadeV_vb ha
  have hvp := shadeV_vb hp
  have hu := shadeV_vb hx
  have q84 := eq84
  obtain ⟨a1, a2, a3⟩ := a
  obtain ⟨p1, p2, p3⟩ := p
  obtain ⟨x1, x2, x3⟩ := x
  have HE : Hid (∀ u1 u2 u3 d1 d2 d3 y z : Int, u1 = x1 - a1 ∧ u2 = x2 - a2 ∧ u3 = x3 - a3 → d1 = p1 - a1 ∧ d2 = p2 - a2 ∧ d3 = p3 - a3 → y = d1 * d1 + d2 * d2 + d3 * d3 → z = u1 * d1 + u2 * d2 + u3 * d3 →
      pwts [⟨a1, a2, a3⟩, ⟨p1, p2, p3⟩] ⟨x1, x2, x3⟩ = if y ≠ 0 ∧ (u1 * y = d1 * z ∧ u2 * y = d2 * z ∧ u3 * y = d3 * z) then some [y - z, z] else none) := by
    rintro _ _ _ _ _ _ _ _ ⟨rfl, rfl, rfl⟩ ⟨rfl, rfl, rfl⟩ rfl rfl
    simp only [pwts, Vc.sub, Vc.dot, Vc.mul, Vc.mk.injEq]
  have H3 := Lib.hid h3
  unfold vecAt at h0 h3
  obtain ⟨h00, h01, h02⟩ := h0
  obtain ⟨h30, h31, h32⟩ := h3
  dsimp only at *
  have hk : ∀ b o, b < w.heap.size + 1 → b < w.heap.size + 1 + 1 := fun b o h => by omega
  clear ha hp hx hk
  go_enter Try.func86, Try.ntmps86
  go_wp2_with (go_at_call 75; refine (minus_b (A := 1000) (B := 1000) _ (by with_reducible assumption) (by with_reducible assumption) (by omega)).mono ?_; rintro e w1 ⟨u1, u2, u3, rfl, HU, hvu, hb1, hz1⟩; obtain ⟨hc1, hf1⟩ := bcell hb1; have hs1 := hb1.size; (try simp at hs1); clear hz1; have hB1 : Below w.heap.size w w1 := (Below.trans (by repeat (first | with_reducible exact Below.refl _ _ | with_reducible assumption | with_reducible refine Below.drew ?_ | with_reducible refine below_drewN ?_ _ | (with_reducible refine Below.alloc ?_ ?_ _; rotate_left; (try simp) <;> omega) | (with_reducible refine Below.setCell ?_ ?_ _; rotate_left; (try simp) <;> omega))) (hb1.mono (by first | omega | (simp; omega) | simp))))
  have g1 : ad.block < w1.heap.size := by omega
  obtain ⟨k30, k31, k32⟩ := H3.out.below hB1 hb
  have hBu : Below w.heap.size w (w1.alloc (.cells #[.int .i64 u1, .int .i64 u2, .int .i64 u3] 84)) := (by repeat (first | with_reducible exact Below.refl _ _ | with_reducible assumption | with_reducible refine Below.drew ?_ | with_reducible refine below_drewN ?_ _ | (with_reducible refine Below.alloc ?_ ?_ _; rotate_left; (try simp) <;> omega) | (with_reducible refine Below.setCell ?_ ?_ _; rotate_left; (try simp) <;> omega)))
  have bu := Bk.new w1 84 #[.int .i64 u1, .int .i64 u2, .int .i64 u3]
  have ba : Bk (w1.alloc (.cells #[.int .i64 u1, .int .i64 u2, .int .i64 u3] 84)) (w.heap.size + 1) 84 #[.int .i64 a1, .int .i64 a2, .int .i64 a3] := by
    have h := Bk.new (w.alloc (.cells #[.int .i64 x1, .int .i64 x2, .int .i64 x3] 84)) 84 #[.int .i64 a1, .int .i64 a2, .int .i64 a3]
    rw [World.size_alloc] at h
    exact (h.below hb1 (by simp)).alloc _
  have HBA := Lib.hid ba
  have HBU := Lib.hid bu
  have HBB := Lib.hid hBu
  clear ba bu hBu
  have HK := Lib.hid (H3.out.below HBB.out hb)
  go_upto_region 7 with fail
  have hsa : w.heap.size + 1 < w1.heap.size + 1 := by omega
  have hsz : (w1.alloc (.cells #[.int .i64 u1, .int .i64 u2, .int .i64 u3] 84)).heap.size = w1.heap.size + 1 := by simp
  have HSZ := Lib.hid hsz; clear hsz
  generalize w1.alloc (.cells #[.int .i64 u1, .int .i64 u2, .int .i64 u3] 84) = wa at *
  have r0 : w.heap.size < wa.heap.size := by rw [HSZ.out]; omega
  have r1 : w.heap.size + 1 < wa.heap.size := by rw [HSZ.out]; omega
  have r2 : w1.heap.size < wa.heap.size := by rw [HSZ.out]; omega
  have r3 : ad.block < wa.heap.size := by rw [HSZ.out]; omega
  have e1 : ¬ w.heap.size + 1 = wa.heap.size := by rw [HSZ.out]; omega
  have e2 : ¬ w1.heap.size = wa.heap.size := by rw [HSZ.out]; omega
  have e3 : ¬ ad.block = wa.heap.size := by rw [HSZ.out]; omega
  clear k30 k31 k32 h00 h01 h02 h30 h31 h32 hc1 hf1 hs1 g1 hsa hb1 hB1
  obtain ⟨k30, k31, k32⟩ := HK.out
  have hBa := HBB.out
  have k00 := HBA.out.cell 0 rfl
  have k01 := HBA.out.cell 1 rfl
  have k02 := HBA.out.cell 2 rfl
  go_cut [8] (fun s8 wx => ∃ (g : Nat) (d1 d2 d3 : Int), s8 = .pointer (some ⟨g, 0, none⟩) ∧ Hid (d1 = p1 - a1 ∧ d2 = p2 - a2 ∧ d3 = p3 - a3) ∧ vb (1000 + 1000) d1 d2 d3 ∧ Below w.heap.size w wx ∧ (Bk wx (w.heap.size + 1) 84 #[.int .i64 a1, .int .i64 a2, .int .i64 a3] ∧ Bk wx w1.heap.size 84 #[.int .i64 u1, .int .i64 u2, .int .i64 u3] ∧ Bk wx g 84 #[.int .i64 d1, .int .i64 d2, .int .i64 d3]))
  case first =>
    go_region_held3 (fun w' => w'.cell? ⟨w.heap.size + 1, 0, none⟩ = some (.int .i64 a1) ∧ w'.cell? ⟨w.heap.size + 1, 1, none⟩ = some (.int .i64 a2) ∧ w'.cell? ⟨w.heap.size + 1, 2, none⟩ = some (.int .i64 a3) ∧ w'.cell? ⟨ad.block, ad.off + 3, none⟩ = some (.int .i64 p1) ∧ w'.cell? ⟨ad.block, ad.off + 3 + 1, none⟩ = some (.int .i64 p2) ∧ w'.cell? ⟨ad.block, ad.off + 3 + 2, none⟩ = some (.int .i64 p3))
      (((try dsimp only); (repeat' apply And.intro) <;> (first | (with_reducible assumption) | go_keep | (rw [World.cell?_alloc_past _ _ _ (by first | omega | (simp; omega))]; first | (with_reducible assumption) | go_keep) | ((repeat rw [World.cell?_setCell_other _ _ _ _ (by simp <;> omega)]); first | (with_reducible assumption) | go_keep))))
      (first | (go_at_call 75; refine (minus_b (A := 1000) (B := 1000) _ (by with_reducible assumption) (by with_reducible assumption) (by omega)).mono ?_; rintro e w2 ⟨d1, d2, d3, rfl, HD, hvd, hb2, hz2⟩; obtain ⟨hc2, hf2⟩ := bcell hb2; have hs2 := hb2.size; (try simp at hs2); clear hz2; have hB2 : Below w.heap.size w w2 := (Below.trans (by repeat (first | with_reducible exact Below.refl _ _ | with_reducible assumption | with_reducible refine Below.drew ?_ | with_reducible refine below_drewN ?_ _ | (with_reducible refine Below.alloc ?_ ?_ _; rotate_left; (try simp) <;> omega) | (with_reducible refine Below.setCell ?_ ?_ _; rotate_left; (try simp) <;> omega))) (hb2.mono (by first | omega | (simp; omega) | simp))); obtain ⟨m30, m31, m32⟩ := H3.out.below hB2 hb; have hwa2 : Below wa.heap.size wa w2 := (Below.trans (by repeat (first | with_reducible exact Below.refl _ _ | with_reducible assumption | with_reducible refine Below.drew ?_ | with_reducible refine below_drewN ?_ _ | (with_reducible refine Below.alloc ?_ ?_ _; rotate_left; (try simp) <;> omega) | (with_reducible refine Below.setCell ?_ ?_ _; rotate_left; (try simp) <;> omega))) (hb2.mono (by first | omega | (simp; omega) | simp))); have ta := HBA.out.below hwa2 r1; have tu := HBU.out.below hwa2 r2; have ta0 := ta.cell 0 rfl; have ta1 := ta.cell 1 rfl; have ta2 := ta.cell 2 rfl; have v1 : w.heap.size + 1 < w2.heap.size := (by omega); have v2 : ad.block < w2.heap.size := (by omega)))
    all_goals
      go_wp2_with fail
      go_meet
      have zd : ∀ v : Value, Bk (wa.alloc (.cells #[.int .i64 0, .int .i64 0, .int .i64 0] 84)) wa.heap.size 84 #[.int .i64 0, .int .i64 0, .int .i64 0] := fun _ => Bk.new _ _ _
      first
        | exact ⟨w2.heap.size, d1, d2, d3, rfl, HD, hvd, (by repeat (first | with_reducible exact Below.refl _ _ | with_reducible assumption | with_reducible refine Below.drew ?_ | with_reducible refine below_drewN ?_ _ | (with_reducible refine Below.alloc ?_ ?_ _; rotate_left; (try simp) <;> omega) | (with_reducible refine Below.setCell ?_ ?_ _; rotate_left; (try simp) <;> omega))), (by repeat (first | with_reducible assumption | with_reducible exact Bk.new _ _ _ | with_reducible refine Bk.drew ?_ | with_reducible refine Bk.drewN ?_ _ | with_reducible refine Bk.alloc ?_ _ | (with_reducible refine Bk.far ?_ ?_ _; rotate_left; (try simp) <;> omega))), (by repeat (first | with_reducible assumption | with_reducible exact Bk.new _ _ _ | with_reducible refine Bk.drew ?_ | with_reducible refine Bk.drewN ?_ _ | with_reducible refine Bk.alloc ?_ _ | (with_reducible refine Bk.far ?_ ?_ _; rotate_left; (try simp) <;> omega))), (by repeat (first | with_reducible assumption | with_reducible exact Bk.new _ _ _ | with_reducible refine Bk.drew ?_ | with_reducible refine Bk.drewN ?_ _ | with_reducible refine Bk.alloc ?_ _ | (with_reducible refine Bk.far ?_ ?_ _; rotate_left; (try simp) <;> omega)))⟩
        | exact ⟨wa.heap.size, d1, d2, d3, rfl, HD, hvd, (by repeat (first | with_reducible exact Below.refl _ _ | with_reducible assumption | with_reducible refine Below.drew ?_ | with_reducible refine below_drewN ?_ _ | (with_reducible refine Below.alloc ?_ ?_ _; rotate_left; (try simp) <;> omega) | (with_reducible refine Below.setCell ?_ ?_ _; rotate_left; (try simp) <;> omega))), (by repeat (first | with_reducible assumption | with_reducible exact Bk.new _ _ _ | with_reducible refine Bk.drew ?_ | with_reducible refine Bk.drewN ?_ _ | with_reducible refine Bk.alloc ?_ _ | (with_reducible refine Bk.far ?_ ?_ _; rotate_left; (try simp) <;> omega))), (by repeat (first | with_reducible assumption | with_reducible exact Bk.new _ _ _ | with_reducible refine Bk.drew ?_ | with_reducible refine Bk.drewN ?_ _ | with_reducible refine Bk.alloc ?_ _ | (with_reducible refine Bk.far ?_ ?_ _; rotate_left; (try simp) <;> omega))), (((((zd undef).drew.below hb2 (by simp)).set 0 _).set 1 _).set 2 _)⟩
  case rest =>
    obtain ⟨g, d1, d2, d3, rfl, HD, hvd, hBx, xa, xu, xd⟩ := hcut
    clear HBA HBU HBB HK HSZ r0 r1 r2 r3 e1 e2 e3 k30 k31 k32 k00 k01 k02 hBa H3 hb hv hvp hu
    have la := xa.lt
    have lu := xu.lt
    have ld := xd.lt
    have RC : ∀ (W : World) (b o : Nat), Below wc.heap.size wc W → b < wc.heap.size → W.cell? ⟨b, o, none⟩ = wc.cell? ⟨b, o, none⟩ := fun W b o h hb => h.cell (p := ⟨b, o, none⟩) hb
    have d0 := xd.cell 0 rfl
    have d1' := xd.cell 1 rfl
    have d2' := xd.cell 2 rfl
    have u0 := xu.cell 0 rfl
    have u1' := xu.cell 1 rfl
    have u2' := xu.cell 2 rfl
    go_wp2_with fail
    refine (times_b (a := d1) _ hvd hvd (by omega)).mono ?_
    rintro e w2 ⟨y, rfl, HY, hvy, hb2, hz2⟩; clear hz2
    have hs2 := hb2.size
    have hW2 : Below wc.heap.size wc w2 := (hb2.mono (Nat.le_refl _))
    go_wp2_with fail
    refine (times_b (a := u1) _ hvu hvd (by omega)).mono ?_
    rintro e w3 ⟨z, rfl, HZ, hvz, hb3, hz3⟩; clear hz3
    have hs3 := hb3.size
    have hW3 : Below wc.heap.size wc w3 := hW2.trans (hb3.mono hs2)
    have hyb : -12000000 ≤ y ∧ y ≤ 12000000 := by have := hvy; unfold ab at this; omega
    have hzb : -12000000 ≤ z ∧ z ≤ 12000000 := by have := hvz; unfold ab at this; omega
    obtain ⟨hy1, hy2⟩ := hyb
    obtain ⟨hzb1, hzb2⟩ := hzb
    have HE2 := Lib.hid (HE.out _ _ _ _ _ _ _ _ HU.out HD.out HY.out HZ.out)
    clear HE HU HD HY HZ
    have hBw : Below w.heap.size w w3 := hBx.trans (hW3.mono (by omega))
    have WYZ : Hid (IntKind.i64.wrap (y - z) = y - z) := IntWalk.i64_in _ (by omega)
    by_cases hy0 : y = 0
    · have hyn : (y != 0) = false := by rw [hy0]; rfl
      have HY0 := Lib.hid hy0; clear hy0
      go_wp2
      go_region
      all_goals
        go_wp2
        go_ret2
        exact w_none (by rw [HE2.out, if_neg (by intro h; exact h.1 HY0.out)]) (by omega) (by omega) (by repeat (first | with_reducible exact Below.refl _ _ | with_reducible assumption | with_reducible refine Below.drew ?_ | with_reducible refine below_drewN ?_ _ | (with_reducible refine Below.alloc ?_ ?_ _; rotate_left; (try simp) <;> omega) | (with_reducible refine Below.setCell ?_ ?_ _; rotate_left; (try simp) <;> omega)))
    · have hyn : (y != 0) = true := by rw [bne_iff_ne]; exact hy0
      have HY0 := Lib.hid hy0; clear hy0
      go_wp2
      go_region_held3 (fun w' => w'.cell? ⟨w1.heap.size, 0, none⟩ = some (.int .i64 u1) ∧ w'.cell? ⟨w1.heap.size, 1, none⟩ = some (.int .i64 u2) ∧ w'.cell? ⟨w1.heap.size, 2, none⟩ = some (.int .i64 u3) ∧ w'.cell? ⟨g, 0, none⟩ = some (.int .i64 d1) ∧ w'.cell? ⟨g, 1, none⟩ = some (.int .i64 d2) ∧ w'.cell? ⟨g, 2, none⟩ = some (.int .i64 d3))
        (((try dsimp only); (repeat' apply And.intro) <;> (first | (with_reducible assumption) | go_keep | (rw [World.cell?_alloc_past _ _ _ (by first | omega | (simp; omega))]; first | (with_reducible assumption) | go_keep))))
        (first | (go_at_call 77; ((with_reducible refine (scaled_b (a := u1) _ hvu hvy (by omega)).mono ?_); rintro e w4 ⟨s1, s2, s3, rfl, HS, _, hb4, hz4⟩); clear hz4; have hs4 := hb4.size; (try simp at hs4); have hW4 : Below wc.heap.size wc w4 := (Below.trans (by repeat (first | with_reducible exact Below.refl _ _ | with_reducible assumption | with_reducible refine Below.drew ?_ | with_reducible refine below_drewN ?_ _ | (with_reducible refine Below.alloc ?_ ?_ _; rotate_left; (try simp) <;> omega) | (with_reducible refine Below.setCell ?_ ?_ _; rotate_left; (try simp) <;> omega))) (hb4.mono (by first | omega | (simp; omega) | simp)))) | (go_at_call 77; ((with_reducible refine (scaled_b (a := d1) _ hvd hvz (by omega)).mono ?_); rintro e w5 ⟨t1, t2, t3, rfl, HT, _, hb5, hz5⟩); clear hz5; have hs5 := hb5.size; (try simp at hs5); have hW5 : Below wc.heap.size wc w5 := (Below.trans (by repeat (first | with_reducible exact Below.refl _ _ | with_reducible assumption | with_reducible refine Below.drew ?_ | with_reducible refine below_drewN ?_ _ | (with_reducible refine Below.alloc ?_ ?_ _; rotate_left; (try simp) <;> omega) | (with_reducible refine Below.setCell ?_ ?_ _; rotate_left; (try simp) <;> omega))) (hb5.mono (by first | omega | (simp; omega) | simp)))))
      all_goals
        go_wp2
        go_ret2
        have hB5 : Below w.heap.size w w5 := hBx.trans (hW5.mono (by omega))
        refine w_end (l := [y - z, z]) ?hE rfl ?hL (by omega) (by omega) (by repeat (first | with_reducible exact Below.refl _ _ | with_reducible assumption | with_reducible refine Below.drew ?_ | with_reducible refine below_drewN ?_ _ | (with_reducible refine Below.alloc ?_ ?_ _; rotate_left; (try simp) <;> omega) | (with_reducible refine Below.setCell ?_ ?_ _; rotate_left; (try simp) <;> omega)))
        case hE =>
          rw [HE2.out, ← HS.out.1, ← HS.out.2.1, ← HS.out.2.2, ← HT.out.1, ← HT.out.2.1, ← HT.out.2.2]
          have := HY0.out
          simp [this]
        case hL =>
          first
            | exact Lies.fresh rfl (by simp) (by simp) (by rw [WYZ.out]; rfl)
            | exact Lies.via (cs := #[.int .i64 (IntKind.i64.wrap (y - z)), .int .i64 z]) (t := 3) (by repeat (first | with_reducible exact Bk.new _ _ _ | with_reducible refine Bk.drew ?_ | (refine Bk.below ?_ hb4 ?_; rotate_left; (first | omega | (simp; omega) | simp)))) hb5 (by rw [WYZ.out]; rfl)
end Go.Proofs.Ytkjceegmmhnajaa
