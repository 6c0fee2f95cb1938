/- The law PigmentDuals, walked. -/
import Derived.Test.YtkjceegmmhnajaaN2
import Derived.Test.YtkjceegmmhnajaaB1
import Derived.Test.YtkjceegmmhnajaaA1c
import Derived.Test.YtkjceegmmhnajaaD2
import Derived.Test.YtkjceegmmhnajaaD3b
import Derived.Test.YtkjceegmmhnajaaD4
namespace Go.Proofs.Ytkjceegmmhnajaa
open Go.RowKit

theorem lowest_in {a b M : Int} (ha : 0 ≤ a) (ha2 : a ≤ M) (hb : 1 ≤ b) (hb2 : b ≤ M) : (0 ≤ (lowest a b).1 ∧ (lowest a b).1 ≤ M) ∧ 1 ≤ (lowest a b).2 ∧ (lowest a b).2 ≤ M := by
  obtain ⟨g, hg, e1, e2⟩ := lowest_parts a b hb
  generalize (lowest a b).1 = u at *
  generalize (lowest a b).2 = v at *
  have hu : 0 ≤ u := Int.not_lt.1 fun h => by have := Int.mul_neg_of_neg_of_pos h (show 0 < g by omega); omega
  have hv : 0 < v := Int.not_le.1 fun h => by have := Int.mul_nonpos_of_nonpos_of_nonneg h (show 0 ≤ g by omega); omega
  have h1 := Int.mul_le_mul_of_nonneg_left hg hu
  have h2 := Int.mul_le_mul_of_nonneg_left hg (show 0 ≤ v by omega)
  omega

def allB (e : Bool) (G : Nat → Bool) : Nat → Bool
  | 0 => e
  | k + 1 => allB e G k && G k
theorem allB_false (G : Nat → Bool) : ∀ k, allB false G k = false
  | 0 => rfl
  | k + 1 => by rw [allB, allB_false G k]; rfl

/-- the four boxes of the arguments -/
def B4 (w : World) (b : Nat) (x y z : Int) (A : Option Addr) (n c : Nat) (A' : Option Addr) (n' c' : Nat) (d : Du) : Prop :=
  Bk w b 37 #[.int .i64 x, .int .i64 y, .int .i64 z] ∧ Bk w (b + 1) 25 #[.slice A n c] ∧ Bk w (b + 1 + 1) 25 #[.slice A' n' c'] ∧ Bk w (b + 1 + 1 + 1) 44 d.arr
section
variable {w w' : World} {b : Nat} {x y z : Int} {A : Option Addr} {n c : Nat} {A' : Option Addr} {n' c' : Nat} {d : Du}
theorem B4.new (w : World) : B4 ((((w.alloc (.cells #[.int .i64 x, .int .i64 y, .int .i64 z] 37)).alloc (.cells #[.slice A n c] 25)).alloc (.cells #[.slice A' n' c'] 25)).alloc (.cells d.arr 44)) w.heap.size x y z A n c A' n' c' d := by
  have h2 := Bk.new (w.alloc (.cells #[.int .i64 x, .int .i64 y, .int .i64 z] 37)) 25 #[.slice A n c]
  have h3 := Bk.new ((w.alloc (.cells #[.int .i64 x, .int .i64 y, .int .i64 z] 37)).alloc (.cells #[.slice A n c] 25)) 25 #[.slice A' n' c']
  have h4 := Bk.new (((w.alloc (.cells #[.int .i64 x, .int .i64 y, .int .i64 z] 37)).alloc (.cells #[.slice A n c] 25)).alloc (.cells #[.slice A' n' c'] 25)) 44 d.arr
  rw [World.size_alloc] at h2
  rw [World.size_alloc, World.size_alloc] at h3
  rw [World.size_alloc, World.size_alloc, World.size_alloc] at h4
  exact ⟨(((Bk.new w 37 _).alloc _).alloc _).alloc _, (h2.alloc _).alloc _, h3.alloc _, h4⟩
theorem B4.lt (h : B4 w b x y z A n c A' n' c' d) : b + 1 + 1 + 1 < w.heap.size := h.2.2.2.lt
theorem B4.below {B : Nat} (h : B4 w b x y z A n c A' n' c' d) (hb : Below B w w') (hB : b + 1 + 1 + 1 < B) : B4 w' b x y z A n c A' n' c' d := ⟨h.1.below hb (by omega), h.2.1.below hb (by omega), h.2.2.1.below hb (by omega), h.2.2.2.below hb hB⟩
theorem B4.alloc (h : B4 w b x y z A n c A' n' c' d) (o : Obj) : B4 (w.alloc o) b x y z A n c A' n' c' d := ⟨h.1.alloc o, h.2.1.alloc o, h.2.2.1.alloc o, h.2.2.2.alloc o⟩
theorem B4.facts (h : B4 w b x y z A n c A' n' c' d) : (b < w.heap.size ∧ b + 1 < w.heap.size ∧ b + 1 + 1 < w.heap.size ∧ b + 1 + 1 + 1 < w.heap.size) ∧ (w.cell? ⟨b, 0, none⟩ = some (.int .i64 x) ∧ w.cell? ⟨b, 1, none⟩ = some (.int .i64 y) ∧ w.cell? ⟨b, 2, none⟩ = some (.int .i64 z)) ∧ w.cell? ⟨b + 1, 0, none⟩ = some (.slice A n c) ∧ w.cell? ⟨b + 1 + 1, 0, none⟩ = some (.slice A' n' c') ∧
    w.cell? ⟨b + 1 + 1 + 1, 0, none⟩ = some (.int .i64 d.n0) ∧ w.cell? ⟨b + 1 + 1 + 1, 1, none⟩ = some (.int .i64 d.n1) ∧ w.cell? ⟨b + 1 + 1 + 1, 2, none⟩ = some (.int .i64 d.n2) ∧ w.cell? ⟨b + 1 + 1 + 1, 3, none⟩ = some (.int .i64 d.n3) ∧ w.cell? ⟨b + 1 + 1 + 1, 4, none⟩ = some (.int .i64 d.den) := by
  have := h.lt
  exact ⟨⟨by omega, by omega, by omega, by omega⟩, ⟨h.1.cell 0 rfl, h.1.cell 1 rfl, h.1.cell 2 rfl⟩, h.2.1.cell 0 rfl, h.2.2.1.cell 0 rfl, h.2.2.2.cell 0 rfl, h.2.2.2.cell 1 rfl, h.2.2.2.cell 2 rfl, h.2.2.2.cell 3 rfl, h.2.2.2.cell 4 rfl⟩
end

def pairB (F : Nat → Int × Int) (V : Nat → Int) (k : Nat) : Bool := (F k).1 == V k && (F k).2 == 1
/-- what CheckCheapest's answer means -/
theorem cc_facts {l : List Tn} {x y z : Int} {ps : List Pt} {d : Du} (h : ccB l x y z ps d = true) : chkW l x y z = 0 ∧ chkT l = 0 ∧ recB l.length ps = true ∧ dualB d = true ∧ belowB d l = true ∧ lowest (atD d x y z) d.den = lowest (wsum Tn.price l ps) (wall ps) := by
  unfold ccB at h
  simp only [Bool.and_eq_true, decide_eq_true_iff] at h
  obtain ⟨h0, h1, _, h3, h4, h5⟩ := h
  have hT : chkT l = 0 := by
    unfold chkW at h0
    split at h0
    · assumption
    · exact h0
  unfold sameF at h5
  rw [Bool.and_eq_true, beq_iff_eq, beq_iff_eq] at h5
  exact ⟨h0, hT, h1, h3, h4, Prod.ext h5.1 h5.2⟩
theorem cc_price {l : List Tn} {ps : List Pt} (hT : chkT l = 0) (hr : recB l.length ps = true) : mixE l ps = 0 ∧ priF l ps = lowest (wsum Tn.price l ps) (wall ps) ∧ mixF l ps = shF l ps := by
  have h0 : mixE l ps = 0 := by unfold mixE; rw [if_pos hT, if_pos hr]
  exact ⟨h0, by unfold priF; rw [if_pos h0], by funext j; unfold mixF; rw [if_pos h0]⟩
theorem mixE_rec {l : List Tn} {ps : List Pt} (hT : chkT l = 0) (h : mixE l ps = 0) : recB l.length ps = true := by
  unfold mixE at h
  rw [if_pos hT] at h
  split at h
  · assumption
  · omega
theorem pri_in {l : List Tn} {ps : List Pt} (hT : chkT l = 0) (hr : recB l.length ps = true) : (0 ≤ (priF l ps).1 ∧ (priF l ps).1 ≤ 3050000000000000000) ∧ 1 ≤ (priF l ps).2 ∧ (priF l ps).2 ≤ 3050000000000000000 := by
  obtain ⟨_, e, _⟩ := cc_price hT hr
  rw [e]
  have hp := of_decide_eq_true hr
  have hg := goodP_of hp
  have h1 := wall_bound ps _ hg
  have h2 := wsum_bound Tn.price l ps hg (fun t ht => price_in ((chkT_ok hT).2.2.1 t ht))
  have h3 := hp.1.1
  have h4 := hp.1.2
  exact lowest_in (by omega) (by omega) (by omega) (by omega)
theorem duals_less {l : List Tn} {x y z : Int} {ps qs : List Pt} {d : Du} (h : ccB l x y z ps d = true) (hm : mixE l qs = 0) (hg : allB true (pairB (mixF l qs) (fun k => if k = 0 then x else if k = 1 then y else z)) 3 = true) :
    decide ((priF l qs).1 * (priF l ps).2 < (priF l ps).1 * (priF l qs).2) = false := by
  obtain ⟨_, hT, h1, h3, h4, h5⟩ := cc_facts h
  have hr := mixE_rec hT hm
  obtain ⟨_, e1, _⟩ := cc_price hT h1
  obtain ⟨_, e2, e3⟩ := cc_price hT hr
  have hq := of_decide_eq_true hr
  have hgd := goodP_of hq
  have hw := wall_bound qs _ hgd
  have hq1 := hq.1.1
  have hgv : rgiveB l qs x y z = true := by
    rw [← give_same (by omega)]
    rw [e3] at hg
    simp only [allB, pairB, Bool.true_and] at hg
    unfold giveB
    simp only [Bool.and_eq_true] at hg ⊢
    exact ⟨hg.1.1, hg.1.2, hg.2⟩
  have hbl : ∀ t ∈ l, atD d t.a t.b t.c ≤ d.den * t.price := fun t ht => by
    unfold belowB at h4
    have h6 : l.any (over d) = false := by simpa using h4
    have h7 := List.any_eq_false.1 h6 t ht
    unfold over at h7
    simp only [decide_eq_true_iff] at h7
    omega
  have hwd := weak_dual hbl hgd hgv
  have hden := (dualB_ok h3).2.2.2.2.1
  rw [decide_eq_false_iff_not, e1, e2, ← h5]
  exact no_less (by omega) hden hwd

set_option maxRecDepth 100000 in
set_option maxHeartbeats 4000000 in
theorem lawDuals_any (l : List Tn) (ps qs : List Pt) (x y z : Int) (d : Du) (At A A' : Option Addr) (ct c c' : Nat) (w : World) (hlt : Lies w w.heap.size At (tintsC l)) (hl : Lies w w.heap.size A (partsC ps)) (hl' : Lies w w.heap.size A' (partsC qs))
    (hm : ps.length ≤ maxLen) (hm' : qs.length ≤ maxLen) (hm2 : l.length ≤ maxLen) (hs : ∀ t ∈ l, t.name.size ≤ maxLen) :
    Calls Try.prog 7 #[.slice At l.length ct, .agg #[.int .i64 x, .int .i64 y, .int .i64 z], .agg #[.slice A ps.length c], .agg #[.slice A' qs.length c'], d.agg] w fun e w' => e = .returned (.bool true) ∧ Below w.heap.size w w' := by
  have HF := Lib.hid (fun W (hb : Below w.heap.size w W) => fine_any l At ct 14 W ((hlt.below hb (Nat.le_refl _)).more hb.size) hm2 hs)
  have HM := Lib.hid mixed_any
  unfold maxLen at hm hm' hm2
  by_cases h0 : fineB l 14 = true
  · obtain ⟨g1, g2⟩ := fine_facts h0
    have H0 := Lib.hid h0
    by_cases h1 : ps.length ≤ 6
    · by_cases h2 : qs.length ≤ 6
      · have hs2 : ∀ t ∈ l, t.name.size ≤ 100 := fun t ht => by have := g2 t ht; omega
        have HCC := Lib.hid (fun W (hb : Below w.heap.size w W) => checkCheapest_any l ps d x y z At A ct c W ((hlt.below hb (Nat.le_refl _)).more hb.size) ((hl.below hb (Nat.le_refl _)).more hb.size) (by omega) (by omega) hs2)
        have HRC := Lib.hid (fun W (hb : Below w.heap.size w W) => rcheckCheapest_any l ps d x y z At A ct c W ((hlt.below hb (Nat.le_refl _)).more hb.size) ((hl.below hb (Nat.le_refl _)).more hb.size) (by omega) (by omega) hs2)
        have h1' : (ps.length : Int) ≤ 6 := by omega
        have h2' : (qs.length : Int) ≤ 6 := by omega
        by_cases h3 : ccB l x y z ps d = true
        · obtain ⟨hW, hT, hr, _, _, _⟩ := cc_facts h3
          obtain ⟨e1, _, _⟩ := cc_price hT hr
          have HP := Lib.hid (fun W (hb : Below w.heap.size w W) => prices_any l ps At A ct c W ((hlt.below hb (Nat.le_refl _)).more hb.size) ((hl.below hb (Nat.le_refl _)).more hb.size) (by omega) (by omega) hs2)
          have HQ := Lib.hid (fun W (hb : Below w.heap.size w W) => prices_any l qs At A' ct c' W ((hlt.below hb (Nat.le_refl _)).more hb.size) ((hl'.below hb (Nat.le_refl _)).more hb.size) (by omega) (by omega) hs2)
          have HX := Lib.hid (fun W (hb : Below w.heap.size w W) => mix_any l qs At A' ct c' W ((hlt.below hb (Nat.le_refl _)).more hb.size) ((hl'.below hb (Nat.le_refl _)).more hb.size) (by omega) (by omega) hs2)
          rw [h3, hW] at HCC HRC
          rw [e1] at HP
          have HL : Hid (mixE l qs = 0 → allB true (pairB (mixF l qs) (fun k => if k = 0 then x else if k = 1 then y else z)) 3 = true → ∀ W, Calls Try.prog 18 #[.agg #[.int .i64 (priF l qs).1, .int .i64 (priF l qs).2], .agg #[.int .i64 (priF l ps).1, .int .i64 (priF l ps).2]] W (LessEnd false W)) := fun hm0 hall W => by
            have b1 := pri_in hT (mixE_rec hT hm0)
            have b2 := pri_in hT hr
            have := less_any (priF l qs).1 (priF l qs).2 (priF l ps).1 (priF l ps).2 W b1.1.1 b1.1.2 b1.2.1 b1.2.2 b2.1.1 b2.1.2 b2.2.1 b2.2.2
            rw [duals_less h3 hm0 hall] at this
            exact this
          clear h0 g2 hs hs2 hlt hl hl' h3 hW hT hr e1 g1
          generalize priF l ps = fa at *
          generalize priF l qs = fb at *
          generalize mixF l qs = F at *
          obtain ⟨a1, a2⟩ := fa
          obtain ⟨b1, b2⟩ := fb
          dsimp only at HP HQ HL
          obtain ⟨f0, hf0⟩ : ∃ f0, f0 = (F 0).1 := ⟨_, rfl⟩
          obtain ⟨n0, n1, n2, n3, den⟩ := d
          obtain ⟨V, h1v, h2v, h3v⟩ : ∃ V : Nat → Int, V 0 = x ∧ V 1 = y ∧ V 2 = z := ⟨fun k => if k = 0 then x else if k = 1 then y else z, rfl, rfl, rfl⟩
          have HG : Hid (allB true (pairB F (fun k => if k = 0 then x else if k = 1 then y else z)) 3 = allB true (pairB F V) 3) := by
            show _ = _
            simp [allB, pairB, h1v, h2v, h3v]
          rw [HG.out] at HL
          clear HG hf0
          subst h1v; subst h2v; subst h3v
          by_cases hm0 : mixE l qs = 0
          · rw [hm0] at HQ HX
            have HLs := Lib.hid (HL.out hm0)
            clear HL
            go_enter Try.func7, Try.ntmps7
            go_wp2_with (go_at_call 9; refine (HF.out _ (by exact (by repeat (first | with_reducible exact Below.refl _ _ | with_reducible assumption | with_reducible refine Below.drew ?_ | with_reducible refine below_drewN ?_ _ | (with_reducible refine Below.alloc ?_ ?_ _; rotate_left; (try simp) <;> omega) | (with_reducible refine Below.setCell ?_ ?_ _; rotate_left; (try simp) <;> omega))))).mono ?_; rintro e w0 ⟨rfl, rfl⟩; rw [H0.out])
            · go_wp2_with fail
              refine (HCC.out _ (by exact (by repeat (first | with_reducible exact Below.refl _ _ | with_reducible assumption | with_reducible refine Below.drew ?_ | with_reducible refine below_drewN ?_ _ | (with_reducible refine Below.alloc ?_ ?_ _; rotate_left; (try simp) <;> omega) | (with_reducible refine Below.setCell ?_ ?_ _; rotate_left; (try simp) <;> omega))))).mono ?_
              rintro e w1 ⟨rfl, hb1⟩
              have hB1 : Below w.heap.size w w1 := (Below.trans (by repeat (first | with_reducible exact Below.refl _ _ | with_reducible assumption | with_reducible refine Below.drew ?_ | with_reducible refine below_drewN ?_ _ | (with_reducible refine Below.alloc ?_ ?_ _; rotate_left; (try simp) <;> omega) | (with_reducible refine Below.setCell ?_ ?_ _; rotate_left; (try simp) <;> omega))) (hb1.mono (by first | omega | (simp; omega) | simp)))
              have X1 := (B4.new (x := (V 0)) (y := (V 1)) (z := (V 2)) (A := A) (n := ps.length) (c := c) (A' := A') (n' := qs.length) (c' := c') (d := ⟨n0, n1, n2, n3, den⟩) w).below hb1 (by simp)
              obtain ⟨⟨i0, i1, i2, i3⟩, ⟨x0, x1, x2⟩, r0, s0, y0, y1, y2, y3, y4⟩ := X1.facts
              go_wp2_with fail
              refine (HRC.out _ (by exact (by repeat (first | with_reducible exact Below.refl _ _ | with_reducible assumption | with_reducible refine Below.drew ?_ | with_reducible refine below_drewN ?_ _ | (with_reducible refine Below.alloc ?_ ?_ _; rotate_left; (try simp) <;> omega) | (with_reducible refine Below.setCell ?_ ?_ _; rotate_left; (try simp) <;> omega))))).mono ?_
              rintro e w2 ⟨rfl, hb2⟩
              have hB2 : Below w.heap.size w w2 := hB1.trans (hb2.mono hB1.size)
              have X2 := X1.below hb2 X1.lt
              clear x0 x1 x2 r0 s0 y0 y1 y2 y3 y4 i0 i1 i2 i3
              obtain ⟨⟨i0, i1, i2, i3⟩, ⟨x0, x1, x2⟩, r0, s0, y0, y1, y2, y3, y4⟩ := X2.facts
              go_wp2_with fail
              refine (HP.out _ (by exact (by repeat (first | with_reducible exact Below.refl _ _ | with_reducible assumption | with_reducible refine Below.drew ?_ | with_reducible refine below_drewN ?_ _ | (with_reducible refine Below.alloc ?_ ?_ _; rotate_left; (try simp) <;> omega) | (with_reducible refine Below.setCell ?_ ?_ _; rotate_left; (try simp) <;> omega))))).mono ?_
              rintro e w3 ⟨rfl, hb3⟩
              have hB3 : Below w.heap.size w w3 := hB2.trans (hb3.mono hB2.size)
              have X3 := X2.below hb3 X2.lt
              clear x0 x1 x2 r0 s0 y0 y1 y2 y3 y4 i0 i1 i2 i3
              obtain ⟨⟨i0, i1, i2, i3⟩, ⟨x0, x1, x2⟩, r0, s0, y0, y1, y2, y3, y4⟩ := X3.facts
              go_wp2_with fail
              refine (HQ.out _ (by exact (by repeat (first | with_reducible exact Below.refl _ _ | with_reducible assumption | with_reducible refine Below.drew ?_ | with_reducible refine below_drewN ?_ _ | (with_reducible refine Below.alloc ?_ ?_ _; rotate_left; (try simp) <;> omega) | (with_reducible refine Below.setCell ?_ ?_ _; rotate_left; (try simp) <;> omega))))).mono ?_
              rintro e w4 ⟨rfl, hb4⟩
              have hB4 : Below w.heap.size w w4 := (hB3.alloc hB3.size _).trans (hb4.mono (by have := hB3.size; simp; omega))
              have X4 := (X3.alloc (.cells #[.int .i64 a1, .int .i64 a2] 29)).below hb4 (by simp; omega)
              have p4 : Bk w4 w3.heap.size 29 #[.int .i64 a1, .int .i64 a2] := (Bk.new w3 29 #[.int .i64 a1, .int .i64 a2]).below hb4 (by simp)
              clear x0 x1 x2 r0 s0 y0 y1 y2 y3 y4 i0 i1 i2 i3
              obtain ⟨⟨i0, i1, i2, i3⟩, ⟨x0, x1, x2⟩, r0, s0, y0, y1, y2, y3, y4⟩ := X4.facts
              go_wp2_with fail
              refine (HX.out _ (by exact (by repeat (first | with_reducible exact Below.refl _ _ | with_reducible assumption | with_reducible refine Below.drew ?_ | with_reducible refine below_drewN ?_ _ | (with_reducible refine Below.alloc ?_ ?_ _; rotate_left; (try simp) <;> omega) | (with_reducible refine Below.setCell ?_ ?_ _; rotate_left; (try simp) <;> omega))))).mono ?_
              rintro e w5 ⟨rfl, hb5⟩
              have hB5 : Below w.heap.size w w5 := (hB4.alloc hB4.size _).trans (hb5.mono (by have := hB4.size; simp; omega))
              have X5 := (X4.alloc (.cells #[.int .i64 b1, .int .i64 b2] 29)).below hb5 (by simp; omega)
              have p5 : Bk w5 w3.heap.size 29 #[.int .i64 a1, .int .i64 a2] := (p4.alloc (.cells #[.int .i64 b1, .int .i64 b2] 29)).below hb5 (by have := p4.lt; simp; omega)
              have q5 : Bk w5 w4.heap.size 29 #[.int .i64 b1, .int .i64 b2] := (Bk.new w4 29 #[.int .i64 b1, .int .i64 b2]).below hb5 (by simp)
              clear x0 x1 x2 r0 s0 y0 y1 y2 y3 y4 i0 i1 i2 i3 X1 X2 X3 X4 p4
              go_wp2
              go_loopw [21, 22] (fun s y wr => ∃ (k : Nat) (b : Bool), k ≤ 3 ∧ s = .bool b ∧ y = .int .i64 k ∧ Hid (b = allB true (pairB F V) k) ∧ Below w.heap.size w wr ∧ (B4 wr w.heap.size (V 0) (V 1) (V 2) A ps.length c A' qs.length c' ⟨n0, n1, n2, n3, den⟩ ∧ Bk wr w3.heap.size 29 #[.int .i64 a1, .int .i64 a2] ∧ Bk wr w4.heap.size 29 #[.int .i64 b1, .int .i64 b2] ∧ Bk wr w5.heap.size 30 #[.int .i64 (F 0).1, .int .i64 (F 0).2, .int .i64 (F 1).1, .int .i64 (F 1).2, .int .i64 (F 2).1, .int .i64 (F 2).2])) (fun _ y _ => 3 - (intOf y).toNat)
              case atStart => exact ⟨0, true, by omega, rfl, rfl, rfl, hB5.alloc hB5.size _, X5.alloc _, p5.alloc _, q5.alloc _, Bk.new _ _ _⟩
              case round =>
                obtain ⟨k, b, hk, rfl, rfl, hg, hbw, hX, hp, hq, hf⟩ := hrel
                obtain ⟨⟨i0, i1, i2, i3⟩, ⟨x0, x1, x2⟩, r0, s0, y0, y1, y2, y3, y4⟩ := hX.facts
                have lf := hf.lt
                by_cases hk3 : k < 3
                · match k, hk3 with
                  | 0, _ =>
                    have c1 := hf.cell 0 rfl
                    have c2 := hf.cell 1 rfl
                    have E29 := fun w => eq29 9998 (F 0).1 (F 0).2 (V 0) 1 w
                    cases b with
                    | true =>
                      have H : Hid (((F 0).1 == V 0 && (F 0).2 == 1) = allB true (pairB F V) (0 + 1)) := by
                        show _ = _
                        rw [allB, ← hg.out]; rfl
                      go_wp2
                      go_quiet (fail)
                      go_wp2
                      go_roundw
                      case rel => exact ⟨0 + 1, _, by omega, rfl, by go_num, H, (by repeat (first | with_reducible exact Below.refl _ _ | with_reducible assumption | with_reducible refine Below.drew ?_ | with_reducible refine below_drewN ?_ _ | (with_reducible refine Below.alloc ?_ ?_ _; rotate_left; (try simp) <;> omega) | (with_reducible refine Below.setCell ?_ ?_ _; rotate_left; (try simp) <;> omega))), hX, hp, hq, hf⟩
                      case measure => simp [intOf]
                    | false =>
                      have H : Hid (false = allB true (pairB F V) (0 + 1)) := by
                        show _ = _
                        rw [allB, ← hg.out]; rfl
                      go_wp2
                      go_quiet (fail)
                      go_wp2
                      go_roundw
                      case rel => exact ⟨0 + 1, _, by omega, rfl, by go_num, H, (by repeat (first | with_reducible exact Below.refl _ _ | with_reducible assumption | with_reducible refine Below.drew ?_ | with_reducible refine below_drewN ?_ _ | (with_reducible refine Below.alloc ?_ ?_ _; rotate_left; (try simp) <;> omega) | (with_reducible refine Below.setCell ?_ ?_ _; rotate_left; (try simp) <;> omega))), hX, hp, hq, hf⟩
                      case measure => simp [intOf]
                  | 1, _ =>
                    have c1 := hf.cell 2 rfl
                    have c2 := hf.cell 3 rfl
                    have E29 := fun w => eq29 9998 (F 1).1 (F 1).2 (V 1) 1 w
                    cases b with
                    | true =>
                      have H : Hid (((F 1).1 == V 1 && (F 1).2 == 1) = allB true (pairB F V) (1 + 1)) := by
                        show _ = _
                        rw [allB, ← hg.out]; rfl
                      go_wp2
                      go_quiet (fail)
                      go_wp2
                      go_roundw
                      case rel => exact ⟨1 + 1, _, by omega, rfl, by go_num, H, (by repeat (first | with_reducible exact Below.refl _ _ | with_reducible assumption | with_reducible refine Below.drew ?_ | with_reducible refine below_drewN ?_ _ | (with_reducible refine Below.alloc ?_ ?_ _; rotate_left; (try simp) <;> omega) | (with_reducible refine Below.setCell ?_ ?_ _; rotate_left; (try simp) <;> omega))), hX, hp, hq, hf⟩
                      case measure => simp [intOf]
                    | false =>
                      have H : Hid (false = allB true (pairB F V) (1 + 1)) := by
                        show _ = _
                        rw [allB, ← hg.out]; rfl
                      go_wp2
                      go_quiet (fail)
                      go_wp2
                      go_roundw
                      case rel => exact ⟨1 + 1, _, by omega, rfl, by go_num, H, (by repeat (first | with_reducible exact Below.refl _ _ | with_reducible assumption | with_reducible refine Below.drew ?_ | with_reducible refine below_drewN ?_ _ | (with_reducible refine Below.alloc ?_ ?_ _; rotate_left; (try simp) <;> omega) | (with_reducible refine Below.setCell ?_ ?_ _; rotate_left; (try simp) <;> omega))), hX, hp, hq, hf⟩
                      case measure => simp [intOf]
                  | 2, _ =>
                    have c1 := hf.cell 4 rfl
                    have c2 := hf.cell 5 rfl
                    have E29 := fun w => eq29 9998 (F 2).1 (F 2).2 (V 2) 1 w
                    cases b with
                    | true =>
                      have H : Hid (((F 2).1 == V 2 && (F 2).2 == 1) = allB true (pairB F V) (2 + 1)) := by
                        show _ = _
                        rw [allB, ← hg.out]; rfl
                      go_wp2
                      go_quiet (fail)
                      go_wp2
                      go_roundw
                      case rel => exact ⟨2 + 1, _, by omega, rfl, by go_num, H, (by repeat (first | with_reducible exact Below.refl _ _ | with_reducible assumption | with_reducible refine Below.drew ?_ | with_reducible refine below_drewN ?_ _ | (with_reducible refine Below.alloc ?_ ?_ _; rotate_left; (try simp) <;> omega) | (with_reducible refine Below.setCell ?_ ?_ _; rotate_left; (try simp) <;> omega))), hX, hp, hq, hf⟩
                      case measure => simp [intOf]
                    | false =>
                      have H : Hid (false = allB true (pairB F V) (2 + 1)) := by
                        show _ = _
                        rw [allB, ← hg.out]; rfl
                      go_wp2
                      go_quiet (fail)
                      go_wp2
                      go_roundw
                      case rel => exact ⟨2 + 1, _, by omega, rfl, by go_num, H, (by repeat (first | with_reducible exact Below.refl _ _ | with_reducible assumption | with_reducible refine Below.drew ?_ | with_reducible refine below_drewN ?_ _ | (with_reducible refine Below.alloc ?_ ?_ _; rotate_left; (try simp) <;> omega) | (with_reducible refine Below.setCell ?_ ?_ _; rotate_left; (try simp) <;> omega))), hX, hp, hq, hf⟩
                      case measure => simp [intOf]
                · obtain rfl : k = 3 := by omega
                  have z0 := hp.cell 0 rfl
                  have z1 := hp.cell 1 rfl
                  have z2 := hq.cell 0 rfl
                  have z3 := hq.cell 1 rfl
                  have lp := hp.lt
                  have lq := hq.lt
                  cases b with
                  | true =>
                    have HLs' := Lib.hid (HLs.out hg.out.symm)
                    go_wp2_with fail
                    refine (HLs'.out _).mono ?_
                    rintro e w6 ⟨rfl, hb6⟩
                    have hB6 : Below w.heap.size w w6 := hbw.trans (hb6.mono hbw.size)
                    go_wp2_with fail
                    refine (HM.out _).mono ?_
                    rintro e w7 ⟨rfl, hb7⟩
                    have hB7 : Below w.heap.size w w7 := hB6.trans (hb7.mono hB6.size)
                    go_wp2
                    go_ret
                    exact ⟨rfl, (by repeat (first | with_reducible exact Below.refl _ _ | with_reducible assumption | with_reducible refine Below.drew ?_ | with_reducible refine below_drewN ?_ _ | (with_reducible refine Below.alloc ?_ ?_ _; rotate_left; (try simp) <;> omega) | (with_reducible refine Below.setCell ?_ ?_ _; rotate_left; (try simp) <;> omega)))⟩
                  | false =>
                    go_wp2_with fail
                    refine (HM.out _).mono ?_
                    rintro e w6 ⟨rfl, hb6⟩
                    have hB6 : Below w.heap.size w w6 := hbw.trans (hb6.mono hbw.size)
                    go_wp2
                    go_ret
                    exact ⟨rfl, (by repeat (first | with_reducible exact Below.refl _ _ | with_reducible assumption | with_reducible refine Below.drew ?_ | with_reducible refine below_drewN ?_ _ | (with_reducible refine Below.alloc ?_ ?_ _; rotate_left; (try simp) <;> omega) | (with_reducible refine Below.setCell ?_ ?_ _; rotate_left; (try simp) <;> omega)))⟩
          · have hmf : (mixE l qs == 0) = false := by rw [beq_eq_false_iff_ne]; exact hm0
            clear HL
            generalize mixE l qs = m at *
            clear hm0
            go_enter Try.func7, Try.ntmps7
            go_wp2_with (go_at_call 9; refine (HF.out _ (by exact (by repeat (first | with_reducible exact Below.refl _ _ | with_reducible assumption | with_reducible refine Below.drew ?_ | with_reducible refine below_drewN ?_ _ | (with_reducible refine Below.alloc ?_ ?_ _; rotate_left; (try simp) <;> omega) | (with_reducible refine Below.setCell ?_ ?_ _; rotate_left; (try simp) <;> omega))))).mono ?_; rintro e w0 ⟨rfl, rfl⟩; rw [H0.out])
            · go_wp2_with fail
              refine (HCC.out _ (by exact (by repeat (first | with_reducible exact Below.refl _ _ | with_reducible assumption | with_reducible refine Below.drew ?_ | with_reducible refine below_drewN ?_ _ | (with_reducible refine Below.alloc ?_ ?_ _; rotate_left; (try simp) <;> omega) | (with_reducible refine Below.setCell ?_ ?_ _; rotate_left; (try simp) <;> omega))))).mono ?_
              rintro e w1 ⟨rfl, hb1⟩
              have hB1 : Below w.heap.size w w1 := (Below.trans (by repeat (first | with_reducible exact Below.refl _ _ | with_reducible assumption | with_reducible refine Below.drew ?_ | with_reducible refine below_drewN ?_ _ | (with_reducible refine Below.alloc ?_ ?_ _; rotate_left; (try simp) <;> omega) | (with_reducible refine Below.setCell ?_ ?_ _; rotate_left; (try simp) <;> omega))) (hb1.mono (by first | omega | (simp; omega) | simp)))
              have X1 := (B4.new (x := (V 0)) (y := (V 1)) (z := (V 2)) (A := A) (n := ps.length) (c := c) (A' := A') (n' := qs.length) (c' := c') (d := ⟨n0, n1, n2, n3, den⟩) w).below hb1 (by simp)
              obtain ⟨⟨i0, i1, i2, i3⟩, ⟨x0, x1, x2⟩, r0, s0, y0, y1, y2, y3, y4⟩ := X1.facts
              go_wp2_with fail
              refine (HRC.out _ (by exact (by repeat (first | with_reducible exact Below.refl _ _ | with_reducible assumption | with_reducible refine Below.drew ?_ | with_reducible refine below_drewN ?_ _ | (with_reducible refine Below.alloc ?_ ?_ _; rotate_left; (try simp) <;> omega) | (with_reducible refine Below.setCell ?_ ?_ _; rotate_left; (try simp) <;> omega))))).mono ?_
              rintro e w2 ⟨rfl, hb2⟩
              have hB2 : Below w.heap.size w w2 := hB1.trans (hb2.mono hB1.size)
              have X2 := X1.below hb2 X1.lt
              clear x0 x1 x2 r0 s0 y0 y1 y2 y3 y4 i0 i1 i2 i3
              obtain ⟨⟨i0, i1, i2, i3⟩, ⟨x0, x1, x2⟩, r0, s0, y0, y1, y2, y3, y4⟩ := X2.facts
              go_wp2_with fail
              refine (HP.out _ (by exact (by repeat (first | with_reducible exact Below.refl _ _ | with_reducible assumption | with_reducible refine Below.drew ?_ | with_reducible refine below_drewN ?_ _ | (with_reducible refine Below.alloc ?_ ?_ _; rotate_left; (try simp) <;> omega) | (with_reducible refine Below.setCell ?_ ?_ _; rotate_left; (try simp) <;> omega))))).mono ?_
              rintro e w3 ⟨rfl, hb3⟩
              have hB3 : Below w.heap.size w w3 := hB2.trans (hb3.mono hB2.size)
              have X3 := X2.below hb3 X2.lt
              clear x0 x1 x2 r0 s0 y0 y1 y2 y3 y4 i0 i1 i2 i3
              obtain ⟨⟨i0, i1, i2, i3⟩, ⟨x0, x1, x2⟩, r0, s0, y0, y1, y2, y3, y4⟩ := X3.facts
              go_wp2_with fail
              refine (HQ.out _ (by exact (by repeat (first | with_reducible exact Below.refl _ _ | with_reducible assumption | with_reducible refine Below.drew ?_ | with_reducible refine below_drewN ?_ _ | (with_reducible refine Below.alloc ?_ ?_ _; rotate_left; (try simp) <;> omega) | (with_reducible refine Below.setCell ?_ ?_ _; rotate_left; (try simp) <;> omega))))).mono ?_
              rintro e w4 ⟨rfl, hb4⟩
              have hB4 : Below w.heap.size w w4 := (hB3.alloc hB3.size _).trans (hb4.mono (by have := hB3.size; simp; omega))
              have X4 := (X3.alloc (.cells #[.int .i64 a1, .int .i64 a2] 29)).below hb4 (by simp; omega)
              have p4 : Bk w4 w3.heap.size 29 #[.int .i64 a1, .int .i64 a2] := (Bk.new w3 29 #[.int .i64 a1, .int .i64 a2]).below hb4 (by simp)
              clear x0 x1 x2 r0 s0 y0 y1 y2 y3 y4 i0 i1 i2 i3
              obtain ⟨⟨i0, i1, i2, i3⟩, ⟨x0, x1, x2⟩, r0, s0, y0, y1, y2, y3, y4⟩ := X4.facts
              go_wp2_with fail
              refine (HX.out _ (by exact (by repeat (first | with_reducible exact Below.refl _ _ | with_reducible assumption | with_reducible refine Below.drew ?_ | with_reducible refine below_drewN ?_ _ | (with_reducible refine Below.alloc ?_ ?_ _; rotate_left; (try simp) <;> omega) | (with_reducible refine Below.setCell ?_ ?_ _; rotate_left; (try simp) <;> omega))))).mono ?_
              rintro e w5 ⟨rfl, hb5⟩
              have hB5 : Below w.heap.size w w5 := (hB4.alloc hB4.size _).trans (hb5.mono (by have := hB4.size; simp; omega))
              have X5 := (X4.alloc (.cells #[.int .i64 b1, .int .i64 b2] 29)).below hb5 (by simp; omega)
              have p5 : Bk w5 w3.heap.size 29 #[.int .i64 a1, .int .i64 a2] := (p4.alloc (.cells #[.int .i64 b1, .int .i64 b2] 29)).below hb5 (by have := p4.lt; simp; omega)
              have q5 : Bk w5 w4.heap.size 29 #[.int .i64 b1, .int .i64 b2] := (Bk.new w4 29 #[.int .i64 b1, .int .i64 b2]).below hb5 (by simp)
              clear x0 x1 x2 r0 s0 y0 y1 y2 y3 y4 i0 i1 i2 i3 X1 X2 X3 X4 p4
              go_wp2
              go_loopw [21, 22] (fun s y wr => ∃ (k : Nat) (b : Bool), k ≤ 3 ∧ s = .bool b ∧ y = .int .i64 k ∧ Hid (b = allB false (pairB F V) k) ∧ Below w.heap.size w wr ∧ (B4 wr w.heap.size (V 0) (V 1) (V 2) A ps.length c A' qs.length c' ⟨n0, n1, n2, n3, den⟩ ∧ Bk wr w3.heap.size 29 #[.int .i64 a1, .int .i64 a2] ∧ Bk wr w4.heap.size 29 #[.int .i64 b1, .int .i64 b2] ∧ Bk wr w5.heap.size 30 #[.int .i64 (F 0).1, .int .i64 (F 0).2, .int .i64 (F 1).1, .int .i64 (F 1).2, .int .i64 (F 2).1, .int .i64 (F 2).2])) (fun _ y _ => 3 - (intOf y).toNat)
              case atStart => exact ⟨0, false, by omega, rfl, rfl, rfl, hB5.alloc hB5.size _, X5.alloc _, p5.alloc _, q5.alloc _, Bk.new _ _ _⟩
              case round =>
                obtain ⟨k, b, hk, rfl, rfl, hg, hbw, hX, hp, hq, hf⟩ := hrel
                obtain ⟨⟨i0, i1, i2, i3⟩, ⟨x0, x1, x2⟩, r0, s0, y0, y1, y2, y3, y4⟩ := hX.facts
                have lf := hf.lt
                by_cases hk3 : k < 3
                · match k, hk3 with
                  | 0, _ =>
                    have c1 := hf.cell 0 rfl
                    have c2 := hf.cell 1 rfl
                    have E29 := fun w => eq29 9998 (F 0).1 (F 0).2 (V 0) 1 w
                    cases b with
                    | true =>
                      have H : Hid (((F 0).1 == V 0 && (F 0).2 == 1) = allB false (pairB F V) (0 + 1)) := by
                        show _ = _
                        rw [allB, ← hg.out]; rfl
                      go_wp2
                      go_quiet (fail)
                      go_wp2
                      go_roundw
                      case rel => exact ⟨0 + 1, _, by omega, rfl, by go_num, H, (by repeat (first | with_reducible exact Below.refl _ _ | with_reducible assumption | with_reducible refine Below.drew ?_ | with_reducible refine below_drewN ?_ _ | (with_reducible refine Below.alloc ?_ ?_ _; rotate_left; (try simp) <;> omega) | (with_reducible refine Below.setCell ?_ ?_ _; rotate_left; (try simp) <;> omega))), hX, hp, hq, hf⟩
                      case measure => simp [intOf]
                    | false =>
                      have H : Hid (false = allB false (pairB F V) (0 + 1)) := by
                        show _ = _
                        rw [allB, ← hg.out]; rfl
                      go_wp2
                      go_quiet (fail)
                      go_wp2
                      go_roundw
                      case rel => exact ⟨0 + 1, _, by omega, rfl, by go_num, H, (by repeat (first | with_reducible exact Below.refl _ _ | with_reducible assumption | with_reducible refine Below.drew ?_ | with_reducible refine below_drewN ?_ _ | (with_reducible refine Below.alloc ?_ ?_ _; rotate_left; (try simp) <;> omega) | (with_reducible refine Below.setCell ?_ ?_ _; rotate_left; (try simp) <;> omega))), hX, hp, hq, hf⟩
                      case measure => simp [intOf]
                  | 1, _ =>
                    have c1 := hf.cell 2 rfl
                    have c2 := hf.cell 3 rfl
                    have E29 := fun w => eq29 9998 (F 1).1 (F 1).2 (V 1) 1 w
                    cases b with
                    | true =>
                      have H : Hid (((F 1).1 == V 1 && (F 1).2 == 1) = allB false (pairB F V) (1 + 1)) := by
                        show _ = _
                        rw [allB, ← hg.out]; rfl
                      go_wp2
                      go_quiet (fail)
                      go_wp2
                      go_roundw
                      case rel => exact ⟨1 + 1, _, by omega, rfl, by go_num, H, (by repeat (first | with_reducible exact Below.refl _ _ | with_reducible assumption | with_reducible refine Below.drew ?_ | with_reducible refine below_drewN ?_ _ | (with_reducible refine Below.alloc ?_ ?_ _; rotate_left; (try simp) <;> omega) | (with_reducible refine Below.setCell ?_ ?_ _; rotate_left; (try simp) <;> omega))), hX, hp, hq, hf⟩
                      case measure => simp [intOf]
                    | false =>
                      have H : Hid (false = allB false (pairB F V) (1 + 1)) := by
                        show _ = _
                        rw [allB, ← hg.out]; rfl
                      go_wp2
                      go_quiet (fail)
                      go_wp2
                      go_roundw
                      case rel => exact ⟨1 + 1, _, by omega, rfl, by go_num, H, (by repeat (first | with_reducible exact Below.refl _ _ | with_reducible assumption | with_reducible refine Below.drew ?_ | with_reducible refine below_drewN ?_ _ | (with_reducible refine Below.alloc ?_ ?_ _; rotate_left; (try simp) <;> omega) | (with_reducible refine Below.setCell ?_ ?_ _; rotate_left; (try simp) <;> omega))), hX, hp, hq, hf⟩
                      case measure => simp [intOf]
                  | 2, _ =>
                    have c1 := hf.cell 4 rfl
                    have c2 := hf.cell 5 rfl
                    have E29 := fun w => eq29 9998 (F 2).1 (F 2).2 (V 2) 1 w
                    cases b with
                    | true =>
                      have H : Hid (((F 2).1 == V 2 && (F 2).2 == 1) = allB false (pairB F V) (2 + 1)) := by
                        show _ = _
                        rw [allB, ← hg.out]; rfl
                      go_wp2
                      go_quiet (fail)
                      go_wp2
                      go_roundw
                      case rel => exact ⟨2 + 1, _, by omega, rfl, by go_num, H, (by repeat (first | with_reducible exact Below.refl _ _ | with_reducible assumption | with_reducible refine Below.drew ?_ | with_reducible refine below_drewN ?_ _ | (with_reducible refine Below.alloc ?_ ?_ _; rotate_left; (try simp) <;> omega) | (with_reducible refine Below.setCell ?_ ?_ _; rotate_left; (try simp) <;> omega))), hX, hp, hq, hf⟩
                      case measure => simp [intOf]
                    | false =>
                      have H : Hid (false = allB false (pairB F V) (2 + 1)) := by
                        show _ = _
                        rw [allB, ← hg.out]; rfl
                      go_wp2
                      go_quiet (fail)
                      go_wp2
                      go_roundw
                      case rel => exact ⟨2 + 1, _, by omega, rfl, by go_num, H, (by repeat (first | with_reducible exact Below.refl _ _ | with_reducible assumption | with_reducible refine Below.drew ?_ | with_reducible refine below_drewN ?_ _ | (with_reducible refine Below.alloc ?_ ?_ _; rotate_left; (try simp) <;> omega) | (with_reducible refine Below.setCell ?_ ?_ _; rotate_left; (try simp) <;> omega))), hX, hp, hq, hf⟩
                      case measure => simp [intOf]
                · obtain rfl : k = 3 := by omega
                  have z0 := hp.cell 0 rfl
                  have z1 := hp.cell 1 rfl
                  have z2 := hq.cell 0 rfl
                  have z3 := hq.cell 1 rfl
                  have lp := hp.lt
                  have lq := hq.lt
                  obtain rfl : b = false := by rw [hg.out]; exact allB_false _ _
                  go_wp2_with fail
                  refine (HM.out _).mono ?_
                  rintro e w6 ⟨rfl, hb6⟩
                  have hB6 : Below w.heap.size w w6 := hbw.trans (hb6.mono hbw.size)
                  go_wp2
                  go_ret
                  exact ⟨rfl, (by repeat (first | with_reducible exact Below.refl _ _ | with_reducible assumption | with_reducible refine Below.drew ?_ | with_reducible refine below_drewN ?_ _ | (with_reducible refine Below.alloc ?_ ?_ _; rotate_left; (try simp) <;> omega) | (with_reducible refine Below.setCell ?_ ?_ _; rotate_left; (try simp) <;> omega)))⟩
        · have h3' : ccB l x y z ps d = false := by simpa using h3
          rw [h3'] at HCC HRC
          have e1 : (chkW l x y z == chkW l x y z) = true := by simp
          generalize chkW l x y z = q at *
          clear h0 g2 hs hs2 hlt hl hl' h3 h3' g1
          obtain ⟨n0, n1, n2, n3, den⟩ := d
          go_enter Try.func7, Try.ntmps7
          go_wp2_with (go_at_call 9; refine (HF.out _ (by exact (by repeat (first | with_reducible exact Below.refl _ _ | with_reducible assumption | with_reducible refine Below.drew ?_ | with_reducible refine below_drewN ?_ _ | (with_reducible refine Below.alloc ?_ ?_ _; rotate_left; (try simp) <;> omega) | (with_reducible refine Below.setCell ?_ ?_ _; rotate_left; (try simp) <;> omega))))).mono ?_; rintro e w0 ⟨rfl, rfl⟩; rw [H0.out])
          · go_wp2_with fail
            refine (HCC.out _ (by exact (by repeat (first | with_reducible exact Below.refl _ _ | with_reducible assumption | with_reducible refine Below.drew ?_ | with_reducible refine below_drewN ?_ _ | (with_reducible refine Below.alloc ?_ ?_ _; rotate_left; (try simp) <;> omega) | (with_reducible refine Below.setCell ?_ ?_ _; rotate_left; (try simp) <;> omega))))).mono ?_
            rintro e w1 ⟨rfl, hb1⟩
            have hB1 : Below w.heap.size w w1 := (Below.trans (by repeat (first | with_reducible exact Below.refl _ _ | with_reducible assumption | with_reducible refine Below.drew ?_ | with_reducible refine below_drewN ?_ _ | (with_reducible refine Below.alloc ?_ ?_ _; rotate_left; (try simp) <;> omega) | (with_reducible refine Below.setCell ?_ ?_ _; rotate_left; (try simp) <;> omega))) (hb1.mono (by first | omega | (simp; omega) | simp)))
            have X1 := (B4.new (x := x) (y := y) (z := z) (A := A) (n := ps.length) (c := c) (A' := A') (n' := qs.length) (c' := c') (d := ⟨n0, n1, n2, n3, den⟩) w).below hb1 (by simp)
            obtain ⟨⟨i0, i1, i2, i3⟩, ⟨x0, x1, x2⟩, r0, s0, y0, y1, y2, y3, y4⟩ := X1.facts
            go_wp2_with fail
            refine (HRC.out _ (by exact (by repeat (first | with_reducible exact Below.refl _ _ | with_reducible assumption | with_reducible refine Below.drew ?_ | with_reducible refine below_drewN ?_ _ | (with_reducible refine Below.alloc ?_ ?_ _; rotate_left; (try simp) <;> omega) | (with_reducible refine Below.setCell ?_ ?_ _; rotate_left; (try simp) <;> omega))))).mono ?_
            rintro e w2 ⟨rfl, hb2⟩
            have hB2 : Below w.heap.size w w2 := hB1.trans (hb2.mono hB1.size)
            have X2 := X1.below hb2 X1.lt
            clear x0 x1 x2 r0 s0 y0 y1 y2 y3 y4 i0 i1 i2 i3
            obtain ⟨⟨i0, i1, i2, i3⟩, ⟨x0, x1, x2⟩, r0, s0, y0, y1, y2, y3, y4⟩ := X2.facts
            go_wp2_with (go_at_call 10; refine (HM.out _).mono ?_; rintro e w3 ⟨rfl, hb3⟩; have hB3 : Below w.heap.size w w3 := (Below.trans (by repeat (first | with_reducible exact Below.refl _ _ | with_reducible assumption | with_reducible refine Below.drew ?_ | with_reducible refine below_drewN ?_ _ | (with_reducible refine Below.alloc ?_ ?_ _; rotate_left; (try simp) <;> omega) | (with_reducible refine Below.setCell ?_ ?_ _; rotate_left; (try simp) <;> omega))) (hb3.mono (by first | omega | (simp; omega) | simp))))
            go_ret
            exact ⟨rfl, (by repeat (first | with_reducible exact Below.refl _ _ | with_reducible assumption | with_reducible refine Below.drew ?_ | with_reducible refine below_drewN ?_ _ | (with_reducible refine Below.alloc ?_ ?_ _; rotate_left; (try simp) <;> omega) | (with_reducible refine Below.setCell ?_ ?_ _; rotate_left; (try simp) <;> omega)))⟩
      · have h1' : (ps.length : Int) ≤ 6 := by omega
        have h2' : (6 : Int) < (qs.length : Int) := by omega
        obtain ⟨n0, n1, n2, n3, den⟩ := d
        clear hlt hl hl' hs g2 h0
        go_enter Try.func7, Try.ntmps7
        go_wp2_with (first | (go_at_call 9; refine (HF.out _ (by exact (by repeat (first | with_reducible exact Below.refl _ _ | with_reducible assumption | with_reducible refine Below.drew ?_ | with_reducible refine below_drewN ?_ _ | (with_reducible refine Below.alloc ?_ ?_ _; rotate_left; (try simp) <;> omega) | (with_reducible refine Below.setCell ?_ ?_ _; rotate_left; (try simp) <;> omega))))).mono ?_; rintro e w1 ⟨rfl, rfl⟩; rw [H0.out]) | (go_at_call 10; refine (HM.out _).mono ?_; rintro e w1 ⟨rfl, hb⟩))
        go_ret
        exact ⟨rfl, Below.trans (by repeat (first | with_reducible exact Below.refl _ _ | with_reducible assumption | with_reducible refine Below.drew ?_ | with_reducible refine below_drewN ?_ _ | (with_reducible refine Below.alloc ?_ ?_ _; rotate_left; (try simp) <;> omega) | (with_reducible refine Below.setCell ?_ ?_ _; rotate_left; (try simp) <;> omega))) (hb.mono (by simp; omega))⟩
    · have h1' : (6 : Int) < (ps.length : Int) := by omega
      obtain ⟨n0, n1, n2, n3, den⟩ := d
      clear hlt hl hl' hs g2 h0
      go_enter Try.func7, Try.ntmps7
      go_wp2_with (first | (go_at_call 9; refine (HF.out _ (by exact (by repeat (first | with_reducible exact Below.refl _ _ | with_reducible assumption | with_reducible refine Below.drew ?_ | with_reducible refine below_drewN ?_ _ | (with_reducible refine Below.alloc ?_ ?_ _; rotate_left; (try simp) <;> omega) | (with_reducible refine Below.setCell ?_ ?_ _; rotate_left; (try simp) <;> omega))))).mono ?_; rintro e w1 ⟨rfl, rfl⟩; rw [H0.out]) | (go_at_call 10; refine (HM.out _).mono ?_; rintro e w1 ⟨rfl, hb⟩))
      go_ret
      exact ⟨rfl, Below.trans (by repeat (first | with_reducible exact Below.refl _ _ | with_reducible assumption | with_reducible refine Below.drew ?_ | with_reducible refine below_drewN ?_ _ | (with_reducible refine Below.alloc ?_ ?_ _; rotate_left; (try simp) <;> omega) | (with_reducible refine Below.setCell ?_ ?_ _; rotate_left; (try simp) <;> omega))) (hb.mono (by simp; omega))⟩
  · have H0 := Lib.hid (show fineB l 14 = false by simpa using h0)
    obtain ⟨n0, n1, n2, n3, den⟩ := d
    clear hlt hl hl' hs h0
    go_enter Try.func7, Try.ntmps7
    go_wp2_with (first | (go_at_call 9; refine (HF.out _ (by exact (by repeat (first | with_reducible exact Below.refl _ _ | with_reducible assumption | with_reducible refine Below.drew ?_ | with_reducible refine below_drewN ?_ _ | (with_reducible refine Below.alloc ?_ ?_ _; rotate_left; (try simp) <;> omega) | (with_reducible refine Below.setCell ?_ ?_ _; rotate_left; (try simp) <;> omega))))).mono ?_; rintro e w1 ⟨rfl, rfl⟩; rw [H0.out]) | (go_at_call 10; refine (HM.out _).mono ?_; rintro e w1 ⟨rfl, hb⟩))
    go_ret
    exact ⟨rfl, Below.trans (by repeat (first | with_reducible exact Below.refl _ _ | with_reducible assumption | with_reducible refine Below.drew ?_ | with_reducible refine below_drewN ?_ _ | (with_reducible refine Below.alloc ?_ ?_ _; rotate_left; (try simp) <;> omega) | (with_reducible refine Below.setCell ?_ ?_ _; rotate_left; (try simp) <;> omega))) (hb.mono (by simp; omega))⟩
end Go.Proofs.Ytkjceegmmhnajaa
