/- The law PigmentReaches, walked. -/
import Derived.Test.YtkjceegmmhnajaaG05
import Derived.Test.YtkjceegmmhnajaaG06
import Derived.Test.YtkjceegmmhnajaaG07
import Derived.Test.YtkjceegmmhnajaaG08
import Derived.Test.YtkjceegmmhnajaaG23

set_option linter.unusedVariables false
set_option linter.unusedSimpArgs false

namespace Go.Proofs.Ytkjceegmmhnajaa
open Go.RowKit

/-- what Reach finds: the parts, and whether it found any -/
def outR (l : List Tn) (x y z : Int) : List Pt × Bool := if chkW l x y z = 0 then (match allR l ⟨x, y, z⟩ with | [] => ([], false) | ps :: _ => (ps, true)) else ([], false)
def OutE (l : List Tn) (x y z : Int) (w : World) (e : Ending) (w' : World) : Prop := ∃ (A : Option Addr) (c : Nat), e = .returned (.tuple #[.agg #[.slice A (outR l x y z).1.length c], .bool (outR l x y z).2, .int .i64 (chkW l x y z)]) ∧ Lies w' w'.heap.size A (partsC (outR l x y z).1) ∧ Below w.heap.size w w'
theorem out_reach {l : List Tn} {x y z : Int} {w w' : World} {e : Ending} (h : ReachE l x y z w e w') : OutE l x y z w e w' := by
  obtain ⟨hb, (⟨h1, rfl⟩ | ⟨h1, h2, rfl⟩ | ⟨h1, r, rs, h2, rfl, h3⟩)⟩ := h
  · exact ⟨none, 0, by simp [outR, h1], fun hne => by simp [outR, h1, partsC] at hne, hb⟩
  · exact ⟨none, 0, by simp [outR, h1, h2], fun hne => by simp [outR, h1, h2, partsC] at hne, hb⟩
  · exact ⟨r.A, r.c, by simp [outR, h1, h2], by simp only [outR, h1, h2, if_true]; exact h3.1, hb⟩
theorem out_rreach {l : List Tn} {x y z : Int} {w w' : World} {e : Ending} (h : RReachE l x y z w e w') : OutE l x y z w e w' := by
  obtain ⟨hb, h⟩ := h
  rw [← all_same] at h
  exact out_reach ⟨hb, h⟩
theorem out_len {l : List Tn} {x y z : Int} : (outR l x y z).1.length ≤ 4 := by
  unfold outR
  split
  · cases hr : allR l ⟨x, y, z⟩ with
    | nil => simp
    | cons ps rs =>
      have hm : ps ∈ allR l ⟨x, y, z⟩ := by rw [hr]; simp
      unfold allR at hm
      obtain ⟨L, hL, he⟩ := List.mem_filterMap.1 hm
      have h4 := (LPX.mem_allc.1 hL).1.2
      unfold rcpF at he
      split at he
      · split at he
        · cases he
        · cases he
          simp only [mkParts, List.length_zipWith, natI, List.length_map]
          omega
      · cases he
  · simp
/-- what Plane answers beside it -/
theorem out_plane {l : List Tn} {x y z : Int} {w w' : World} {e : Ending} (h : PlaneE l x y z w e w') : ∃ (p : Pl) (no : Bool), e = .returned (.tuple #[p.agg, .bool no, .int .i64 (chkW l x y z)]) ∧ ((chkW l x y z ≠ 0 ∨ (outR l x y z).2 = true) → p = ⟨0, 0, 0, 0⟩ ∧ no = false) ∧ ((chkW l x y z = 0 ∧ (outR l x y z).2 = false) → no = true ∧ cpB l x y z p = true) ∧ Below w.heap.size w w' := by
  obtain ⟨hb, (⟨h1, rfl⟩ | ⟨h1, h2, rfl⟩ | ⟨h1, h2, n, h3, h4, h5, rfl⟩ | ⟨h1, h2, h3, rfl⟩)⟩ := h
  · exact ⟨⟨0, 0, 0, 0⟩, false, rfl, fun _ => ⟨rfl, rfl⟩, fun h => absurd h.1 h1, hb⟩
  · refine ⟨⟨0, 0, 0, 0⟩, false, by rw [h1], fun _ => ⟨rfl, rfl⟩, fun h => ?_, hb⟩
    have h5 := h.2
    unfold outR at h5
    rw [if_pos h1] at h5
    cases hr : allR l ⟨x, y, z⟩ with
    | nil => exact absurd hr h2
    | cons a b => rw [hr] at h5; cases h5
  · refine ⟨⟨n.x, n.y, n.z, topN n l⟩, true, by rw [h1], fun h => ?_, fun _ => ⟨rfl, plane_cp h1 h4 h5⟩, hb⟩
    exfalso
    rcases h with h | h
    · exact h h1
    · simp [outR, h1, h2] at h
  · obtain ⟨n, hn, hlt⟩ := plane_ok h1 h2
    exact absurd hlt (h3 n hn)

set_option maxRecDepth 100000 in
set_option maxHeartbeats 2000000 in
theorem lawReaches_any (l : List Tn) (x y z : Int) (At : Option Addr) (ct : Nat) (w : World) (hlt : Lies w w.heap.size At (tintsC l)) (hm2 : l.length ≤ maxLen) (hs : ∀ t ∈ l, t.name.size ≤ maxLen) :
    Calls Try.prog 8 #[.slice At l.length ct, .agg #[.int .i64 x, .int .i64 y, .int .i64 z]] w fun e w' => e = .returned (.bool true) ∧ Below w.heap.size w w' := by
  have HF := Lib.hid (fun W (hb : Below w.heap.size w W) => fine_any l At ct 14 W ((hlt.below hb (Nat.le_refl _)).more hb.size) hm2 hs)
  have HM := Lib.hid mixed_any
  unfold maxLen at hm2
  by_cases h0 : fineB l 14 = true
  · obtain ⟨g1, g2⟩ := fine_facts h0
    have H0 := Lib.hid h0
    have hs2 : ∀ t ∈ l, t.name.size ≤ 100 := fun t ht => by have := g2 t ht; omega
    by_cases h7 : l.length ≤ 7 ∨ 12 < l.length
    · have HR := Lib.hid (fun W (hb : Below w.heap.size w W) => (reach_any l At ct x y z W ((hlt.below hb (Nat.le_refl _)).more hb.size) (by omega) hs2).mono fun e w' h => out_reach h)
      have HRR := Lib.hid (fun W (hb : Below w.heap.size w W) => (rreach_any l At ct x y z W ((hlt.below hb (Nat.le_refl _)).more hb.size) (by omega) hs2).mono fun e w' h => out_rreach h)
      have HPL := Lib.hid (fun W (hb : Below w.heap.size w W) => (plane_any l At ct x y z W ((hlt.below hb (Nat.le_refl _)).more hb.size) (by omega) hs2).mono fun e w' h => out_plane h)
      have HP := Lib.hid (fun p W (hb : Below w.heap.size w W) => checkPlane_any l p x y z At ct W ((hlt.below hb (Nat.le_refl _)).more hb.size) (by omega) hs2)
      have HQ := Lib.hid (fun p W (hb : Below w.heap.size w W) => rcheckPlane_any l p x y z At ct W ((hlt.below hb (Nat.le_refl _)).more hb.size) (by omega) hs2)
      have hl4 := out_len (l := l) (x := x) (y := y) (z := z)
      unfold OutE at HR HRR
      generalize outR l x y z = o at *
      obtain ⟨ps, b⟩ := o
      dsimp only at *
      generalize chkW l x y z = q at *
      clear hlt hs hs2 h0 g2
      rcases h7 with h7 | h7
      · have h7I : ¬ (7 : Int) < (l.length : Int) := by omega
        go_enter Try.func8, Try.ntmps8
        go_wp2_with (go_at_call 9; refine (HF.out _ (by exact (by repeat (first | with_reducible exact Below.refl _ _ | with_reducible assumption | with_reducible refine Below.drew ?_ | with_reducible refine below_drewN ?_ _ | (with_reducible refine Below.alloc ?_ ?_ _; rotate_left; (try simp) <;> omega) | (with_reducible refine Below.setCell ?_ ?_ _; rotate_left; (try simp) <;> omega))))).mono ?_; rintro e w0 ⟨rfl, rfl⟩; rw [H0.out])
        go_wp2_with fail
        have k0 : Bk (w.alloc (.cells #[.int .i64 x, .int .i64 y, .int .i64 z] 37)) w.heap.size 37 #[.int .i64 x, .int .i64 y, .int .i64 z] := Bk.new _ _ _
        refine (HR.out _ (by exact (by repeat (first | with_reducible exact Below.refl _ _ | with_reducible assumption | with_reducible refine Below.drew ?_ | with_reducible refine below_drewN ?_ _ | (with_reducible refine Below.alloc ?_ ?_ _; rotate_left; (try simp) <;> omega) | (with_reducible refine Below.setCell ?_ ?_ _; rotate_left; (try simp) <;> omega))))).mono ?_
        rintro e w1 ⟨A1, c1, rfl, L1, hb1⟩
        have hB1 : Below w.heap.size w w1 := (Below.trans (by repeat (first | with_reducible exact Below.refl _ _ | with_reducible assumption | with_reducible refine Below.drew ?_ | with_reducible refine below_drewN ?_ _ | (with_reducible refine Below.alloc ?_ ?_ _; rotate_left; (try simp) <;> omega) | (with_reducible refine Below.setCell ?_ ?_ _; rotate_left; (try simp) <;> omega))) (hb1.mono (by first | omega | (simp; omega) | simp)))
        have k1 := k0.below hb1 k0.lt
        clear k0 hb1
        have x0 := k1.cell 0 rfl
        have x1 := k1.cell 1 rfl
        have x2 := k1.cell 2 rfl
        have lk := k1.lt
        go_wp2_with fail
        have hb1' : Below w.heap.size w (w1.alloc (.cells #[.slice A1 ps.length c1] 25)) := hB1.alloc hB1.size _
        refine (HRR.out _ hb1').mono ?_
        rintro e w2 ⟨A2, c2, rfl, L2, hb2⟩
        have hB2 := hb1'.trans (hb2.mono hb1'.size)
        have r1 := (Bk.new w1 25 #[.slice A1 ps.length c1]).below hb2 (by simp)
        have k2 := (k1.alloc (.cells #[.slice A1 ps.length c1] 25)).below hb2 (k1.alloc (.cells #[.slice A1 ps.length c1] 25)).lt
        replace L1 := (((L1.below ((Below.refl _ w1).alloc (Nat.le_refl _) (.cells #[.slice A1 ps.length c1] 25)) (Nat.le_refl _)).more (by simp)).below hb2 (Nat.le_refl _)).more hb2.size
        clear x0 x1 x2 lk hb1' k1 hB1 hb2
        have x0 := k2.cell 0 rfl
        have x1 := k2.cell 1 rfl
        have x2 := k2.cell 2 rfl
        have lk := k2.lt
        have lr := r1.lt
        go_wp2_with fail
        have hb2' : Below w.heap.size w (w2.alloc (.cells #[.slice A2 ps.length c2] 25)) := hB2.alloc hB2.size _
        refine (HPL.out _ hb2').mono ?_
        rintro e w3 ⟨⟨p1, p2, p3, p4⟩, no, rfl, hp0, hp1, hb3⟩
        have hB3 := hb2'.trans (hb3.mono hb2'.size)
        have r13 := (r1.alloc (.cells #[.slice A2 ps.length c2] 25)).below hb3 (r1.alloc (.cells #[.slice A2 ps.length c2] 25)).lt
        have r23 := (Bk.new w2 25 #[.slice A2 ps.length c2]).below hb3 (by simp)
        have k3 := (k2.alloc (.cells #[.slice A2 ps.length c2] 25)).below hb3 (k2.alloc (.cells #[.slice A2 ps.length c2] 25)).lt
        replace L1 := (((L1.below ((Below.refl _ w2).alloc (Nat.le_refl _) (.cells #[.slice A2 ps.length c2] 25)) (Nat.le_refl _)).more (by simp)).below hb3 (Nat.le_refl _)).more hb3.size
        replace L2 := (((L2.below ((Below.refl _ w2).alloc (Nat.le_refl _) (.cells #[.slice A2 ps.length c2] 25)) (Nat.le_refl _)).more (by simp)).below hb3 (Nat.le_refl _)).more hb3.size
        clear x0 x1 x2 lk lr hb2' k2 hB2 hb3 r1
        obtain ⟨w4, hw4⟩ : ∃ v, v = w3.alloc (.cells #[.int .i64 p1, .int .i64 p2, .int .i64 p3, .int .i64 p4] 51) := ⟨_, rfl⟩
        have hB4 : Below w.heap.size w w4 := by rw [hw4]; exact hB3.alloc hB3.size _
        have r14 : Bk w4 w1.heap.size 25 #[.slice A1 ps.length c1] := by rw [hw4]; exact r13.alloc _
        have r24 : Bk w4 w2.heap.size 25 #[.slice A2 ps.length c2] := by rw [hw4]; exact r23.alloc _
        have k4 : Bk w4 w.heap.size 37 #[.int .i64 x, .int .i64 y, .int .i64 z] := by rw [hw4]; exact k3.alloc _
        have q4 : Bk w4 w3.heap.size 51 #[.int .i64 p1, .int .i64 p2, .int .i64 p3, .int .i64 p4] := by rw [hw4]; exact Bk.new _ _ _
        replace L1 : Lies w4 w4.heap.size A1 (partsC ps) := by rw [hw4]; exact (L1.below ((Below.refl _ w3).alloc (Nat.le_refl _) _) (Nat.le_refl _)).more (by simp)
        replace L2 : Lies w4 w4.heap.size A2 (partsC ps) := by rw [hw4]; exact (L2.below ((Below.refl _ w3).alloc (Nat.le_refl _) _) (Nat.le_refl _)).more (by simp)
        clear hB3 r13 r23 k3
        go_upto_region 6 with fail
        rw [← hw4]
        clear hw4
        have x0 := r14.cell 0 rfl
        have x1 := r24.cell 0 rfl
        go_wp2_with fail
        refine (sameRec_any ps A1 A2 c1 c2 w4 L1 L2 (by omega)).mono ?_
        rintro e w5 ⟨rfl, hb5⟩
        have hB5 := hB4.trans (hb5.mono hB4.size)
        have k5 := k4.below hb5 k4.lt
        have q5 := q4.below hb5 q4.lt
        clear x0 x1 r14 r24 k4 q4 L1 L2 hB4 hb5
        by_cases hf : q = 0 ∧ b = false
        · obtain ⟨rfl, hcp⟩ := hp1 hf
          obtain ⟨rfl, rfl⟩ := hf
          have HP2 := Lib.hid (HP.out ⟨p1, p2, p3, p4⟩)
          have HQ2 := Lib.hid (HQ.out ⟨p1, p2, p3, p4⟩)
          rw [hcp] at HP2 HQ2
          clear hp0 hp1 hcp HP HQ
          go_wp2_with fail
          refine (HM.out _).mono ?_
          rintro e w6 ⟨rfl, hb6⟩
          have hB6 := hB5.trans (hb6.mono hB5.size)
          have k6 := k5.below hb6 k5.lt
          have q6 := q5.below hb6 q5.lt
          clear k5 q5 hB5 hb6
          have x0 := k6.cell 0 rfl
          have x1 := k6.cell 1 rfl
          have x2 := k6.cell 2 rfl
          have y0 := q6.cell 0 rfl
          have y1 := q6.cell 1 rfl
          have y2 := q6.cell 2 rfl
          have y3 := q6.cell 3 rfl
          go_wp2_with fail
          refine (HP2.out _ hB6).mono ?_
          rintro e w7 ⟨rfl, hb7⟩
          have hB7 := hB6.trans (hb7.mono hB6.size)
          have k7 := k6.below hb7 k6.lt
          have q7 := q6.below hb7 q6.lt
          clear k6 q6 hB6 hb7 x0 x1 x2 y0 y1 y2 y3
          have x0 := k7.cell 0 rfl
          have x1 := k7.cell 1 rfl
          have x2 := k7.cell 2 rfl
          have y0 := q7.cell 0 rfl
          have y1 := q7.cell 1 rfl
          have y2 := q7.cell 2 rfl
          have y3 := q7.cell 3 rfl
          go_wp2_with fail
          refine (HQ2.out _ hB7).mono ?_
          rintro e w8 ⟨rfl, hb8⟩
          have hB8 := hB7.trans (hb8.mono hB7.size)
          go_wp2
          go_ret
          exact ⟨rfl, hB8⟩
        · have hor : q ≠ 0 ∨ b = true := by
            by_cases h0 : q = 0
            · cases b with
              | true => exact .inr rfl
              | false => exact absurd ⟨h0, rfl⟩ hf
            · exact .inl h0
          obtain ⟨hz, rfl⟩ := hp0 hor
          cases hz
          clear hp0 hp1 hf
          by_cases h0 : q = 0
          · obtain rfl : b = true := hor.resolve_left (fun h => h h0)
            subst h0
            clear hor
            go_wp2_with fail
            refine (HM.out _).mono ?_
            rintro e w6 ⟨rfl, hb6⟩
            have hB6 := hB5.trans (hb6.mono hB5.size)
            have q6 := q5.below hb6 q5.lt
            clear k5 q5 hB5 hb6
            have y0 := q6.cell 0 rfl
            have y1 := q6.cell 1 rfl
            have y2 := q6.cell 2 rfl
            have y3 := q6.cell 3 rfl
            have E51 := eq51
            go_wp2
            go_ret
            exact ⟨rfl, hB6⟩
          · clear hor
            go_wp2_with fail
            refine (HM.out _).mono ?_
            rintro e w6 ⟨rfl, hb6⟩
            have hB6 := hB5.trans (hb6.mono hB5.size)
            have q6 := q5.below hb6 q5.lt
            clear k5 q5 hB5 hb6
            have y0 := q6.cell 0 rfl
            have y1 := q6.cell 1 rfl
            have y2 := q6.cell 2 rfl
            have y3 := q6.cell 3 rfl
            have E51 := eq51
            go_wp2
            go_ret
            exact ⟨rfl, hB6⟩
      · have h7I : (7 : Int) < (l.length : Int) := by omega
        have h12I : ¬ (l.length : Int) ≤ 12 := by omega
        go_enter Try.func8, Try.ntmps8
        go_wp2_with (go_at_call 9; refine (HF.out _ (by exact (by repeat (first | with_reducible exact Below.refl _ _ | with_reducible assumption | with_reducible refine Below.drew ?_ | with_reducible refine below_drewN ?_ _ | (with_reducible refine Below.alloc ?_ ?_ _; rotate_left; (try simp) <;> omega) | (with_reducible refine Below.setCell ?_ ?_ _; rotate_left; (try simp) <;> omega))))).mono ?_; rintro e w0 ⟨rfl, rfl⟩; rw [H0.out])
        go_wp2_with fail
        have k0 : Bk (w.alloc (.cells #[.int .i64 x, .int .i64 y, .int .i64 z] 37)) w.heap.size 37 #[.int .i64 x, .int .i64 y, .int .i64 z] := Bk.new _ _ _
        refine (HR.out _ (by exact (by repeat (first | with_reducible exact Below.refl _ _ | with_reducible assumption | with_reducible refine Below.drew ?_ | with_reducible refine below_drewN ?_ _ | (with_reducible refine Below.alloc ?_ ?_ _; rotate_left; (try simp) <;> omega) | (with_reducible refine Below.setCell ?_ ?_ _; rotate_left; (try simp) <;> omega))))).mono ?_
        rintro e w1 ⟨A1, c1, rfl, L1, hb1⟩
        have hB1 : Below w.heap.size w w1 := (Below.trans (by repeat (first | with_reducible exact Below.refl _ _ | with_reducible assumption | with_reducible refine Below.drew ?_ | with_reducible refine below_drewN ?_ _ | (with_reducible refine Below.alloc ?_ ?_ _; rotate_left; (try simp) <;> omega) | (with_reducible refine Below.setCell ?_ ?_ _; rotate_left; (try simp) <;> omega))) (hb1.mono (by first | omega | (simp; omega) | simp)))
        have k1 := k0.below hb1 k0.lt
        clear k0 hb1
        have x0 := k1.cell 0 rfl
        have x1 := k1.cell 1 rfl
        have x2 := k1.cell 2 rfl
        have lk := k1.lt
        go_wp2_with fail
        have hb1' : Below w.heap.size w (w1.alloc (.cells #[.slice A1 ps.length c1] 25)) := hB1.alloc hB1.size _
        refine (HRR.out _ hb1').mono ?_
        rintro e w2 ⟨A2, c2, rfl, L2, hb2⟩
        have hB2 := hb1'.trans (hb2.mono hb1'.size)
        have r1 := (Bk.new w1 25 #[.slice A1 ps.length c1]).below hb2 (by simp)
        have k2 := (k1.alloc (.cells #[.slice A1 ps.length c1] 25)).below hb2 (k1.alloc (.cells #[.slice A1 ps.length c1] 25)).lt
        replace L1 := (((L1.below ((Below.refl _ w1).alloc (Nat.le_refl _) (.cells #[.slice A1 ps.length c1] 25)) (Nat.le_refl _)).more (by simp)).below hb2 (Nat.le_refl _)).more hb2.size
        clear x0 x1 x2 lk hb1' k1 hB1 hb2
        have x0 := k2.cell 0 rfl
        have x1 := k2.cell 1 rfl
        have x2 := k2.cell 2 rfl
        have lk := k2.lt
        have lr := r1.lt
        go_wp2_with fail
        have hb2' : Below w.heap.size w (w2.alloc (.cells #[.slice A2 ps.length c2] 25)) := hB2.alloc hB2.size _
        refine (HPL.out _ hb2').mono ?_
        rintro e w3 ⟨⟨p1, p2, p3, p4⟩, no, rfl, hp0, hp1, hb3⟩
        have hB3 := hb2'.trans (hb3.mono hb2'.size)
        have r13 := (r1.alloc (.cells #[.slice A2 ps.length c2] 25)).below hb3 (r1.alloc (.cells #[.slice A2 ps.length c2] 25)).lt
        have r23 := (Bk.new w2 25 #[.slice A2 ps.length c2]).below hb3 (by simp)
        have k3 := (k2.alloc (.cells #[.slice A2 ps.length c2] 25)).below hb3 (k2.alloc (.cells #[.slice A2 ps.length c2] 25)).lt
        replace L1 := (((L1.below ((Below.refl _ w2).alloc (Nat.le_refl _) (.cells #[.slice A2 ps.length c2] 25)) (Nat.le_refl _)).more (by simp)).below hb3 (Nat.le_refl _)).more hb3.size
        replace L2 := (((L2.below ((Below.refl _ w2).alloc (Nat.le_refl _) (.cells #[.slice A2 ps.length c2] 25)) (Nat.le_refl _)).more (by simp)).below hb3 (Nat.le_refl _)).more hb3.size
        clear x0 x1 x2 lk lr hb2' k2 hB2 hb3 r1
        obtain ⟨w4, hw4⟩ : ∃ v, v = w3.alloc (.cells #[.int .i64 p1, .int .i64 p2, .int .i64 p3, .int .i64 p4] 51) := ⟨_, rfl⟩
        have hB4 : Below w.heap.size w w4 := by rw [hw4]; exact hB3.alloc hB3.size _
        have r14 : Bk w4 w1.heap.size 25 #[.slice A1 ps.length c1] := by rw [hw4]; exact r13.alloc _
        have r24 : Bk w4 w2.heap.size 25 #[.slice A2 ps.length c2] := by rw [hw4]; exact r23.alloc _
        have k4 : Bk w4 w.heap.size 37 #[.int .i64 x, .int .i64 y, .int .i64 z] := by rw [hw4]; exact k3.alloc _
        have q4 : Bk w4 w3.heap.size 51 #[.int .i64 p1, .int .i64 p2, .int .i64 p3, .int .i64 p4] := by rw [hw4]; exact Bk.new _ _ _
        replace L1 : Lies w4 w4.heap.size A1 (partsC ps) := by rw [hw4]; exact (L1.below ((Below.refl _ w3).alloc (Nat.le_refl _) _) (Nat.le_refl _)).more (by simp)
        replace L2 : Lies w4 w4.heap.size A2 (partsC ps) := by rw [hw4]; exact (L2.below ((Below.refl _ w3).alloc (Nat.le_refl _) _) (Nat.le_refl _)).more (by simp)
        clear hB3 r13 r23 k3
        go_upto_region 6 with fail
        rw [← hw4]
        clear hw4
        have x0 := r14.cell 0 rfl
        have x1 := r24.cell 0 rfl
        go_wp2_with fail
        refine (sameRec_any ps A1 A2 c1 c2 w4 L1 L2 (by omega)).mono ?_
        rintro e w5 ⟨rfl, hb5⟩
        have hB5 := hB4.trans (hb5.mono hB4.size)
        have k5 := k4.below hb5 k4.lt
        have q5 := q4.below hb5 q4.lt
        clear x0 x1 r14 r24 k4 q4 L1 L2 hB4 hb5
        by_cases hf : q = 0 ∧ b = false
        · obtain ⟨rfl, hcp⟩ := hp1 hf
          obtain ⟨rfl, rfl⟩ := hf
          have HP2 := Lib.hid (HP.out ⟨p1, p2, p3, p4⟩)
          have HQ2 := Lib.hid (HQ.out ⟨p1, p2, p3, p4⟩)
          rw [hcp] at HP2 HQ2
          clear hp0 hp1 hcp HP HQ
          go_wp2_with fail
          refine (HM.out _).mono ?_
          rintro e w6 ⟨rfl, hb6⟩
          have hB6 := hB5.trans (hb6.mono hB5.size)
          have k6 := k5.below hb6 k5.lt
          have q6 := q5.below hb6 q5.lt
          clear k5 q5 hB5 hb6
          have x0 := k6.cell 0 rfl
          have x1 := k6.cell 1 rfl
          have x2 := k6.cell 2 rfl
          have y0 := q6.cell 0 rfl
          have y1 := q6.cell 1 rfl
          have y2 := q6.cell 2 rfl
          have y3 := q6.cell 3 rfl
          go_wp2_with fail
          refine (HP2.out _ hB6).mono ?_
          rintro e w7 ⟨rfl, hb7⟩
          have hB7 := hB6.trans (hb7.mono hB6.size)
          have k7 := k6.below hb7 k6.lt
          have q7 := q6.below hb7 q6.lt
          clear k6 q6 hB6 hb7 x0 x1 x2 y0 y1 y2 y3
          have x0 := k7.cell 0 rfl
          have x1 := k7.cell 1 rfl
          have x2 := k7.cell 2 rfl
          have y0 := q7.cell 0 rfl
          have y1 := q7.cell 1 rfl
          have y2 := q7.cell 2 rfl
          have y3 := q7.cell 3 rfl
          go_wp2_with fail
          refine (HQ2.out _ hB7).mono ?_
          rintro e w8 ⟨rfl, hb8⟩
          have hB8 := hB7.trans (hb8.mono hB7.size)
          go_wp2
          go_ret
          exact ⟨rfl, hB8⟩
        · have hor : q ≠ 0 ∨ b = true := by
            by_cases h0 : q = 0
            · cases b with
              | true => exact .inr rfl
              | false => exact absurd ⟨h0, rfl⟩ hf
            · exact .inl h0
          obtain ⟨hz, rfl⟩ := hp0 hor
          cases hz
          clear hp0 hp1 hf
          by_cases h0 : q = 0
          · obtain rfl : b = true := hor.resolve_left (fun h => h h0)
            subst h0
            clear hor
            go_wp2_with fail
            refine (HM.out _).mono ?_
            rintro e w6 ⟨rfl, hb6⟩
            have hB6 := hB5.trans (hb6.mono hB5.size)
            have q6 := q5.below hb6 q5.lt
            clear k5 q5 hB5 hb6
            have y0 := q6.cell 0 rfl
            have y1 := q6.cell 1 rfl
            have y2 := q6.cell 2 rfl
            have y3 := q6.cell 3 rfl
            have E51 := eq51
            go_wp2
            go_ret
            exact ⟨rfl, hB6⟩
          · clear hor
            go_wp2_with fail
            refine (HM.out _).mono ?_
            rintro e w6 ⟨rfl, hb6⟩
            have hB6 := hB5.trans (hb6.mono hB5.size)
            have q6 := q5.below hb6 q5.lt
            clear k5 q5 hB5 hb6
            have y0 := q6.cell 0 rfl
            have y1 := q6.cell 1 rfl
            have y2 := q6.cell 2 rfl
            have y3 := q6.cell 3 rfl
            have E51 := eq51
            go_wp2
            go_ret
            exact ⟨rfl, hB6⟩
    · have h7I : (7 : Int) < (l.length : Int) := by omega
      have h12I : (l.length : Int) ≤ 12 := by omega
      clear hlt hs hs2 h0 g1 g2 h7
      go_enter Try.func8, Try.ntmps8
      go_wp2_with (first | (go_at_call 9; refine (HF.out _ (by exact (by repeat (first | with_reducible exact Below.refl _ _ | with_reducible assumption | with_reducible refine Below.drew ?_ | with_reducible refine below_drewN ?_ _ | (with_reducible refine Below.alloc ?_ ?_ _; rotate_left; (try simp) <;> omega) | (with_reducible refine Below.setCell ?_ ?_ _; rotate_left; (try simp) <;> omega))))).mono ?_; rintro e w1 ⟨rfl, rfl⟩; rw [H0.out]) | (go_at_call 10; refine (HM.out _).mono ?_; rintro e w1 ⟨rfl, hb⟩))
      go_ret
      exact ⟨rfl, Below.trans (by repeat (first | with_reducible exact Below.refl _ _ | with_reducible assumption | with_reducible refine Below.drew ?_ | with_reducible refine below_drewN ?_ _ | (with_reducible refine Below.alloc ?_ ?_ _; rotate_left; (try simp) <;> omega) | (with_reducible refine Below.setCell ?_ ?_ _; rotate_left; (try simp) <;> omega))) (hb.mono (by first | omega | (simp; omega) | simp))⟩
  · have H0 := Lib.hid (show fineB l 14 = false by simpa using h0)
    clear hlt hs h0
    go_enter Try.func8, Try.ntmps8
    go_wp2_with (first | (go_at_call 9; refine (HF.out _ (by exact (by repeat (first | with_reducible exact Below.refl _ _ | with_reducible assumption | with_reducible refine Below.drew ?_ | with_reducible refine below_drewN ?_ _ | (with_reducible refine Below.alloc ?_ ?_ _; rotate_left; (try simp) <;> omega) | (with_reducible refine Below.setCell ?_ ?_ _; rotate_left; (try simp) <;> omega))))).mono ?_; rintro e w1 ⟨rfl, rfl⟩; rw [H0.out]) | (go_at_call 10; refine (HM.out _).mono ?_; rintro e w1 ⟨rfl, hb⟩))
    go_ret
    exact ⟨rfl, Below.trans (by repeat (first | with_reducible exact Below.refl _ _ | with_reducible assumption | with_reducible refine Below.drew ?_ | with_reducible refine below_drewN ?_ _ | (with_reducible refine Below.alloc ?_ ?_ _; rotate_left; (try simp) <;> omega) | (with_reducible refine Below.setCell ?_ ?_ _; rotate_left; (try simp) <;> omega))) (hb.mono (by first | omega | (simp; omega) | simp))⟩
end Go.Proofs.Ytkjceegmmhnajaa
