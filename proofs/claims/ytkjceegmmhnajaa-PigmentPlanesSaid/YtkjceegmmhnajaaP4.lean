/- The law PigmentPlanes, walked. -/
import Derived.Test.YtkjceegmmhnajaaN2
import Derived.Test.YtkjceegmmhnajaaB1
import Derived.Test.YtkjceegmmhnajaaC2
import Derived.Test.YtkjceegmmhnajaaA10
import Derived.Test.YtkjceegmmhnajaaP2
import Derived.Test.YtkjceegmmhnajaaP3
namespace Go.Proofs.Ytkjceegmmhnajaa
open Go.RowKit

/-- where CheckPlane answers true -/
theorem cp_facts {l : List Tn} {x y z : Int} {p : Pl} (h : cpB l x y z p = true) : chkW l x y z = 0 ∧ chkT l = 0 ∧ shIn x y z ∧ p.c < onP p x y z ∧ (∀ t ∈ l, onP p t.a t.b t.c ≤ p.c) ∧ (∀ t ∈ l, offTint t = false) := by
  unfold cpB at h
  simp only [Bool.and_eq_true, decide_eq_true_iff] at h
  obtain ⟨h0, _, h2, h3⟩ := h
  have hT : chkT l = 0 := by
    unfold chkW at h0
    split at h0
    · assumption
    · exact h0
  have hsh : shadeB x y z = true := by
    unfold chkW at h0
    rw [if_pos hT] at h0
    split at h0
    · assumption
    · cases h0
  refine ⟨h0, hT, shIn_of hsh, h2, fun t ht => ?_, (chkT_ok hT).2.2.1⟩
  have h4 : l.any (beyP p) = false := by simpa using h3
  have h5 := List.any_eq_false.1 h4 t ht
  unfold beyP at h5
  simp only [decide_eq_true_iff] at h5
  omega

/-- then Reach finds nothing -/
theorem planes_reach {l : List Tn} {x y z : Int} {p : Pl} (h : cpB l x y z p = true) (h7 : l.length ≤ 7) (At : Option Addr) (ct : Nat) (w : World) (hlt : Lies w w.heap.size At (tintsC l)) (hs : ∀ t ∈ l, t.name.size ≤ 100) :
    Calls Try.prog 15 #[.slice At l.length ct, .agg #[.int .i64 x, .int .i64 y, .int .i64 z]] w (fun e w' => e = .returned (.tuple #[.agg #[.slice none 0 0], .bool false, .int .i64 0]) ∧ Below w.heap.size w w') := by
  obtain ⟨hW, hT, hx, hp1, hp2, hoff⟩ := cp_facts h
  have hlen := (chkT_ok hT).2.1
  have hmem : l.length ∈ [1, 2, 3, 4, 5, 6, 7] := by
    have h1 : 1 ≤ l.length := hlen
    generalize l.length = n at *
    match n, h1, h7 with
    | 1, _, _ => simp
    | 2, _, _ => simp
    | 3, _, _ => simp
    | 4, _, _ => simp
    | 5, _, _ => simp
    | 6, _, _ => simp
    | 7, _, _ => simp
  have hsh : ∀ t ∈ l, shIn t.a t.b t.c := fun t ht => by
    obtain ⟨_, ha, hb, hc, _⟩ := offTint_no (hoff t ht)
    exact ⟨ha, hb, hc⟩
  refine reach_none l x y z At ct w hlt hmem hx.1.1 hx.2.1.1 hx.2.2.1 (fun W hb => ?_) (fun W hb A c L hL h4 hr => ?_)
  · have := checkWant_any l At ct x y z W ((hlt.below hb (Nat.le_refl _)).more hb.size) (by omega) hs
    rw [hW] at this
    exact this
  · refine recipe_none l L x y z At A ct c W ((hlt.below hb (Nat.le_refl _)).more hb.size) hL h4 hr (by omega) hsh hx fun ws hws => ?_
    refine sep_no (n1 := p.n1) (n2 := p.n2) (n3 := p.n3) _ _ _ hws fun q hq => ?_
    unfold ptsOf at hq
    obtain ⟨i, hi, rfl⟩ := List.mem_map.1 hq
    obtain ⟨h1, h2⟩ := hr i hi
    have h3 : i.toNat < l.length := by omega
    rw [List.getElem?_eq_getElem h3]
    have := hp2 _ (List.getElem_mem h3)
    show onP p l[i.toNat].a l[i.toNat].b l[i.toNat].c < onP p x y z
    omega

set_option maxRecDepth 100000 in
set_option maxHeartbeats 2000000 in
theorem lawPlanes_any (l : List Tn) (x y z : Int) (p : Pl) (At : Option Addr) (ct : Nat) (w : World) (hlt : Lies w w.heap.size At (tintsC l)) (hm2 : l.length ≤ maxLen) (hs : ∀ t ∈ l, t.name.size ≤ maxLen) :
    Calls Try.prog 5 #[.slice At l.length ct, .agg #[.int .i64 x, .int .i64 y, .int .i64 z], p.agg] w fun e w' => e = .returned (.bool true) ∧ Below w.heap.size w w' := by
  have HF := Lib.hid (fun W (hb : Below w.heap.size w W) => fine_any l At ct 14 W ((hlt.below hb (Nat.le_refl _)).more hb.size) hm2 hs)
  have HM := Lib.hid mixed_any
  unfold maxLen at hm2
  by_cases h0 : fineB l 14 = true
  · obtain ⟨g1, g2⟩ := fine_facts h0
    have H0 := Lib.hid h0
    have hs2 : ∀ t ∈ l, t.name.size ≤ 100 := fun t ht => by have := g2 t ht; omega
    have HP := Lib.hid (fun W (hb : Below w.heap.size w W) => checkPlane_any l p x y z At ct W ((hlt.below hb (Nat.le_refl _)).more hb.size) (by omega) hs2)
    have HQ := Lib.hid (fun W (hb : Below w.heap.size w W) => rcheckPlane_any l p x y z At ct W ((hlt.below hb (Nat.le_refl _)).more hb.size) (by omega) hs2)
    by_cases h1 : cpB l x y z p = true
    · rw [h1] at HP HQ
      by_cases h7 : l.length ≤ 7
      · have HR := Lib.hid (fun W (hb : Below w.heap.size w W) => planes_reach h1 h7 At ct W ((hlt.below hb (Nat.le_refl _)).more hb.size) hs2)
        have h7' : (l.length : Int) ≤ 7 := by omega
        obtain ⟨n1, n2, n3, pc⟩ := p
        clear hlt hs hs2 h0 g1 g2 h1 h7
        go_enter Try.func5, Try.ntmps5
        go_wp2_with (go_at_call 9; refine (HF.out _ (by exact (by repeat (first | with_reducible exact Below.refl _ _ | with_reducible assumption | with_reducible refine Below.drew ?_ | with_reducible refine below_drewN ?_ _ | (with_reducible refine Below.alloc ?_ ?_ _; rotate_left; (try simp) <;> omega) | (with_reducible refine Below.setCell ?_ ?_ _; rotate_left; (try simp) <;> omega))))).mono ?_; rintro e w0 ⟨rfl, rfl⟩; rw [H0.out])
        go_wp2_with fail
        refine (HP.out _ (by exact (by repeat (first | with_reducible exact Below.refl _ _ | with_reducible assumption | with_reducible refine Below.drew ?_ | with_reducible refine below_drewN ?_ _ | (with_reducible refine Below.alloc ?_ ?_ _; rotate_left; (try simp) <;> omega) | (with_reducible refine Below.setCell ?_ ?_ _; rotate_left; (try simp) <;> omega))))).mono ?_
        rintro e w1 ⟨rfl, hb1⟩
        have hB1 : Below w.heap.size w w1 := (Below.trans (by repeat (first | with_reducible exact Below.refl _ _ | with_reducible assumption | with_reducible refine Below.drew ?_ | with_reducible refine below_drewN ?_ _ | (with_reducible refine Below.alloc ?_ ?_ _; rotate_left; (try simp) <;> omega) | (with_reducible refine Below.setCell ?_ ?_ _; rotate_left; (try simp) <;> omega))) (hb1.mono (by first | omega | (simp; omega) | simp)))
        have X1 := (B2.new (x := x) (y := y) (z := z) (p := ⟨n1, n2, n3, pc⟩) w).below hb1 (by simp)
        obtain ⟨⟨i0, i1⟩, ⟨x0, x1, x2⟩, y0, y1, y2, y3⟩ := X1.facts
        go_wp2_with fail
        refine (HQ.out _ (by exact (by repeat (first | with_reducible exact Below.refl _ _ | with_reducible assumption | with_reducible refine Below.drew ?_ | with_reducible refine below_drewN ?_ _ | (with_reducible refine Below.alloc ?_ ?_ _; rotate_left; (try simp) <;> omega) | (with_reducible refine Below.setCell ?_ ?_ _; rotate_left; (try simp) <;> omega))))).mono ?_
        rintro e w2 ⟨rfl, hb2⟩
        have hB2 : Below w.heap.size w w2 := hB1.trans (hb2.mono hB1.size)
        have X2 := X1.below hb2 X1.lt
        clear i0 i1 x0 x1 x2 y0 y1 y2 y3 X1
        obtain ⟨⟨i0, i1⟩, ⟨x0, x1, x2⟩, y0, y1, y2, y3⟩ := X2.facts
        go_wp2_with fail
        refine (HR.out _ (by exact (by repeat (first | with_reducible exact Below.refl _ _ | with_reducible assumption | with_reducible refine Below.drew ?_ | with_reducible refine below_drewN ?_ _ | (with_reducible refine Below.alloc ?_ ?_ _; rotate_left; (try simp) <;> omega) | (with_reducible refine Below.setCell ?_ ?_ _; rotate_left; (try simp) <;> omega))))).mono ?_
        rintro e w3 ⟨rfl, hb3⟩
        have hB3 : Below w.heap.size w w3 := hB2.trans (hb3.mono hB2.size)
        have hz3 := hB3.size
        go_wp2_with fail
        refine (HM.out _).mono ?_
        rintro e w4 ⟨rfl, hb4⟩
        have hB4 : Below w.heap.size w w4 := (hB3.alloc hB3.size _).trans (hb4.mono (by simp; omega))
        go_wp2
        go_ret
        exact ⟨rfl, (by repeat (first | with_reducible exact Below.refl _ _ | with_reducible assumption | with_reducible refine Below.drew ?_ | with_reducible refine below_drewN ?_ _ | (with_reducible refine Below.alloc ?_ ?_ _; rotate_left; (try simp) <;> omega) | (with_reducible refine Below.setCell ?_ ?_ _; rotate_left; (try simp) <;> omega)))⟩
      · have h7' : (7 : Int) < (l.length : Int) := by omega
        obtain ⟨n1, n2, n3, pc⟩ := p
        clear hlt hs hs2 h0 g1 g2 h1 h7
        go_enter Try.func5, Try.ntmps5
        go_wp2_with (go_at_call 9; refine (HF.out _ (by exact (by repeat (first | with_reducible exact Below.refl _ _ | with_reducible assumption | with_reducible refine Below.drew ?_ | with_reducible refine below_drewN ?_ _ | (with_reducible refine Below.alloc ?_ ?_ _; rotate_left; (try simp) <;> omega) | (with_reducible refine Below.setCell ?_ ?_ _; rotate_left; (try simp) <;> omega))))).mono ?_; rintro e w0 ⟨rfl, rfl⟩; rw [H0.out])
        go_wp2_with fail
        refine (HP.out _ (by exact (by repeat (first | with_reducible exact Below.refl _ _ | with_reducible assumption | with_reducible refine Below.drew ?_ | with_reducible refine below_drewN ?_ _ | (with_reducible refine Below.alloc ?_ ?_ _; rotate_left; (try simp) <;> omega) | (with_reducible refine Below.setCell ?_ ?_ _; rotate_left; (try simp) <;> omega))))).mono ?_
        rintro e w1 ⟨rfl, hb1⟩
        have hB1 : Below w.heap.size w w1 := (Below.trans (by repeat (first | with_reducible exact Below.refl _ _ | with_reducible assumption | with_reducible refine Below.drew ?_ | with_reducible refine below_drewN ?_ _ | (with_reducible refine Below.alloc ?_ ?_ _; rotate_left; (try simp) <;> omega) | (with_reducible refine Below.setCell ?_ ?_ _; rotate_left; (try simp) <;> omega))) (hb1.mono (by first | omega | (simp; omega) | simp)))
        have X1 := (B2.new (x := x) (y := y) (z := z) (p := ⟨n1, n2, n3, pc⟩) w).below hb1 (by simp)
        obtain ⟨⟨i0, i1⟩, ⟨x0, x1, x2⟩, y0, y1, y2, y3⟩ := X1.facts
        go_wp2_with fail
        refine (HQ.out _ (by exact (by repeat (first | with_reducible exact Below.refl _ _ | with_reducible assumption | with_reducible refine Below.drew ?_ | with_reducible refine below_drewN ?_ _ | (with_reducible refine Below.alloc ?_ ?_ _; rotate_left; (try simp) <;> omega) | (with_reducible refine Below.setCell ?_ ?_ _; rotate_left; (try simp) <;> omega))))).mono ?_
        rintro e w2 ⟨rfl, hb2⟩
        have hB2 : Below w.heap.size w w2 := hB1.trans (hb2.mono hB1.size)
        have X2 := X1.below hb2 X1.lt
        clear i0 i1 x0 x1 x2 y0 y1 y2 y3 X1
        obtain ⟨⟨i0, i1⟩, ⟨x0, x1, x2⟩, y0, y1, y2, y3⟩ := X2.facts
        go_wp2_with fail
        refine (HM.out _).mono ?_
        rintro e w3 ⟨rfl, hb3⟩
        have hB3 : Below w.heap.size w w3 := hB2.trans (hb3.mono hB2.size)
        go_wp2
        go_ret
        exact ⟨rfl, (by repeat (first | with_reducible exact Below.refl _ _ | with_reducible assumption | with_reducible refine Below.drew ?_ | with_reducible refine below_drewN ?_ _ | (with_reducible refine Below.alloc ?_ ?_ _; rotate_left; (try simp) <;> omega) | (with_reducible refine Below.setCell ?_ ?_ _; rotate_left; (try simp) <;> omega)))⟩
    · have h1' : cpB l x y z p = false := by simpa using h1
      rw [h1'] at HP HQ
      obtain ⟨n1, n2, n3, pc⟩ := p
      clear hlt hs hs2 h0 g1 g2 h1 h1'
      go_enter Try.func5, Try.ntmps5
      go_wp2_with (go_at_call 9; refine (HF.out _ (by exact (by repeat (first | with_reducible exact Below.refl _ _ | with_reducible assumption | with_reducible refine Below.drew ?_ | with_reducible refine below_drewN ?_ _ | (with_reducible refine Below.alloc ?_ ?_ _; rotate_left; (try simp) <;> omega) | (with_reducible refine Below.setCell ?_ ?_ _; rotate_left; (try simp) <;> omega))))).mono ?_; rintro e w0 ⟨rfl, rfl⟩; rw [H0.out])
      go_wp2_with fail
      refine (HP.out _ (by exact (by repeat (first | with_reducible exact Below.refl _ _ | with_reducible assumption | with_reducible refine Below.drew ?_ | with_reducible refine below_drewN ?_ _ | (with_reducible refine Below.alloc ?_ ?_ _; rotate_left; (try simp) <;> omega) | (with_reducible refine Below.setCell ?_ ?_ _; rotate_left; (try simp) <;> omega))))).mono ?_
      rintro e w1 ⟨rfl, hb1⟩
      have hB1 : Below w.heap.size w w1 := (Below.trans (by repeat (first | with_reducible exact Below.refl _ _ | with_reducible assumption | with_reducible refine Below.drew ?_ | with_reducible refine below_drewN ?_ _ | (with_reducible refine Below.alloc ?_ ?_ _; rotate_left; (try simp) <;> omega) | (with_reducible refine Below.setCell ?_ ?_ _; rotate_left; (try simp) <;> omega))) (hb1.mono (by first | omega | (simp; omega) | simp)))
      have X1 := (B2.new (x := x) (y := y) (z := z) (p := ⟨n1, n2, n3, pc⟩) w).below hb1 (by simp)
      obtain ⟨⟨i0, i1⟩, ⟨x0, x1, x2⟩, y0, y1, y2, y3⟩ := X1.facts
      go_wp2_with fail
      refine (HQ.out _ (by exact (by repeat (first | with_reducible exact Below.refl _ _ | with_reducible assumption | with_reducible refine Below.drew ?_ | with_reducible refine below_drewN ?_ _ | (with_reducible refine Below.alloc ?_ ?_ _; rotate_left; (try simp) <;> omega) | (with_reducible refine Below.setCell ?_ ?_ _; rotate_left; (try simp) <;> omega))))).mono ?_
      rintro e w2 ⟨rfl, hb2⟩
      have hB2 : Below w.heap.size w w2 := hB1.trans (hb2.mono hB1.size)
      have X2 := X1.below hb2 X1.lt
      clear i0 i1 x0 x1 x2 y0 y1 y2 y3 X1
      obtain ⟨⟨i0, i1⟩, ⟨x0, x1, x2⟩, y0, y1, y2, y3⟩ := X2.facts
      go_wp2_with fail
      refine (HM.out _).mono ?_
      rintro e w3 ⟨rfl, hb3⟩
      have hB3 : Below w.heap.size w w3 := hB2.trans (hb3.mono hB2.size)
      go_wp2
      go_ret
      exact ⟨rfl, (by repeat (first | with_reducible exact Below.refl _ _ | with_reducible assumption | with_reducible refine Below.drew ?_ | with_reducible refine below_drewN ?_ _ | (with_reducible refine Below.alloc ?_ ?_ _; rotate_left; (try simp) <;> omega) | (with_reducible refine Below.setCell ?_ ?_ _; rotate_left; (try simp) <;> omega)))⟩
  · have H0 := Lib.hid (show fineB l 14 = false by simpa using h0)
    obtain ⟨n1, n2, n3, pc⟩ := p
    clear hlt hs h0
    go_enter Try.func5, Try.ntmps5
    go_wp2_with (first | (go_at_call 9; refine (HF.out _ (by exact (by repeat (first | with_reducible exact Below.refl _ _ | with_reducible assumption | with_reducible refine Below.drew ?_ | with_reducible refine below_drewN ?_ _ | (with_reducible refine Below.alloc ?_ ?_ _; rotate_left; (try simp) <;> omega) | (with_reducible refine Below.setCell ?_ ?_ _; rotate_left; (try simp) <;> omega))))).mono ?_; rintro e w1 ⟨rfl, rfl⟩; rw [H0.out]) | (go_at_call 10; refine (HM.out _).mono ?_; rintro e w1 ⟨rfl, hb⟩))
    go_ret
    exact ⟨rfl, Below.trans (by repeat (first | with_reducible exact Below.refl _ _ | with_reducible assumption | with_reducible refine Below.drew ?_ | with_reducible refine below_drewN ?_ _ | (with_reducible refine Below.alloc ?_ ?_ _; rotate_left; (try simp) <;> omega) | (with_reducible refine Below.setCell ?_ ?_ _; rotate_left; (try simp) <;> omega))) (hb.mono (by simp; omega))⟩
end Go.Proofs.Ytkjceegmmhnajaa
