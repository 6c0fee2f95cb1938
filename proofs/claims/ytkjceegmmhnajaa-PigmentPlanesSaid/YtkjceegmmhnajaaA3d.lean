import Derived.Test.YtkjceegmmhnajaaA3c
namespace Go.Proofs.Ytkjceegmmhnajaa
open Go.RowKit

set_option maxHeartbeats 400000 in
theorem price1_any (t : Tn) (w : World) : Calls Try.prog 67 #[t.agg] w (IntEnd t.price w) := by
  obtain ⟨nm, a, b, c, p⟩ := t
  dsimp only
  go_enter Try.func67, Try.ntmps67
  go_wp2
  go_ret
  exact int_end rfl (by repeat (first | with_reducible exact Below.refl _ _ | with_reducible assumption | with_reducible refine Below.drew ?_ | with_reducible refine below_drewN ?_ _ | (with_reducible refine Below.alloc ?_ ?_ _; rotate_left; (try simp) <;> omega) | (with_reducible refine Below.setCell ?_ ?_ _; rotate_left; (try simp) <;> omega)))
def sel (j : Nat) (t : Tn) : Int := if j = 0 then t.a else if j = 1 then t.b else t.c
set_option maxHeartbeats 400000 in
theorem shade1_any (t : Tn) (j : Nat) (hj : j < 3) (pc : Addr) (w : World) (hpc : pc.block < w.heap.size) (hc : w.cell? pc = some (.int .i64 j)) :
    Calls Try.prog 63 #[t.agg, .pointer (some pc)] w (IntEnd (sel j t) w) := by
  obtain ⟨nm, a, b, c, p⟩ := t
  match j, hj with
  | 0, _ =>
    have hc' : w.cell? pc = some (.int .i64 0) := hc
    clear hc
    go_enter Try.func63, Try.ntmps63
    go_wp2
    go_ret
    exact int_end rfl (by repeat (first | with_reducible exact Below.refl _ _ | with_reducible assumption | with_reducible refine Below.drew ?_ | with_reducible refine below_drewN ?_ _ | (with_reducible refine Below.alloc ?_ ?_ _; rotate_left; (try simp) <;> omega) | (with_reducible refine Below.setCell ?_ ?_ _; rotate_left; (try simp) <;> omega)))
  | 1, _ =>
    have hc' : w.cell? pc = some (.int .i64 1) := hc
    clear hc
    go_enter Try.func63, Try.ntmps63
    go_wp2
    go_ret
    exact int_end rfl (by repeat (first | with_reducible exact Below.refl _ _ | with_reducible assumption | with_reducible refine Below.drew ?_ | with_reducible refine below_drewN ?_ _ | (with_reducible refine Below.alloc ?_ ?_ _; rotate_left; (try simp) <;> omega) | (with_reducible refine Below.setCell ?_ ?_ _; rotate_left; (try simp) <;> omega)))
  | 2, _ =>
    have hc' : w.cell? pc = some (.int .i64 2) := hc
    clear hc
    go_enter Try.func63, Try.ntmps63
    go_wp2
    go_ret
    exact int_end rfl (by repeat (first | with_reducible exact Below.refl _ _ | with_reducible assumption | with_reducible refine Below.drew ?_ | with_reducible refine below_drewN ?_ _ | (with_reducible refine Below.alloc ?_ ?_ _; rotate_left; (try simp) <;> omega) | (with_reducible refine Below.setCell ?_ ?_ _; rotate_left; (try simp) <;> omega)))

set_option maxHeartbeats 1000000 in
theorem price_any (l : List Tn) (ps : List Pt) (At A : Option Addr) (ct c : Nat) (w : World) (hlt : Lies w w.heap.size At (tintsC l)) (hl : Lies w w.heap.size A (partsC ps)) (hm : ps.length ≤ 4) (hm2 : l.length ≤ 1000) (hn : 1 ≤ ps.length)
    (hps : goodP l.length ps) (hf : ∀ t ∈ l, 0 ≤ t.price ∧ t.price ≤ 10000) :
    Calls Try.prog 35 #[.slice At l.length ct, .agg #[.slice A ps.length c]] w (FracEnd (lowest (wsum Tn.price l ps) (wall ps)) w) := by
  have HM := Lib.hid (fun (W : World) (hb : Below w.heap.size w W) => mixed67 Tn.price l ps At A ct c W ((hlt.below hb (Nat.le_refl _)).more hb.size) ((hl.below hb (Nat.le_refl _)).more hb.size) hm hm2 hn hps hf (show Hid _ from fun t _ W' _ => price1_any t W'))
  clear hlt hl hps hf
  generalize hfr : lowest (wsum Tn.price l ps) (wall ps) = fr at *
  obtain ⟨fa, fb⟩ := fr
  clear hfr
  go_enter Try.func35, Try.ntmps35
  go_wp2_with (go_at_call 62; refine (HM.out _ (by repeat (first | with_reducible exact Below.refl _ _ | with_reducible assumption | with_reducible refine Below.drew ?_ | with_reducible refine below_drewN ?_ _ | (with_reducible refine Below.alloc ?_ ?_ _; rotate_left; (try simp) <;> omega) | (with_reducible refine Below.setCell ?_ ?_ _; rotate_left; (try simp) <;> omega)))).mono ?_; rintro e w1 ⟨rfl, hb⟩; obtain ⟨hc, hf⟩ := bcell hb; have hz := hb.size; try simp at hz)
  refine bodyPost_ret (v := .agg #[.int .i64 fa, .int .i64 fb]) ?_ rfl (frac_end rfl ?_)
  · simp [results, Try.results35, go_sem, hc]
  · have hbw1 : Below w.heap.size w w1 := Below.trans (by repeat (first | with_reducible exact Below.refl _ _ | with_reducible assumption | with_reducible refine Below.drew ?_ | with_reducible refine below_drewN ?_ _ | (with_reducible refine Below.alloc ?_ ?_ _; rotate_left; (try simp) <;> omega) | (with_reducible refine Below.setCell ?_ ?_ _; rotate_left; (try simp) <;> omega))) (hb.mono (by simp; omega))
    exact (by repeat (first | with_reducible exact Below.refl _ _ | with_reducible assumption | with_reducible refine Below.drew ?_ | with_reducible refine below_drewN ?_ _ | (with_reducible refine Below.alloc ?_ ?_ _; rotate_left; (try simp) <;> omega) | (with_reducible refine Below.setCell ?_ ?_ _; rotate_left; (try simp) <;> omega)))

/-! shade: the three fractions of a recipe -/
def shF (l : List Tn) (ps : List Pt) (j : Nat) : Int × Int := lowest (wsum (sel j) l ps) (wall ps)
def shArr (F : Nat → Int × Int) (k : Nat) : Array Value := if k = 0 then #[.int .i64 0, .int .i64 0, .int .i64 0, .int .i64 0, .int .i64 0, .int .i64 0] else if k = 1 then #[.int .i64 (F 0).1, .int .i64 (F 0).2, .int .i64 0, .int .i64 0, .int .i64 0, .int .i64 0]
  else if k = 2 then #[.int .i64 (F 0).1, .int .i64 (F 0).2, .int .i64 (F 1).1, .int .i64 (F 1).2, .int .i64 0, .int .i64 0] else #[.int .i64 (F 0).1, .int .i64 (F 0).2, .int .i64 (F 1).1, .int .i64 (F 1).2, .int .i64 (F 2).1, .int .i64 (F 2).2]
def ShadeEnd (F : Nat → Int × Int) (w : World) (e : Ending) (w' : World) : Prop := e = .returned (.agg #[.int .i64 (F 0).1, .int .i64 (F 0).2, .int .i64 (F 1).1, .int .i64 (F 1).2, .int .i64 (F 2).1, .int .i64 (F 2).2]) ∧ Below w.heap.size w w'

set_option maxRecDepth 100000 in
set_option maxHeartbeats 4000000 in
theorem shade_any (l : List Tn) (ps : List Pt) (At A : Option Addr) (ct c : Nat) (w : World) (hlt : Lies w w.heap.size At (tintsC l)) (hl : Lies w w.heap.size A (partsC ps)) (hm : ps.length ≤ 4) (hm2 : l.length ≤ 1000) (hn : 1 ≤ ps.length)
    (hps : goodP l.length ps) (hf : ∀ j, ∀ t ∈ l, 0 ≤ sel j t ∧ sel j t ≤ 10000) :
    Calls Try.prog 30 #[.slice At l.length ct, .agg #[.slice A ps.length c]] w (ShadeEnd (shF l ps) w) := by
  have HM := Lib.hid (fun (j : Nat) (hj : j < 3) (pc : Addr) (W : World) (hb : Below w.heap.size w W) (hpb : pc.block < W.heap.size) (hpc : W.cell? pc = some (.int .i64 j)) => mixed63 (sel j) l ps At A ct c W pc ((hlt.below hb (Nat.le_refl _)).more hb.size) ((hl.below hb (Nat.le_refl _)).more hb.size) hm hm2 hn hps (hf j) (show Hid _ from fun t _ W' hb' => shade1_any t j hj pc W' (Nat.lt_of_lt_of_le hpb hb'.size) ((hb'.cell hpb).trans hpc)))
  have HE : Hid (∀ j, shF l ps j = lowest (wsum (sel j) l ps) (wall ps)) := fun _ => rfl
  clear hlt hl hps hf
  obtain ⟨F, hF⟩ : ∃ F, Hid (F = shF l ps) := ⟨_, rfl⟩
  have HX : Hid (∀ j, lowest (wsum (sel j) l ps) (wall ps) = F j) := fun j => by rw [hF.out]; rfl
  rw [← hF.out]
  clear HE hF
  go_enter Try.func30, Try.ntmps30
  go_wp2
  go_loopw [7] (fun y wr => ∃ k : Nat, k ≤ 3 ∧ y = .int .i64 k ∧ Below w.heap.size w wr ∧ (Bk wr w.heap.size 25 #[.slice A ps.length c] ∧ Bk wr (w.heap.size + 1) 30 (shArr F 0) ∧ Bk wr (w.heap.size + 1 + 1) 30 (shArr F k))) (fun y _ => 3 - (intOf y).toNat)
  case atStart =>
    refine ⟨0, by omega, rfl, (by repeat (first | with_reducible exact Below.refl _ _ | with_reducible assumption | with_reducible refine Below.drew ?_ | with_reducible refine below_drewN ?_ _ | (with_reducible refine Below.alloc ?_ ?_ _; rotate_left; (try simp) <;> omega) | (with_reducible refine Below.setCell ?_ ?_ _; rotate_left; (try simp) <;> omega))), ((Bk.new _ _ _).alloc _).alloc _, ?_, ?_⟩
    · simpa [shArr] using (Bk.new (w.alloc (.cells #[.slice A ps.length c] 25)) 30 (shArr F 0)).alloc (.cells (shArr F 0) 30)
    · simpa [shArr] using Bk.new ((w.alloc (.cells #[.slice A ps.length c] 25)).alloc (.cells (shArr F 0) 30)) 30 (shArr F 0)
  case round =>
    obtain ⟨k, hk, rfl, hbw, hb0, hb1, hb2⟩ := hrel
    have hbs := hbw.size
    have l0 := hb0.lt
    have l1 := hb1.lt
    have l2 := hb2.lt
    have x0 := hb0.cell 0 rfl
    have l0' : w.heap.size < wr.heap.size + 1 := by omega
    have l1' : w.heap.size + 1 < wr.heap.size + 1 := by omega
    have l2' : w.heap.size + 1 + 1 < wr.heap.size + 1 := by omega
    by_cases hlt : k < 3
    · have HK := Lib.hid (HM.out k hlt)
      rw [HX.out k] at HK
      clear HM HX
      match k, hlt with
      | 0, _ =>
        have y0 := hb2.cell 0 rfl
        have y1 := hb2.cell 1 rfl
        have f0 := hb2.fro 0
        have f1 := hb2.fro 1
        go_wp2
        go_region_held3 (fun w' => w'.cell? ⟨wr.heap.size, 0, none⟩ = some (.int .i64 0) ∧ w'.cell? ⟨w.heap.size, 0, none⟩ = some (.slice A ps.length c))
          (first | go_keep | (refine ⟨?_, ?_⟩ <;> (rw [World.cell?_setCell_other _ _ _ _ (by simp <;> omega), World.cell?_setCell_other _ _ _ _ (by simp <;> omega)]; first | assumption | go_keep)))
          (first | (go_at_call 62; refine (HK.out ⟨wr.heap.size, 0, none⟩ _ ?_ ?_ ?_).mono ?_; (exact (by repeat (first | with_reducible exact Below.refl _ _ | with_reducible assumption | with_reducible refine Below.drew ?_ | with_reducible refine below_drewN ?_ _ | (with_reducible refine Below.alloc ?_ ?_ _; rotate_left; (try simp) <;> omega) | (with_reducible refine Below.setCell ?_ ?_ _; rotate_left; (try simp) <;> omega)))); (simp); (simp [go_sem]); rintro e w1 ⟨rfl, hb⟩; have hbw1 : Below w.heap.size w w1 := (Below.trans (by repeat (first | with_reducible exact Below.refl _ _ | with_reducible assumption | with_reducible refine Below.drew ?_ | with_reducible refine below_drewN ?_ _ | (with_reducible refine Below.alloc ?_ ?_ _; rotate_left; (try simp) <;> omega) | (with_reducible refine Below.setCell ?_ ?_ _; rotate_left; (try simp) <;> omega))) (hb.mono (by simp; omega))); have hw1' : Below wr.heap.size wr w1 := (Below.trans (by repeat (first | with_reducible exact Below.refl _ _ | with_reducible assumption | with_reducible refine Below.drew ?_ | with_reducible refine below_drewN ?_ _ | (with_reducible refine Below.alloc ?_ ?_ _; rotate_left; (try simp) <;> omega) | (with_reducible refine Below.setCell ?_ ?_ _; rotate_left; (try simp) <;> omega))) (hb.mono (by simp))); have k0 := hb0.below hw1' l0; have k1 := hb1.below hw1' l1; have k2 := hb2.below hw1' l2; obtain ⟨hc, hf⟩ := bcell hb; have hz := hb.size; try simp at hz))
        all_goals
          go_wp2
          go_roundw
          case rel => exact ⟨1, by omega, by go_num, (by repeat (first | with_reducible exact Below.refl _ _ | with_reducible assumption | with_reducible refine Below.drew ?_ | with_reducible refine below_drewN ?_ _ | (with_reducible refine Below.alloc ?_ ?_ _; rotate_left; (try simp) <;> omega) | (with_reducible refine Below.setCell ?_ ?_ _; rotate_left; (try simp) <;> omega))), (k0.far (p := ⟨_, 0, none⟩) (by simp <;> omega) _).far (p := ⟨_, 1, none⟩) (by simp <;> omega) _, (k1.far (p := ⟨_, 0, none⟩) (by simp <;> omega) _).far (p := ⟨_, 1, none⟩) (by simp <;> omega) _, (k2.set 0 _).set 1 _⟩
          case measure => simp [intOf]
      | 1, _ =>
        have y0 := hb2.cell 2 rfl
        have y1 := hb2.cell 3 rfl
        have f0 := hb2.fro 2
        have f1 := hb2.fro 3
        go_wp2
        go_region_held3 (fun w' => w'.cell? ⟨wr.heap.size, 0, none⟩ = some (.int .i64 1) ∧ w'.cell? ⟨w.heap.size, 0, none⟩ = some (.slice A ps.length c))
          (first | go_keep | (refine ⟨?_, ?_⟩ <;> (rw [World.cell?_setCell_other _ _ _ _ (by simp <;> omega), World.cell?_setCell_other _ _ _ _ (by simp <;> omega)]; first | assumption | go_keep)))
          (first | (go_at_call 62; refine (HK.out ⟨wr.heap.size, 0, none⟩ _ ?_ ?_ ?_).mono ?_; (exact (by repeat (first | with_reducible exact Below.refl _ _ | with_reducible assumption | with_reducible refine Below.drew ?_ | with_reducible refine below_drewN ?_ _ | (with_reducible refine Below.alloc ?_ ?_ _; rotate_left; (try simp) <;> omega) | (with_reducible refine Below.setCell ?_ ?_ _; rotate_left; (try simp) <;> omega)))); (simp); (simp [go_sem]); rintro e w1 ⟨rfl, hb⟩; have hbw1 : Below w.heap.size w w1 := (Below.trans (by repeat (first | with_reducible exact Below.refl _ _ | with_reducible assumption | with_reducible refine Below.drew ?_ | with_reducible refine below_drewN ?_ _ | (with_reducible refine Below.alloc ?_ ?_ _; rotate_left; (try simp) <;> omega) | (with_reducible refine Below.setCell ?_ ?_ _; rotate_left; (try simp) <;> omega))) (hb.mono (by simp; omega))); have hw1' : Below wr.heap.size wr w1 := (Below.trans (by repeat (first | with_reducible exact Below.refl _ _ | with_reducible assumption | with_reducible refine Below.drew ?_ | with_reducible refine below_drewN ?_ _ | (with_reducible refine Below.alloc ?_ ?_ _; rotate_left; (try simp) <;> omega) | (with_reducible refine Below.setCell ?_ ?_ _; rotate_left; (try simp) <;> omega))) (hb.mono (by simp))); have k0 := hb0.below hw1' l0; have k1 := hb1.below hw1' l1; have k2 := hb2.below hw1' l2; obtain ⟨hc, hf⟩ := bcell hb; have hz := hb.size; try simp at hz))
        all_goals
          go_wp2
          go_roundw
          case rel => exact ⟨2, by omega, by go_num, (by repeat (first | with_reducible exact Below.refl _ _ | with_reducible assumption | with_reducible refine Below.drew ?_ | with_reducible refine below_drewN ?_ _ | (with_reducible refine Below.alloc ?_ ?_ _; rotate_left; (try simp) <;> omega) | (with_reducible refine Below.setCell ?_ ?_ _; rotate_left; (try simp) <;> omega))), (k0.far (p := ⟨_, 2, none⟩) (by simp <;> omega) _).far (p := ⟨_, 3, none⟩) (by simp <;> omega) _, (k1.far (p := ⟨_, 2, none⟩) (by simp <;> omega) _).far (p := ⟨_, 3, none⟩) (by simp <;> omega) _, (k2.set 2 _).set 3 _⟩
          case measure => simp [intOf]
      | 2, _ =>
        have y0 := hb2.cell 4 rfl
        have y1 := hb2.cell 5 rfl
        have f0 := hb2.fro 4
        have f1 := hb2.fro 5
        go_wp2
        go_region_held3 (fun w' => w'.cell? ⟨wr.heap.size, 0, none⟩ = some (.int .i64 2) ∧ w'.cell? ⟨w.heap.size, 0, none⟩ = some (.slice A ps.length c))
          (first | go_keep | (refine ⟨?_, ?_⟩ <;> (rw [World.cell?_setCell_other _ _ _ _ (by simp <;> omega), World.cell?_setCell_other _ _ _ _ (by simp <;> omega)]; first | assumption | go_keep)))
          (first | (go_at_call 62; refine (HK.out ⟨wr.heap.size, 0, none⟩ _ ?_ ?_ ?_).mono ?_; (exact (by repeat (first | with_reducible exact Below.refl _ _ | with_reducible assumption | with_reducible refine Below.drew ?_ | with_reducible refine below_drewN ?_ _ | (with_reducible refine Below.alloc ?_ ?_ _; rotate_left; (try simp) <;> omega) | (with_reducible refine Below.setCell ?_ ?_ _; rotate_left; (try simp) <;> omega)))); (simp); (simp [go_sem]); rintro e w1 ⟨rfl, hb⟩; have hbw1 : Below w.heap.size w w1 := (Below.trans (by repeat (first | with_reducible exact Below.refl _ _ | with_reducible assumption | with_reducible refine Below.drew ?_ | with_reducible refine below_drewN ?_ _ | (with_reducible refine Below.alloc ?_ ?_ _; rotate_left; (try simp) <;> omega) | (with_reducible refine Below.setCell ?_ ?_ _; rotate_left; (try simp) <;> omega))) (hb.mono (by simp; omega))); have hw1' : Below wr.heap.size wr w1 := (Below.trans (by repeat (first | with_reducible exact Below.refl _ _ | with_reducible assumption | with_reducible refine Below.drew ?_ | with_reducible refine below_drewN ?_ _ | (with_reducible refine Below.alloc ?_ ?_ _; rotate_left; (try simp) <;> omega) | (with_reducible refine Below.setCell ?_ ?_ _; rotate_left; (try simp) <;> omega))) (hb.mono (by simp))); have k0 := hb0.below hw1' l0; have k1 := hb1.below hw1' l1; have k2 := hb2.below hw1' l2; obtain ⟨hc, hf⟩ := bcell hb; have hz := hb.size; try simp at hz))
        all_goals
          go_wp2
          go_roundw
          case rel => exact ⟨3, by omega, by go_num, (by repeat (first | with_reducible exact Below.refl _ _ | with_reducible assumption | with_reducible refine Below.drew ?_ | with_reducible refine below_drewN ?_ _ | (with_reducible refine Below.alloc ?_ ?_ _; rotate_left; (try simp) <;> omega) | (with_reducible refine Below.setCell ?_ ?_ _; rotate_left; (try simp) <;> omega))), (k0.far (p := ⟨_, 4, none⟩) (by simp <;> omega) _).far (p := ⟨_, 5, none⟩) (by simp <;> omega) _, (k1.far (p := ⟨_, 4, none⟩) (by simp <;> omega) _).far (p := ⟨_, 5, none⟩) (by simp <;> omega) _, (k2.set 4 _).set 5 _⟩
          case measure => simp [intOf]
    · obtain rfl : k = 3 := by omega
      have y0 : wr.cell? ⟨w.heap.size + 1 + 1, 0, none⟩ = some (.int .i64 (F 0).1) := hb2.cell 0 rfl
      have y1 : wr.cell? ⟨w.heap.size + 1 + 1, 1, none⟩ = some (.int .i64 (F 0).2) := hb2.cell 1 rfl
      have y2 : wr.cell? ⟨w.heap.size + 1 + 1, 2, none⟩ = some (.int .i64 (F 1).1) := hb2.cell 2 rfl
      have y3 : wr.cell? ⟨w.heap.size + 1 + 1, 3, none⟩ = some (.int .i64 (F 1).2) := hb2.cell 3 rfl
      have y4 : wr.cell? ⟨w.heap.size + 1 + 1, 4, none⟩ = some (.int .i64 (F 2).1) := hb2.cell 4 rfl
      have y5 : wr.cell? ⟨w.heap.size + 1 + 1, 5, none⟩ = some (.int .i64 (F 2).2) := hb2.cell 5 rfl
      have z0 : wr.cell? ⟨w.heap.size + 1, 0, none⟩ = some (.int .i64 0) := hb1.cell 0 rfl
      have z1 : wr.cell? ⟨w.heap.size + 1, 1, none⟩ = some (.int .i64 0) := hb1.cell 1 rfl
      have z2 : wr.cell? ⟨w.heap.size + 1, 2, none⟩ = some (.int .i64 0) := hb1.cell 2 rfl
      have z3 : wr.cell? ⟨w.heap.size + 1, 3, none⟩ = some (.int .i64 0) := hb1.cell 3 rfl
      have z4 : wr.cell? ⟨w.heap.size + 1, 4, none⟩ = some (.int .i64 0) := hb1.cell 4 rfl
      have z5 : wr.cell? ⟨w.heap.size + 1, 5, none⟩ = some (.int .i64 0) := hb1.cell 5 rfl
      have f0 := hb1.fro 0
      have f1 := hb1.fro 1
      have f2 := hb1.fro 2
      have f3 := hb1.fro 3
      have f4 := hb1.fro 4
      have f5 := hb1.fro 5
      go_wp2
      have q : Bk _ _ _ #[.int .i64 (F 0).1, .int .i64 (F 0).2, .int .i64 (F 1).1, .int .i64 (F 1).2, .int .i64 (F 2).1, .int .i64 (F 2).2] := ((((((hb1.set 0 (.int .i64 (F 0).1)).set 1 (.int .i64 (F 0).2)).set 2 (.int .i64 (F 1).1)).set 3 (.int .i64 (F 1).2)).set 4 (.int .i64 (F 2).1)).set 5 (.int .i64 (F 2).2))
      have q0 := q.cell 0 rfl
      have q1 := q.cell 1 rfl
      have q2 := q.cell 2 rfl
      have q3 := q.cell 3 rfl
      have q4 := q.cell 4 rfl
      have q5 := q.cell 5 rfl
      refine bodyPost_ret (v := .agg #[.int .i64 (F 0).1, .int .i64 (F 0).2, .int .i64 (F 1).1, .int .i64 (F 1).2, .int .i64 (F 2).1, .int .i64 (F 2).2]) ?_ rfl ⟨rfl, (by repeat (first | with_reducible exact Below.refl _ _ | with_reducible assumption | with_reducible refine Below.drew ?_ | with_reducible refine below_drewN ?_ _ | (with_reducible refine Below.alloc ?_ ?_ _; rotate_left; (try simp) <;> omega) | (with_reducible refine Below.setCell ?_ ?_ _; rotate_left; (try simp) <;> omega)))⟩
      simp [results, Try.results30, go_sem, q0, q1, q2, q3, q4, q5]
end Go.Proofs.Ytkjceegmmhnajaa
