/- The reference's suits, for all yards and tasks. Printed by wip/gen_s10.py. -/
import Derived.Maps.OwnOps
import Derived.Maps.OwnSet
import Derived.Maps.Views
import Derived.Carry
import Derived.WalkArith
import Derived.Test.YtjgnikmnadmheaaG02
import Derived.Test.YtjgnikmnadmheaaG04
import Derived.Test.YtjgnikmnadmheaaG61

namespace Go.Proofs.Ytjgnikmnadmheaa
open Go.RowKit

def rsuitB (Y : Yd) (t : Tk) (i : Nat) (d : Int) : Bool := opnB Y d && (decide (t.work ≤ minO Y d) && (decide (0 < (skO Y d t.need).length) && decide ((i : Int) + 1 ≤ batO Y d)))
theorem rsuitB_ok {Y : Yd} (h : okY Y = true) (t : Tk) (i : Nat) (d : Int) : rsuitB Y t i d = suitB Y t i d := by
  unfold rsuitB suitB opnB minO skO batO dayR
  rw [h, if_pos rfl, if_pos rfl]
  cases ho : openB Y d with
  | false => rfl
  | true =>
    have hd : inB d 0 100000 = true := by unfold openB at ho; rw [Bool.and_eq_true] at ho; exact ho.1
    rw [hd, if_pos (show (true && true) = true from rfl)]
    cases decide (t.work ≤ minOf Y d) <;> cases decide (0 < (skL Y.ma d t.need).length) <;> cases decide ((i : Int) + 1 ≤ batOf Y.pi d) <;> rfl
theorem rsuitB_bad {Y : Yd} (h : okY Y = false) (t : Tk) (i : Nat) (d : Int) : rsuitB Y t i d = false := by
  unfold rsuitB opnB
  rw [h]; rfl

set_option maxRecDepth 100000 in
set_option maxHeartbeats 1000000 in
theorem rsuits_any (C : Array Value) (Y : Yd) (l : List Tk) (A : Option Addr) (c : Nat) (i : Nat) (d : Int) (w : World) (hY : YardAt w w.heap.size C Y) (hs : Small Y) (hT : TasksAt w w.heap.size A l) (hl : l.length ≤ 1000) (hi : i < l.length) :
    Calls Try.prog 93 #[.agg C, .slice A l.length c, .int .i64 i, .int .i64 d] w (ShEnd (rsuitB Y l[i] i d) w) := by
  have hi0 : (0 : Int) ≤ (i : Int) := by omega
  have hi1 : (i : Int) < (l.length : Int) := by omega
  obtain ⟨ad, hA, hadb, c0, c1, c2, c3⟩ := task_at hT.at_ hi
  subst hA
  have hadb' : (ad.add (i * 4)).block < w.heap.size := by rw [add_block]; exact hadb
  have h28 := hY.len
  have hinf : (Try.prog.info? 29).map (·.size) = some C.toList.length := by rw [h28]; exact info29
  have HO := Lib.hid (fun W (hb : Below w.heap.size w W) => rOpen_any C Y d W ((hY.below hb (Nat.le_refl _)).more hb.size) hs)
  have HM := Lib.hid (fun W (hb : Below w.heap.size w W) => rMinutes_any C Y d W ((hY.below hb (Nat.le_refl _)).more hb.size) hs)
  have HS := Lib.hid (fun W (hb : Below w.heap.size w W) => rSkilled_any C Y d l[i].need W ((hY.below hb (Nat.le_refl _)).more hb.size) hs)
  have HB := Lib.hid (fun W (hb : Below w.heap.size w W) => rBatches_any C Y d W ((hY.below hb (Nat.le_refl _)).more hb.size) hs)
  have HE : Hid (rsuitB Y l[i] i d = (opnB Y d && (decide (l[i].work ≤ minO Y d) && (decide (0 < (skO Y d l[i].need).length) && decide ((i : Int) + 1 ≤ batO Y d))))) := rfl
  clear hY hs hT c2 c3
  generalize rsuitB Y l[i] i d = q at *
  generalize l[i] = t at *
  obtain ⟨wk, nd, aA, ac, af, cA, cc, co⟩ := t
  try dsimp only at *
  generalize opnB Y d = q1 at *
  generalize minO Y d = m at *
  generalize skO Y d nd = L at *
  generalize batO Y d = b at *
  have WW : Hid (IntKind.i64.wrap ((i : Int) + 1) = (i : Int) + 1) := IntWalk.i64_in _ (by omega)
  cases q1 with
  | false =>
    have HR : Hid (q = false) := by show _ = _; rw [HE.out]; rfl
    clear HE
    go_enter Try.func93, Try.ntmps93
    go_wp2
    refine wp_region_held_drew (S := (fun w' => w'.rangeAt w.heap.size 0 C.toList ∧ w'.cell? (ad.add (i * 4)) = some (.int .i64 wk) ∧ w'.cell? ⟨(ad.add (i * 4)).block, (ad.add (i * 4)).off + 1, none⟩ = some (.int .i64 nd))) (by kernel_rfl) ?_ (fun hHeld => ?_)
    · refine ⟨(by exact (by repeat (first | with_reducible assumption | with_reducible exact Bk.new _ _ _ | with_reducible refine Bk.drew ?_ | with_reducible refine Bk.drewN ?_ _ | with_reducible refine Bk.alloc ?_ _ | (with_reducible refine Bk.far ?_ ?_ _; rotate_left; (try simp) <;> omega))) : Bk _ w.heap.size 29 C).range, ?_, ?_⟩ <;> first | assumption | go_keep
    (refine held_row 0 (some 9) 29 (.tmp 4) (w.heap.size) 0 C.toList _ rfl rfl (by kernel_rfl) (by kernel_rfl) (by kernel_rfl) (by rfl) rfl (fun _ _ _ h => h) (by assumption) (fun _ hS => hS.1) Try.underlying29 rfl (by assumption) ?_; (try simp only [Act.put, List.setIfInBounds_toArray, List.set_cons_zero, List.set_cons_succ]))
    refine tk 1 10 ?_
    (refine held_call 2 (some 11) 54 _ rfl (by kernel_rfl) (by rfl) ?_ (HO.out _ (by exact (by repeat (first | with_reducible exact Below.refl _ _ | with_reducible assumption | with_reducible refine Below.drew ?_ | with_reducible refine below_drewN ?_ _ | (with_reducible refine Below.alloc ?_ ?_ _; rotate_left; (try simp) <;> omega) | (with_reducible refine Below.setCell ?_ ?_ _; rotate_left; (try simp) <;> omega))))) ?_; rotate_left; rotate_left; (simp only [List.getElem?_toArray, List.getElem?_cons_zero, List.getElem?_cons_succ, Option.map_some]; refine congrArg some ?_; go_simp))
    rintro e w1 ⟨rfl, hb1'⟩
    have hb1 : Below w.heap.size w w1 := Below.trans (by exact (by repeat (first | with_reducible exact Below.refl _ _ | with_reducible assumption | with_reducible refine Below.drew ?_ | with_reducible refine below_drewN ?_ _ | (with_reducible refine Below.alloc ?_ ?_ _; rotate_left; (try simp) <;> omega) | (with_reducible refine Below.setCell ?_ ?_ _; rotate_left; (try simp) <;> omega)))) (hb1'.mono (by first | omega | (simp; omega) | simp))
    have hk1 : Bk w1 w.heap.size 29 C := Bk.below (by exact (by repeat (first | with_reducible assumption | with_reducible exact Bk.new _ _ _ | with_reducible refine Bk.drew ?_ | with_reducible refine Bk.drewN ?_ _ | with_reducible refine Bk.alloc ?_ _ | (with_reducible refine Bk.far ?_ ?_ _; rotate_left; (try simp) <;> omega)))) hb1' (by first | omega | (simp; omega) | simp)
    have hz1 := hb1.size
    have hl1 := hk1.lt
    refine ⟨_, rfl, ⟨hk1.range, (hb1.cell (p := ad.add (i * 4)) hadb').trans c0, (hb1.cell (p := ⟨(ad.add (i * 4)).block, (ad.add (i * 4)).off + 1, none⟩) hadb').trans c1⟩, fun hHeld => ?_⟩
    (try simp only [Act.put, List.setIfInBounds_toArray, List.set_cons_zero, List.set_cons_succ])
    refine tk 3 12 ?_
    refine sk 4 13 ?_
    refine sk 5 14 ?_
    refine sk 6 15 ?_
    refine sk 7 16 ?_
    refine sk 8 17 ?_
    refine sk 9 18 ?_
    refine sk 10 19 ?_
    refine sk 11 20 ?_
    refine sk 12 21 ?_
    refine tk 13 22 ?_
    refine tk 14 23 ?_
    refine sk 15 24 ?_
    refine sk 16 25 ?_
    refine sk 17 26 ?_
    refine sk 18 27 ?_
    refine sk 19 28 ?_
    refine sk 20 29 ?_
    refine sk 21 30 ?_
    refine sk 22 31 ?_
    refine sk 23 32 ?_
    refine sk 24 33 ?_
    refine tk 25 34 ?_
    refine tk 26 35 ?_
    refine sk 27 36 ?_
    refine sk 28 37 ?_
    refine sk 29 38 ?_
    refine sk 30 39 ?_
    refine sk 31 40 ?_
    refine sk 32 41 ?_
    refine tk 33 42 ?_
    refine tk 34 8 ?_
    refine wpAnyH_done (by kernel_rfl) ?_ _
    go_wp2
    go_ret
    exact sh_ret HR.out.symm (by exact (by repeat (first | with_reducible exact Below.refl _ _ | with_reducible assumption | with_reducible refine Below.drew ?_ | with_reducible refine below_drewN ?_ _ | (with_reducible refine Below.alloc ?_ ?_ _; rotate_left; (try simp) <;> omega) | (with_reducible refine Below.setCell ?_ ?_ _; rotate_left; (try simp) <;> omega))))
  | true =>
  cases e2 : decide (wk ≤ m) with
  | false =>
    have HR : Hid (q = false) := by show _ = _; rw [HE.out, e2]; rfl
    clear HE
    go_enter Try.func93, Try.ntmps93
    go_wp2
    refine wp_region_held_drew (S := (fun w' => w'.rangeAt w.heap.size 0 C.toList ∧ w'.cell? (ad.add (i * 4)) = some (.int .i64 wk) ∧ w'.cell? ⟨(ad.add (i * 4)).block, (ad.add (i * 4)).off + 1, none⟩ = some (.int .i64 nd))) (by kernel_rfl) ?_ (fun hHeld => ?_)
    · refine ⟨(by exact (by repeat (first | with_reducible assumption | with_reducible exact Bk.new _ _ _ | with_reducible refine Bk.drew ?_ | with_reducible refine Bk.drewN ?_ _ | with_reducible refine Bk.alloc ?_ _ | (with_reducible refine Bk.far ?_ ?_ _; rotate_left; (try simp) <;> omega))) : Bk _ w.heap.size 29 C).range, ?_, ?_⟩ <;> first | assumption | go_keep
    (refine held_row 0 (some 9) 29 (.tmp 4) (w.heap.size) 0 C.toList _ rfl rfl (by kernel_rfl) (by kernel_rfl) (by kernel_rfl) (by rfl) rfl (fun _ _ _ h => h) (by assumption) (fun _ hS => hS.1) Try.underlying29 rfl (by assumption) ?_; (try simp only [Act.put, List.setIfInBounds_toArray, List.set_cons_zero, List.set_cons_succ]))
    refine tk 1 10 ?_
    (refine held_call 2 (some 11) 54 _ rfl (by kernel_rfl) (by rfl) ?_ (HO.out _ (by exact (by repeat (first | with_reducible exact Below.refl _ _ | with_reducible assumption | with_reducible refine Below.drew ?_ | with_reducible refine below_drewN ?_ _ | (with_reducible refine Below.alloc ?_ ?_ _; rotate_left; (try simp) <;> omega) | (with_reducible refine Below.setCell ?_ ?_ _; rotate_left; (try simp) <;> omega))))) ?_; rotate_left; rotate_left; (simp only [List.getElem?_toArray, List.getElem?_cons_zero, List.getElem?_cons_succ, Option.map_some]; refine congrArg some ?_; go_simp))
    rintro e w1 ⟨rfl, hb1'⟩
    have hb1 : Below w.heap.size w w1 := Below.trans (by exact (by repeat (first | with_reducible exact Below.refl _ _ | with_reducible assumption | with_reducible refine Below.drew ?_ | with_reducible refine below_drewN ?_ _ | (with_reducible refine Below.alloc ?_ ?_ _; rotate_left; (try simp) <;> omega) | (with_reducible refine Below.setCell ?_ ?_ _; rotate_left; (try simp) <;> omega)))) (hb1'.mono (by first | omega | (simp; omega) | simp))
    have hk1 : Bk w1 w.heap.size 29 C := Bk.below (by exact (by repeat (first | with_reducible assumption | with_reducible exact Bk.new _ _ _ | with_reducible refine Bk.drew ?_ | with_reducible refine Bk.drewN ?_ _ | with_reducible refine Bk.alloc ?_ _ | (with_reducible refine Bk.far ?_ ?_ _; rotate_left; (try simp) <;> omega)))) hb1' (by first | omega | (simp; omega) | simp)
    have hz1 := hb1.size
    have hl1 := hk1.lt
    refine ⟨_, rfl, ⟨hk1.range, (hb1.cell (p := ad.add (i * 4)) hadb').trans c0, (hb1.cell (p := ⟨(ad.add (i * 4)).block, (ad.add (i * 4)).off + 1, none⟩) hadb').trans c1⟩, fun hHeld => ?_⟩
    (try simp only [Act.put, List.setIfInBounds_toArray, List.set_cons_zero, List.set_cons_succ])
    refine tk 3 12 ?_
    (refine held_row 4 (some 13) 29 (.tmp 4) (w.heap.size) 0 C.toList _ rfl rfl (by kernel_rfl) (by kernel_rfl) (by kernel_rfl) (by rfl) rfl (fun _ _ _ h => h) (by assumption) (fun _ hS => hS.1) Try.underlying29 rfl (by assumption) ?_; (try simp only [Act.put, List.setIfInBounds_toArray, List.set_cons_zero, List.set_cons_succ]))
    refine tk 5 14 ?_
    refine tk 7 16 ?_
    refine tk 8 17 ?_
    refine tk 9 18 ?_
    refine tk 10 19 ?_
    refine tk 11 20 ?_
    (refine held_call 6 (some 15) 56 _ rfl (by kernel_rfl) (by rfl) ?_ (HM.out _ (by exact (by repeat (first | with_reducible exact Below.refl _ _ | with_reducible assumption | with_reducible refine Below.drew ?_ | with_reducible refine below_drewN ?_ _ | (with_reducible refine Below.alloc ?_ ?_ _; rotate_left; (try simp) <;> omega) | (with_reducible refine Below.setCell ?_ ?_ _; rotate_left; (try simp) <;> omega))))) ?_; rotate_left; rotate_left; (simp only [List.getElem?_toArray, List.getElem?_cons_zero, List.getElem?_cons_succ, Option.map_some]; refine congrArg some ?_; go_simp))
    rintro e w2 ⟨rfl, hb2'⟩
    have hb2 : Below w.heap.size w w2 := Below.trans (by exact (by repeat (first | with_reducible exact Below.refl _ _ | with_reducible assumption | with_reducible refine Below.drew ?_ | with_reducible refine below_drewN ?_ _ | (with_reducible refine Below.alloc ?_ ?_ _; rotate_left; (try simp) <;> omega) | (with_reducible refine Below.setCell ?_ ?_ _; rotate_left; (try simp) <;> omega)))) (hb2'.mono (by first | omega | (simp; omega) | simp))
    have hk2 : Bk w2 w.heap.size 29 C := Bk.below (by exact (by repeat (first | with_reducible assumption | with_reducible exact Bk.new _ _ _ | with_reducible refine Bk.drew ?_ | with_reducible refine Bk.drewN ?_ _ | with_reducible refine Bk.alloc ?_ _ | (with_reducible refine Bk.far ?_ ?_ _; rotate_left; (try simp) <;> omega)))) hb2' (by first | omega | (simp; omega) | simp)
    have hz2 := hb2.size
    have hl2 := hk2.lt
    refine ⟨_, rfl, ⟨hk2.range, (hb2.cell (p := ad.add (i * 4)) hadb').trans c0, (hb2.cell (p := ⟨(ad.add (i * 4)).block, (ad.add (i * 4)).off + 1, none⟩) hadb').trans c1⟩, fun hHeld => ?_⟩
    (try simp only [Act.put, List.setIfInBounds_toArray, List.set_cons_zero, List.set_cons_succ])
    refine tk 12 21 ?_
    refine tk 13 22 ?_
    refine tk 14 23 ?_
    refine sk 15 24 ?_
    refine sk 16 25 ?_
    refine sk 17 26 ?_
    refine sk 18 27 ?_
    refine sk 19 28 ?_
    refine sk 20 29 ?_
    refine sk 21 30 ?_
    refine sk 22 31 ?_
    refine sk 23 32 ?_
    refine sk 24 33 ?_
    refine tk 25 34 ?_
    refine tk 26 35 ?_
    refine sk 27 36 ?_
    refine sk 28 37 ?_
    refine sk 29 38 ?_
    refine sk 30 39 ?_
    refine sk 31 40 ?_
    refine sk 32 41 ?_
    refine tk 33 42 ?_
    refine tk 34 8 ?_
    refine wpAnyH_done (by kernel_rfl) ?_ _
    go_wp2
    go_ret
    exact sh_ret HR.out.symm (by exact (by repeat (first | with_reducible exact Below.refl _ _ | with_reducible assumption | with_reducible refine Below.drew ?_ | with_reducible refine below_drewN ?_ _ | (with_reducible refine Below.alloc ?_ ?_ _; rotate_left; (try simp) <;> omega) | (with_reducible refine Below.setCell ?_ ?_ _; rotate_left; (try simp) <;> omega))))
  | true =>
  cases e3 : decide (0 < L.length) with
  | false =>
    have HR : Hid (q = false) := by show _ = _; rw [HE.out, e2, e3]; rfl
    have e3' : decide ((0 : Int) < (L.length : Int)) = false := by simpa using e3
    clear HE
    go_enter Try.func93, Try.ntmps93
    go_wp2
    refine wp_region_held_drew (S := (fun w' => w'.rangeAt w.heap.size 0 C.toList ∧ w'.cell? (ad.add (i * 4)) = some (.int .i64 wk) ∧ w'.cell? ⟨(ad.add (i * 4)).block, (ad.add (i * 4)).off + 1, none⟩ = some (.int .i64 nd))) (by kernel_rfl) ?_ (fun hHeld => ?_)
    · refine ⟨(by exact (by repeat (first | with_reducible assumption | with_reducible exact Bk.new _ _ _ | with_reducible refine Bk.drew ?_ | with_reducible refine Bk.drewN ?_ _ | with_reducible refine Bk.alloc ?_ _ | (with_reducible refine Bk.far ?_ ?_ _; rotate_left; (try simp) <;> omega))) : Bk _ w.heap.size 29 C).range, ?_, ?_⟩ <;> first | assumption | go_keep
    (refine held_row 0 (some 9) 29 (.tmp 4) (w.heap.size) 0 C.toList _ rfl rfl (by kernel_rfl) (by kernel_rfl) (by kernel_rfl) (by rfl) rfl (fun _ _ _ h => h) (by assumption) (fun _ hS => hS.1) Try.underlying29 rfl (by assumption) ?_; (try simp only [Act.put, List.setIfInBounds_toArray, List.set_cons_zero, List.set_cons_succ]))
    refine tk 1 10 ?_
    (refine held_call 2 (some 11) 54 _ rfl (by kernel_rfl) (by rfl) ?_ (HO.out _ (by exact (by repeat (first | with_reducible exact Below.refl _ _ | with_reducible assumption | with_reducible refine Below.drew ?_ | with_reducible refine below_drewN ?_ _ | (with_reducible refine Below.alloc ?_ ?_ _; rotate_left; (try simp) <;> omega) | (with_reducible refine Below.setCell ?_ ?_ _; rotate_left; (try simp) <;> omega))))) ?_; rotate_left; rotate_left; (simp only [List.getElem?_toArray, List.getElem?_cons_zero, List.getElem?_cons_succ, Option.map_some]; refine congrArg some ?_; go_simp))
    rintro e w1 ⟨rfl, hb1'⟩
    have hb1 : Below w.heap.size w w1 := Below.trans (by exact (by repeat (first | with_reducible exact Below.refl _ _ | with_reducible assumption | with_reducible refine Below.drew ?_ | with_reducible refine below_drewN ?_ _ | (with_reducible refine Below.alloc ?_ ?_ _; rotate_left; (try simp) <;> omega) | (with_reducible refine Below.setCell ?_ ?_ _; rotate_left; (try simp) <;> omega)))) (hb1'.mono (by first | omega | (simp; omega) | simp))
    have hk1 : Bk w1 w.heap.size 29 C := Bk.below (by exact (by repeat (first | with_reducible assumption | with_reducible exact Bk.new _ _ _ | with_reducible refine Bk.drew ?_ | with_reducible refine Bk.drewN ?_ _ | with_reducible refine Bk.alloc ?_ _ | (with_reducible refine Bk.far ?_ ?_ _; rotate_left; (try simp) <;> omega)))) hb1' (by first | omega | (simp; omega) | simp)
    have hz1 := hb1.size
    have hl1 := hk1.lt
    refine ⟨_, rfl, ⟨hk1.range, (hb1.cell (p := ad.add (i * 4)) hadb').trans c0, (hb1.cell (p := ⟨(ad.add (i * 4)).block, (ad.add (i * 4)).off + 1, none⟩) hadb').trans c1⟩, fun hHeld => ?_⟩
    (try simp only [Act.put, List.setIfInBounds_toArray, List.set_cons_zero, List.set_cons_succ])
    refine tk 3 12 ?_
    (refine held_row 4 (some 13) 29 (.tmp 4) (w.heap.size) 0 C.toList _ rfl rfl (by kernel_rfl) (by kernel_rfl) (by kernel_rfl) (by rfl) rfl (fun _ _ _ h => h) (by assumption) (fun _ hS => hS.1) Try.underlying29 rfl (by assumption) ?_; (try simp only [Act.put, List.setIfInBounds_toArray, List.set_cons_zero, List.set_cons_succ]))
    refine tk 5 14 ?_
    refine tk 7 16 ?_
    refine tk 8 17 ?_
    refine tk 9 18 ?_
    refine tk 10 19 ?_
    refine tk 11 20 ?_
    (refine held_call 6 (some 15) 56 _ rfl (by kernel_rfl) (by rfl) ?_ (HM.out _ (by exact (by repeat (first | with_reducible exact Below.refl _ _ | with_reducible assumption | with_reducible refine Below.drew ?_ | with_reducible refine below_drewN ?_ _ | (with_reducible refine Below.alloc ?_ ?_ _; rotate_left; (try simp) <;> omega) | (with_reducible refine Below.setCell ?_ ?_ _; rotate_left; (try simp) <;> omega))))) ?_; rotate_left; rotate_left; (simp only [List.getElem?_toArray, List.getElem?_cons_zero, List.getElem?_cons_succ, Option.map_some]; refine congrArg some ?_; go_simp))
    rintro e w2 ⟨rfl, hb2'⟩
    have hb2 : Below w.heap.size w w2 := Below.trans (by exact (by repeat (first | with_reducible exact Below.refl _ _ | with_reducible assumption | with_reducible refine Below.drew ?_ | with_reducible refine below_drewN ?_ _ | (with_reducible refine Below.alloc ?_ ?_ _; rotate_left; (try simp) <;> omega) | (with_reducible refine Below.setCell ?_ ?_ _; rotate_left; (try simp) <;> omega)))) (hb2'.mono (by first | omega | (simp; omega) | simp))
    have hk2 : Bk w2 w.heap.size 29 C := Bk.below (by exact (by repeat (first | with_reducible assumption | with_reducible exact Bk.new _ _ _ | with_reducible refine Bk.drew ?_ | with_reducible refine Bk.drewN ?_ _ | with_reducible refine Bk.alloc ?_ _ | (with_reducible refine Bk.far ?_ ?_ _; rotate_left; (try simp) <;> omega)))) hb2' (by first | omega | (simp; omega) | simp)
    have hz2 := hb2.size
    have hl2 := hk2.lt
    refine ⟨_, rfl, ⟨hk2.range, (hb2.cell (p := ad.add (i * 4)) hadb').trans c0, (hb2.cell (p := ⟨(ad.add (i * 4)).block, (ad.add (i * 4)).off + 1, none⟩) hadb').trans c1⟩, fun hHeld => ?_⟩
    (try simp only [Act.put, List.setIfInBounds_toArray, List.set_cons_zero, List.set_cons_succ])
    refine tk 12 21 ?_
    refine tk 13 22 ?_
    refine tk 14 23 ?_
    (refine held_row 15 (some 24) 29 (.tmp 4) (w.heap.size) 0 C.toList _ rfl rfl (by kernel_rfl) (by kernel_rfl) (by kernel_rfl) (by rfl) rfl (fun _ _ _ h => h) (by assumption) (fun _ hS => hS.1) Try.underlying29 rfl (by assumption) ?_; (try simp only [Act.put, List.setIfInBounds_toArray, List.set_cons_zero, List.set_cons_succ]))
    refine tk 16 25 ?_
    refine tk 17 26 ?_
    refine tk 18 27 ?_
    refine tk 19 28 ?_
    refine tk 20 29 ?_
    refine tk 21 30 ?_
    (refine held_call 22 (some 31) 50 _ rfl (by kernel_rfl) (by rfl) ?_ (HS.out _ (by exact (by repeat (first | with_reducible exact Below.refl _ _ | with_reducible assumption | with_reducible refine Below.drew ?_ | with_reducible refine below_drewN ?_ _ | (with_reducible refine Below.alloc ?_ ?_ _; rotate_left; (try simp) <;> omega) | (with_reducible refine Below.setCell ?_ ?_ _; rotate_left; (try simp) <;> omega))))) ?_; rotate_left; rotate_left; (simp only [List.getElem?_toArray, List.getElem?_cons_zero, List.getElem?_cons_succ, Option.map_some]; refine congrArg some ?_; go_simp))
    rintro e w3 ⟨v3, rfl, ho3, hb3'⟩
    have hb3 : Below w.heap.size w w3 := Below.trans (by exact (by repeat (first | with_reducible exact Below.refl _ _ | with_reducible assumption | with_reducible refine Below.drew ?_ | with_reducible refine below_drewN ?_ _ | (with_reducible refine Below.alloc ?_ ?_ _; rotate_left; (try simp) <;> omega) | (with_reducible refine Below.setCell ?_ ?_ _; rotate_left; (try simp) <;> omega)))) (hb3'.mono (by first | omega | (simp; omega) | simp))
    have hk3 : Bk w3 w.heap.size 29 C := Bk.below (by exact (by repeat (first | with_reducible assumption | with_reducible exact Bk.new _ _ _ | with_reducible refine Bk.drew ?_ | with_reducible refine Bk.drewN ?_ _ | with_reducible refine Bk.alloc ?_ _ | (with_reducible refine Bk.far ?_ ?_ _; rotate_left; (try simp) <;> omega)))) hb3' (by first | omega | (simp; omega) | simp)
    have hz3 := hb3.size
    have hl3 := hk3.lt
    obtain ⟨A3, k3, rfl, _, _⟩ := ownsSlice ho3
    clear ho3
    refine ⟨_, rfl, ⟨hk3.range, (hb3.cell (p := ad.add (i * 4)) hadb').trans c0, (hb3.cell (p := ⟨(ad.add (i * 4)).block, (ad.add (i * 4)).off + 1, none⟩) hadb').trans c1⟩, fun hHeld => ?_⟩
    (try simp only [Act.put, List.setIfInBounds_toArray, List.set_cons_zero, List.set_cons_succ])
    refine tk 23 32 ?_
    refine tk 24 33 ?_
    refine tk 25 34 ?_
    refine tk 26 35 ?_
    refine sk 27 36 ?_
    refine sk 28 37 ?_
    refine sk 29 38 ?_
    refine sk 30 39 ?_
    refine sk 31 40 ?_
    refine sk 32 41 ?_
    refine tk 33 42 ?_
    refine tk 34 8 ?_
    refine wpAnyH_done (by kernel_rfl) ?_ _
    go_wp2
    go_ret
    exact sh_ret HR.out.symm (by exact (by repeat (first | with_reducible exact Below.refl _ _ | with_reducible assumption | with_reducible refine Below.drew ?_ | with_reducible refine below_drewN ?_ _ | (with_reducible refine Below.alloc ?_ ?_ _; rotate_left; (try simp) <;> omega) | (with_reducible refine Below.setCell ?_ ?_ _; rotate_left; (try simp) <;> omega))))
  | true =>
    have HR : Hid (q = decide ((i : Int) + 1 ≤ b)) := by show _ = _; rw [HE.out, e2, e3]; rfl
    have e3' : decide ((0 : Int) < (L.length : Int)) = true := by simpa using e3
    clear HE
    go_enter Try.func93, Try.ntmps93
    go_wp2
    refine wp_region_held_drew (S := (fun w' => w'.rangeAt w.heap.size 0 C.toList ∧ w'.cell? (ad.add (i * 4)) = some (.int .i64 wk) ∧ w'.cell? ⟨(ad.add (i * 4)).block, (ad.add (i * 4)).off + 1, none⟩ = some (.int .i64 nd))) (by kernel_rfl) ?_ (fun hHeld => ?_)
    · refine ⟨(by exact (by repeat (first | with_reducible assumption | with_reducible exact Bk.new _ _ _ | with_reducible refine Bk.drew ?_ | with_reducible refine Bk.drewN ?_ _ | with_reducible refine Bk.alloc ?_ _ | (with_reducible refine Bk.far ?_ ?_ _; rotate_left; (try simp) <;> omega))) : Bk _ w.heap.size 29 C).range, ?_, ?_⟩ <;> first | assumption | go_keep
    (refine held_row 0 (some 9) 29 (.tmp 4) (w.heap.size) 0 C.toList _ rfl rfl (by kernel_rfl) (by kernel_rfl) (by kernel_rfl) (by rfl) rfl (fun _ _ _ h => h) (by assumption) (fun _ hS => hS.1) Try.underlying29 rfl (by assumption) ?_; (try simp only [Act.put, List.setIfInBounds_toArray, List.set_cons_zero, List.set_cons_succ]))
    refine tk 1 10 ?_
    (refine held_call 2 (some 11) 54 _ rfl (by kernel_rfl) (by rfl) ?_ (HO.out _ (by exact (by repeat (first | with_reducible exact Below.refl _ _ | with_reducible assumption | with_reducible refine Below.drew ?_ | with_reducible refine below_drewN ?_ _ | (with_reducible refine Below.alloc ?_ ?_ _; rotate_left; (try simp) <;> omega) | (with_reducible refine Below.setCell ?_ ?_ _; rotate_left; (try simp) <;> omega))))) ?_; rotate_left; rotate_left; (simp only [List.getElem?_toArray, List.getElem?_cons_zero, List.getElem?_cons_succ, Option.map_some]; refine congrArg some ?_; go_simp))
    rintro e w1 ⟨rfl, hb1'⟩
    have hb1 : Below w.heap.size w w1 := Below.trans (by exact (by repeat (first | with_reducible exact Below.refl _ _ | with_reducible assumption | with_reducible refine Below.drew ?_ | with_reducible refine below_drewN ?_ _ | (with_reducible refine Below.alloc ?_ ?_ _; rotate_left; (try simp) <;> omega) | (with_reducible refine Below.setCell ?_ ?_ _; rotate_left; (try simp) <;> omega)))) (hb1'.mono (by first | omega | (simp; omega) | simp))
    have hk1 : Bk w1 w.heap.size 29 C := Bk.below (by exact (by repeat (first | with_reducible assumption | with_reducible exact Bk.new _ _ _ | with_reducible refine Bk.drew ?_ | with_reducible refine Bk.drewN ?_ _ | with_reducible refine Bk.alloc ?_ _ | (with_reducible refine Bk.far ?_ ?_ _; rotate_left; (try simp) <;> omega)))) hb1' (by first | omega | (simp; omega) | simp)
    have hz1 := hb1.size
    have hl1 := hk1.lt
    refine ⟨_, rfl, ⟨hk1.range, (hb1.cell (p := ad.add (i * 4)) hadb').trans c0, (hb1.cell (p := ⟨(ad.add (i * 4)).block, (ad.add (i * 4)).off + 1, none⟩) hadb').trans c1⟩, fun hHeld => ?_⟩
    (try simp only [Act.put, List.setIfInBounds_toArray, List.set_cons_zero, List.set_cons_succ])
    refine tk 3 12 ?_
    (refine held_row 4 (some 13) 29 (.tmp 4) (w.heap.size) 0 C.toList _ rfl rfl (by kernel_rfl) (by kernel_rfl) (by kernel_rfl) (by rfl) rfl (fun _ _ _ h => h) (by assumption) (fun _ hS => hS.1) Try.underlying29 rfl (by assumption) ?_; (try simp only [Act.put, List.setIfInBounds_toArray, List.set_cons_zero, List.set_cons_succ]))
    refine tk 5 14 ?_
    refine tk 7 16 ?_
    refine tk 8 17 ?_
    refine tk 9 18 ?_
    refine tk 10 19 ?_
    refine tk 11 20 ?_
    (refine held_call 6 (some 15) 56 _ rfl (by kernel_rfl) (by rfl) ?_ (HM.out _ (by exact (by repeat (first | with_reducible exact Below.refl _ _ | with_reducible assumption | with_reducible refine Below.drew ?_ | with_reducible refine below_drewN ?_ _ | (with_reducible refine Below.alloc ?_ ?_ _; rotate_left; (try simp) <;> omega) | (with_reducible refine Below.setCell ?_ ?_ _; rotate_left; (try simp) <;> omega))))) ?_; rotate_left; rotate_left; (simp only [List.getElem?_toArray, List.getElem?_cons_zero, List.getElem?_cons_succ, Option.map_some]; refine congrArg some ?_; go_simp))
    rintro e w2 ⟨rfl, hb2'⟩
    have hb2 : Below w.heap.size w w2 := Below.trans (by exact (by repeat (first | with_reducible exact Below.refl _ _ | with_reducible assumption | with_reducible refine Below.drew ?_ | with_reducible refine below_drewN ?_ _ | (with_reducible refine Below.alloc ?_ ?_ _; rotate_left; (try simp) <;> omega) | (with_reducible refine Below.setCell ?_ ?_ _; rotate_left; (try simp) <;> omega)))) (hb2'.mono (by first | omega | (simp; omega) | simp))
    have hk2 : Bk w2 w.heap.size 29 C := Bk.below (by exact (by repeat (first | with_reducible assumption | with_reducible exact Bk.new _ _ _ | with_reducible refine Bk.drew ?_ | with_reducible refine Bk.drewN ?_ _ | with_reducible refine Bk.alloc ?_ _ | (with_reducible refine Bk.far ?_ ?_ _; rotate_left; (try simp) <;> omega)))) hb2' (by first | omega | (simp; omega) | simp)
    have hz2 := hb2.size
    have hl2 := hk2.lt
    refine ⟨_, rfl, ⟨hk2.range, (hb2.cell (p := ad.add (i * 4)) hadb').trans c0, (hb2.cell (p := ⟨(ad.add (i * 4)).block, (ad.add (i * 4)).off + 1, none⟩) hadb').trans c1⟩, fun hHeld => ?_⟩
    (try simp only [Act.put, List.setIfInBounds_toArray, List.set_cons_zero, List.set_cons_succ])
    refine tk 12 21 ?_
    refine tk 13 22 ?_
    refine tk 14 23 ?_
    (refine held_row 15 (some 24) 29 (.tmp 4) (w.heap.size) 0 C.toList _ rfl rfl (by kernel_rfl) (by kernel_rfl) (by kernel_rfl) (by rfl) rfl (fun _ _ _ h => h) (by assumption) (fun _ hS => hS.1) Try.underlying29 rfl (by assumption) ?_; (try simp only [Act.put, List.setIfInBounds_toArray, List.set_cons_zero, List.set_cons_succ]))
    refine tk 16 25 ?_
    refine tk 17 26 ?_
    refine tk 18 27 ?_
    refine tk 19 28 ?_
    refine tk 20 29 ?_
    refine tk 21 30 ?_
    (refine held_call 22 (some 31) 50 _ rfl (by kernel_rfl) (by rfl) ?_ (HS.out _ (by exact (by repeat (first | with_reducible exact Below.refl _ _ | with_reducible assumption | with_reducible refine Below.drew ?_ | with_reducible refine below_drewN ?_ _ | (with_reducible refine Below.alloc ?_ ?_ _; rotate_left; (try simp) <;> omega) | (with_reducible refine Below.setCell ?_ ?_ _; rotate_left; (try simp) <;> omega))))) ?_; rotate_left; rotate_left; (simp only [List.getElem?_toArray, List.getElem?_cons_zero, List.getElem?_cons_succ, Option.map_some]; refine congrArg some ?_; go_simp))
    rintro e w3 ⟨v3, rfl, ho3, hb3'⟩
    have hb3 : Below w.heap.size w w3 := Below.trans (by exact (by repeat (first | with_reducible exact Below.refl _ _ | with_reducible assumption | with_reducible refine Below.drew ?_ | with_reducible refine below_drewN ?_ _ | (with_reducible refine Below.alloc ?_ ?_ _; rotate_left; (try simp) <;> omega) | (with_reducible refine Below.setCell ?_ ?_ _; rotate_left; (try simp) <;> omega)))) (hb3'.mono (by first | omega | (simp; omega) | simp))
    have hk3 : Bk w3 w.heap.size 29 C := Bk.below (by exact (by repeat (first | with_reducible assumption | with_reducible exact Bk.new _ _ _ | with_reducible refine Bk.drew ?_ | with_reducible refine Bk.drewN ?_ _ | with_reducible refine Bk.alloc ?_ _ | (with_reducible refine Bk.far ?_ ?_ _; rotate_left; (try simp) <;> omega)))) hb3' (by first | omega | (simp; omega) | simp)
    have hz3 := hb3.size
    have hl3 := hk3.lt
    obtain ⟨A3, k3, rfl, _, _⟩ := ownsSlice ho3
    clear ho3
    refine ⟨_, rfl, ⟨hk3.range, (hb3.cell (p := ad.add (i * 4)) hadb').trans c0, (hb3.cell (p := ⟨(ad.add (i * 4)).block, (ad.add (i * 4)).off + 1, none⟩) hadb').trans c1⟩, fun hHeld => ?_⟩
    (try simp only [Act.put, List.setIfInBounds_toArray, List.set_cons_zero, List.set_cons_succ])
    refine tk 23 32 ?_
    refine tk 24 33 ?_
    refine tk 25 34 ?_
    refine tk 26 35 ?_
    (refine held_row 27 (some 36) 29 (.tmp 4) (w.heap.size) 0 C.toList _ rfl rfl (by kernel_rfl) (by kernel_rfl) (by kernel_rfl) (by rfl) rfl (fun _ _ _ h => h) (by assumption) (fun _ hS => hS.1) Try.underlying29 rfl (by assumption) ?_; (try simp only [Act.put, List.setIfInBounds_toArray, List.set_cons_zero, List.set_cons_succ]))
    refine tk 28 37 ?_
    refine tk 30 39 ?_
    refine tk 31 40 ?_
    (refine held_call 29 (some 38) 58 _ rfl (by kernel_rfl) (by rfl) ?_ (HB.out _ (by exact (by repeat (first | with_reducible exact Below.refl _ _ | with_reducible assumption | with_reducible refine Below.drew ?_ | with_reducible refine below_drewN ?_ _ | (with_reducible refine Below.alloc ?_ ?_ _; rotate_left; (try simp) <;> omega) | (with_reducible refine Below.setCell ?_ ?_ _; rotate_left; (try simp) <;> omega))))) ?_; rotate_left; rotate_left; (simp only [List.getElem?_toArray, List.getElem?_cons_zero, List.getElem?_cons_succ, Option.map_some]; refine congrArg some ?_; go_simp))
    rintro e w4 ⟨rfl, hb4'⟩
    have hb4 : Below w.heap.size w w4 := Below.trans (by exact (by repeat (first | with_reducible exact Below.refl _ _ | with_reducible assumption | with_reducible refine Below.drew ?_ | with_reducible refine below_drewN ?_ _ | (with_reducible refine Below.alloc ?_ ?_ _; rotate_left; (try simp) <;> omega) | (with_reducible refine Below.setCell ?_ ?_ _; rotate_left; (try simp) <;> omega)))) (hb4'.mono (by first | omega | (simp; omega) | simp))
    have hk4 : Bk w4 w.heap.size 29 C := Bk.below (by exact (by repeat (first | with_reducible assumption | with_reducible exact Bk.new _ _ _ | with_reducible refine Bk.drew ?_ | with_reducible refine Bk.drewN ?_ _ | with_reducible refine Bk.alloc ?_ _ | (with_reducible refine Bk.far ?_ ?_ _; rotate_left; (try simp) <;> omega)))) hb4' (by first | omega | (simp; omega) | simp)
    have hz4 := hb4.size
    have hl4 := hk4.lt
    refine ⟨_, rfl, ⟨hk4.range, (hb4.cell (p := ad.add (i * 4)) hadb').trans c0, (hb4.cell (p := ⟨(ad.add (i * 4)).block, (ad.add (i * 4)).off + 1, none⟩) hadb').trans c1⟩, fun hHeld => ?_⟩
    (try simp only [Act.put, List.setIfInBounds_toArray, List.set_cons_zero, List.set_cons_succ])
    refine tk 32 41 ?_
    refine tk 33 42 ?_
    refine tk 34 8 ?_
    refine wpAnyH_done (by kernel_rfl) ?_ _
    go_wp2
    go_ret
    exact sh_ret ((congrArg (fun z : Int => decide (z ≤ b)) WW.out).trans HR.out.symm) (by exact (by repeat (first | with_reducible exact Below.refl _ _ | with_reducible assumption | with_reducible refine Below.drew ?_ | with_reducible refine below_drewN ?_ _ | (with_reducible refine Below.alloc ?_ ?_ _; rotate_left; (try simp) <;> omega) | (with_reducible refine Below.setCell ?_ ?_ _; rotate_left; (try simp) <;> omega))))
end Go.Proofs.Ytjgnikmnadmheaa

namespace Go.Proofs.Ytjgnikmnadmheaa
open Go.RowKit

theorem small_valid {Y : Yd} (h : Valid Y) : Small Y := ⟨by have := h.n1; omega, by have := h.n2; omega, by have := h.n3; omega, fun m hm => by have := (nameB_iff m.name).1 (h.ma m hm).1; omega⟩
def nextS (Y : Yd) (t : Tk) (days : List Int) (f : Int) : Int := let L := suitK Y t days.length (lowS Y.dry f t.af days) (f + 400 - lowS Y.dry f t.af days).toNat; if someL L = true then firstL L else -1

set_option maxRecDepth 100000 in
set_option maxHeartbeats 1000000 in
theorem rnext_any (C : Array Value) (Y : Yd) (l : List Tk) (A : Option Addr) (c : Nat) (f : Int) (days : List Int) (D : Option Addr) (cd : Nat) (w : World) (hY : YardAt w w.heap.size C Y) (hT : TasksAt w w.heap.size A l) (ho : okY Y = true) (ht : ValidT l) (hm : tame l) (hf : 0 ≤ f ∧ f ≤ 100000)
    (hD : Lies w w.heap.size D (ints days)) (hn : days.length < l.length) (hd : ∀ x ∈ days, -1000 ≤ x ∧ x ≤ 200000) :
    Calls Try.prog 120 #[.agg C, .slice A l.length c, .slice D days.length cd, .int .i64 f, .int .i64 f] w (IntEnd (nextS Y l[days.length] days f) w) := by
  have hv := okY_valid ho
  have hs := small_valid hv
  have HLOAD := load_any hY
  have HC28 := Lib.hid hY.len
  have HRS : Hid (∀ W : World, Below w.heap.size w W → ∀ d : Int, Calls Try.prog 93 #[.agg C, .slice A l.length c, .int .i64 days.length, .int .i64 d] W (ShEnd (suitB Y l[days.length] days.length d) W)) := fun W hb d => by
    rw [← rsuitB_ok ho]; exact rsuits_any C Y l A c days.length d W ((hY.below hb (Nat.le_refl _)).more hb.size) hs ((hT.below hb (Nat.le_refl _)).more hb.size) hm.1 hn
  have HDD := Lib.hid (fun W (hb : Below w.heap.size w W) => (hD.below hb (Nat.le_refl _)))
  have hdry := hv.dry
  have hl12 := ht.n
  have HAF := Lib.hid (ht.af days.length hn)
  have HAN := Lib.hid ((hm.2 l[days.length] (List.getElem_mem hn)).1)
  have HTA := Lib.hid (fun W (hb : Below w.heap.size w W) => (hT.below hb (Nat.le_refl _)).af l[days.length] (List.getElem_mem hn))
  obtain ⟨at_, rfl, hatb, _, _, c2, _⟩ := task_at hT.at_ hn
  have HC2 : Hid (∀ W : World, Below w.heap.size w W → W.cell? ⟨(at_.add (days.length * 4)).block, (at_.add (days.length * 4)).off + 2, none⟩ = some (.slice l[days.length].aA l[days.length].af.length l[days.length].ac)) := fun W hb => (hb.cell (by rw [add_block]; exact hatb)).trans c2
  have HBD := Lib.hid (fun (k : Nat) (hk : k ≤ l[days.length].af.length) => lowK_bd (af := l[days.length].af) hf hdry hd k hk)
  have HBB := Lib.hid (lowB_bd hf hd)
  have HG := Lib.hid (getD_bd hd)
  have HLB0 : Hid (days.length = 0 → lowB f days = f) := fun h => by unfold lowB; rw [if_pos h]
  have HLB1 : Hid (∀ h : 0 < days.length, lowB f days = max f (days[days.length - 1]'(by omega) + 1)) := fun h => by
    unfold lowB; rw [if_neg (by omega), List.getD_eq_getElem?_getD, List.getElem?_eq_getElem (by omega)]; rfl
  have HXB : Hid (∀ j (h : j < days.length), -1000 ≤ days[j] ∧ days[j] ≤ 200000) := fun j h => hd _ (List.getElem_mem h)
  have HS : Hid (lowS Y.dry f l[days.length].af days = lowK Y.dry f l[days.length].af days l[days.length].af.length) := rfl
  have HZ := Lib.hid (lowK_zero Y.dry f l[days.length].af days)
  have HK := Lib.hid (fun (k : Nat) (hk : k < l[days.length].af.length) => lowK_succ (dry := Y.dry) (f := f) (days := days) hk)
  have e27 := hY.dry
  have HNX : Hid (nextS Y l[days.length] days f = if someL (suitK Y l[days.length] days.length (lowS Y.dry f l[days.length].af days) (f + 400 - lowS Y.dry f l[days.length].af days).toNat) = true then firstL (suitK Y l[days.length] days.length (lowS Y.dry f l[days.length].af days) (f + 400 - lowS Y.dry f l[days.length].af days).toNat) else -1) := rfl
  clear hD ht hm hv c2 hd hY hT hs ho
  generalize nextS Y l[days.length] days f = NX at *
  generalize lowS Y.dry f l[days.length].af days = R at *
  generalize lowK Y.dry f l[days.length].af days = LK at *
  generalize lowB f days = LB at *
  generalize Y.dry = dry at *
  have hnI : (days.length : Int) < (l.length : Int) := by omega
  have hn0 : 0 ≤ (days.length : Int) := by omega
  generalize l[days.length] = t at *
  have HSY := Lib.hid (fun (d : Int) (k : Nat) => @suitK_yes Y t days.length d k)
  have HSN := Lib.hid (fun (d : Int) (k : Nat) => @suitK_no Y t days.length d k)
  have HSP := Lib.hid (fun (d : Int) (k m : Nat) (h : k ≤ m) => suitK_pre Y t days.length d k m h)
  have HS0 : Hid (∀ d : Int, suitK Y t days.length d 0 = []) := fun d => rfl
  generalize suitB Y t days.length = SB at *
  generalize suitK Y t days.length = SK at *
  obtain ⟨wk, nd, aA, ac, af, cA, cc, co⟩ := t
  dsimp only at *
  have han := HAN.out
  go_enter Try.func120, Try.ntmps120
  go_upto_if 18 with fail
  have hb1 : Below w.heap.size w (w.alloc (.cells C 29)) := by exact (by repeat (first | with_reducible exact Below.refl _ _ | with_reducible assumption | with_reducible refine Below.drew ?_ | with_reducible refine below_drewN ?_ _ | (with_reducible refine Below.alloc ?_ ?_ _; rotate_left; (try simp) <;> omega) | (with_reducible refine Below.setCell ?_ ?_ _; rotate_left; (try simp) <;> omega)))
  have hk1 : Bk (w.alloc (.cells C 29)) w.heap.size 29 C := Bk.new w 29 C
  generalize w.alloc (.cells C 29) = w1 at *
  go_cut [12] (fun s12 wx => ∃ v : Int, s12 = .int .i64 v ∧ Hid (v = LK 0) ∧ (0 ≤ v ∧ v ≤ 200001) ∧ wx = w1)
  case first =>
    have hBB := HBB.out
    by_cases h0 : days.length = 0
    · have HV : Hid (f = LK 0) := by
        show _ = _
        rw [HZ.out, HLB0.out h0]
      have h1 : ¬ 0 < days.length := by omega
      have H0 := Lib.hid h0; clear h0
      go_wp2
      go_meet
      exact ⟨f, rfl, HV, by omega, rfl⟩
    · have h1 : 0 < days.length := by omega
      obtain ⟨ad, rfl, hadb, c0⟩ := int_at (HDD.out w1 hb1) (k := days.length - 1) (by omega)
      have HV : Hid (max f (days[days.length - 1]'(by omega) + 1) = LK 0) := by
        show _ = _
        rw [HZ.out, HLB1.out h1]
      have hxb := HXB.out (days.length - 1) (by omega)
      generalize days[days.length - 1]'(by omega) = x at *
      have hkm : ((days.length : Int) - 1).toNat = days.length - 1 := by omega
      have hkp : 0 ≤ (days.length : Int) - 1 := by omega
      have hkq : (days.length : Int) - 1 < (days.length : Int) := by omega
      obtain ⟨hx1, hx2⟩ := hxb
      clear h0
      go_wp2
      go_meet
      exact ⟨max f (x + 1), by first | rfl | (simp; done), HV, by omega, rfl⟩
  case rest =>
  obtain ⟨v, rfl, HV, ⟨hv0, hv1⟩, rfl⟩ := hcut
  go_wp2
  go_loopw [12, 13] (fun s y wr => ∃ (k : Nat) (v : Int), k ≤ af.length ∧ y = .int .i64 k ∧ s = .int .i64 v ∧ Hid (v = LK k) ∧ Below w.heap.size w wr ∧ Bk wr w.heap.size 29 C) (fun _ y _ => af.length - (intOf y).toNat)
  case atStart => exact ⟨0, v, by omega, rfl, rfl, HV, hb1, hk1⟩
  case round =>
  clear hv0 hv1 HV HZ HBB hb1 hk1
  obtain ⟨k, v, hk, rfl, rfl, HV, hbw, hbk⟩ := hrel
  have hbs := hbw.size
  have hbd := HBD.out k hk
  rw [← HV.out] at hbd
  have c2 := HC2.out wr hbw
  by_cases hlt : k < af.length
  · obtain ⟨a1, rfl, ha1, d0⟩ := int_at (HTA.out wr hbw) hlt
    have haf := HAF.out af[k] (List.getElem_mem hlt)
    have HX := Lib.hid (HK.out k hlt)
    have hgb := HG.out af[k].toNat
    have hjn : af[k].toNat < days.length := by omega
    obtain ⟨a2, rfl, ha2, e0⟩ := int_at (HDD.out wr hbw) hjn
    have HE : Hid (days.getD af[k].toNat 0 = days[af[k].toNat]) := by show _ = _; rw [List.getD_eq_getElem?_getD, List.getElem?_eq_getElem hjn]; rfl
    rw [HE.out] at hgb HX
    have y27 := hbk.cell 27 e27
    generalize days[af[k].toNat] = x at *
    obtain ⟨j, hj⟩ : ∃ j : Nat, af[k] = (j : Int) := ⟨af[k].toNat, by omega⟩
    have hj2 : af[k].toNat = j := by omega
    rw [hj] at d0
    rw [hj2] at e0 hjn
    have HJ1 := Lib.hid hj
    clear hj hj2 HE haf
    have hjI : (j : Int) < (days.length : Int) := by omega
    have hkI : (k : Int) < (af.length : Int) := by omega
    have hk0 : 0 ≤ (k : Int) := by omega
    have hj0 : 0 ≤ (j : Int) := by omega
    obtain ⟨hg1, hg2⟩ := hgb
    obtain ⟨hdr1, hdr2⟩ := hdry
    obtain ⟨hb1, hb2⟩ := hbd
    have W1 : Hid (IntKind.i64.wrap (x + dry) = x + dry) := IntWalk.i64_in _ (by omega)
    have W2 : Hid (IntKind.i64.wrap (x + dry + 1) = x + dry + 1) := IntWalk.i64_in _ (by omega)
    go_upto_region 8 with fail
    refine wp_region_held_drew (S := (fun w' => w'.cell? ⟨(at_.add (days.length * 4)).block, (at_.add (days.length * 4)).off + 2, none⟩ = some (.slice (some a1) af.length ac) ∧ w'.cell? (a1.add k) = some (.int .i64 j) ∧ w'.cell? (a2.add j) = some (.int .i64 x) ∧ w'.cell? ⟨w.heap.size, 27, none⟩ = some (.int .i64 dry))) (by kernel_rfl) ?_ (fun hHeld => ?_)
    · (refine ⟨?_, ?_, ?_, ?_⟩ <;> first | assumption | go_keep)
    refine tk 0 37 ?_
    refine tk 1 38 ?_
    refine tk 2 39 ?_
    refine tk 3 40 ?_
    refine tk 4 41 ?_
    refine tk 5 42 ?_
    refine tk 6 43 ?_
    refine tk 7 44 ?_
    refine tk 8 45 ?_
    refine tk 9 46 ?_
    refine tk 10 47 ?_
    refine tk 11 48 ?_
    refine tk 12 49 ?_
    refine tk 13 50 ?_
    refine tk 14 51 ?_
    refine tk 15 52 ?_
    refine tk 16 53 ?_
    refine tk 17 12 ?_
    refine wpAnyH_done (by kernel_rfl) ?_ _
    rw [W1.out, W2.out]
    have HVN : Hid (max v (x + dry + 1) = LK (k + 1)) := by show _ = _; rw [HX.out, HV.out]
    clear W1 W2
    go_wp2
    go_roundw
    case rel => exact ⟨k + 1, max v (x + dry + 1), by omega, by go_num, rfl, HVN, by exact (by repeat (first | with_reducible exact Below.refl _ _ | with_reducible assumption | with_reducible refine Below.drew ?_ | with_reducible refine below_drewN ?_ _ | (with_reducible refine Below.alloc ?_ ?_ _; rotate_left; (try simp) <;> omega) | (with_reducible refine Below.setCell ?_ ?_ _; rotate_left; (try simp) <;> omega))), by exact (by repeat (first | with_reducible assumption | with_reducible exact Bk.new _ _ _ | with_reducible refine Bk.drew ?_ | with_reducible refine Bk.drewN ?_ _ | with_reducible refine Bk.alloc ?_ _ | (with_reducible refine Bk.far ?_ ?_ _; rotate_left; (try simp) <;> omega)))⟩
    case measure => simp [intOf]; omega
  · obtain rfl : k = af.length := by omega
    clear hlt
    have HVR : Hid (v = R) := by show _ = _; rw [HV.out, HS.out]
    obtain ⟨hb1, hb2⟩ := hbd
    go_wp2
    go_loopw [12] (fun y wr => ∃ k : Nat, (v + (k : Int) ≤ f + 400 ∨ k = 0) ∧ y = .int .i64 (v + (k : Int)) ∧ Hid (SK v k = []) ∧ Below w.heap.size w wr ∧ Bk wr w.heap.size 29 C) (fun y _ => (f + 400 - intOf y).toNat)
    case atStart => exact ⟨0, .inr rfl, by simp, HS0.out v, hbw, hbk⟩
    case round =>
    clear hbw hbk c2 hbs
    obtain ⟨k, hk, rfl, HV0, hbw, hbk⟩ := hrel
    have hbs := hbw.size
    have hlk := hbk.lt
    by_cases hlt : v + (k : Int) < f + 400
    · have hcall := HRS.out wr hbw (v + (k : Int))
      cases hq : SB (v + (k : Int)) with
      | true =>
        have HE : Hid (NX = v + (k : Int)) := by
          show _ = _
          have h1 := HSY.out v k hq
          rw [HV0.out, List.nil_append] at h1
          obtain ⟨r, h2⟩ := HSP.out v (k + 1) (f + 400 - v).toNat (by omega)
          rw [h1] at h2
          rw [HNX.out, ← HVR.out, ← h2]; rfl
        rw [hq] at hcall
        have HCA := Lib.hid hcall
        clear hq hcall
        go_wp2_with (first | (refine wpList_load_guard (P := Try.prog) (by rfl) 29 (.tmp 5) rfl w.heap.size 0 rfl C.toList _ (HLOAD.out _ _ hbk) Try.underlying29 rfl (by rw [HC28.out]; exact info29) ?_) | (go_at_call 93; refine HCA.out.mono ?_; rintro e w5 ⟨rfl, hb5⟩))
        go_ret
        exact int_end HE.out.symm (hbw.trans (hb5.mono hbs))
      | false =>
        have HE : Hid (SK v (k + 1) = []) := by show _ = _; rw [HSN.out v k hq, HV0.out]
        rw [hq] at hcall
        have HCA := Lib.hid hcall
        clear hq hcall
        go_wp2_with (first | (refine wpList_load_guard (P := Try.prog) (by rfl) 29 (.tmp 5) rfl w.heap.size 0 rfl C.toList _ (HLOAD.out _ _ hbk) Try.underlying29 rfl (by rw [HC28.out]; exact info29) ?_) | (go_at_call 93; refine HCA.out.mono ?_; rintro e w5 ⟨rfl, hb5⟩))
        go_roundw
        case rel => exact ⟨k + 1, .inl (by omega), by go_num, HE, hbw.trans (hb5.mono hbs), hbk.below hb5 hlk⟩
        case measure => simp [intOf]; omega
    · have HE : Hid (NX = -1) := by
        show _ = _
        have : SK v (f + 400 - v).toNat = [] := by
          have e : (f + 400 - v).toNat = k := by omega
          rw [e]; exact HV0.out
        rw [HNX.out, ← HVR.out, this]; rfl
      go_wp2
      go_ret
      exact int_end HE.out.symm hbw
end Go.Proofs.Ytjgnikmnadmheaa

namespace Go.Proofs.Ytjgnikmnadmheaa
open Go.RowKit Go.Maps Go.WalkArith Go.ChangeMaps

def i64v (x : Int) : Prop := -9223372036854775808 ≤ x ∧ x ≤ 9223372036854775807
theorem law3 : Keyed Try.prog 3 := int_keyed Try.underlying3
theorem zero3 (w : World) : (zeroValue 3).run Try.prog w = .ok (.int .i64 0) w := by kernel_rfl
/-- block b is a map of sz keys that reads as g -/
structure MapC (w : World) (b n sz : Nat) (g : Int → Option Int) : Prop where
  out : ∃ D : DataW Unit, w.ownsMap Try.prog 3 (plainElem Try.prog 3) b n D ∧ Maps.size D = sz ∧ ∀ x, i64v x → D.atKey (.int .i64 x) (.lit (.int .i64 0)) = .lit (.int .i64 ((g x).getD 0)) ∧ Maps.has D (.int .i64 x) = (g x).isSome
def gNone : Int → Option Int := fun _ => none
def gPut (g : Int → Option Int) (k v : Int) : Int → Option Int := fun x => if x = k then some v else g x
def gDel (g : Int → Option Int) (k : Int) : Int → Option Int := fun x => if x = k then none else g x
theorem MapC.made (w : World) : MapC (w.alloc (.map #[] 0)) w.heap.size 0 0 gNone := ⟨⟨.map [], World.ownsMap_made _ _ _ _, rfl, fun x _ => ⟨rfl, rfl⟩⟩⟩
section
variable {w w' : World} {b n sz : Nat} {g : Int → Option Int}
theorem MapC.look (h : MapC w b n sz g) {x : Int} (hx : i64v x) : (Instr.lookup 108 (.map (some b)) (.int .i64 x) false).run Try.prog w = .ok (.int .i64 ((g x).getD 0)) w := by
  obtain ⟨D, h1, _, h2⟩ := h.out
  obtain ⟨c, hrun, hat, _⟩ := h1.lookup_int law3 Try.underlying108 Try.underlying3 (zero3 w) (keyOf_int_mk Try.underlying3 (wf_i64 hx))
  rw [(h2 x hx).1] at hat
  rw [hrun]
  cases hat; rfl
theorem MapC.look_ok (h : MapC w b n sz g) {x : Int} (hx : i64v x) : (Instr.lookup 108 (.map (some b)) (.int .i64 x) true).run Try.prog w = .ok (.tuple #[.int .i64 ((g x).getD 0), .bool (g x).isSome]) w := by
  obtain ⟨D, h1, _, h2⟩ := h.out
  obtain ⟨v, ps, hrun, hat⟩ := h1.look_ok law3 Try.underlying108 (zero3 w) (plainElem_int (H := Unit) Try.underlying3 (wf_i64 (n := 0) ⟨by decide, by decide⟩)) (keyOf_int_mk Try.underlying3 (wf_i64 hx))
  obtain ⟨c, rfl, hc, _⟩ := plainElem_int_inv Try.underlying3 hat
  simp only [Prod.mk.injEq] at hc
  have h3 := hc.1
  rw [(h2 x hx).1] at h3
  rw [hrun, (h2 x hx).2]
  cases h3; rfl
theorem MapC.len (h : MapC w b n sz g) (ty : TypeId) : (Builtin.len_ #[108] ty #[.map (some b)]).run Try.prog w = .ok (.int .i64 sz) w := by
  obtain ⟨D, h1, h0, _⟩ := h.out
  rw [h1.len Try.underlying108 ty, h0]
theorem MapC.put (h : MapC w b n sz g) (hn : n < maxLen) {x v : Int} (hx : i64v x) (hv : i64v v) :
    ∃ w', (Instr.mapUpdate 108 (.map (some b)) (.int .i64 x) (.int .i64 v)).run Try.prog w = .ok () w' ∧ MapC w' b (n + 1) (if (g x).isSome = true then sz else sz + 1) (gPut g x v) ∧ w.grownBy w' (some b) := by
  obtain ⟨D, h1, h0, h2⟩ := h.out
  obtain ⟨w', hrun, h3, h4⟩ := h1.update law3 Try.underlying108 hn (keyOf_int_mk Try.underlying3 (wf_i64 hx)) (plainElem_int (H := Unit) Try.underlying3 (wf_i64 hv))
  refine ⟨w', hrun, ⟨⟨_, h3, ?_, fun y hy => ?_⟩⟩, h4⟩
  · rw [size_put (h1.tidy law3), (h2 x hx).2, h0]
  · unfold gPut
    by_cases e : y = x
    · subst e
      rw [atKey_put_same h1.isMap (show WideAt.IsKeyLit (Lit.int .i64 _) from trivial), has_put_same h1.isMap (show WideAt.IsKeyLit (Lit.int .i64 _) from trivial), if_pos rfl]
      exact ⟨rfl, rfl⟩
    · have hne : (Lit.int .i64 y) ≠ (Lit.int .i64 x) := fun h => e (by injection h)
      rw [atKey_put_other hne, has_put_other hne, if_neg e]
      exact h2 y hy
theorem MapC.drop (h : MapC w b n sz g) {x : Int} (hx : i64v x) (ty : TypeId) :
    ∃ w', (Builtin.delete_ #[108, 3] ty #[.map (some b), .int .i64 x]).run Try.prog w = .ok (.tuple #[]) w' ∧ MapC w' b n (if (g x).isSome = true then sz - 1 else sz) (gDel g x) ∧ w.grownBy w' (some b) := by
  obtain ⟨D, h1, h0, h2⟩ := h.out
  obtain ⟨w', hrun, h3, h4⟩ := h1.drop law3 Try.underlying108 (keyOf_int_mk Try.underlying3 (wf_i64 hx)) ty
  refine ⟨w', hrun, ⟨⟨_, h3, ?_, fun y hy => ?_⟩⟩, ?_⟩
  · have := size_del (k := (Lit.int .i64 x)) (h1.tidy law3)
    rw [(h2 x hx).2, h0] at this
    split at this <;> rename_i hs <;> simp [hs] <;> omega
  · unfold gDel
    by_cases e : y = x
    · subst e
      rw [atKey_del_same, has_del_same, if_pos rfl]
      exact ⟨rfl, rfl⟩
    · have hne : (Lit.int .i64 y) ≠ (Lit.int .i64 x) := fun h => e (by injection h)
      rw [atKey_del_other hne, has_del_other hne, if_neg e]
      exact h2 y hy
  · obtain ⟨es, clock, es', clock', hb, rfl⟩ := h4
    exact ⟨rfl, rfl, rfl, by simp [setBlock], fun i _ hi => heap_setBlock_other hb _ (fun e => hi (by rw [e]))⟩
theorem MapC.kept (h : MapC w b n sz g) {row : Option Nat} (hg : w.grownBy w' row) (hne : some b ≠ row) : MapC w' b n sz g := by
  obtain ⟨D, h1, h0, h2⟩ := h.out
  exact ⟨⟨D, h1.kept hg hne, h0, h2⟩⟩
theorem MapC.below (h : MapC w b n sz g) {B : Nat} (hb : Below B w w') (hB : b < B) : MapC w' b n sz g := by
  obtain ⟨D, ⟨es, clock, h1, h4⟩, h0, h2⟩ := h.out
  exact ⟨⟨D, ⟨es, clock, (hb.block b hB).trans h1, h4⟩, h0, h2⟩⟩
theorem MapC.alloc (h : MapC w b n sz g) (o : Obj) : MapC (w.alloc o) b n sz g := h.kept (World.grownBy_alloc w o none) (by simp)
theorem MapC.drew (h : MapC w b n sz g) : MapC w.drew b n sz g := by
  obtain ⟨D, h1, h0, h2⟩ := h.out
  exact ⟨⟨D, h1.drew, h0, h2⟩⟩
theorem MapC.lt (h : MapC w b n sz g) : b < w.heap.size := by
  obtain ⟨D, h1, _⟩ := h.out
  exact h1.lt
theorem MapC.setCell (h : MapC w b n sz g) {a : Addr} (ha : b ≠ a.block) (u : Value) : MapC (w.setCell a u) b n sz g := by
  obtain ⟨D, h1, h0, h2⟩ := h.out
  exact ⟨⟨D, h1.setCell ha u, h0, h2⟩⟩
end
end Go.Proofs.Ytjgnikmnadmheaa
