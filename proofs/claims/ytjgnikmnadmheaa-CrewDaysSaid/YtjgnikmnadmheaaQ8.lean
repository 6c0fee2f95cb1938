/- crew.CheckTasks, for all tasks. -/
import Derived.Test.YtjgnikmnadmheaaQ4
namespace Go.Proofs.Ytjgnikmnadmheaa
open Go.RowKit

def badT (i : Nat) (t : Tk) : Bool := !inB t.work 1 10000 || !inB t.need 1 9 || !risingB t.af || t.af.any (outOf i) || t.co.any longS
def badAt (l : List Tk) (i : Nat) : Bool := match l[i]? with
  | some t => badT i t
  | none => false
def chkL (l : List Tk) : Int := if 12 < l.length ∨ l.any manyC = true then 2 else if (List.range l.length).any (badAt l) = true then 1 else 0
theorem badAt_eq (l : List Tk) (i : Nat) (hi : i < l.length) : badAt l i = badT i l[i] := by unfold badAt; rw [List.getElem?_eq_getElem hi]
theorem bad_yes {l : List Tk} {i : Nat} (hi : i < l.length) (h : badT i l[i] = true) : (List.range l.length).any (badAt l) = true :=
  List.any_eq_true.2 ⟨i, by simpa using hi, by rw [badAt_eq l i hi]; exact h⟩
theorem bad_no {l : List Tk} (h : ∀ i (hi : i < l.length), badT i l[i] = false) : (List.range l.length).any (badAt l) = false := by
  rw [List.any_eq_false]
  intro i hi
  have hi' : i < l.length := by simpa using hi
  rw [badAt_eq l i hi', h i hi']; exact Bool.false_ne_true
theorem anyOut (l : List Int) (A : Option Addr) (c i bb : Nat) (W : World) (hl : Lies W W.heap.size A (ints l)) (hm : l.length ≤ 1000) (hi : i ≤ 1000) (hc : W.cell? ⟨bb, 0, none⟩ = some (.int .i64 i)) :
    Calls Try.prog 72 #[.slice A l.length c, .func (.func 73) #[] #[.pointer (some ⟨bb, 0, none⟩)]] W (ShEnd (l.any (outOf i)) W) :=
  anyI73 (outOf i) l A c W bb hl hm (show Hid _ from fun x _ W' hb => outOf_any i x bb W' hi (by
    have hlt : bb < W.heap.size := block_lt_of_cell hc
    rw [hb.cell (p := ⟨bb, 0, none⟩) hlt]; exact hc))
theorem anyLong (l : List ByteArray) (A : Option Addr) (c : Nat) (W : World) (hl : Lies W W.heap.size A (strsC l)) (hm : l.length ≤ 1000) (hs : ∀ s ∈ l, s.size ≤ 1000) :
    Calls Try.prog 74 #[.slice A l.length c, .func (.func 75) #[] #[]] W (ShEnd (l.any longS) W) :=
  anyS75 longS l A c W hl hm (show Hid _ from fun s hs' W' _ => longS_any s W' (hs s hs'))
/-- what is asked of the tasks' sizes -/
def tame (l : List Tk) : Prop := l.length ≤ 1000 ∧ ∀ t ∈ l, t.af.length ≤ 1000 ∧ t.co.length ≤ 100 ∧ ∀ s ∈ t.co, s.size ≤ 1000

set_option maxRecDepth 100000 in
set_option maxHeartbeats 1000000 in
theorem checkTasks_any (l : List Tk) (A : Option Addr) (c : Nat) (w : World) (hT : TasksAt w w.heap.size A l) (ht : tame l) :
    Calls Try.prog 18 #[.slice A l.length c] w (IntEnd (chkL l) w) := by
  have HC : Hid (chkL l = if 12 < l.length ∨ l.any manyC = true then 2 else if (List.range l.length).any (badAt l) = true then 1 else 0) := rfl
  have hm := ht.1
  have HMA := Lib.hid (fun W (hb : Below w.heap.size w W) => anyT71 manyC l A c W (((hT.below hb (Nat.le_refl _)).more hb.size).at_) hm (show Hid _ from fun t ht' W' _ => manyC_any t W' (ht.2 t ht').2.1))
  by_cases h1 : 12 < l.length
  · have H : Hid (chkL l = 2) := by show _ = _; rw [HC.out, if_pos (.inl h1)]
    clear HC hT ht
    go_enter Try.func18, Try.ntmps18
    go_wp2
    go_ret
    exact int_end H.out.symm (by repeat (first | with_reducible exact Below.refl _ _ | with_reducible assumption | with_reducible refine Below.drew ?_ | with_reducible refine below_drewN ?_ _ | (with_reducible refine Below.alloc ?_ ?_ _; rotate_left; (try simp) <;> omega) | (with_reducible refine Below.setCell ?_ ?_ _; rotate_left; (try simp) <;> omega)))
  cases h2 : l.any manyC with
  | true =>
    have H : Hid (chkL l = 2) := by show _ = _; rw [HC.out, if_pos (.inr h2)]
    have H2 := Lib.hid h2
    clear HC hT ht h2
    go_enter Try.func18, Try.ntmps18
    go_wp2_with (go_at_call 70; refine (HMA.out _ (by exact (by repeat (first | with_reducible exact Below.refl _ _ | with_reducible assumption | with_reducible refine Below.drew ?_ | with_reducible refine below_drewN ?_ _ | (with_reducible refine Below.alloc ?_ ?_ _; rotate_left; (try simp) <;> omega) | (with_reducible refine Below.setCell ?_ ?_ _; rotate_left; (try simp) <;> omega))))).mono ?_; rintro e w1 ⟨rfl, hb⟩; rw [H2.out])
    go_ret
    exact int_end H.out.symm hb
  | false =>
  have HC' : Hid (chkL l = if (List.range l.length).any (badAt l) = true then 1 else 0) := by show _ = _; rw [HC.out, if_neg (by rw [h2]; simp; omega)]
  have H2 := Lib.hid h2
  have HY := Lib.hid (fun i (hi : i < l.length) (h : badT i l[i] = true) => show Hid (chkL l = 1) from HC'.out.trans (if_pos (bad_yes hi h)))
  have HN := Lib.hid (fun (h : ∀ i (hi : i < l.length), badT i l[i] = false) => show Hid (chkL l = 0) from HC'.out.trans (if_neg (by rw [bad_no h]; exact Bool.false_ne_true)))
  have HTA := Lib.hid (fun W (hb : Below w.heap.size w W) => (hT.below hb (Nat.le_refl _)).more hb.size)
  have HTM := Lib.hid ht.2
  clear HC hT ht h2 HC'
  go_enter Try.func18, Try.ntmps18
  go_wp2_with (go_at_call 70; refine (HMA.out _ (by exact (by repeat (first | with_reducible exact Below.refl _ _ | with_reducible assumption | with_reducible refine Below.drew ?_ | with_reducible refine below_drewN ?_ _ | (with_reducible refine Below.alloc ?_ ?_ _; rotate_left; (try simp) <;> omega) | (with_reducible refine Below.setCell ?_ ?_ _; rotate_left; (try simp) <;> omega))))).mono ?_; rintro e w1 ⟨rfl, hb⟩; rw [H2.out])
  clear H2 HMA
  go_loopw [14] (fun y wr => ∃ k : Nat, k ≤ l.length ∧ y = .int .i64 k ∧ Hid (∀ j (hj : j < k) (h' : j < l.length), badT j l[j] = false) ∧ Below w.heap.size w wr) (fun y _ => l.length - (intOf y).toNat)
  case atStart => exact ⟨0, by omega, rfl, fun j hj => absurd hj (by omega), hb⟩
  case round =>
  clear hb
  obtain ⟨k, hk, rfl, hg, hbw⟩ := hrel
  have hbs := hbw.size
  by_cases hlt : k < l.length
  · obtain ⟨ad, hA, hadb, c0, c1, c2, c3⟩ := task_at (HTA.out wr hbw).at_ hlt
    subst hA
    have HOU := Lib.hid (fun W (hb : Below w.heap.size w W) bb (hc : W.cell? ⟨bb, 0, none⟩ = some (.int .i64 k)) => anyOut l[k].af l[k].aA l[k].ac k bb W ((HTA.out W hb).af _ (List.getElem_mem hlt)) (HTM.out _ (List.getElem_mem hlt)).1 (by omega) hc)
    have HLO := Lib.hid (fun W (hb : Below w.heap.size w W) => anyLong l[k].co l[k].cA l[k].cc W ((HTA.out W hb).co _ (List.getElem_mem hlt)) (by have := (HTM.out _ (List.getElem_mem hlt)).2.1; omega) (HTM.out _ (List.getElem_mem hlt)).2.2)
    have HRI := Lib.hid (fun W (hb : Below w.heap.size w W) => rising_any l[k].af l[k].aA l[k].ac W ((HTA.out W hb).af _ (List.getElem_mem hlt)) (HTM.out _ (List.getElem_mem hlt)).1)
    have HYk := Lib.hid (HY.out k hlt)
    have HG := Lib.hid (fun (h : badT k l[k] = false) => show Hid (∀ j (hj : j < k + 1) (h' : j < l.length), badT j l[j] = false) from fun j hj h' => by
      by_cases e : j = k
      · subst e; exact h
      · exact hg.out j (by omega) h')
    clear hg
    have HX : Hid (badT k l[k] = (!inB l[k].work 1 10000 || !inB l[k].need 1 9 || !risingB l[k].af || l[k].af.any (outOf k) || l[k].co.any longS)) := rfl
    generalize hq : badT k l[k] = q at *
    have HQ := Lib.hid hq; clear hq
    generalize l[k] = t at *
    obtain ⟨wk, nd, aA, ac, af, cA, cc, co⟩ := t
    try dsimp only at *
    cases h1 : inB wk 1 10000 with
    | false =>
      have H := HYk.out (by rw [HX.out, h1]; rfl)
      have H1 := Lib.hid h1; clear h1
      go_wp2_with (go_at_call 66; refine (in_any _ _ _ _).mono ?_; rintro e w' ⟨rfl, rfl⟩; rw [H1.out])
      go_ret
      exact int_end H.out.symm (by repeat (first | with_reducible exact Below.refl _ _ | with_reducible assumption | with_reducible refine Below.drew ?_ | with_reducible refine below_drewN ?_ _ | (with_reducible refine Below.alloc ?_ ?_ _; rotate_left; (try simp) <;> omega) | (with_reducible refine Below.setCell ?_ ?_ _; rotate_left; (try simp) <;> omega)))
    | true =>
    have H1 := Lib.hid h1
    cases h2 : inB nd 1 9 with
    | false =>
      have H := HYk.out (by rw [HX.out, h1, h2]; rfl)
      have H2 := Lib.hid h2; clear h2 h1
      go_wp2_with (go_at_call 66; refine (in_any _ _ _ _).mono ?_; rintro e w' ⟨rfl, rfl⟩; first | rw [H1.out] | rw [H2.out])
      go_ret
      exact int_end H.out.symm (by repeat (first | with_reducible exact Below.refl _ _ | with_reducible assumption | with_reducible refine Below.drew ?_ | with_reducible refine below_drewN ?_ _ | (with_reducible refine Below.alloc ?_ ?_ _; rotate_left; (try simp) <;> omega) | (with_reducible refine Below.setCell ?_ ?_ _; rotate_left; (try simp) <;> omega)))
    | true =>
    have H2 := Lib.hid h2
    cases h3 : risingB af with
    | false =>
      have H := HYk.out (by rw [HX.out, h1, h2, h3]; rfl)
      have H3 := Lib.hid h3; clear h3 h2 h1
      go_wp2_with (first | (go_at_call 66; refine (in_any _ _ _ _).mono ?_; rintro e w' ⟨rfl, rfl⟩; first | rw [H1.out] | rw [H2.out]) | (go_at_call 67; refine (HRI.out _ (by exact (by repeat (first | with_reducible exact Below.refl _ _ | with_reducible assumption | with_reducible refine Below.drew ?_ | with_reducible refine below_drewN ?_ _ | (with_reducible refine Below.alloc ?_ ?_ _; rotate_left; (try simp) <;> omega) | (with_reducible refine Below.setCell ?_ ?_ _; rotate_left; (try simp) <;> omega))))).mono ?_; rintro e w2 ⟨rfl, hb⟩; rw [H3.out]))
      go_ret
      exact int_end H.out.symm (((((hbw.alloc hbs _).alloc (by simp; omega) _)).trans (hb.mono (by simp; omega))))
    | true =>
    have H3 := Lib.hid h3
    cases h4 : af.any (outOf k) with
    | true =>
      have H := HYk.out (by rw [HX.out, h1, h2, h3, h4]; rfl)
      have H4 := Lib.hid h4; clear h4 h3 h2 h1
      go_wp2_with (first | (go_at_call 66; refine (in_any _ _ _ _).mono ?_; rintro e w' ⟨rfl, rfl⟩; first | rw [H1.out] | rw [H2.out]) | (go_at_call 67; refine (HRI.out _ (by exact (by repeat (first | with_reducible exact Below.refl _ _ | with_reducible assumption | with_reducible refine Below.drew ?_ | with_reducible refine below_drewN ?_ _ | (with_reducible refine Below.alloc ?_ ?_ _; rotate_left; (try simp) <;> omega) | (with_reducible refine Below.setCell ?_ ?_ _; rotate_left; (try simp) <;> omega))))).mono ?_; rintro e w2 ⟨rfl, hb⟩; rw [H3.out]; have hB2 : Below w.heap.size w w2 := Below.trans (by exact (by repeat (first | with_reducible exact Below.refl _ _ | with_reducible assumption | with_reducible refine Below.drew ?_ | with_reducible refine below_drewN ?_ _ | (with_reducible refine Below.alloc ?_ ?_ _; rotate_left; (try simp) <;> omega) | (with_reducible refine Below.setCell ?_ ?_ _; rotate_left; (try simp) <;> omega)))) (hb.mono (by simp; omega)); have hkb : Bk w2 wr.heap.size 3 #[.int .i64 k] := Bk.below (by exact (by repeat (first | with_reducible assumption | with_reducible exact Bk.new _ _ _ | with_reducible refine Bk.drew ?_ | with_reducible refine Bk.drewN ?_ _ | with_reducible refine Bk.alloc ?_ _ | (with_reducible refine Bk.far ?_ ?_ _; rotate_left; (try simp) <;> omega)))) hb (by simp; omega); have hkt : Bk w2 (wr.heap.size + 1) 48 #[.int .i64 wk, .int .i64 nd, .slice aA af.length ac, .slice cA co.length cc] := Bk.below (by simpa using Bk.new (wr.alloc (.cells #[.int .i64 k] 3)) 48 #[.int .i64 wk, .int .i64 nd, .slice aA af.length ac, .slice cA co.length cc]) hb (by simp); have z2 := hkt.cell 2 rfl; have z3 := hkt.cell 3 rfl; have zl := hkt.lt; clear hb) | (go_at_call 72; refine (HOU.out _ hB2 _ (hkb.cell 0 rfl)).mono ?_; rintro e w3 ⟨rfl, hb2⟩; rw [H4.out]; have hB3 : Below w.heap.size w w3 := Below.trans hB2 (hb2.mono hB2.size); have hkt2 := hkt.below hb2 hkt.lt; have y3 := hkt2.cell 3 rfl; have yl := hkt2.lt))
      go_ret
      exact int_end H.out.symm (hB2.trans (hb2.mono hB2.size))
    | false =>
    have H4 := Lib.hid h4
    cases h5 : co.any longS with
    | true =>
      have H := HYk.out (by rw [HX.out, h1, h2, h3, h4, h5]; rfl)
      have H5 := Lib.hid h5; clear h5 h4 h3 h2 h1
      go_wp2_with (first | (go_at_call 66; refine (in_any _ _ _ _).mono ?_; rintro e w' ⟨rfl, rfl⟩; first | rw [H1.out] | rw [H2.out]) | (go_at_call 67; refine (HRI.out _ (by exact (by repeat (first | with_reducible exact Below.refl _ _ | with_reducible assumption | with_reducible refine Below.drew ?_ | with_reducible refine below_drewN ?_ _ | (with_reducible refine Below.alloc ?_ ?_ _; rotate_left; (try simp) <;> omega) | (with_reducible refine Below.setCell ?_ ?_ _; rotate_left; (try simp) <;> omega))))).mono ?_; rintro e w2 ⟨rfl, hb⟩; rw [H3.out]; have hB2 : Below w.heap.size w w2 := Below.trans (by exact (by repeat (first | with_reducible exact Below.refl _ _ | with_reducible assumption | with_reducible refine Below.drew ?_ | with_reducible refine below_drewN ?_ _ | (with_reducible refine Below.alloc ?_ ?_ _; rotate_left; (try simp) <;> omega) | (with_reducible refine Below.setCell ?_ ?_ _; rotate_left; (try simp) <;> omega)))) (hb.mono (by simp; omega)); have hkb : Bk w2 wr.heap.size 3 #[.int .i64 k] := Bk.below (by exact (by repeat (first | with_reducible assumption | with_reducible exact Bk.new _ _ _ | with_reducible refine Bk.drew ?_ | with_reducible refine Bk.drewN ?_ _ | with_reducible refine Bk.alloc ?_ _ | (with_reducible refine Bk.far ?_ ?_ _; rotate_left; (try simp) <;> omega)))) hb (by simp; omega); have hkt : Bk w2 (wr.heap.size + 1) 48 #[.int .i64 wk, .int .i64 nd, .slice aA af.length ac, .slice cA co.length cc] := Bk.below (by simpa using Bk.new (wr.alloc (.cells #[.int .i64 k] 3)) 48 #[.int .i64 wk, .int .i64 nd, .slice aA af.length ac, .slice cA co.length cc]) hb (by simp); have z2 := hkt.cell 2 rfl; have z3 := hkt.cell 3 rfl; have zl := hkt.lt; clear hb) | (go_at_call 72; refine (HOU.out _ hB2 _ (hkb.cell 0 rfl)).mono ?_; rintro e w3 ⟨rfl, hb2⟩; rw [H4.out]; have hB3 : Below w.heap.size w w3 := Below.trans hB2 (hb2.mono hB2.size); have hkt2 := hkt.below hb2 hkt.lt; have y3 := hkt2.cell 3 rfl; have yl := hkt2.lt) | (go_at_call 74; refine (HLO.out _ hB3).mono ?_; rintro e w4 ⟨rfl, hb3⟩; rw [H5.out]))
      go_ret
      exact int_end H.out.symm (hB3.trans (hb3.mono hB3.size))
    | false =>
      have H := HG.out (by rw [HX.out, h1, h2, h3, h4, h5]; rfl)
      have H5 := Lib.hid h5; clear h5 h4 h3 h2 h1
      go_wp2_with (first | (go_at_call 66; refine (in_any _ _ _ _).mono ?_; rintro e w' ⟨rfl, rfl⟩; first | rw [H1.out] | rw [H2.out]) | (go_at_call 67; refine (HRI.out _ (by exact (by repeat (first | with_reducible exact Below.refl _ _ | with_reducible assumption | with_reducible refine Below.drew ?_ | with_reducible refine below_drewN ?_ _ | (with_reducible refine Below.alloc ?_ ?_ _; rotate_left; (try simp) <;> omega) | (with_reducible refine Below.setCell ?_ ?_ _; rotate_left; (try simp) <;> omega))))).mono ?_; rintro e w2 ⟨rfl, hb⟩; rw [H3.out]; have hB2 : Below w.heap.size w w2 := Below.trans (by exact (by repeat (first | with_reducible exact Below.refl _ _ | with_reducible assumption | with_reducible refine Below.drew ?_ | with_reducible refine below_drewN ?_ _ | (with_reducible refine Below.alloc ?_ ?_ _; rotate_left; (try simp) <;> omega) | (with_reducible refine Below.setCell ?_ ?_ _; rotate_left; (try simp) <;> omega)))) (hb.mono (by simp; omega)); have hkb : Bk w2 wr.heap.size 3 #[.int .i64 k] := Bk.below (by exact (by repeat (first | with_reducible assumption | with_reducible exact Bk.new _ _ _ | with_reducible refine Bk.drew ?_ | with_reducible refine Bk.drewN ?_ _ | with_reducible refine Bk.alloc ?_ _ | (with_reducible refine Bk.far ?_ ?_ _; rotate_left; (try simp) <;> omega)))) hb (by simp; omega); have hkt : Bk w2 (wr.heap.size + 1) 48 #[.int .i64 wk, .int .i64 nd, .slice aA af.length ac, .slice cA co.length cc] := Bk.below (by simpa using Bk.new (wr.alloc (.cells #[.int .i64 k] 3)) 48 #[.int .i64 wk, .int .i64 nd, .slice aA af.length ac, .slice cA co.length cc]) hb (by simp); have z2 := hkt.cell 2 rfl; have z3 := hkt.cell 3 rfl; have zl := hkt.lt; clear hb) | (go_at_call 72; refine (HOU.out _ hB2 _ (hkb.cell 0 rfl)).mono ?_; rintro e w3 ⟨rfl, hb2⟩; rw [H4.out]; have hB3 : Below w.heap.size w w3 := Below.trans hB2 (hb2.mono hB2.size); have hkt2 := hkt.below hb2 hkt.lt; have y3 := hkt2.cell 3 rfl; have yl := hkt2.lt) | (go_at_call 74; refine (HLO.out _ hB3).mono ?_; rintro e w4 ⟨rfl, hb3⟩; rw [H5.out]))
      go_roundw
      case rel => (first | exact ⟨k + 1, by omega, by go_num, H, hB3.trans (hb3.mono hB3.size)⟩ | ((repeat apply Exists.intro); exact ⟨⟨k + 1, by omega, by go_num, H, hB3.trans (hb3.mono hB3.size)⟩, rfl⟩))
      case measure => simp [intOf]; omega
  · obtain rfl : k = l.length := by omega
    have H := HN.out (fun i hi => hg.out i hi hi)
    clear hg
    go_wp2
    go_ret
    exact int_end H.out.symm hbw
end Go.Proofs.Ytjgnikmnadmheaa
