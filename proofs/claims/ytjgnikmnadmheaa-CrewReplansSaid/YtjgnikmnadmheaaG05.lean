/- giornataref07.CheckYard, for all yards. Printed by wip/gen_q7.py. -/
import Derived.Test.YtjgnikmnadmheaaG02
import Derived.Test.YtjgnikmnadmheaaG03

namespace Go.Proofs.Ytjgnikmnadmheaa
open Go.RowKit

/-- what the reference asks of closed day j -/
def clB (l : List Int) (j : Nat) : Bool := dayB (l.getD j 0) && (decide (j = 0) || decide (l.getD (j - 1) 0 < l.getD j 0))
theorem clB_all (l : List Int) : (List.range l.length).all (clB l) = (l.all dayB && risingB l) := by
  rw [Bool.eq_iff_iff, Bool.and_eq_true, List.all_eq_true, List.all_eq_true, risingB_iff]
  constructor
  · intro h
    refine ⟨fun x hx => ?_, fun k hk => ?_⟩
    · obtain ⟨j, hj, rfl⟩ := List.getElem_of_mem hx
      have := h j (by simpa using hj)
      unfold clB at this
      rw [Bool.and_eq_true] at this
      have h1 := this.1
      rwa [List.getD_eq_getElem?_getD, List.getElem?_eq_getElem hj] at h1
    · have := h (k + 1) (by simpa using hk)
      unfold clB at this
      simp only [Bool.and_eq_true, Bool.or_eq_true, decide_eq_true_eq] at this
      have h2 := this.2
      rcases h2 with h2 | h2
      · omega
      · simpa [List.getD_eq_getElem?_getD, hk, (show k < l.length by omega)] using h2
  · rintro ⟨h1, h2⟩ j hj
    have hj' : j < l.length := by simpa using hj
    unfold clB
    simp only [Bool.and_eq_true, Bool.or_eq_true, decide_eq_true_eq]
    refine ⟨by rw [List.getD_eq_getElem?_getD, List.getElem?_eq_getElem hj']; exact h1 _ (List.getElem_mem hj'), ?_⟩
    cases j with
    | zero => exact .inl rfl
    | succ k =>
      refine .inr ?_
      have := h2 k hj'
      simpa [List.getD_eq_getElem?_getD, hj', (show k < l.length by omega)] using this
theorem within_is (x a b : Int) (r : Bool) (w : World) (h : inB x a b = r) : Calls Try.prog 69 #[.int .i64 x, .int .i64 a, .int .i64 b] w fun e w' => e = .returned (.bool r) ∧ w' = w :=
  (within_any x a b w).mono fun e w' h' => ⟨by rw [h'.1, h], h'.2.symm⟩
theorem any_take {α : Type} (p : α → Bool) (l : List α) (h : ∀ j (h' : j < l.length), p l[j] = false) : l.any p = false := by
  rw [List.any_eq_false]
  intro x hx
  obtain ⟨j, hj, rfl⟩ := List.getElem_of_mem hx
  rw [h j hj]; exact Bool.false_ne_true
theorem any_at {α : Type} (p : α → Bool) (l : List α) (j : Nat) (hj : j < l.length) (h : p l[j] = true) : l.any p = true := List.any_eq_true.2 ⟨_, List.getElem_mem hj, h⟩

set_option maxRecDepth 100000 in
set_option maxHeartbeats 1000000 in
theorem rCheckYard_any (C : Array Value) (Y : Yd) (w : World) (hY : YardAt w w.heap.size C Y) (hm1 : Y.cl.length ≤ 1000) (hm2 : Y.pi.length ≤ 1000) (hm3 : Y.ma.length ≤ 1000) (hs : ∀ m ∈ Y.ma, m.name.size ≤ 100) :
    Calls Try.prog 17 #[.agg C] w (IntEnd (chkY Y) w) := by
  obtain ⟨A1, k1, e1, L1⟩ := hY.cl
  obtain ⟨A2, k2, e2, L2⟩ := hY.pi
  obtain ⟨A3, k3, e3, L3⟩ := hY.ma
  have e4 := hY.dry
  have HSE := Lib.hid hY.se
  have HNM := Lib.hid hs
  have HC : Hid (chkY Y = if 200 < Y.cl.length ∨ 8 < Y.pi.length ∨ 12 < Y.ma.length then 2 else if Y.ma.any badName = true then 4 else if fineY Y = true then 0 else 1) := rfl
  have HF : Hid (fineY Y = (inB Y.dry 0 30 && risingB Y.cl && (List.range 12).all (seasB Y.se) && Y.cl.all dayB && Y.pi.all pitB && Y.ma.all masB)) := rfl
  clear hY hs
  by_cases h1 : 200 < Y.cl.length
  · have H : Hid (chkY Y = 2) := by rw [HC.out, if_pos (.inl h1)]; rfl
    clear HC HF
    go_enter Try.func17, Try.ntmps17
    go_wp2
    go_ret
    exact int_end H.out.symm bw
  by_cases h2 : 8 < Y.pi.length
  · have H : Hid (chkY Y = 2) := by rw [HC.out, if_pos (.inr (.inl h2))]; rfl
    clear HC HF
    go_enter Try.func17, Try.ntmps17
    go_wp2
    go_ret
    exact int_end H.out.symm bw
  by_cases h3 : 12 < Y.ma.length
  · have H : Hid (chkY Y = 2) := by rw [HC.out, if_pos (.inr (.inr h3))]; rfl
    clear HC HF
    go_enter Try.func17, Try.ntmps17
    go_wp2
    go_ret
    exact int_end H.out.symm bw
  have HC4 : Y.ma.any badName = true → Hid (chkY Y = 4) := fun h4 => by show _ = _; rw [HC.out, if_neg (by omega), if_pos h4]
  have HC0 : Y.ma.any badName = false → Hid (chkY Y = if fineY Y = true then 0 else 1) := fun h4 => by show _ = _; rw [HC.out, if_neg (by omega), if_neg (by rw [h4]; exact Bool.false_ne_true)]
  have HC4' := Lib.hid HC4
  have HC0' := Lib.hid HC0
  clear HC HC4 HC0
  go_enter Try.func17, Try.ntmps17
  go_wp2
  go_loopw [3] (fun y wr => ∃ k : Nat, k ≤ Y.ma.length ∧ y = .int .i64 k ∧ Hid (∀ j (hj : j < k) (h' : j < Y.ma.length), badName Y.ma[j] = false) ∧ Below w.heap.size w wr ∧ Bk wr w.heap.size 29 C) (fun y _ => Y.ma.length - (intOf y).toNat)
  case atStart => exact ⟨0, by omega, rfl, fun j hj => absurd hj (by omega), by exact bw, Bk.new _ _ _⟩
  case round =>
  obtain ⟨k, hk, rfl, hg, hbw, hbk⟩ := hrel
  have hbs := hbw.size
  have hlk := hbk.lt
  have x3 := hbk.cell 26 e3
  by_cases hlt : k < Y.ma.length
  · obtain ⟨ad, rfl, hadb, c0, c1, c2, c3⟩ := mas_at (L3.below hbw (Nat.le_refl _)) hlt
    have hsz := HNM.out _ (List.getElem_mem hlt)
    have HB : Hid (badName Y.ma[k] = !nameB Y.ma[k].name) := rfl
    have HY4 : badName Y.ma[k] = true → Hid (chkY Y = 4) := fun h => HC4'.out (any_at _ _ k hlt h)
    have HG : badName Y.ma[k] = false → Hid (∀ j (hj : j < k + 1) (h' : j < Y.ma.length), badName Y.ma[j] = false) := fun h j hj h' => by
      by_cases e : j = k
      · subst e; exact h
      · exact hg.out j (by omega) h'
    have HY4' := Lib.hid HY4
    have HG' := Lib.hid HG
    clear L1 L2 L3 HY4 HG hg
    cases h0 : nameB Y.ma[k].name with
    | false =>
      have H := HY4'.out (by rw [HB.out, h0]; rfl)
      have H0 := Lib.hid h0; clear h0
      go_wp2_with (go_at_call 68; refine (rName_any _ _ hsz).mono ?_; rintro e w' ⟨rfl, rfl⟩; rw [H0.out])
      go_ret
      exact int_end H.out.symm hbw
    | true =>
      have H := HG'.out (by rw [HB.out, h0]; rfl)
      have H0 := Lib.hid h0; clear h0
      go_wp2_with (go_at_call 68; refine (rName_any _ _ hsz).mono ?_; rintro e w' ⟨rfl, rfl⟩; rw [H0.out])
      go_roundw
      case rel => (first | exact ⟨k + 1, by omega, by go_num, H, hbw, hbk⟩ | ((repeat apply Exists.intro); exact ⟨⟨k + 1, by omega, by go_num, H, hbw, hbk⟩, rfl⟩))
      case measure => simp [intOf]; omega
  have HC' := HC0'.out (any_take _ _ fun j hj => hg.out j (by omega) hj)
  obtain rfl : k = Y.ma.length := by omega
  clear hg HC0' HC4' HNM
  have x4 := hbk.cell 27 e4
  obtain ⟨f0, hf0⟩ : ∃ f0, f0 = inB Y.dry 0 30 := ⟨_, rfl⟩
  have HF0 := Lib.hid hf0
  go_wp2_with (go_at_call 69; refine (within_any _ _ _ _).mono ?_; rintro e w' ⟨rfl, rfl⟩; rw [← hf0])
  clear hf0
  go_loopw [4, 5] (fun b y wr => ∃ k : Nat, k ≤ 12 ∧ y = .int .i64 k ∧ b = .bool (f0 && (List.range k).all (seasB Y.se)) ∧ Below w.heap.size w wr ∧ Bk wr w.heap.size 29 C) (fun _ y _ => 12 - (intOf y).toNat)
  case atStart => exact ⟨0, by omega, rfl, congrArg Value.bool (by simp [HF0.out]), hbw, hbk⟩
  case round =>
  clear hbw hbk hlk hbs x3 x4 hk hlt
  obtain ⟨k, hk, rfl, rfl, hbw, hbk⟩ := hrel
  have hbs := hbw.size
  have hlk := hbk.lt
  by_cases hlt : k < 12
  · have x5 := hbk.cell (k * 2) (HSE.out (k * 2) (by omega))
    have x6 := hbk.cell (k * 2 + 1) (HSE.out (k * 2 + 1) (by omega))
    have x5' : wr.cell? ((⟨w.heap.size, 0, none⟩ : Addr).add (k * 2)) = some (.int .i64 (Y.se (k * 2))) := by unfold Addr.add; split <;> simp_all
    have x6' : wr.cell? ⟨((⟨w.heap.size, 0, none⟩ : Addr).add (k * 2)).block, ((⟨w.heap.size, 0, none⟩ : Addr).add (k * 2)).off + 1, none⟩ = some (.int .i64 (Y.se (k * 2 + 1))) := by unfold Addr.add; split <;> simp_all
    have hki : (k : Int) < 12 := by omega
    have HT : Hid (seasB Y.se k = (inB (Y.se (k * 2)) 0 1440 && inB (Y.se (k * 2 + 1)) 0 1440)) := by show seasB Y.se k = _; unfold seasB; rw [show 2 * k = k * 2 by omega]
    have HN0 : Hid ((f0 && (List.range (k + 1)).all (seasB Y.se)) = ((f0 && (List.range k).all (seasB Y.se)) && seasB Y.se k)) := by show _ = _; rw [all_range, Bool.and_assoc]
    generalize (f0 && (List.range k).all (seasB Y.se)) = bb at *
    generalize Y.se (k * 2) = s1 at *
    generalize Y.se (k * 2 + 1) = s2 at *
    clear L1 L2 L3
    cases bb with
    | false =>
      have H : Hid ((false && seasB Y.se k) = false) := rfl
      have HN := Lib.hid (HN0.out.trans H.out); clear HN0 H
      go_wp2
      go_roundw
      case rel => (first | exact ⟨k + 1, by omega, by go_num, (by first | exact congrArg Value.bool HN.out.symm | simpa using HN.out | simpa using HN.out.symm), by exact bw, by exact bkw⟩ | ((repeat apply Exists.intro); exact ⟨⟨k + 1, by omega, by go_num, (by first | exact congrArg Value.bool HN.out.symm | simpa using HN.out | simpa using HN.out.symm), by exact bw, by exact bkw⟩, rfl⟩) | ((repeat apply Exists.intro); exact ⟨⟨k + 1, by omega, by go_num, (by first | exact congrArg Value.bool HN.out.symm | simpa using HN.out | simpa using HN.out.symm), by exact bw, by exact bkw⟩, rfl, rfl⟩) | ((repeat apply Exists.intro); exact ⟨⟨k + 1, by omega, by go_num, (by first | exact congrArg Value.bool HN.out.symm | simpa using HN.out | simpa using HN.out.symm), by exact bw, by exact bkw⟩, rfl, rfl, rfl⟩) | ((repeat apply Exists.intro); exact ⟨⟨k + 1, by omega, by go_num, (by first | exact congrArg Value.bool HN.out.symm | simpa using HN.out | simpa using HN.out.symm), by exact bw, by exact bkw⟩, rfl, rfl, rfl, rfl⟩) | ((repeat apply Exists.intro); exact ⟨⟨k + 1, by omega, by go_num, (by first | exact congrArg Value.bool HN.out.symm | simpa using HN.out | simpa using HN.out.symm), by exact bw, by exact bkw⟩, rfl, rfl, rfl, rfl, rfl⟩))
      case measure => simp [intOf]; omega
    | true =>
      cases h1 : inB s1 0 1440 with
      | false =>
        have HV : Hid (seasB Y.se k = false) := by show _ = _; rw [HT.out]; simp [h1]
        have HN : Hid ((f0 && (List.range (k + 1)).all (seasB Y.se)) = false) := by show _ = _; exact HN0.out.trans (by rw [HV.out]; rfl)
        have H1 := Lib.hid h1; clear h1
        clear HV HN0 HT
        go_wp2_with (go_at_call 69; refine (within_any _ _ _ _).mono ?_; rintro e w' ⟨rfl, rfl⟩; first | rw [H1.out])
        go_roundw
        case rel => (first | exact ⟨k + 1, by omega, by go_num, (by first | exact congrArg Value.bool HN.out.symm | simpa using HN.out | simpa using HN.out.symm), by exact bw, by exact bkw⟩ | ((repeat apply Exists.intro); exact ⟨⟨k + 1, by omega, by go_num, (by first | exact congrArg Value.bool HN.out.symm | simpa using HN.out | simpa using HN.out.symm), by exact bw, by exact bkw⟩, rfl⟩) | ((repeat apply Exists.intro); exact ⟨⟨k + 1, by omega, by go_num, (by first | exact congrArg Value.bool HN.out.symm | simpa using HN.out | simpa using HN.out.symm), by exact bw, by exact bkw⟩, rfl, rfl⟩) | ((repeat apply Exists.intro); exact ⟨⟨k + 1, by omega, by go_num, (by first | exact congrArg Value.bool HN.out.symm | simpa using HN.out | simpa using HN.out.symm), by exact bw, by exact bkw⟩, rfl, rfl, rfl⟩) | ((repeat apply Exists.intro); exact ⟨⟨k + 1, by omega, by go_num, (by first | exact congrArg Value.bool HN.out.symm | simpa using HN.out | simpa using HN.out.symm), by exact bw, by exact bkw⟩, rfl, rfl, rfl, rfl⟩) | ((repeat apply Exists.intro); exact ⟨⟨k + 1, by omega, by go_num, (by first | exact congrArg Value.bool HN.out.symm | simpa using HN.out | simpa using HN.out.symm), by exact bw, by exact bkw⟩, rfl, rfl, rfl, rfl, rfl⟩))
        case measure => simp [intOf]; omega
      | true =>
        cases h2 : inB s2 0 1440 with
        | false =>
          have HV : Hid (seasB Y.se k = false) := by show _ = _; rw [HT.out]; simp [h1, h2]
          have HN : Hid ((f0 && (List.range (k + 1)).all (seasB Y.se)) = false) := by show _ = _; exact HN0.out.trans (by rw [HV.out]; rfl)
          have H1 := Lib.hid h1; clear h1
          have H2 := Lib.hid h2; clear h2
          clear HV HN0 HT
          go_wp2_with (go_at_call 69; refine (within_any _ _ _ _).mono ?_; rintro e w' ⟨rfl, rfl⟩; first | rw [H1.out] | rw [H2.out])
          go_roundw
          case rel => (first | exact ⟨k + 1, by omega, by go_num, (by first | exact congrArg Value.bool HN.out.symm | simpa using HN.out | simpa using HN.out.symm), by exact bw, by exact bkw⟩ | ((repeat apply Exists.intro); exact ⟨⟨k + 1, by omega, by go_num, (by first | exact congrArg Value.bool HN.out.symm | simpa using HN.out | simpa using HN.out.symm), by exact bw, by exact bkw⟩, rfl⟩) | ((repeat apply Exists.intro); exact ⟨⟨k + 1, by omega, by go_num, (by first | exact congrArg Value.bool HN.out.symm | simpa using HN.out | simpa using HN.out.symm), by exact bw, by exact bkw⟩, rfl, rfl⟩) | ((repeat apply Exists.intro); exact ⟨⟨k + 1, by omega, by go_num, (by first | exact congrArg Value.bool HN.out.symm | simpa using HN.out | simpa using HN.out.symm), by exact bw, by exact bkw⟩, rfl, rfl, rfl⟩) | ((repeat apply Exists.intro); exact ⟨⟨k + 1, by omega, by go_num, (by first | exact congrArg Value.bool HN.out.symm | simpa using HN.out | simpa using HN.out.symm), by exact bw, by exact bkw⟩, rfl, rfl, rfl, rfl⟩) | ((repeat apply Exists.intro); exact ⟨⟨k + 1, by omega, by go_num, (by first | exact congrArg Value.bool HN.out.symm | simpa using HN.out | simpa using HN.out.symm), by exact bw, by exact bkw⟩, rfl, rfl, rfl, rfl, rfl⟩))
          case measure => simp [intOf]; omega
        | true =>
          have HV : Hid (seasB Y.se k = true) := by show _ = _; rw [HT.out]; simp [h1, h2]
          have HN : Hid ((f0 && (List.range (k + 1)).all (seasB Y.se)) = true) := by show _ = _; exact HN0.out.trans (by rw [HV.out]; rfl)
          have H1 := Lib.hid h1; clear h1
          have H2 := Lib.hid h2; clear h2
          clear HV HN0 HT
          go_wp2_with (go_at_call 69; refine (within_any _ _ _ _).mono ?_; rintro e w' ⟨rfl, rfl⟩; first | rw [H1.out] | rw [H2.out])
          go_roundw
          case rel => (first | exact ⟨k + 1, by omega, by go_num, (by first | exact congrArg Value.bool HN.out.symm | simpa using HN.out | simpa using HN.out.symm), by exact bw, by exact bkw⟩ | ((repeat apply Exists.intro); exact ⟨⟨k + 1, by omega, by go_num, (by first | exact congrArg Value.bool HN.out.symm | simpa using HN.out | simpa using HN.out.symm), by exact bw, by exact bkw⟩, rfl⟩) | ((repeat apply Exists.intro); exact ⟨⟨k + 1, by omega, by go_num, (by first | exact congrArg Value.bool HN.out.symm | simpa using HN.out | simpa using HN.out.symm), by exact bw, by exact bkw⟩, rfl, rfl⟩) | ((repeat apply Exists.intro); exact ⟨⟨k + 1, by omega, by go_num, (by first | exact congrArg Value.bool HN.out.symm | simpa using HN.out | simpa using HN.out.symm), by exact bw, by exact bkw⟩, rfl, rfl, rfl⟩) | ((repeat apply Exists.intro); exact ⟨⟨k + 1, by omega, by go_num, (by first | exact congrArg Value.bool HN.out.symm | simpa using HN.out | simpa using HN.out.symm), by exact bw, by exact bkw⟩, rfl, rfl, rfl, rfl⟩) | ((repeat apply Exists.intro); exact ⟨⟨k + 1, by omega, by go_num, (by first | exact congrArg Value.bool HN.out.symm | simpa using HN.out | simpa using HN.out.symm), by exact bw, by exact bkw⟩, rfl, rfl, rfl, rfl, rfl⟩))
          case measure => simp [intOf]; omega
  obtain rfl : k = 12 := by omega
  generalize hf1 : (f0 && (List.range 12).all (seasB Y.se)) = f1 at *
  have HF1 := Lib.hid hf1; clear hf1
  have x1 := hbk.cell 24 e1
  go_wp2
  go_loopw [4, 6] (fun b y wr => ∃ k : Nat, k ≤ Y.cl.length ∧ y = .int .i64 k ∧ b = .bool (f1 && (List.range k).all (clB Y.cl)) ∧ Below w.heap.size w wr ∧ Bk wr w.heap.size 29 C) (fun _ y _ => Y.cl.length - (intOf y).toNat)
  case atStart => exact ⟨0, by omega, rfl, by simp, hbw, hbk⟩
  case round =>
  clear hbw hbk hlk hbs x1 hk hlt
  obtain ⟨k, hk, rfl, rfl, hbw, hbk⟩ := hrel
  have hbs := hbw.size
  have hlk := hbk.lt
  have x1 := hbk.cell 24 e1
  by_cases hlt : k < Y.cl.length
  · obtain ⟨ad, rfl, hadb, c0, c1⟩ := int_at2 (L1.below hbw (Nat.le_refl _)) (k := k - 1) (j := k) (by omega) hlt
    have hki : (k : Int) < (Y.cl.length : Int) := by omega
    have HN0 : Hid ((f1 && (List.range (k + 1)).all (clB Y.cl)) = ((f1 && (List.range k).all (clB Y.cl)) && clB Y.cl k)) := by show _ = _; rw [all_range, Bool.and_assoc]
    have g0 : Y.cl.getD (k - 1) 0 = Y.cl[k - 1]'(by omega) := by rw [List.getD_eq_getElem?_getD, List.getElem?_eq_getElem (by omega)]; rfl
    have g1 : Y.cl.getD k 0 = Y.cl[k] := by rw [List.getD_eq_getElem?_getD, List.getElem?_eq_getElem hlt]; rfl
    have HT : Hid (clB Y.cl k = (inB Y.cl[k] 0 100000 && (decide (k = 0) || decide (Y.cl[k - 1]'(by omega) < Y.cl[k])))) := by show clB Y.cl k = _; unfold clB dayB; rw [g0, g1]
    clear L1 L2 L3 g0 g1
    generalize (f1 && (List.range k).all (clB Y.cl)) = bb at *
    generalize Y.cl[k] = z at *
    generalize Y.cl[k - 1]'_ = y at *
    generalize hq : clB Y.cl k = qq at *
    have HQ := Lib.hid hq; clear hq
    cases bb with
    | false =>
      have HN := Lib.hid HN0.out; clear HN0 HT
      go_wp2
      go_quiet (fail)
      go_wp2
      go_roundw
      case rel => (first | exact ⟨k + 1, by omega, by go_num, (by first | exact congrArg Value.bool HN.out.symm | simpa using HN.out | simpa using HN.out.symm), by exact bw, by exact bkw⟩ | ((repeat apply Exists.intro); exact ⟨⟨k + 1, by omega, by go_num, (by first | exact congrArg Value.bool HN.out.symm | simpa using HN.out | simpa using HN.out.symm), by exact bw, by exact bkw⟩, rfl⟩) | ((repeat apply Exists.intro); exact ⟨⟨k + 1, by omega, by go_num, (by first | exact congrArg Value.bool HN.out.symm | simpa using HN.out | simpa using HN.out.symm), by exact bw, by exact bkw⟩, rfl, rfl⟩) | ((repeat apply Exists.intro); exact ⟨⟨k + 1, by omega, by go_num, (by first | exact congrArg Value.bool HN.out.symm | simpa using HN.out | simpa using HN.out.symm), by exact bw, by exact bkw⟩, rfl, rfl, rfl⟩) | ((repeat apply Exists.intro); exact ⟨⟨k + 1, by omega, by go_num, (by first | exact congrArg Value.bool HN.out.symm | simpa using HN.out | simpa using HN.out.symm), by exact bw, by exact bkw⟩, rfl, rfl, rfl, rfl⟩) | ((repeat apply Exists.intro); exact ⟨⟨k + 1, by omega, by go_num, (by first | exact congrArg Value.bool HN.out.symm | simpa using HN.out | simpa using HN.out.symm), by exact bw, by exact bkw⟩, rfl, rfl, rfl, rfl, rfl⟩))
      case measure => simp [intOf]; omega
    | true =>
      cases h1 : inB z 0 100000 with
      | false =>
        have HN : Hid ((f1 && (List.range (k + 1)).all (clB Y.cl)) = false) := by show _ = _; rw [HN0.out, HT.out, h1]; rfl
        have H1 := Lib.hid h1; clear h1 HN0 HT
        go_wp2
        go_quiet ((go_at_call 69; with_reducible exact Calls.quiet_of_same (within_is _ _ _ _ _ H1.out)))
        go_wp2
        go_roundw
        case rel => (first | exact ⟨k + 1, by omega, by go_num, (by first | exact congrArg Value.bool HN.out.symm | simpa using HN.out | simpa using HN.out.symm), by exact bw, by exact bkw⟩ | ((repeat apply Exists.intro); exact ⟨⟨k + 1, by omega, by go_num, (by first | exact congrArg Value.bool HN.out.symm | simpa using HN.out | simpa using HN.out.symm), by exact bw, by exact bkw⟩, rfl⟩) | ((repeat apply Exists.intro); exact ⟨⟨k + 1, by omega, by go_num, (by first | exact congrArg Value.bool HN.out.symm | simpa using HN.out | simpa using HN.out.symm), by exact bw, by exact bkw⟩, rfl, rfl⟩) | ((repeat apply Exists.intro); exact ⟨⟨k + 1, by omega, by go_num, (by first | exact congrArg Value.bool HN.out.symm | simpa using HN.out | simpa using HN.out.symm), by exact bw, by exact bkw⟩, rfl, rfl, rfl⟩) | ((repeat apply Exists.intro); exact ⟨⟨k + 1, by omega, by go_num, (by first | exact congrArg Value.bool HN.out.symm | simpa using HN.out | simpa using HN.out.symm), by exact bw, by exact bkw⟩, rfl, rfl, rfl, rfl⟩) | ((repeat apply Exists.intro); exact ⟨⟨k + 1, by omega, by go_num, (by first | exact congrArg Value.bool HN.out.symm | simpa using HN.out | simpa using HN.out.symm), by exact bw, by exact bkw⟩, rfl, rfl, rfl, rfl, rfl⟩))
        case measure => simp [intOf]; omega
      | true =>
        have H1 := Lib.hid h1
        by_cases h2 : k = 0
        · have hk0 : ((k : Int) == 0) = true := by rw [beq_iff_eq]; omega
          have HN : Hid ((f1 && (List.range (k + 1)).all (clB Y.cl)) = true) := by show _ = _; rw [HN0.out, HT.out, h1, decide_eq_true h2]; rfl
          have H2 := Lib.hid h2
          clear h1 HN0 HT h2
          go_wp2
          go_quiet ((go_at_call 69; with_reducible exact Calls.quiet_of_same (within_is _ _ _ _ _ H1.out)))
          go_wp2
          go_roundw
          case rel => (first | exact ⟨k + 1, by omega, by go_num, (by first | exact congrArg Value.bool HN.out.symm | simpa using HN.out | simpa using HN.out.symm), by exact bw, by exact bkw⟩ | ((repeat apply Exists.intro); exact ⟨⟨k + 1, by omega, by go_num, (by first | exact congrArg Value.bool HN.out.symm | simpa using HN.out | simpa using HN.out.symm), by exact bw, by exact bkw⟩, rfl⟩) | ((repeat apply Exists.intro); exact ⟨⟨k + 1, by omega, by go_num, (by first | exact congrArg Value.bool HN.out.symm | simpa using HN.out | simpa using HN.out.symm), by exact bw, by exact bkw⟩, rfl, rfl⟩) | ((repeat apply Exists.intro); exact ⟨⟨k + 1, by omega, by go_num, (by first | exact congrArg Value.bool HN.out.symm | simpa using HN.out | simpa using HN.out.symm), by exact bw, by exact bkw⟩, rfl, rfl, rfl⟩) | ((repeat apply Exists.intro); exact ⟨⟨k + 1, by omega, by go_num, (by first | exact congrArg Value.bool HN.out.symm | simpa using HN.out | simpa using HN.out.symm), by exact bw, by exact bkw⟩, rfl, rfl, rfl, rfl⟩) | ((repeat apply Exists.intro); exact ⟨⟨k + 1, by omega, by go_num, (by first | exact congrArg Value.bool HN.out.symm | simpa using HN.out | simpa using HN.out.symm), by exact bw, by exact bkw⟩, rfl, rfl, rfl, rfl, rfl⟩))
          case measure => simp [intOf]; omega
        · have hkm : ((k : Int) - 1).toNat = k - 1 := by omega
          have hkp : 0 ≤ (k : Int) - 1 := by omega
          have hkq : (k : Int) - 1 < (Y.cl.length : Int) := by omega
          have hk0 : ((k : Int) == 0) = false := by rw [beq_eq_false_iff_ne]; omega
          by_cases h3 : y < z
          · have HN : Hid ((f1 && (List.range (k + 1)).all (clB Y.cl)) = true) := by show _ = _; rw [HN0.out, HT.out, h1, decide_eq_true h3]; simp
            have h3' : decide (y < z) = true := decide_eq_true h3
            clear h1 HN0 HT h2
            go_wp2
            go_quiet ((go_at_call 69; with_reducible exact Calls.quiet_of_same (within_is _ _ _ _ _ H1.out)))
            go_wp2
            go_roundw
            case rel => (first | exact ⟨k + 1, by omega, by go_num, (by first | exact congrArg Value.bool HN.out.symm | simpa using HN.out | simpa using HN.out.symm), by exact bw, by exact bkw⟩ | ((repeat apply Exists.intro); exact ⟨⟨k + 1, by omega, by go_num, (by first | exact congrArg Value.bool HN.out.symm | simpa using HN.out | simpa using HN.out.symm), by exact bw, by exact bkw⟩, rfl⟩) | ((repeat apply Exists.intro); exact ⟨⟨k + 1, by omega, by go_num, (by first | exact congrArg Value.bool HN.out.symm | simpa using HN.out | simpa using HN.out.symm), by exact bw, by exact bkw⟩, rfl, rfl⟩) | ((repeat apply Exists.intro); exact ⟨⟨k + 1, by omega, by go_num, (by first | exact congrArg Value.bool HN.out.symm | simpa using HN.out | simpa using HN.out.symm), by exact bw, by exact bkw⟩, rfl, rfl, rfl⟩) | ((repeat apply Exists.intro); exact ⟨⟨k + 1, by omega, by go_num, (by first | exact congrArg Value.bool HN.out.symm | simpa using HN.out | simpa using HN.out.symm), by exact bw, by exact bkw⟩, rfl, rfl, rfl, rfl⟩) | ((repeat apply Exists.intro); exact ⟨⟨k + 1, by omega, by go_num, (by first | exact congrArg Value.bool HN.out.symm | simpa using HN.out | simpa using HN.out.symm), by exact bw, by exact bkw⟩, rfl, rfl, rfl, rfl, rfl⟩))
            case measure => simp [intOf]; omega
          · have HN : Hid ((f1 && (List.range (k + 1)).all (clB Y.cl)) = false) := by show _ = _; rw [HN0.out, HT.out, h1, decide_eq_false h3, decide_eq_false h2]; rfl
            have h3' : decide (y < z) = false := decide_eq_false h3
            have h3'' : z ≤ y := by omega
            have H3 := Lib.hid h3
            clear h1 HN0 HT h2 h3
            go_wp2
            go_quiet ((go_at_call 69; with_reducible exact Calls.quiet_of_same (within_is _ _ _ _ _ H1.out)))
            go_wp2
            go_roundw
            case rel => (first | exact ⟨k + 1, by omega, by go_num, (by first | exact congrArg Value.bool HN.out.symm | simpa using HN.out | simpa using HN.out.symm), by exact bw, by exact bkw⟩ | ((repeat apply Exists.intro); exact ⟨⟨k + 1, by omega, by go_num, (by first | exact congrArg Value.bool HN.out.symm | simpa using HN.out | simpa using HN.out.symm), by exact bw, by exact bkw⟩, rfl⟩) | ((repeat apply Exists.intro); exact ⟨⟨k + 1, by omega, by go_num, (by first | exact congrArg Value.bool HN.out.symm | simpa using HN.out | simpa using HN.out.symm), by exact bw, by exact bkw⟩, rfl, rfl⟩) | ((repeat apply Exists.intro); exact ⟨⟨k + 1, by omega, by go_num, (by first | exact congrArg Value.bool HN.out.symm | simpa using HN.out | simpa using HN.out.symm), by exact bw, by exact bkw⟩, rfl, rfl, rfl⟩) | ((repeat apply Exists.intro); exact ⟨⟨k + 1, by omega, by go_num, (by first | exact congrArg Value.bool HN.out.symm | simpa using HN.out | simpa using HN.out.symm), by exact bw, by exact bkw⟩, rfl, rfl, rfl, rfl⟩) | ((repeat apply Exists.intro); exact ⟨⟨k + 1, by omega, by go_num, (by first | exact congrArg Value.bool HN.out.symm | simpa using HN.out | simpa using HN.out.symm), by exact bw, by exact bkw⟩, rfl, rfl, rfl, rfl, rfl⟩))
            case measure => simp [intOf]; omega
  obtain rfl : k = Y.cl.length := by omega
  generalize hf2 : (f1 && (List.range Y.cl.length).all (clB Y.cl)) = f2 at *
  have HF2 := Lib.hid hf2; clear hf2
  have x9 := hbk.cell 25 e2
  go_wp2
  go_loopw [4, 7] (fun b y wr => ∃ k : Nat, k ≤ Y.pi.length ∧ y = .int .i64 k ∧ b = .bool (f2 && (Y.pi.take k).all pitB) ∧ Below w.heap.size w wr ∧ Bk wr w.heap.size 29 C) (fun _ y _ => Y.pi.length - (intOf y).toNat)
  case atStart => exact ⟨0, by omega, rfl, by simp, hbw, hbk⟩
  case round =>
  clear hbw hbk hlk hbs x1 x9 hk hlt
  obtain ⟨k, hk, rfl, rfl, hbw, hbk⟩ := hrel
  have hbs := hbw.size
  have hlk := hbk.lt
  have x1 := hbk.cell 25 e2
  by_cases hlt : k < Y.pi.length
  · obtain ⟨ad, rfl, hadb, c0, c1, c2⟩ := pit_at (L2.below hbw (Nat.le_refl _)) hlt
    have HN0 : Hid ((f2 && (Y.pi.take (k + 1)).all pitB) = ((f2 && (Y.pi.take k).all pitB) && pitB Y.pi[k])) := by show _ = _; rw [all_take _ _ _ hlt, Bool.and_assoc]
    generalize (f2 && (Y.pi.take k).all pitB) = bb at *
    generalize Y.pi[k] = z at *
    obtain ⟨s, a, b⟩ := z
    dsimp only at *
    have HT : Hid (pitB ⟨s, a, b⟩ = (inB s 0 100000 && inB a 0 10000 && inB b 1 100)) := rfl
    clear L1
    clear L2
    clear L3
    cases bb with
    | false =>
      have H : Hid ((false && pitB ⟨s, a, b⟩) = false) := rfl
      have HN := Lib.hid (HN0.out.trans H.out); clear HN0 H
      go_wp2
      go_roundw
      case rel => (first | exact ⟨k + 1, by omega, by go_num, (by first | exact congrArg Value.bool HN.out.symm | simpa using HN.out | simpa using HN.out.symm), by exact bw, by exact bkw⟩ | ((repeat apply Exists.intro); exact ⟨⟨k + 1, by omega, by go_num, (by first | exact congrArg Value.bool HN.out.symm | simpa using HN.out | simpa using HN.out.symm), by exact bw, by exact bkw⟩, rfl⟩) | ((repeat apply Exists.intro); exact ⟨⟨k + 1, by omega, by go_num, (by first | exact congrArg Value.bool HN.out.symm | simpa using HN.out | simpa using HN.out.symm), by exact bw, by exact bkw⟩, rfl, rfl⟩) | ((repeat apply Exists.intro); exact ⟨⟨k + 1, by omega, by go_num, (by first | exact congrArg Value.bool HN.out.symm | simpa using HN.out | simpa using HN.out.symm), by exact bw, by exact bkw⟩, rfl, rfl, rfl⟩) | ((repeat apply Exists.intro); exact ⟨⟨k + 1, by omega, by go_num, (by first | exact congrArg Value.bool HN.out.symm | simpa using HN.out | simpa using HN.out.symm), by exact bw, by exact bkw⟩, rfl, rfl, rfl, rfl⟩) | ((repeat apply Exists.intro); exact ⟨⟨k + 1, by omega, by go_num, (by first | exact congrArg Value.bool HN.out.symm | simpa using HN.out | simpa using HN.out.symm), by exact bw, by exact bkw⟩, rfl, rfl, rfl, rfl, rfl⟩))
      case measure => simp [intOf]; omega
    | true =>
      cases h1 : inB s 0 100000 with
      | false =>
        have HV : Hid (pitB ⟨s, a, b⟩ = false) := by show _ = _; rw [HT.out]; simp [h1]
        have HN : Hid ((f2 && (Y.pi.take (k + 1)).all pitB) = false) := by show _ = _; exact HN0.out.trans (by rw [HV.out]; rfl)
        have H1 := Lib.hid h1; clear h1
        clear HV HN0 HT
        go_wp2_with (go_at_call 69; refine (within_any _ _ _ _).mono ?_; rintro e w' ⟨rfl, rfl⟩; first | rw [H1.out])
        go_roundw
        case rel => (first | exact ⟨k + 1, by omega, by go_num, (by first | exact congrArg Value.bool HN.out.symm | simpa using HN.out | simpa using HN.out.symm), by exact bw, by exact bkw⟩ | ((repeat apply Exists.intro); exact ⟨⟨k + 1, by omega, by go_num, (by first | exact congrArg Value.bool HN.out.symm | simpa using HN.out | simpa using HN.out.symm), by exact bw, by exact bkw⟩, rfl⟩) | ((repeat apply Exists.intro); exact ⟨⟨k + 1, by omega, by go_num, (by first | exact congrArg Value.bool HN.out.symm | simpa using HN.out | simpa using HN.out.symm), by exact bw, by exact bkw⟩, rfl, rfl⟩) | ((repeat apply Exists.intro); exact ⟨⟨k + 1, by omega, by go_num, (by first | exact congrArg Value.bool HN.out.symm | simpa using HN.out | simpa using HN.out.symm), by exact bw, by exact bkw⟩, rfl, rfl, rfl⟩) | ((repeat apply Exists.intro); exact ⟨⟨k + 1, by omega, by go_num, (by first | exact congrArg Value.bool HN.out.symm | simpa using HN.out | simpa using HN.out.symm), by exact bw, by exact bkw⟩, rfl, rfl, rfl, rfl⟩) | ((repeat apply Exists.intro); exact ⟨⟨k + 1, by omega, by go_num, (by first | exact congrArg Value.bool HN.out.symm | simpa using HN.out | simpa using HN.out.symm), by exact bw, by exact bkw⟩, rfl, rfl, rfl, rfl, rfl⟩))
        case measure => simp [intOf]; omega
      | true =>
        cases h2 : inB a 0 10000 with
        | false =>
          have HV : Hid (pitB ⟨s, a, b⟩ = false) := by show _ = _; rw [HT.out]; simp [h1, h2]
          have HN : Hid ((f2 && (Y.pi.take (k + 1)).all pitB) = false) := by show _ = _; exact HN0.out.trans (by rw [HV.out]; rfl)
          have H1 := Lib.hid h1; clear h1
          have H2 := Lib.hid h2; clear h2
          clear HV HN0 HT
          go_wp2_with (go_at_call 69; refine (within_any _ _ _ _).mono ?_; rintro e w' ⟨rfl, rfl⟩; first | rw [H1.out] | rw [H2.out])
          go_roundw
          case rel => (first | exact ⟨k + 1, by omega, by go_num, (by first | exact congrArg Value.bool HN.out.symm | simpa using HN.out | simpa using HN.out.symm), by exact bw, by exact bkw⟩ | ((repeat apply Exists.intro); exact ⟨⟨k + 1, by omega, by go_num, (by first | exact congrArg Value.bool HN.out.symm | simpa using HN.out | simpa using HN.out.symm), by exact bw, by exact bkw⟩, rfl⟩) | ((repeat apply Exists.intro); exact ⟨⟨k + 1, by omega, by go_num, (by first | exact congrArg Value.bool HN.out.symm | simpa using HN.out | simpa using HN.out.symm), by exact bw, by exact bkw⟩, rfl, rfl⟩) | ((repeat apply Exists.intro); exact ⟨⟨k + 1, by omega, by go_num, (by first | exact congrArg Value.bool HN.out.symm | simpa using HN.out | simpa using HN.out.symm), by exact bw, by exact bkw⟩, rfl, rfl, rfl⟩) | ((repeat apply Exists.intro); exact ⟨⟨k + 1, by omega, by go_num, (by first | exact congrArg Value.bool HN.out.symm | simpa using HN.out | simpa using HN.out.symm), by exact bw, by exact bkw⟩, rfl, rfl, rfl, rfl⟩) | ((repeat apply Exists.intro); exact ⟨⟨k + 1, by omega, by go_num, (by first | exact congrArg Value.bool HN.out.symm | simpa using HN.out | simpa using HN.out.symm), by exact bw, by exact bkw⟩, rfl, rfl, rfl, rfl, rfl⟩))
          case measure => simp [intOf]; omega
        | true =>
          cases h3 : inB b 1 100 with
          | false =>
            have HV : Hid (pitB ⟨s, a, b⟩ = false) := by show _ = _; rw [HT.out]; simp [h1, h2, h3]
            have HN : Hid ((f2 && (Y.pi.take (k + 1)).all pitB) = false) := by show _ = _; exact HN0.out.trans (by rw [HV.out]; rfl)
            have H1 := Lib.hid h1; clear h1
            have H2 := Lib.hid h2; clear h2
            have H3 := Lib.hid h3; clear h3
            clear HV HN0 HT
            go_wp2_with (go_at_call 69; refine (within_any _ _ _ _).mono ?_; rintro e w' ⟨rfl, rfl⟩; first | rw [H1.out] | rw [H2.out] | rw [H3.out])
            go_roundw
            case rel => (first | exact ⟨k + 1, by omega, by go_num, (by first | exact congrArg Value.bool HN.out.symm | simpa using HN.out | simpa using HN.out.symm), by exact bw, by exact bkw⟩ | ((repeat apply Exists.intro); exact ⟨⟨k + 1, by omega, by go_num, (by first | exact congrArg Value.bool HN.out.symm | simpa using HN.out | simpa using HN.out.symm), by exact bw, by exact bkw⟩, rfl⟩) | ((repeat apply Exists.intro); exact ⟨⟨k + 1, by omega, by go_num, (by first | exact congrArg Value.bool HN.out.symm | simpa using HN.out | simpa using HN.out.symm), by exact bw, by exact bkw⟩, rfl, rfl⟩) | ((repeat apply Exists.intro); exact ⟨⟨k + 1, by omega, by go_num, (by first | exact congrArg Value.bool HN.out.symm | simpa using HN.out | simpa using HN.out.symm), by exact bw, by exact bkw⟩, rfl, rfl, rfl⟩) | ((repeat apply Exists.intro); exact ⟨⟨k + 1, by omega, by go_num, (by first | exact congrArg Value.bool HN.out.symm | simpa using HN.out | simpa using HN.out.symm), by exact bw, by exact bkw⟩, rfl, rfl, rfl, rfl⟩) | ((repeat apply Exists.intro); exact ⟨⟨k + 1, by omega, by go_num, (by first | exact congrArg Value.bool HN.out.symm | simpa using HN.out | simpa using HN.out.symm), by exact bw, by exact bkw⟩, rfl, rfl, rfl, rfl, rfl⟩))
            case measure => simp [intOf]; omega
          | true =>
            have HV : Hid (pitB ⟨s, a, b⟩ = true) := by show _ = _; rw [HT.out]; simp [h1, h2, h3]
            have HN : Hid ((f2 && (Y.pi.take (k + 1)).all pitB) = true) := by show _ = _; exact HN0.out.trans (by rw [HV.out]; rfl)
            have H1 := Lib.hid h1; clear h1
            have H2 := Lib.hid h2; clear h2
            have H3 := Lib.hid h3; clear h3
            clear HV HN0 HT
            go_wp2_with (go_at_call 69; refine (within_any _ _ _ _).mono ?_; rintro e w' ⟨rfl, rfl⟩; first | rw [H1.out] | rw [H2.out] | rw [H3.out])
            go_roundw
            case rel => (first | exact ⟨k + 1, by omega, by go_num, (by first | exact congrArg Value.bool HN.out.symm | simpa using HN.out | simpa using HN.out.symm), by exact bw, by exact bkw⟩ | ((repeat apply Exists.intro); exact ⟨⟨k + 1, by omega, by go_num, (by first | exact congrArg Value.bool HN.out.symm | simpa using HN.out | simpa using HN.out.symm), by exact bw, by exact bkw⟩, rfl⟩) | ((repeat apply Exists.intro); exact ⟨⟨k + 1, by omega, by go_num, (by first | exact congrArg Value.bool HN.out.symm | simpa using HN.out | simpa using HN.out.symm), by exact bw, by exact bkw⟩, rfl, rfl⟩) | ((repeat apply Exists.intro); exact ⟨⟨k + 1, by omega, by go_num, (by first | exact congrArg Value.bool HN.out.symm | simpa using HN.out | simpa using HN.out.symm), by exact bw, by exact bkw⟩, rfl, rfl, rfl⟩) | ((repeat apply Exists.intro); exact ⟨⟨k + 1, by omega, by go_num, (by first | exact congrArg Value.bool HN.out.symm | simpa using HN.out | simpa using HN.out.symm), by exact bw, by exact bkw⟩, rfl, rfl, rfl, rfl⟩) | ((repeat apply Exists.intro); exact ⟨⟨k + 1, by omega, by go_num, (by first | exact congrArg Value.bool HN.out.symm | simpa using HN.out | simpa using HN.out.symm), by exact bw, by exact bkw⟩, rfl, rfl, rfl, rfl, rfl⟩))
            case measure => simp [intOf]; omega
  · obtain rfl : k = Y.pi.length := by omega
    rw [List.take_length]
    generalize hf3 : (f2 && Y.pi.all pitB) = f3 at *
    have HF3 := Lib.hid hf3; clear hf3
    have x9 := hbk.cell 26 e3
    go_wp2
    go_loopw [4, 9] (fun b y wr => ∃ k : Nat, k ≤ Y.ma.length ∧ y = .int .i64 k ∧ b = .bool (f3 && (Y.ma.take k).all masB) ∧ Below w.heap.size w wr ∧ Bk wr w.heap.size 29 C) (fun _ y _ => Y.ma.length - (intOf y).toNat)
    case atStart => exact ⟨0, by omega, rfl, by simp, hbw, hbk⟩
    case round =>
    clear hbw hbk hlk hbs x1 x9 hk hlt
    obtain ⟨k, hk, rfl, rfl, hbw, hbk⟩ := hrel
    have hbs := hbw.size
    have hlk := hbk.lt
    have x1 := hbk.cell 26 e3
    by_cases hlt : k < Y.ma.length
    · obtain ⟨ad, rfl, hadb, c0, c1, c2, c3⟩ := mas_at (L3.below hbw (Nat.le_refl _)) hlt
      have HN0 : Hid ((f3 && (Y.ma.take (k + 1)).all masB) = ((f3 && (Y.ma.take k).all masB) && masB Y.ma[k])) := by show _ = _; rw [all_take _ _ _ hlt, Bool.and_assoc]
      generalize (f3 && (Y.ma.take k).all masB) = bb at *
      generalize Y.ma[k] = z at *
      obtain ⟨nm, mf, mu, mk⟩ := z
      dsimp only at *
      have HT : Hid (masB ⟨nm, mf, mu, mk⟩ = (decide (0 ≤ mf) && decide (mf < mu) && decide (mu ≤ 100001) && inB mk 1 9)) := rfl
      clear L1
      clear L2
      clear L3
      cases bb with
      | false =>
        have H : Hid ((false && masB ⟨nm, mf, mu, mk⟩) = false) := rfl
        have HN := Lib.hid (HN0.out.trans H.out); clear HN0 H
        go_wp2
        go_roundw
        case rel => (first | exact ⟨k + 1, by omega, by go_num, (by first | exact congrArg Value.bool HN.out.symm | simpa using HN.out | simpa using HN.out.symm), by exact bw, by exact bkw⟩ | ((repeat apply Exists.intro); exact ⟨⟨k + 1, by omega, by go_num, (by first | exact congrArg Value.bool HN.out.symm | simpa using HN.out | simpa using HN.out.symm), by exact bw, by exact bkw⟩, rfl⟩) | ((repeat apply Exists.intro); exact ⟨⟨k + 1, by omega, by go_num, (by first | exact congrArg Value.bool HN.out.symm | simpa using HN.out | simpa using HN.out.symm), by exact bw, by exact bkw⟩, rfl, rfl⟩) | ((repeat apply Exists.intro); exact ⟨⟨k + 1, by omega, by go_num, (by first | exact congrArg Value.bool HN.out.symm | simpa using HN.out | simpa using HN.out.symm), by exact bw, by exact bkw⟩, rfl, rfl, rfl⟩) | ((repeat apply Exists.intro); exact ⟨⟨k + 1, by omega, by go_num, (by first | exact congrArg Value.bool HN.out.symm | simpa using HN.out | simpa using HN.out.symm), by exact bw, by exact bkw⟩, rfl, rfl, rfl, rfl⟩) | ((repeat apply Exists.intro); exact ⟨⟨k + 1, by omega, by go_num, (by first | exact congrArg Value.bool HN.out.symm | simpa using HN.out | simpa using HN.out.symm), by exact bw, by exact bkw⟩, rfl, rfl, rfl, rfl, rfl⟩))
        case measure => simp [intOf]; omega
      | true =>
        by_cases h1 : 0 ≤ mf
        rotate_left
        ·
          have HV : Hid (masB ⟨nm, mf, mu, mk⟩ = false) := by show _ = _; rw [HT.out]; simp [h1]
          have HN : Hid ((f3 && (Y.ma.take (k + 1)).all masB) = false) := by show _ = _; exact HN0.out.trans (by rw [HV.out]; rfl)
          have h1' := Int.not_le.1 h1; have H1 := Lib.hid h1; clear h1
          clear HV HN0 HT
          go_wp2
          go_roundw
          case rel => (first | exact ⟨k + 1, by omega, by go_num, (by first | exact congrArg Value.bool HN.out.symm | simpa using HN.out | simpa using HN.out.symm), by exact bw, by exact bkw⟩ | ((repeat apply Exists.intro); exact ⟨⟨k + 1, by omega, by go_num, (by first | exact congrArg Value.bool HN.out.symm | simpa using HN.out | simpa using HN.out.symm), by exact bw, by exact bkw⟩, rfl⟩) | ((repeat apply Exists.intro); exact ⟨⟨k + 1, by omega, by go_num, (by first | exact congrArg Value.bool HN.out.symm | simpa using HN.out | simpa using HN.out.symm), by exact bw, by exact bkw⟩, rfl, rfl⟩) | ((repeat apply Exists.intro); exact ⟨⟨k + 1, by omega, by go_num, (by first | exact congrArg Value.bool HN.out.symm | simpa using HN.out | simpa using HN.out.symm), by exact bw, by exact bkw⟩, rfl, rfl, rfl⟩) | ((repeat apply Exists.intro); exact ⟨⟨k + 1, by omega, by go_num, (by first | exact congrArg Value.bool HN.out.symm | simpa using HN.out | simpa using HN.out.symm), by exact bw, by exact bkw⟩, rfl, rfl, rfl, rfl⟩) | ((repeat apply Exists.intro); exact ⟨⟨k + 1, by omega, by go_num, (by first | exact congrArg Value.bool HN.out.symm | simpa using HN.out | simpa using HN.out.symm), by exact bw, by exact bkw⟩, rfl, rfl, rfl, rfl, rfl⟩))
          case measure => simp [intOf]; omega
        ·
          by_cases h2 : mf < mu
          rotate_left
          ·
            have HV : Hid (masB ⟨nm, mf, mu, mk⟩ = false) := by show _ = _; rw [HT.out]; simp [h1, h2]
            have HN : Hid ((f3 && (Y.ma.take (k + 1)).all masB) = false) := by show _ = _; exact HN0.out.trans (by rw [HV.out]; rfl)
            have h2' := Int.not_lt.1 h2; have H2 := Lib.hid h2; clear h2
            clear HV HN0 HT
            go_wp2
            go_roundw
            case rel => (first | exact ⟨k + 1, by omega, by go_num, (by first | exact congrArg Value.bool HN.out.symm | simpa using HN.out | simpa using HN.out.symm), by exact bw, by exact bkw⟩ | ((repeat apply Exists.intro); exact ⟨⟨k + 1, by omega, by go_num, (by first | exact congrArg Value.bool HN.out.symm | simpa using HN.out | simpa using HN.out.symm), by exact bw, by exact bkw⟩, rfl⟩) | ((repeat apply Exists.intro); exact ⟨⟨k + 1, by omega, by go_num, (by first | exact congrArg Value.bool HN.out.symm | simpa using HN.out | simpa using HN.out.symm), by exact bw, by exact bkw⟩, rfl, rfl⟩) | ((repeat apply Exists.intro); exact ⟨⟨k + 1, by omega, by go_num, (by first | exact congrArg Value.bool HN.out.symm | simpa using HN.out | simpa using HN.out.symm), by exact bw, by exact bkw⟩, rfl, rfl, rfl⟩) | ((repeat apply Exists.intro); exact ⟨⟨k + 1, by omega, by go_num, (by first | exact congrArg Value.bool HN.out.symm | simpa using HN.out | simpa using HN.out.symm), by exact bw, by exact bkw⟩, rfl, rfl, rfl, rfl⟩) | ((repeat apply Exists.intro); exact ⟨⟨k + 1, by omega, by go_num, (by first | exact congrArg Value.bool HN.out.symm | simpa using HN.out | simpa using HN.out.symm), by exact bw, by exact bkw⟩, rfl, rfl, rfl, rfl, rfl⟩))
            case measure => simp [intOf]; omega
          ·
            by_cases h3 : mu ≤ 100001
            rotate_left
            ·
              have HV : Hid (masB ⟨nm, mf, mu, mk⟩ = false) := by show _ = _; rw [HT.out]; simp [h1, h2, h3]
              have HN : Hid ((f3 && (Y.ma.take (k + 1)).all masB) = false) := by show _ = _; exact HN0.out.trans (by rw [HV.out]; rfl)
              have h3' := Int.not_le.1 h3; have H3 := Lib.hid h3; clear h3
              clear HV HN0 HT
              go_wp2
              go_roundw
              case rel => (first | exact ⟨k + 1, by omega, by go_num, (by first | exact congrArg Value.bool HN.out.symm | simpa using HN.out | simpa using HN.out.symm), by exact bw, by exact bkw⟩ | ((repeat apply Exists.intro); exact ⟨⟨k + 1, by omega, by go_num, (by first | exact congrArg Value.bool HN.out.symm | simpa using HN.out | simpa using HN.out.symm), by exact bw, by exact bkw⟩, rfl⟩) | ((repeat apply Exists.intro); exact ⟨⟨k + 1, by omega, by go_num, (by first | exact congrArg Value.bool HN.out.symm | simpa using HN.out | simpa using HN.out.symm), by exact bw, by exact bkw⟩, rfl, rfl⟩) | ((repeat apply Exists.intro); exact ⟨⟨k + 1, by omega, by go_num, (by first | exact congrArg Value.bool HN.out.symm | simpa using HN.out | simpa using HN.out.symm), by exact bw, by exact bkw⟩, rfl, rfl, rfl⟩) | ((repeat apply Exists.intro); exact ⟨⟨k + 1, by omega, by go_num, (by first | exact congrArg Value.bool HN.out.symm | simpa using HN.out | simpa using HN.out.symm), by exact bw, by exact bkw⟩, rfl, rfl, rfl, rfl⟩) | ((repeat apply Exists.intro); exact ⟨⟨k + 1, by omega, by go_num, (by first | exact congrArg Value.bool HN.out.symm | simpa using HN.out | simpa using HN.out.symm), by exact bw, by exact bkw⟩, rfl, rfl, rfl, rfl, rfl⟩))
              case measure => simp [intOf]; omega
            ·
              cases h4 : inB mk 1 9 with
              | false =>
                have HV : Hid (masB ⟨nm, mf, mu, mk⟩ = false) := by show _ = _; rw [HT.out]; simp [h1, h2, h3, h4]
                have HN : Hid ((f3 && (Y.ma.take (k + 1)).all masB) = false) := by show _ = _; exact HN0.out.trans (by rw [HV.out]; rfl)
                have H4 := Lib.hid h4; clear h4
                clear HV HN0 HT
                go_wp2_with (go_at_call 69; refine (within_any _ _ _ _).mono ?_; rintro e w' ⟨rfl, rfl⟩; first | rw [H4.out])
                go_roundw
                case rel => (first | exact ⟨k + 1, by omega, by go_num, (by first | exact congrArg Value.bool HN.out.symm | simpa using HN.out | simpa using HN.out.symm), by exact bw, by exact bkw⟩ | ((repeat apply Exists.intro); exact ⟨⟨k + 1, by omega, by go_num, (by first | exact congrArg Value.bool HN.out.symm | simpa using HN.out | simpa using HN.out.symm), by exact bw, by exact bkw⟩, rfl⟩) | ((repeat apply Exists.intro); exact ⟨⟨k + 1, by omega, by go_num, (by first | exact congrArg Value.bool HN.out.symm | simpa using HN.out | simpa using HN.out.symm), by exact bw, by exact bkw⟩, rfl, rfl⟩) | ((repeat apply Exists.intro); exact ⟨⟨k + 1, by omega, by go_num, (by first | exact congrArg Value.bool HN.out.symm | simpa using HN.out | simpa using HN.out.symm), by exact bw, by exact bkw⟩, rfl, rfl, rfl⟩) | ((repeat apply Exists.intro); exact ⟨⟨k + 1, by omega, by go_num, (by first | exact congrArg Value.bool HN.out.symm | simpa using HN.out | simpa using HN.out.symm), by exact bw, by exact bkw⟩, rfl, rfl, rfl, rfl⟩) | ((repeat apply Exists.intro); exact ⟨⟨k + 1, by omega, by go_num, (by first | exact congrArg Value.bool HN.out.symm | simpa using HN.out | simpa using HN.out.symm), by exact bw, by exact bkw⟩, rfl, rfl, rfl, rfl, rfl⟩))
                case measure => simp [intOf]; omega
              | true =>
                have HV : Hid (masB ⟨nm, mf, mu, mk⟩ = true) := by show _ = _; rw [HT.out]; simp [h1, h2, h3, h4]
                have HN : Hid ((f3 && (Y.ma.take (k + 1)).all masB) = true) := by show _ = _; exact HN0.out.trans (by rw [HV.out]; rfl)
                have H4 := Lib.hid h4; clear h4
                clear HV HN0 HT
                go_wp2_with (go_at_call 69; refine (within_any _ _ _ _).mono ?_; rintro e w' ⟨rfl, rfl⟩; first | rw [H4.out])
                go_roundw
                case rel => (first | exact ⟨k + 1, by omega, by go_num, (by first | exact congrArg Value.bool HN.out.symm | simpa using HN.out | simpa using HN.out.symm), by exact bw, by exact bkw⟩ | ((repeat apply Exists.intro); exact ⟨⟨k + 1, by omega, by go_num, (by first | exact congrArg Value.bool HN.out.symm | simpa using HN.out | simpa using HN.out.symm), by exact bw, by exact bkw⟩, rfl⟩) | ((repeat apply Exists.intro); exact ⟨⟨k + 1, by omega, by go_num, (by first | exact congrArg Value.bool HN.out.symm | simpa using HN.out | simpa using HN.out.symm), by exact bw, by exact bkw⟩, rfl, rfl⟩) | ((repeat apply Exists.intro); exact ⟨⟨k + 1, by omega, by go_num, (by first | exact congrArg Value.bool HN.out.symm | simpa using HN.out | simpa using HN.out.symm), by exact bw, by exact bkw⟩, rfl, rfl, rfl⟩) | ((repeat apply Exists.intro); exact ⟨⟨k + 1, by omega, by go_num, (by first | exact congrArg Value.bool HN.out.symm | simpa using HN.out | simpa using HN.out.symm), by exact bw, by exact bkw⟩, rfl, rfl, rfl, rfl⟩) | ((repeat apply Exists.intro); exact ⟨⟨k + 1, by omega, by go_num, (by first | exact congrArg Value.bool HN.out.symm | simpa using HN.out | simpa using HN.out.symm), by exact bw, by exact bkw⟩, rfl, rfl, rfl, rfl, rfl⟩))
                case measure => simp [intOf]; omega
    · obtain rfl : k = Y.ma.length := by omega
      rw [List.take_length]
      have HE : Hid (fineY Y = (f3 && Y.ma.all masB)) := by
        show _ = _
        rw [HF.out, ← HF3.out, ← HF2.out, ← HF1.out, HF0.out, clB_all]
        cases inB Y.dry 0 30 <;> cases risingB Y.cl <;> cases Y.cl.all dayB <;> cases (List.range 12).all (seasB Y.se) <;> rfl
      cases h9 : (f3 && Y.ma.all masB) with
      | false =>
        have H : Hid (chkY Y = 1) := by show _ = _; rw [HC'.out, HE.out, h9]; rfl
        clear HE h9
        go_wp2
        go_ret
        exact int_end H.out.symm hbw
      | true =>
        have H : Hid (chkY Y = 0) := by show _ = _; rw [HC'.out, HE.out, h9]; rfl
        clear HE h9
        go_wp2
        go_ret
        exact int_end H.out.symm hbw
end Go.Proofs.Ytjgnikmnadmheaa
