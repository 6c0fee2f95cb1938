/- Tasks that are right; the least day of the next task. -/
import Derived.Test.YtjgnikmnadmheaaT3
namespace Go.Proofs.Ytjgnikmnadmheaa
open Go.RowKit

/-- tasks that CheckTasks lets through -/
structure ValidT (l : List Tk) : Prop where
  n : l.length ≤ 12
  work : ∀ i (hi : i < l.length), 1 ≤ l[i].work ∧ l[i].work ≤ 10000
  need : ∀ i (hi : i < l.length), 1 ≤ l[i].need ∧ l[i].need ≤ 9
  af : ∀ i (hi : i < l.length), ∀ k ∈ l[i].af, 0 ≤ k ∧ k < (i : Int)
  ris : ∀ i (hi : i < l.length), risingB l[i].af = true
theorem validT_of {l : List Tk} (h : chkL l = 0) : ValidT l := by
  unfold chkL at h
  by_cases h1 : 12 < l.length ∨ l.any manyC = true
  · rw [if_pos h1] at h; cases h
  rw [if_neg h1] at h
  by_cases h2 : (List.range l.length).any (badAt l) = true
  · rw [if_pos h2] at h; cases h
  have hb : ∀ i (hi : i < l.length), badT i l[i] = false := fun i hi => by
    rw [← badAt_eq l i hi]
    rw [Bool.not_eq_true, List.any_eq_false] at h2
    have := h2 i (by simpa using hi)
    simpa using this
  have hb2 : ∀ i (hi : i < l.length), (inB l[i].work 1 10000 = true ∧ inB l[i].need 1 9 = true) ∧ risingB l[i].af = true ∧ ∀ k ∈ l[i].af, outOf i k = false := fun i hi => by
    have := hb i hi
    unfold badT at this
    simp only [Bool.or_eq_false_iff, Bool.not_eq_false', List.any_eq_false] at this
    obtain ⟨⟨⟨⟨a, b⟩, c⟩, d⟩, _⟩ := this
    exact ⟨⟨a, b⟩, c, fun k hk => by have := d k hk; simpa using this⟩
  refine ⟨by omega, fun i hi => inB_iff.1 (hb2 i hi).1.1, fun i hi => inB_iff.1 (hb2 i hi).1.2, fun i hi k hk => ?_, fun i hi => (hb2 i hi).2.1⟩
  have := (hb2 i hi).2.2 k hk
  unfold outOf at this
  simp only [Bool.not_eq_false'] at this
  have := inB_iff.1 this
  omega
/-- the least day of a task behind days, k of its earlier tasks being looked at -/
def lowB (f : Int) (days : List Int) : Int := if days.length = 0 then f else max f (days.getD (days.length - 1) 0 + 1)
def lowK (dry f : Int) (af days : List Int) (k : Nat) : Int := ((af.take k).map fun j => days.getD j.toNat 0 + dry + 1).foldl max (lowB f days)
def lowS (dry f : Int) (af days : List Int) : Int := lowK dry f af days af.length
theorem lowK_zero (dry f : Int) (af days : List Int) : lowK dry f af days 0 = lowB f days := by unfold lowK; rfl
theorem lowK_succ {dry f : Int} {af days : List Int} {k : Nat} (hk : k < af.length) : lowK dry f af days (k + 1) = max (lowK dry f af days k) (days.getD af[k].toNat 0 + dry + 1) := by
  unfold lowK
  rw [List.take_succ_eq_append_getElem hk, List.map_append, List.foldl_append]; rfl
theorem lowB_bd {f : Int} {days : List Int} (hf : 0 ≤ f ∧ f ≤ 100000) (hd : ∀ x ∈ days, -1000 ≤ x ∧ x ≤ 200000) : f ≤ lowB f days ∧ lowB f days ≤ 200001 := by
  unfold lowB
  split
  · omega
  · rename_i h
    have : days.getD (days.length - 1) 0 ∈ days := by
      rw [List.getD_eq_getElem?_getD, List.getElem?_eq_getElem (by omega)]; exact List.getElem_mem _
    have := hd _ this
    omega
theorem getD_bd {days : List Int} (hd : ∀ x ∈ days, -1000 ≤ x ∧ x ≤ 200000) (j : Nat) : -1000 ≤ days.getD j 0 ∧ days.getD j 0 ≤ 200000 := by
  by_cases h : j < days.length
  · exact hd _ (by rw [List.getD_eq_getElem?_getD, List.getElem?_eq_getElem h]; exact List.getElem_mem h)
  · rw [List.getD_eq_getElem?_getD, List.getElem?_eq_none (by omega)]; simp
theorem lowK_bd {dry f : Int} {af days : List Int} (hf : 0 ≤ f ∧ f ≤ 100000) (hdr : 0 ≤ dry ∧ dry ≤ 30) (hd : ∀ x ∈ days, -1000 ≤ x ∧ x ≤ 200000) : ∀ k, k ≤ af.length → f ≤ lowK dry f af days k ∧ lowK dry f af days k ≤ 200031
  | 0, _ => by rw [lowK_zero]; have := lowB_bd hf hd; omega
  | k + 1, hk => by
    have hk' : k < af.length := by omega
    rw [lowK_succ hk']
    have h1 := lowK_bd (af := af) hf hdr hd k (by omega)
    have h2 := getD_bd hd (af[k]'hk').toNat
    omega

set_option maxRecDepth 100000 in
set_option maxHeartbeats 1000000 in
theorem lower_any (bj : Nat) (C : Array Value) (Y : Yd) (l : List Tk) (A : Option Addr) (c : Nat) (f : Int) (days : List Int) (D : Option Addr) (cd : Nat) (w : World) (hj : JobAt w w.heap.size bj C Y l A c f) (hv : Valid Y) (ht : ValidT l) (hm : tame l) (hf : 0 ≤ f ∧ f ≤ 100000)
    (hD : Lies w w.heap.size D (ints days)) (hn : days.length < l.length) (hd : ∀ x ∈ days, -1000 ≤ x ∧ x ≤ 200000) :
    Calls Try.prog 96 #[.pointer (some ⟨bj, 0, none⟩), .slice D days.length cd] w (IntEnd (lowS Y.dry f l[days.length].af days) w) := by
  have hlj := hj.lt
  have HJ := Lib.hid (fun W (hb : Below w.heap.size w W) => (hj.below hb (Nat.le_refl _)))
  have HDD := Lib.hid (fun W (hb : Below w.heap.size w W) => (hD.below hb (Nat.le_refl _)))
  have hdry := hv.dry
  have hl12 := ht.n
  have HAF := Lib.hid (ht.af days.length hn)
  have HAN := Lib.hid ((hm.2 l[days.length] (List.getElem_mem hn)).1)
  have HTA := Lib.hid (fun W (hb : Below w.heap.size w W) => (hj.tat.below hb (Nat.le_refl _)).af l[days.length] (List.getElem_mem hn))
  obtain ⟨at_, rfl, hatb, _, _, c2, _⟩ := task_at hj.tat.at_ hn
  have HC2 : Hid (∀ W : World, Below w.heap.size w W → W.cell? ⟨(at_.add (days.length * 4)).block, (at_.add (days.length * 4)).off + 2, none⟩ = some (.slice l[days.length].aA l[days.length].af.length l[days.length].ac)) := fun W hb => (hb.cell (by rw [add_block]; exact hatb)).trans c2
  have HBD := Lib.hid (fun (k : Nat) (hk : k ≤ l[days.length].af.length) => lowK_bd (af := l[days.length].af) hf hdry hd k hk)
  have HBB := Lib.hid (lowB_bd hf hd)
  have HG := Lib.hid (getD_bd hd)
  have HLB0 : Hid (days.length = 0 → lowB f days = f) := fun h => by unfold lowB; rw [if_pos h]
  have HLB1 : Hid (∀ h : 0 < days.length, lowB f days = max f (days[days.length - 1]'(by omega) + 1)) := fun h => by
    unfold lowB; rw [if_neg (by omega), List.getD_eq_getElem?_getD, List.getElem?_eq_getElem (by omega)]; rfl
  have HXB : Hid (∀ j (h : j < days.length), -1000 ≤ days[j] ∧ days[j] ≤ 200000) := fun j h => hd _ (List.getElem_mem h)
  have HS : Hid (lowS Y.dry f l[days.length].af days = lowK Y.dry f l[days.length].af days l[days.length].af.length) := rfl
  have HZ := Lib.hid (lowK_zero Y.dry f l[days.length].af days)
  have HK := Lib.hid (fun (k : Nat) (hk : k < l[days.length].af.length) => lowK_succ (dry := Y.dry) (f := f) (days := days) hk)
  have hY27 := hj.yat.dry
  have HY : Hid (∀ W : World, Below w.heap.size w W → W.cell? ⟨bj, 27, none⟩ = some (.int .i64 Y.dry)) := fun W hb => (hj.below hb (Nat.le_refl _)).blk.cell 27 (by rw [Array.getElem?_append_left (by have := hj.yat.size; omega)]; exact hY27)
  have c28 := hj.tasks
  have c29 := hj.from_
  have c2' := HC2.out w (Below.refl _ _)
  clear hj hD ht hm hv c2 hd hY27
  generalize lowS Y.dry f l[days.length].af days = R at *
  generalize lowK Y.dry f l[days.length].af days = LK at *
  generalize lowB f days = LB at *
  generalize Y.dry = dry at *
  have hnI : (days.length : Int) < (l.length : Int) := by omega
  have hn0 : 0 ≤ (days.length : Int) := by omega
  generalize l[days.length] = t at *
  obtain ⟨wk, nd, aA, ac, af, cA, cc, co⟩ := t
  dsimp only at *
  have han := HAN.out
  go_enter Try.func96, Try.ntmps96
  go_upto_if 16 with fail
  go_cut [6] (fun s6 wx => ∃ v : Int, s6 = .int .i64 v ∧ Hid (v = LK 0) ∧ (0 ≤ v ∧ v ≤ 200001) ∧ wx = w)
  case first =>
    have hBB := HBB.out
    by_cases h0 : days.length = 0
    · have HV : Hid (f = LK 0) := by
        show _ = _
        rw [HZ.out, HLB0.out h0]
      have h1 : ¬ 0 < days.length := by omega
      have H0 := Lib.hid h0; clear h0
      go_wp2
      go_meet
      exact ⟨f, rfl, HV, by omega, rfl⟩
    · have h1 : 0 < days.length := by omega
      obtain ⟨ad, rfl, hadb, c0⟩ := int_at (HDD.out w (Below.refl _ _)) (k := days.length - 1) (by omega)
      have HV : Hid (max f (days[days.length - 1]'(by omega) + 1) = LK 0) := by
        show _ = _
        rw [HZ.out, HLB1.out h1]
      have hxb := HXB.out (days.length - 1) (by omega)
      generalize days[days.length - 1]'(by omega) = x at *
      have hkm : ((days.length : Int) - 1).toNat = days.length - 1 := by omega
      have hkp : 0 ≤ (days.length : Int) - 1 := by omega
      have hkq : (days.length : Int) - 1 < (days.length : Int) := by omega
      obtain ⟨hx1, hx2⟩ := hxb
      clear h0
      go_wp2
      go_meet
      exact ⟨max f (x + 1), by first | rfl | (simp; done), HV, by omega, rfl⟩
  case rest =>
  obtain ⟨v, rfl, HV, ⟨hv0, hv1⟩, rfl⟩ := hcut
  go_wp2
  go_loopw [6, 34] (fun s y wr => ∃ (k : Nat) (v : Int), k ≤ af.length ∧ y = .int .i64 k ∧ s = .int .i64 v ∧ Hid (v = LK k) ∧ Below wc.heap.size wc wr) (fun _ y _ => af.length - (intOf y).toNat)
  case atStart => exact ⟨0, v, by omega, rfl, rfl, HV, Below.refl _ _⟩
  case round =>
  clear hv0 hv1 HV HZ HBB
  obtain ⟨k, v, hk, rfl, rfl, HV, hbw⟩ := hrel
  have hbs := hbw.size
  have hbd := HBD.out k hk
  rw [← HV.out] at hbd
  by_cases hlt : k < af.length
  · obtain ⟨a1, rfl, ha1, d0⟩ := int_at (HTA.out wr hbw) hlt
    have haf := HAF.out af[k] (List.getElem_mem hlt)
    have HX := Lib.hid (HK.out k hlt)
    have hgb := HG.out af[k].toNat
    have hjn : af[k].toNat < days.length := by omega
    obtain ⟨a2, rfl, ha2, e0⟩ := int_at (HDD.out wr hbw) hjn
    have HE : Hid (days.getD af[k].toNat 0 = days[af[k].toNat]) := by show _ = _; rw [List.getD_eq_getElem?_getD, List.getElem?_eq_getElem hjn]; rfl
    rw [HE.out] at hgb HX
    have y27 := HY.out wr hbw
    generalize days[af[k].toNat] = x at *
    have hxn : (af[k].toNat : Int) = af[k] := by omega
    obtain ⟨j, hj⟩ : ∃ j : Nat, af[k] = (j : Int) := ⟨af[k].toNat, by omega⟩
    have hj2 : af[k].toNat = j := by omega
    rw [hj] at d0
    rw [hj2] at e0 hjn
    have HJ1 := Lib.hid hj
    clear hj hj2 hxn HE haf
    have hjI : (j : Int) < (days.length : Int) := by omega
    have hkI : (k : Int) < (af.length : Int) := by omega
    have hk0 : 0 ≤ (k : Int) := by omega
    have hj0 : 0 ≤ (j : Int) := by omega
    obtain ⟨hg1, hg2⟩ := hgb
    obtain ⟨hdr1, hdr2⟩ := hdry
    obtain ⟨hb1, hb2⟩ := hbd
    have W1 : Hid (IntKind.i64.wrap (x + dry) = x + dry) := IntWalk.i64_in _ (by omega)
    have W2 : Hid (IntKind.i64.wrap (x + dry + 1) = x + dry + 1) := IntWalk.i64_in _ (by omega)
    go_upto_region 8 with fail
    refine wp_region_held_drew (S := (fun w' => w'.cell? (a2.add j) = some (.int .i64 x) ∧ w'.cell? ⟨bj, 27, none⟩ = some (.int .i64 dry))) (by kernel_rfl) ?_ (fun hHeld => ?_)
    · (refine ⟨?_, ?_⟩ <;> first | assumption | go_keep)
    (refine held_take 0 (some 38) ?_ rfl (by kernel_rfl) (by kernel_rfl) (by kernel_rfl) (by rfl) (fun _ _ _ h => h) (by assumption) (fun w hSw => ?_) ?_; rotate_left; ((try dsimp only at hSw); simp only [List.getElem?_toArray, List.getElem?_cons_zero, List.getElem?_cons_succ, Option.map_some]; refine congrArg some ?_; go_simp; (try with_reducible rfl)); (try simp only [Act.put, List.setIfInBounds_toArray, List.set_cons_zero, List.set_cons_succ]))
    (refine held_take 1 (some 39) ?_ rfl (by kernel_rfl) (by kernel_rfl) (by kernel_rfl) (by rfl) (fun _ _ _ h => h) (by assumption) (fun w hSw => ?_) ?_; rotate_left; ((try dsimp only at hSw); simp only [List.getElem?_toArray, List.getElem?_cons_zero, List.getElem?_cons_succ, Option.map_some]; refine congrArg some ?_; go_simp; (try with_reducible rfl)); (try simp only [Act.put, List.setIfInBounds_toArray, List.set_cons_zero, List.set_cons_succ]))
    (refine held_take 2 (some 40) ?_ rfl (by kernel_rfl) (by kernel_rfl) (by kernel_rfl) (by rfl) (fun _ _ _ h => h) (by assumption) (fun w hSw => ?_) ?_; rotate_left; ((try dsimp only at hSw); simp only [List.getElem?_toArray, List.getElem?_cons_zero, List.getElem?_cons_succ, Option.map_some]; refine congrArg some ?_; go_simp; (try with_reducible rfl)); (try simp only [Act.put, List.setIfInBounds_toArray, List.set_cons_zero, List.set_cons_succ]))
    (refine held_take 3 (some 41) ?_ rfl (by kernel_rfl) (by kernel_rfl) (by kernel_rfl) (by rfl) (fun _ _ _ h => h) (by assumption) (fun w hSw => ?_) ?_; rotate_left; ((try dsimp only at hSw); simp only [List.getElem?_toArray, List.getElem?_cons_zero, List.getElem?_cons_succ, Option.map_some]; refine congrArg some ?_; go_simp; (try with_reducible rfl)); (try simp only [Act.put, List.setIfInBounds_toArray, List.set_cons_zero, List.set_cons_succ]))
    (refine held_take 4 (some 42) ?_ rfl (by kernel_rfl) (by kernel_rfl) (by kernel_rfl) (by rfl) (fun _ _ _ h => h) (by assumption) (fun w hSw => ?_) ?_; rotate_left; ((try dsimp only at hSw); simp only [List.getElem?_toArray, List.getElem?_cons_zero, List.getElem?_cons_succ, Option.map_some]; refine congrArg some ?_; go_simp; (try with_reducible rfl)); (try simp only [Act.put, List.setIfInBounds_toArray, List.set_cons_zero, List.set_cons_succ]))
    (refine held_take 5 (some 43) ?_ rfl (by kernel_rfl) (by kernel_rfl) (by kernel_rfl) (by rfl) (fun _ _ _ h => h) (by assumption) (fun w hSw => ?_) ?_; rotate_left; ((try dsimp only at hSw); simp only [List.getElem?_toArray, List.getElem?_cons_zero, List.getElem?_cons_succ, Option.map_some]; refine congrArg some ?_; go_simp; (try with_reducible rfl)); (try simp only [Act.put, List.setIfInBounds_toArray, List.set_cons_zero, List.set_cons_succ]))
    (refine held_take 6 (some 44) ?_ rfl (by kernel_rfl) (by kernel_rfl) (by kernel_rfl) (by rfl) (fun _ _ _ h => h) (by assumption) (fun w hSw => ?_) ?_; rotate_left; ((try dsimp only at hSw); simp only [List.getElem?_toArray, List.getElem?_cons_zero, List.getElem?_cons_succ, Option.map_some]; refine congrArg some ?_; go_simp; (try with_reducible rfl)); (try simp only [Act.put, List.setIfInBounds_toArray, List.set_cons_zero, List.set_cons_succ]))
    (refine held_take 7 (some 45) ?_ rfl (by kernel_rfl) (by kernel_rfl) (by kernel_rfl) (by rfl) (fun _ _ _ h => h) (by assumption) (fun w hSw => ?_) ?_; rotate_left; ((try dsimp only at hSw); simp only [List.getElem?_toArray, List.getElem?_cons_zero, List.getElem?_cons_succ, Option.map_some]; refine congrArg some ?_; go_simp; (try with_reducible rfl)); (try simp only [Act.put, List.setIfInBounds_toArray, List.set_cons_zero, List.set_cons_succ]))
    (refine held_take 8 (some 46) ?_ rfl (by kernel_rfl) (by kernel_rfl) (by kernel_rfl) (by rfl) (fun _ _ _ h => h) (by assumption) (fun w hSw => ?_) ?_; rotate_left; ((try dsimp only at hSw); simp only [List.getElem?_toArray, List.getElem?_cons_zero, List.getElem?_cons_succ, Option.map_some]; refine congrArg some ?_; go_simp; (try with_reducible rfl)); (try simp only [Act.put, List.setIfInBounds_toArray, List.set_cons_zero, List.set_cons_succ]))
    (refine held_take 9 (some 47) ?_ rfl (by kernel_rfl) (by kernel_rfl) (by kernel_rfl) (by rfl) (fun _ _ _ h => h) (by assumption) (fun w hSw => ?_) ?_; rotate_left; ((try dsimp only at hSw); simp only [List.getElem?_toArray, List.getElem?_cons_zero, List.getElem?_cons_succ, Option.map_some]; refine congrArg some ?_; go_simp; (try with_reducible rfl)); (try simp only [Act.put, List.setIfInBounds_toArray, List.set_cons_zero, List.set_cons_succ]))
    (refine held_take 10 (some 48) ?_ rfl (by kernel_rfl) (by kernel_rfl) (by kernel_rfl) (by rfl) (fun _ _ _ h => h) (by assumption) (fun w hSw => ?_) ?_; rotate_left; ((try dsimp only at hSw); simp only [List.getElem?_toArray, List.getElem?_cons_zero, List.getElem?_cons_succ, Option.map_some]; refine congrArg some ?_; go_simp; (try with_reducible rfl)); (try simp only [Act.put, List.setIfInBounds_toArray, List.set_cons_zero, List.set_cons_succ]))
    (refine held_take 11 (some 49) ?_ rfl (by kernel_rfl) (by kernel_rfl) (by kernel_rfl) (by rfl) (fun _ _ _ h => h) (by assumption) (fun w hSw => ?_) ?_; rotate_left; ((try dsimp only at hSw); simp only [List.getElem?_toArray, List.getElem?_cons_zero, List.getElem?_cons_succ, Option.map_some]; refine congrArg some ?_; go_simp; (try with_reducible rfl)); (try simp only [Act.put, List.setIfInBounds_toArray, List.set_cons_zero, List.set_cons_succ]))
    (refine held_take 12 (some 50) ?_ rfl (by kernel_rfl) (by kernel_rfl) (by kernel_rfl) (by rfl) (fun _ _ _ h => h) (by assumption) (fun w hSw => ?_) ?_; rotate_left; ((try dsimp only at hSw); simp only [List.getElem?_toArray, List.getElem?_cons_zero, List.getElem?_cons_succ, Option.map_some]; refine congrArg some ?_; go_simp; (try with_reducible rfl)); (try simp only [Act.put, List.setIfInBounds_toArray, List.set_cons_zero, List.set_cons_succ]))
    (refine held_take 13 (some 6) ?_ rfl (by kernel_rfl) (by kernel_rfl) (by kernel_rfl) (by rfl) (fun _ _ _ h => h) (by assumption) (fun w hSw => ?_) ?_; rotate_left; ((try dsimp only at hSw); simp only [List.getElem?_toArray, List.getElem?_cons_zero, List.getElem?_cons_succ, Option.map_some]; refine congrArg some ?_; go_simp; (try with_reducible rfl)); (try simp only [Act.put, List.setIfInBounds_toArray, List.set_cons_zero, List.set_cons_succ]))
    refine wpAnyH_done (by kernel_rfl) ?_ _
    rw [W1.out, W2.out]
    have HVN : Hid (max v (x + dry + 1) = LK (k + 1)) := by show _ = _; rw [HX.out, HV.out]
    clear W1 W2
    go_wp2
    go_roundw
    case rel => exact ⟨k + 1, max v (x + dry + 1), by omega, by go_num, rfl, HVN, by exact (by repeat (first | with_reducible exact Below.refl _ _ | with_reducible assumption | with_reducible refine Below.drew ?_ | with_reducible refine below_drewN ?_ _ | (with_reducible refine Below.alloc ?_ ?_ _; rotate_left; (try simp) <;> omega) | (with_reducible refine Below.setCell ?_ ?_ _; rotate_left; (try simp) <;> omega)))⟩
    case measure => simp [intOf]; omega
  · obtain rfl : k = af.length := by omega
    clear hlt
    go_wp2
    go_ret
    exact int_end (by rw [HV.out, HS.out]) hbw
end Go.Proofs.Ytjgnikmnadmheaa
