/- giornatalaw07.may, walked. Printed by wip/gen_z14.py. -/
import Derived.Test.YtjgnikmnadmheaaG02
import Derived.Test.YtjgnikmnadmheaaG79
import Derived.Test.YtjgnikmnadmheaaG84

namespace Go.Proofs.Ytjgnikmnadmheaa
open Go.RowKit

set_option maxRecDepth 100000 in
set_option maxHeartbeats 6000000 in
theorem may_any (C : Array Value) (Y : Yd) (l : List Tk) (A : Option Addr) (c : Nat) (old : List Tu) (T : Option Addr) (ct : Nat) (D : List Int) (DA : Option Addr) (cD dn : Nat) (f : Int) (w : World) (hY : YardAt w w.heap.size C Y) (hs : Small Y) (hT : TasksAt w w.heap.size A l) (ht : tame l)
    (hP : Lies w w.heap.size T (turnsC old)) (hD : Lies w w.heap.size DA (ints D)) (hn : D.length ≤ 1000) (ho : old.length ≤ 20) (hcom : comE Y l = 0) (hdl : dn ≤ l.length) (hdo : dn ≤ old.length) (hst : stayB old f dn = true) (hf : 0 ≤ f ∧ f ≤ 100000) (hDv : ∀ x ∈ D, i64v x) (hgi : ∀ t ∈ old, i64v t.day) :
    Calls Try.prog 27 #[.agg C, .slice A l.length c, .agg #[.slice T old.length ct], .slice DA D.length cD, .int .i64 dn, .int .i64 f] w (ShEnd (mayB Y l f old dn D) w) := by
  obtain ⟨hok, hvt⟩ := com_ok hcom
  have hv := okY_valid hok
  have hl12 := hvt.n
  obtain ⟨hf0, hf1⟩ := hf
  have HLOAD := load_any hY
  have HC28 := Lib.hid hY.len
  have hu29 := Try.underlying29
  have h28 : C.toList.length = 28 := HC28.out
  have hi29 : (Try.prog.info? 29).map (·.size) = some C.toList.length := by rw [h28]; exact info29
  clear h28
  have e27 := Lib.hid hY.dry
  have hdry := hv.dry
  have HFI : Hid (∀ W : World, Below w.heap.size w W → ∀ (i : Nat) (h : i < l.length) (d : Int), Calls Try.prog 59 #[.agg C, .slice A l.length c, .int .i64 i, .int .i64 d] W (ShEnd (suitB Y l[i] i d) W)) := fun W hb i h d => by
    have h1 := fits_any C Y l A c i d W ((hY.below hb (Nat.le_refl _)).more hb.size) hs ((hT.below hb (Nat.le_refl _)).more hb.size) ht
    have h2 : fitB Y l i d = suitB Y l[i] i d := by
      unfold fitB
      rw [decide_eq_true hcom, Bool.true_and, inB_iff.2 (by omega), Bool.true_and, fitS_at h]
    rw [h2] at h1
    exact h1
  have HDW := Lib.hid (fun W (hb : Below w.heap.size w W) => hD.below hb (Nat.le_refl _))
  have HPW := Lib.hid (fun W (hb : Below w.heap.size w W) => hP.below hb (Nat.le_refl _))
  have HTW := Lib.hid (fun W (hb : Below w.heap.size w W) => hT.below hb (Nat.le_refl _))
  have HAF := Lib.hid (fun i (h : i < l.length) => hvt.af i h)
  have HAN := Lib.hid (fun i (h : i < l.length) => (ht.2 l[i] (List.getElem_mem h)).1)
  have HDV := Lib.hid hDv
  have HGI := Lib.hid hgi
  have HST := Lib.hid hst
  have HFW : Hid (IntKind.i64.wrap (f + 400) = f + 400) := IntWalk.i64_in _ (by omega)
  have b6 : Bk ((w.alloc (.cells C 29)).alloc (.cells #[.slice T old.length ct] 42)) w.heap.size 29 C := (Bk.new _ _ _).alloc _
  have b8 : Bk ((w.alloc (.cells C 29)).alloc (.cells #[.slice T old.length ct] 42)) (w.heap.size + 1) 42 #[.slice T old.length ct] := by simpa using Bk.new (w.alloc (.cells C 29)) 42 #[.slice T old.length ct]
  have hb0 : Below w.heap.size w ((w.alloc (.cells C 29)).alloc (.cells #[.slice T old.length ct] 42)) := by exact (by repeat (first | with_reducible exact Below.refl _ _ | with_reducible assumption | with_reducible refine Below.drew ?_ | with_reducible refine below_drewN ?_ _ | (with_reducible refine Below.alloc ?_ ?_ _; rotate_left; (try simp) <;> omega) | (with_reducible refine Below.setCell ?_ ?_ _; rotate_left; (try simp) <;> omega)))
  have x8 := b8.cell 0 rfl
  clear hv hvt hok hcom hY hT hP hD hs ht hDv hgi hst
  have hlI : (l.length : Int) ≤ 12 := by omega
  by_cases hl : D.length = l.length
  · have HL := Lib.hid hl
    have hle1 : D.length ≤ l.length := by omega
    have hle2 : l.length ≤ D.length := by omega
    have hdlI : (dn : Int) ≤ (l.length : Int) := by omega
    have hdoI : (dn : Int) ≤ (old.length : Int) := by omega
    have hdlN : ¬ (l.length : Int) < (dn : Int) := by omega
    have hdoN : ¬ (old.length : Int) < (dn : Int) := by omega
    have hdn0 : 0 ≤ (dn : Int) := by omega
    have hdnN : ¬ (dn : Int) < 0 := by omega
    have hneq : ((D.length : Int) != (l.length : Int)) = false := by rw [hl]; simp
    clear hl
    go_enter Try.func27, Try.ntmps27
    go_wp2
    go_loopw [13] (fun y wr => ∃ i : Nat, i ≤ D.length ∧ y = .int .i64 (i : Int) ∧ Hid (∀ j, j < i → mayAt Y l f old dn D j = true) ∧ Below w.heap.size w wr ∧ Bk wr w.heap.size 29 C ∧ Bk wr (w.heap.size + 1) 42 #[.slice T old.length ct]) (fun y _ => D.length - (intOf y).toNat)
    case atStart => exact ⟨0, Nat.zero_le _, rfl, fun j hj => absurd hj (Nat.not_lt_zero _), hb0, b6, b8⟩
    case round =>
    clear hb0 b6 b8 x8 hneq
    obtain ⟨i, hi, rfl, HM, hbw, h6, h8⟩ := hrel
    have hbs := hbw.size
    have x8 := h8.cell 0 rfl
    by_cases hlt : i < D.length
    · have hli : i < l.length := by omega
      have hiI : (i : Int) < (D.length : Int) := by omega
      have hiL : (i : Int) < (l.length : Int) := by omega
      have hi0 : 0 ≤ (i : Int) := by omega
      have HBD := Lib.hid (may_bd HL.out HST.out hdo hf0 hf1 hi HM.out)
      have HMA := Lib.hid (mayAt_iff (Y := Y) (f := f) (old := old) (dn := dn) (D := D) hli)
      have HNO := Lib.hid (fun h => mayB_no (Y := Y) (l := l) (f := f) (old := old) (dn := dn) hlt h)
      obtain ⟨a1, rfl, _, t0⟩ := int_at (HDW.out wr hbw) hlt
      have HXI : Hid (D.getD i 0 = D[i]) := by show _ = _; rw [List.getD_eq_getElem?_getD, List.getElem?_eq_getElem hlt]; rfl
      have hxv := HDV.out _ (List.getElem_mem hlt)
      obtain ⟨xi, HXI2⟩ : ∃ x, Hid (D[i]'hlt = x) := ⟨D[i]'hlt, (rfl : D[i]'hlt = D[i]'hlt)⟩
      rw [HXI2.out] at t0 HXI hxv
      rw [HXI.out] at HMA
      generalize hRE : mayB Y l f old dn D = R at *
      have HRE := Lib.hid hRE
      clear hRE
      generalize hMM : mayAt Y l f old dn D i = MM at *
      have HMM := Lib.hid hMM
      clear hMM
      by_cases hd : i < dn
      · have hdI : (i : Int) < (dn : Int) := by omega
        have hio : i < old.length := by omega
        have hioI : (i : Int) < (old.length : Int) := by omega
        have hda : dayAt old i = some old[i].day := by unfold dayAt; rw [List.getElem?_eq_getElem hio]; rfl
        obtain ⟨a2, rfl, _, s0, _, _⟩ := turn_at (HPW.out wr hbw) hio
        rw [hda] at HMA
        clear hda
        generalize old[i].day = oi at *
        by_cases hxo : xi = oi
        · have hxb : (xi != oi) = false := by simpa using hxo
          have HXO := Lib.hid hxo
          clear hxo
          by_cases h0 : i = 0
          · have HG : Hid (MM = true) := HMA.out.2 ⟨.inr (by rw [HXO.out]), .inl h0, .inl hd⟩
            have h0b : decide ((0 : Int) < (i : Int)) = false := decide_eq_false (by omega)
            have h0c : decide (0 < i) = false := decide_eq_false (by omega)
            have H0 := Lib.hid h0
            clear h0 HMA HNO
            go_upto_region 6 with fail
            refine wp_region_held_drew (S := (fun w' => (w'.cell? ⟨w.heap.size + 1, 0, none⟩ = some (.slice (some a2) old.length ct) ∧ w'.cell? (a1.add i) = some (.int .i64 xi)) ∧ w'.cell? (a2.add (i * 3)) = some (.int .i64 oi))) (by kernel_rfl) ?_ (fun hHeld => ?_)
            · exact ⟨⟨x8, t0⟩, s0⟩
            refine tk 0 43 ?_
            refine tk 1 44 ?_
            refine tk 2 45 ?_
            refine tk 3 46 ?_
            refine tk 4 47 ?_
            refine tk 5 48 ?_
            refine tk 6 49 ?_
            refine tk 7 50 ?_
            refine tk 8 51 ?_
            refine tk 9 52 ?_
            refine tk 10 53 ?_
            refine tk 11 54 ?_
            refine tk 12 55 ?_
            refine tk 13 56 ?_
            refine tk 14 57 ?_
            refine tk 15 58 ?_
            refine tk 16 59 ?_
            refine tk 17 60 ?_
            refine tk 18 61 ?_
            refine tk 19 62 ?_
            refine sk 20 63 ?_
            refine sk 21 64 ?_
            refine sk 22 65 ?_
            refine sk 23 66 ?_
            refine sk 24 67 ?_
            refine sk 25 68 ?_
            refine sk 26 69 ?_
            refine sk 27 70 ?_
            refine sk 28 71 ?_
            refine sk 29 72 ?_
            refine tk 30 73 ?_
            refine tk 31 74 ?_
            refine wpAnyH_done (by kernel_rfl) ?_ _
            clear hHeld
            go_wp2
            go_roundw
            case rel => exact ⟨i + 1, by omega, by go_num, fun j hj => (by
              by_cases e : j = i
              · rw [e, HMM.out]; exact HG.out
              · exact HM.out j (by omega)), hbw.drew, h6.drew, h8.drew⟩
            case measure => simp [intOf] <;> omega
          · have h0b : decide ((0 : Int) < (i : Int)) = true := decide_eq_true (by omega)
            have h0p : 0 < i := by omega
            have hip : i - 1 < D.length := by omega
            obtain ⟨a1', e1, _, p0⟩ := int_at (HDW.out wr hbw) hip
            cases e1
            have HXP : Hid (D.getD (i - 1) 0 = D[i - 1]'hip) := by show _ = _; rw [List.getD_eq_getElem?_getD, List.getElem?_eq_getElem hip]; rfl
            generalize D[i - 1]'hip = xp at *
            have hkd : ((i : Int) - 1).toNat = i - 1 := by omega
            have hk1 : 0 ≤ (i : Int) - 1 := by omega
            have hk2 : (i : Int) - 1 < (D.length : Int) := by omega
            have hk3 : 1 ≤ (i : Int) := by omega
            have hsub0 : Hid (IntKind.i64.wrap ((i : Int) - 1) = (i : Int) - 1) := IntWalk.i64_in _ (by omega)
            by_cases hp : xi ≤ xp
            · have HG : Hid (R = false) := HNO.out (by
                rw [Bool.eq_false_iff]
                intro e
                have := (HMA.out.1 e).2.1
                rw [HXP.out] at this
                omega)
              have hpb : decide (xi ≤ xp) = true := decide_eq_true hp
              clear HMA HNO
              have hsub := hsub0.out
              go_upto_region 6 with fail
              refine wp_region_held_drew (S := (fun w' => (w'.cell? ⟨w.heap.size + 1, 0, none⟩ = some (.slice (some a2) old.length ct) ∧ w'.cell? (a1.add i) = some (.int .i64 xi)) ∧ w'.cell? (a2.add (i * 3)) = some (.int .i64 oi) ∧ w'.cell? (a1.add (i - 1)) = some (.int .i64 xp))) (by kernel_rfl) ?_ (fun hHeld => ?_)
              · exact ⟨⟨x8, t0⟩, s0, p0⟩
              refine tk 0 43 ?_
              refine tk 1 44 ?_
              refine tk 2 45 ?_
              refine tk 3 46 ?_
              refine tk 4 47 ?_
              refine tk 5 48 ?_
              refine tk 6 49 ?_
              refine tk 7 50 ?_
              refine tk 8 51 ?_
              refine tk 9 52 ?_
              refine tk 10 53 ?_
              refine tk 11 54 ?_
              refine tk 12 55 ?_
              refine tk 13 56 ?_
              refine tk 14 57 ?_
              refine tk 15 58 ?_
              refine tk 16 59 ?_
              refine tk 17 60 ?_
              refine tk 18 61 ?_
              refine tk 19 62 ?_
              refine tk 20 63 ?_
              refine tk 21 64 ?_
              refine tk 22 65 ?_
              refine tk 23 66 ?_
              refine tk 24 67 ?_
              refine tk 25 68 ?_
              refine tk 26 69 ?_
              refine tk 27 70 ?_
              refine tk 28 71 ?_
              refine tk 29 72 ?_
              refine tk 30 73 ?_
              refine tk 31 74 ?_
              refine wpAnyH_done (by kernel_rfl) ?_ _
              clear hHeld hsub
              go_wp2
              go_ret
              exact sh_ret HG.out.symm hbw.drew
            · have HG : Hid (MM = true) := HMA.out.2 ⟨.inr (by rw [HXO.out]), .inr (by rw [HXP.out]; omega), .inl hd⟩
              have hpb : decide (xi ≤ xp) = false := decide_eq_false hp
              clear HMA HNO
              have hsub := hsub0.out
              go_upto_region 6 with fail
              refine wp_region_held_drew (S := (fun w' => (w'.cell? ⟨w.heap.size + 1, 0, none⟩ = some (.slice (some a2) old.length ct) ∧ w'.cell? (a1.add i) = some (.int .i64 xi)) ∧ w'.cell? (a2.add (i * 3)) = some (.int .i64 oi) ∧ w'.cell? (a1.add (i - 1)) = some (.int .i64 xp))) (by kernel_rfl) ?_ (fun hHeld => ?_)
              · exact ⟨⟨x8, t0⟩, s0, p0⟩
              refine tk 0 43 ?_
              refine tk 1 44 ?_
              refine tk 2 45 ?_
              refine tk 3 46 ?_
              refine tk 4 47 ?_
              refine tk 5 48 ?_
              refine tk 6 49 ?_
              refine tk 7 50 ?_
              refine tk 8 51 ?_
              refine tk 9 52 ?_
              refine tk 10 53 ?_
              refine tk 11 54 ?_
              refine tk 12 55 ?_
              refine tk 13 56 ?_
              refine tk 14 57 ?_
              refine tk 15 58 ?_
              refine tk 16 59 ?_
              refine tk 17 60 ?_
              refine tk 18 61 ?_
              refine tk 19 62 ?_
              refine tk 20 63 ?_
              refine tk 21 64 ?_
              refine tk 22 65 ?_
              refine tk 23 66 ?_
              refine tk 24 67 ?_
              refine tk 25 68 ?_
              refine tk 26 69 ?_
              refine tk 27 70 ?_
              refine tk 28 71 ?_
              refine tk 29 72 ?_
              refine tk 30 73 ?_
              refine tk 31 74 ?_
              refine wpAnyH_done (by kernel_rfl) ?_ _
              clear hHeld hsub
              go_wp2
              go_roundw
              case rel => exact ⟨i + 1, by omega, by go_num, fun j hj => (by
                by_cases e : j = i
                · rw [e, HMM.out]; exact HG.out
                · exact HM.out j (by omega)), hbw.drew, h6.drew, h8.drew⟩
              case measure => simp [intOf] <;> omega
        · have hxb : (xi != oi) = true := by simpa using hxo
          have HG : Hid (R = false) := HNO.out (by
            rw [Bool.eq_false_iff]
            intro e
            rcases (HMA.out.1 e).1 with h | h
            · omega
            · exact hxo (Option.some.inj h).symm)
          clear HMA HNO hxo
          go_upto_region 6 with fail
          refine wp_region_held_drew (S := (fun w' => (w'.cell? ⟨w.heap.size + 1, 0, none⟩ = some (.slice (some a2) old.length ct) ∧ w'.cell? (a1.add i) = some (.int .i64 xi)) ∧ w'.cell? (a2.add (i * 3)) = some (.int .i64 oi))) (by kernel_rfl) ?_ (fun hHeld => ?_)
          · exact ⟨⟨x8, t0⟩, s0⟩
          refine tk 0 43 ?_
          refine tk 1 44 ?_
          refine tk 2 45 ?_
          refine tk 3 46 ?_
          refine tk 4 47 ?_
          refine tk 5 48 ?_
          refine tk 6 49 ?_
          refine tk 7 50 ?_
          refine tk 8 51 ?_
          refine tk 9 52 ?_
          refine tk 10 53 ?_
          refine tk 11 54 ?_
          refine tk 12 55 ?_
          refine tk 13 56 ?_
          refine tk 14 57 ?_
          refine tk 15 58 ?_
          refine tk 16 59 ?_
          refine sk 17 60 ?_
          refine sk 18 61 ?_
          refine sk 19 62 ?_
          refine sk 20 63 ?_
          refine sk 21 64 ?_
          refine sk 22 65 ?_
          refine sk 23 66 ?_
          refine sk 24 67 ?_
          refine sk 25 68 ?_
          refine sk 26 69 ?_
          refine sk 27 70 ?_
          refine sk 28 71 ?_
          refine sk 29 72 ?_
          refine sk 30 73 ?_
          refine tk 31 74 ?_
          refine wpAnyH_done (by kernel_rfl) ?_ _
          clear hHeld
          go_wp2
          go_ret
          exact sh_ret HG.out.symm hbw.drew
      · have hdI : ¬ (i : Int) < (dn : Int) := by omega
        have hdb : decide ((i : Int) < (dn : Int)) = false := decide_eq_false hdI
        by_cases h0 : i = 0
        · have HPP : Hid (i = 0 ∨ D.getD (i - 1) 0 < xi) := .inl h0
          have h0b : decide ((0 : Int) < (i : Int)) = false := decide_eq_false (by omega)
          have h0c : decide (0 < i) = false := decide_eq_false (by omega)
          have H0 := Lib.hid h0
          clear h0
          by_cases q1 : f ≤ xi
          · by_cases q2 : xi < f + 400
            · cases hsu : suitB Y l[i] i xi with
              | false =>
                have HSB := Lib.hid hsu
                have HG : Hid (R = false) := HNO.out (by
                  rw [Bool.eq_false_iff]
                  intro e
                  rcases (HMA.out.1 e).2.2 with h | h
                  · omega
                  · rw [hsu] at h; exact absurd h.2.2.1 (by decide))
                clear HMA HNO
                clear hsu
                have qb1 : decide (xi < f) = false := decide_eq_false (by omega)
                have q1n : ¬ xi < f := by omega
                have qb2 : decide (f + 400 ≤ xi) = false := decide_eq_false (by omega)
                have q2n : ¬ f + 400 ≤ xi := by omega
                go_upto_region 6 with fail
                refine wp_region_held_drew (S := (fun w' => w'.cell? (a1.add i) = some (.int .i64 xi))) (by kernel_rfl) ?_ (fun hHeld => ?_)
                · exact t0
                refine tk 0 43 ?_
                refine tk 1 44 ?_
                refine tk 2 45 ?_
                refine tk 3 46 ?_
                refine sk 4 47 ?_
                refine sk 5 48 ?_
                refine sk 6 49 ?_
                refine sk 7 50 ?_
                refine sk 8 51 ?_
                refine sk 9 52 ?_
                refine sk 10 53 ?_
                refine sk 11 54 ?_
                refine sk 12 55 ?_
                refine sk 13 56 ?_
                refine sk 14 57 ?_
                refine tk 15 58 ?_
                refine tk 16 59 ?_
                refine tk 17 60 ?_
                refine tk 18 61 ?_
                refine tk 19 62 ?_
                refine sk 20 63 ?_
                refine sk 21 64 ?_
                refine sk 22 65 ?_
                refine sk 23 66 ?_
                refine sk 24 67 ?_
                refine sk 25 68 ?_
                refine sk 26 69 ?_
                refine sk 27 70 ?_
                refine sk 28 71 ?_
                refine sk 29 72 ?_
                refine tk 30 73 ?_
                refine tk 31 74 ?_
                refine wpAnyH_done (by kernel_rfl) ?_ _
                clear hHeld
                have hfw := HFW.out
                go_upto_region 9 with fail
                refine wp_region_held_drew (S := (fun w' => w'.rangeAt w.heap.size 0 C.toList ∧ w'.cell? (a1.add i) = some (.int .i64 xi))) (by kernel_rfl) ?_ (fun hHeld => ?_)
                · exact ⟨(by exact (by repeat (first | with_reducible assumption | with_reducible exact Bk.new _ _ _ | with_reducible refine Bk.drew ?_ | with_reducible refine Bk.drewN ?_ _ | with_reducible refine Bk.alloc ?_ _ | (with_reducible refine Bk.far ?_ ?_ _; rotate_left; (try simp) <;> omega))) : Bk _ w.heap.size 29 C).range, t0⟩
                refine tk 0 78 ?_
                refine tk 1 79 ?_
                refine tk 2 80 ?_
                refine tk 3 81 ?_
                refine tk 4 82 ?_
                refine tk 5 83 ?_
                refine tk 6 84 ?_
                refine tk 7 85 ?_
                refine tk 8 86 ?_
                refine tk 9 87 ?_
                refine tk 10 88 ?_
                refine tk 11 89 ?_
                refine tk 12 90 ?_
                refine tk 13 91 ?_
                refine tk 14 92 ?_
                refine tk 15 93 ?_
                (refine held_row 16 (some 94) 29 (.tmp 6) (w.heap.size) 0 C.toList _ rfl rfl (by kernel_rfl) (by kernel_rfl) (by kernel_rfl) (by rfl) rfl (fun _ _ _ h => h) (by assumption) (fun _ hS => hS.1) Try.underlying29 rfl (by assumption) ?_; (try simp only [Act.put, List.setIfInBounds_toArray, List.set_cons_zero, List.set_cons_succ]))
                refine tk 17 95 ?_
                refine tk 18 96 ?_
                refine tk 19 97 ?_
                refine tk 20 98 ?_
                refine tk 21 99 ?_
                refine tk 22 100 ?_
                (refine held_call 23 (some 101) 59 _ rfl (by kernel_rfl) (by rfl) ?_ ((HFI.out _ (by exact (by repeat (first | with_reducible exact Below.refl _ _ | with_reducible assumption | with_reducible refine Below.drew ?_ | with_reducible refine below_drewN ?_ _ | (with_reducible refine Below.alloc ?_ ?_ _; rotate_left; (try simp) <;> omega) | (with_reducible refine Below.setCell ?_ ?_ _; rotate_left; (try simp) <;> omega)))) i hli xi)) ?_; rotate_left; rotate_left; (simp only [List.getElem?_toArray, List.getElem?_cons_zero, List.getElem?_cons_succ, Option.map_some]; refine congrArg some ?_; go_simp))
                rintro e w4 ⟨rfl, hb4⟩
                rw [HSB.out]
                have hB4 : Below w.heap.size w w4 := Below.trans (by exact (by repeat (first | with_reducible exact Below.refl _ _ | with_reducible assumption | with_reducible refine Below.drew ?_ | with_reducible refine below_drewN ?_ _ | (with_reducible refine Below.alloc ?_ ?_ _; rotate_left; (try simp) <;> omega) | (with_reducible refine Below.setCell ?_ ?_ _; rotate_left; (try simp) <;> omega)))) (hb4.mono (by first | exact hbs | (simp; exact hbs)))
                have h64 : Bk w4 w.heap.size 29 C := Bk.below (by exact (by repeat (first | with_reducible assumption | with_reducible exact Bk.new _ _ _ | with_reducible refine Bk.drew ?_ | with_reducible refine Bk.drewN ?_ _ | with_reducible refine Bk.alloc ?_ _ | (with_reducible refine Bk.far ?_ ?_ _; rotate_left; (try simp) <;> omega)))) hb4 (by first | exact h6.lt | (simp; exact h6.lt))
                have h84 : Bk w4 (w.heap.size + 1) 42 #[.slice T old.length ct] := Bk.below (by exact (by repeat (first | with_reducible assumption | with_reducible exact Bk.new _ _ _ | with_reducible refine Bk.drew ?_ | with_reducible refine Bk.drewN ?_ _ | with_reducible refine Bk.alloc ?_ _ | (with_reducible refine Bk.far ?_ ?_ _; rotate_left; (try simp) <;> omega)))) hb4 (by first | exact h8.lt | (simp; exact h8.lt))
                have t4 : w4.cell? (a1.add i) = some (.int .i64 xi) := by (obtain ⟨a1', e1, _, t4⟩ := int_at (HDW.out w4 hB4) hlt; cases e1; rw [HXI2.out] at t4; exact t4)
                refine ⟨_, rfl, ⟨h64.range, t4⟩, fun hHeld => ?_⟩
                (try simp only [Act.put, List.setIfInBounds_toArray, List.set_cons_zero, List.set_cons_succ])
                refine tk 24 102 ?_
                refine tk 25 103 ?_
                refine wpAnyH_done (by kernel_rfl) ?_ _
                clear hHeld hfw
                go_wp2
                go_ret
                exact sh_ret HG.out.symm hB4
              | true =>
                have HSB := Lib.hid hsu
                have qb1 : decide (xi < f) = false := decide_eq_false (by omega)
                have q1n : ¬ xi < f := by omega
                have qb2 : decide (f + 400 ≤ xi) = false := decide_eq_false (by omega)
                have q2n : ¬ f + 400 ≤ xi := by omega
                go_upto_region 6 with fail
                refine wp_region_held_drew (S := (fun w' => w'.cell? (a1.add i) = some (.int .i64 xi))) (by kernel_rfl) ?_ (fun hHeld => ?_)
                · exact t0
                refine tk 0 43 ?_
                refine tk 1 44 ?_
                refine tk 2 45 ?_
                refine tk 3 46 ?_
                refine sk 4 47 ?_
                refine sk 5 48 ?_
                refine sk 6 49 ?_
                refine sk 7 50 ?_
                refine sk 8 51 ?_
                refine sk 9 52 ?_
                refine sk 10 53 ?_
                refine sk 11 54 ?_
                refine sk 12 55 ?_
                refine sk 13 56 ?_
                refine sk 14 57 ?_
                refine tk 15 58 ?_
                refine tk 16 59 ?_
                refine tk 17 60 ?_
                refine tk 18 61 ?_
                refine tk 19 62 ?_
                refine sk 20 63 ?_
                refine sk 21 64 ?_
                refine sk 22 65 ?_
                refine sk 23 66 ?_
                refine sk 24 67 ?_
                refine sk 25 68 ?_
                refine sk 26 69 ?_
                refine sk 27 70 ?_
                refine sk 28 71 ?_
                refine sk 29 72 ?_
                refine tk 30 73 ?_
                refine tk 31 74 ?_
                refine wpAnyH_done (by kernel_rfl) ?_ _
                clear hHeld
                have hfw := HFW.out
                go_upto_region 9 with fail
                refine wp_region_held_drew (S := (fun w' => w'.rangeAt w.heap.size 0 C.toList ∧ w'.cell? (a1.add i) = some (.int .i64 xi))) (by kernel_rfl) ?_ (fun hHeld => ?_)
                · exact ⟨(by exact (by repeat (first | with_reducible assumption | with_reducible exact Bk.new _ _ _ | with_reducible refine Bk.drew ?_ | with_reducible refine Bk.drewN ?_ _ | with_reducible refine Bk.alloc ?_ _ | (with_reducible refine Bk.far ?_ ?_ _; rotate_left; (try simp) <;> omega))) : Bk _ w.heap.size 29 C).range, t0⟩
                refine tk 0 78 ?_
                refine tk 1 79 ?_
                refine tk 2 80 ?_
                refine tk 3 81 ?_
                refine tk 4 82 ?_
                refine tk 5 83 ?_
                refine tk 6 84 ?_
                refine tk 7 85 ?_
                refine tk 8 86 ?_
                refine tk 9 87 ?_
                refine tk 10 88 ?_
                refine tk 11 89 ?_
                refine tk 12 90 ?_
                refine tk 13 91 ?_
                refine tk 14 92 ?_
                refine tk 15 93 ?_
                (refine held_row 16 (some 94) 29 (.tmp 6) (w.heap.size) 0 C.toList _ rfl rfl (by kernel_rfl) (by kernel_rfl) (by kernel_rfl) (by rfl) rfl (fun _ _ _ h => h) (by assumption) (fun _ hS => hS.1) Try.underlying29 rfl (by assumption) ?_; (try simp only [Act.put, List.setIfInBounds_toArray, List.set_cons_zero, List.set_cons_succ]))
                refine tk 17 95 ?_
                refine tk 18 96 ?_
                refine tk 19 97 ?_
                refine tk 20 98 ?_
                refine tk 21 99 ?_
                refine tk 22 100 ?_
                (refine held_call 23 (some 101) 59 _ rfl (by kernel_rfl) (by rfl) ?_ ((HFI.out _ (by exact (by repeat (first | with_reducible exact Below.refl _ _ | with_reducible assumption | with_reducible refine Below.drew ?_ | with_reducible refine below_drewN ?_ _ | (with_reducible refine Below.alloc ?_ ?_ _; rotate_left; (try simp) <;> omega) | (with_reducible refine Below.setCell ?_ ?_ _; rotate_left; (try simp) <;> omega)))) i hli xi)) ?_; rotate_left; rotate_left; (simp only [List.getElem?_toArray, List.getElem?_cons_zero, List.getElem?_cons_succ, Option.map_some]; refine congrArg some ?_; go_simp))
                rintro e w4 ⟨rfl, hb4⟩
                rw [HSB.out]
                have hB4 : Below w.heap.size w w4 := Below.trans (by exact (by repeat (first | with_reducible exact Below.refl _ _ | with_reducible assumption | with_reducible refine Below.drew ?_ | with_reducible refine below_drewN ?_ _ | (with_reducible refine Below.alloc ?_ ?_ _; rotate_left; (try simp) <;> omega) | (with_reducible refine Below.setCell ?_ ?_ _; rotate_left; (try simp) <;> omega)))) (hb4.mono (by first | exact hbs | (simp; exact hbs)))
                have h64 : Bk w4 w.heap.size 29 C := Bk.below (by exact (by repeat (first | with_reducible assumption | with_reducible exact Bk.new _ _ _ | with_reducible refine Bk.drew ?_ | with_reducible refine Bk.drewN ?_ _ | with_reducible refine Bk.alloc ?_ _ | (with_reducible refine Bk.far ?_ ?_ _; rotate_left; (try simp) <;> omega)))) hb4 (by first | exact h6.lt | (simp; exact h6.lt))
                have h84 : Bk w4 (w.heap.size + 1) 42 #[.slice T old.length ct] := Bk.below (by exact (by repeat (first | with_reducible assumption | with_reducible exact Bk.new _ _ _ | with_reducible refine Bk.drew ?_ | with_reducible refine Bk.drewN ?_ _ | with_reducible refine Bk.alloc ?_ _ | (with_reducible refine Bk.far ?_ ?_ _; rotate_left; (try simp) <;> omega)))) hb4 (by first | exact h8.lt | (simp; exact h8.lt))
                have t4 : w4.cell? (a1.add i) = some (.int .i64 xi) := by (obtain ⟨a1', e1, _, t4⟩ := int_at (HDW.out w4 hB4) hlt; cases e1; rw [HXI2.out] at t4; exact t4)
                refine ⟨_, rfl, ⟨h64.range, t4⟩, fun hHeld => ?_⟩
                (try simp only [Act.put, List.setIfInBounds_toArray, List.set_cons_zero, List.set_cons_succ])
                refine tk 24 102 ?_
                refine tk 25 103 ?_
                refine wpAnyH_done (by kernel_rfl) ?_ _
                clear hHeld hfw
                have h6l := h64.lt
                clear HNO hxv t0 h6 h8
                have HKE : Hid (∀ W, Below w.heap.size w W → W.cell? (a1.add i) = some (.int .i64 xi)) := fun W hb => by (obtain ⟨a1', e1, _, t5⟩ := int_at (HDW.out W hb) hlt; cases e1; rw [HXI2.out] at t5; exact t5)
                obtain ⟨at_, rfl, hat, _, _, c2, _⟩ := task_at (HTW.out w4 hB4).at_ hli
                have HC2 : Hid (∀ W, Below w.heap.size w W → W.cell? ⟨(at_.add (i * 4)).block, (at_.add (i * 4)).off + 2, none⟩ = some (.slice l[i].aA l[i].af.length l[i].ac)) := fun W hb => by (obtain ⟨at2, e2, _, _, _, c3, _⟩ := task_at (HTW.out W hb).at_ hli; cases e2; exact c3)
                have HTA := Lib.hid (fun W (hb : Below w.heap.size w W) => (HTW.out W hb).af l[i] (List.getElem_mem hli))
                have HAI := Lib.hid (HAF.out i hli)
                have han := HAN.out i hli
                have HQ : Hid ((∀ k ∈ l[i].af, D.getD k.toNat 0 + Y.dry < xi) → MM = true) := fun h => HMA.out.2 ⟨.inl (by omega), HPP.out, .inr ⟨q1, q2, HSB.out, h⟩⟩
                have HQN : Hid (∀ k ∈ l[i].af, ¬ (D.getD k.toNat 0 + Y.dry < xi) → R = false) := fun k hk h => mayB_no' HRE.out hlt (by
                  rw [HMM.out, Bool.eq_false_iff]
                  intro e
                  rcases (HMA.out.1 e).2.2 with h1 | h1
                  · omega
                  · exact h (h1.2.2.2 k hk))
                clear HFI HMA c2 HSB HPP
                generalize l[i] = t at *
                obtain ⟨wk, nd, aA, ac, af, cA, cc, co⟩ := t
                dsimp only at *
                go_wp2
                go_loopw [14] (fun y wr => ∃ m : Nat, m ≤ af.length ∧ y = .int .i64 (m : Int) ∧ Hid (∀ j (h : j < af.length), j < m → D.getD af[j].toNat 0 + Y.dry < xi) ∧ Below w.heap.size w wr ∧ Bk wr w.heap.size 29 C ∧ Bk wr (w.heap.size + 1) 42 #[.slice T old.length ct]) (fun y _ => af.length - (intOf y).toNat)
                case atStart => exact ⟨0, Nat.zero_le _, rfl, fun j h hj => absurd hj (Nat.not_lt_zero _), hB4, h64, h84⟩
                case round =>
                clear hB4 h64 h84 h6l t4 hb4
                obtain ⟨m, hm, rfl, HI, hbq, h6q, h8q⟩ := hrel
                have hbqs := hbq.size
                have c2 := HC2.out wr hbq
                by_cases hml : m < af.length
                · have hmI : (m : Int) < (af.length : Int) := by omega
                  have hm0 : 0 ≤ (m : Int) := by omega
                  obtain ⟨a3, rfl, _, d0⟩ := int_at (HTA.out wr hbq) hml
                  have hkb := HAI.out af[m] (List.getElem_mem hml)
                  have HKM := HQN.out af[m] (List.getElem_mem hml)
                  obtain ⟨kn, hkn⟩ : ∃ kn : Nat, af[m]'hml = (kn : Int) := ⟨(af[m]'hml).toNat, by omega⟩
                  have HKN := Lib.hid hkn
                  rw [hkn] at d0 hkb HKM
                  rw [Int.toNat_natCast] at HKM
                  have HKO := Lib.hid HKM
                  clear hkn HKM
                  have hknD : kn < D.length := by omega
                  have hknI : (kn : Int) < (D.length : Int) := by omega
                  have hkn0 : 0 ≤ (kn : Int) := by omega
                  obtain ⟨a1', e1, _, u0⟩ := int_at (HDW.out wr hbq) hknD
                  cases e1
                  have HXK : Hid (D.getD kn 0 = D[kn]'hknD) := by show _ = _; rw [List.getD_eq_getElem?_getD, List.getElem?_eq_getElem hknD]; rfl
                  have hbk := HBD.out kn (by omega)
                  rw [HXK.out] at hbk
                  generalize D[kn]'hknD = xk at *
                  have t0 := HKE.out wr hbq
                  have y27 := h6q.cell 27 e27.out
                  obtain ⟨hbk1, hbk2⟩ := hbk
                  have HSU : Hid (IntKind.i64.wrap (xk + Y.dry) = xk + Y.dry) := IntWalk.i64_in _ (by omega)
                  by_cases hle : xi ≤ xk + Y.dry
                  · have HG : Hid (R = false) := HKO.out (by rw [HXK.out]; omega)
                    have hlb : decide (xi ≤ xk + Y.dry) = true := decide_eq_true hle
                    clear HKO HQ HQN
                    have hsum := HSU.out
                    go_upto_region 14 with fail
                    refine wp_region_held_drew (S := (fun w' => (w'.cell? (a1.add i) = some (.int .i64 xi) ∧ w'.cell? ⟨(at_.add (i * 4)).block, (at_.add (i * 4)).off + 2, none⟩ = some (.slice (some a3) af.length ac)) ∧ w'.cell? (a3.add m) = some (.int .i64 (kn : Int)) ∧ w'.cell? (a1.add kn) = some (.int .i64 xk) ∧ w'.cell? ⟨w.heap.size, 27, none⟩ = some (.int .i64 Y.dry))) (by kernel_rfl) ?_ (fun hHeld => ?_)
                    · exact ⟨⟨t0, c2⟩, d0, u0, y27⟩
                    refine tk 0 114 ?_
                    refine tk 1 115 ?_
                    refine tk 2 116 ?_
                    refine tk 3 117 ?_
                    refine tk 4 118 ?_
                    refine tk 5 119 ?_
                    refine tk 6 120 ?_
                    refine tk 7 121 ?_
                    refine tk 8 122 ?_
                    refine tk 9 123 ?_
                    refine tk 10 124 ?_
                    refine tk 11 125 ?_
                    refine tk 12 126 ?_
                    refine tk 13 127 ?_
                    refine tk 14 128 ?_
                    refine tk 15 129 ?_
                    refine tk 16 130 ?_
                    refine tk 17 131 ?_
                    refine tk 18 132 ?_
                    refine wpAnyH_done (by kernel_rfl) ?_ _
                    clear hHeld hsum
                    go_wp2
                    go_ret
                    exact sh_ret HG.out.symm hbq.drew
                  · have HI2 : Hid (∀ j (h : j < af.length), j < m + 1 → D.getD af[j].toNat 0 + Y.dry < xi) := fun j h hj => by
                      by_cases e : j = m
                      · subst e
                        rw [HKN.out, Int.toNat_natCast, HXK.out]
                        omega
                      · exact HI.out j h (by omega)
                    have hlb : decide (xi ≤ xk + Y.dry) = false := decide_eq_false hle
                    clear HKO
                    have hsum := HSU.out
                    go_upto_region 14 with fail
                    refine wp_region_held_drew (S := (fun w' => (w'.cell? (a1.add i) = some (.int .i64 xi) ∧ w'.cell? ⟨(at_.add (i * 4)).block, (at_.add (i * 4)).off + 2, none⟩ = some (.slice (some a3) af.length ac)) ∧ w'.cell? (a3.add m) = some (.int .i64 (kn : Int)) ∧ w'.cell? (a1.add kn) = some (.int .i64 xk) ∧ w'.cell? ⟨w.heap.size, 27, none⟩ = some (.int .i64 Y.dry))) (by kernel_rfl) ?_ (fun hHeld => ?_)
                    · exact ⟨⟨t0, c2⟩, d0, u0, y27⟩
                    refine tk 0 114 ?_
                    refine tk 1 115 ?_
                    refine tk 2 116 ?_
                    refine tk 3 117 ?_
                    refine tk 4 118 ?_
                    refine tk 5 119 ?_
                    refine tk 6 120 ?_
                    refine tk 7 121 ?_
                    refine tk 8 122 ?_
                    refine tk 9 123 ?_
                    refine tk 10 124 ?_
                    refine tk 11 125 ?_
                    refine tk 12 126 ?_
                    refine tk 13 127 ?_
                    refine tk 14 128 ?_
                    refine tk 15 129 ?_
                    refine tk 16 130 ?_
                    refine tk 17 131 ?_
                    refine tk 18 132 ?_
                    refine wpAnyH_done (by kernel_rfl) ?_ _
                    clear hHeld hsum
                    go_wp2
                    go_roundw
                    case rel => exact ⟨m + 1, by omega, by go_num, HI2, hbq.drew, h6q.drew, h8q.drew⟩
                    case measure => simp [intOf] <;> omega
                · obtain rfl : m = af.length := by omega
                  have HG : Hid (MM = true) := HQ.out (fun k hk => by
                    obtain ⟨j, hj, rfl⟩ := List.mem_iff_getElem.1 hk
                    exact HI.out j hj hj)
                  have hmn : ¬ (af.length : Int) < (af.length : Int) := by omega
                  clear HQ HQN HI
                  go_wp2
                  go_roundw
                  case rel => exact ⟨i + 1, by omega, by go_num, fun j hj => (by
                    by_cases e : j = i
                    · rw [e, HMM.out]; exact HG.out
                    · exact HM.out j (by omega)), hbq, h6q, h8q⟩
                  case measure => simp [intOf] <;> omega
            · have HG : Hid (R = false) := HNO.out (by
                rw [Bool.eq_false_iff]
                intro e
                rcases (HMA.out.1 e).2.2 with h | h
                · omega
                · exact q2 h.2.1)
              clear HMA HNO
              have qb1 : decide (xi < f) = false := decide_eq_false (by omega)
              have q1n : ¬ xi < f := by omega
              have qb2 : decide (f + 400 ≤ xi) = true := decide_eq_true (by omega)
              go_upto_region 6 with fail
              refine wp_region_held_drew (S := (fun w' => w'.cell? (a1.add i) = some (.int .i64 xi))) (by kernel_rfl) ?_ (fun hHeld => ?_)
              · exact t0
              refine tk 0 43 ?_
              refine tk 1 44 ?_
              refine tk 2 45 ?_
              refine tk 3 46 ?_
              refine sk 4 47 ?_
              refine sk 5 48 ?_
              refine sk 6 49 ?_
              refine sk 7 50 ?_
              refine sk 8 51 ?_
              refine sk 9 52 ?_
              refine sk 10 53 ?_
              refine sk 11 54 ?_
              refine sk 12 55 ?_
              refine sk 13 56 ?_
              refine sk 14 57 ?_
              refine tk 15 58 ?_
              refine tk 16 59 ?_
              refine tk 17 60 ?_
              refine tk 18 61 ?_
              refine tk 19 62 ?_
              refine sk 20 63 ?_
              refine sk 21 64 ?_
              refine sk 22 65 ?_
              refine sk 23 66 ?_
              refine sk 24 67 ?_
              refine sk 25 68 ?_
              refine sk 26 69 ?_
              refine sk 27 70 ?_
              refine sk 28 71 ?_
              refine sk 29 72 ?_
              refine tk 30 73 ?_
              refine tk 31 74 ?_
              refine wpAnyH_done (by kernel_rfl) ?_ _
              clear hHeld
              have hfw := HFW.out
              go_upto_region 9 with fail
              refine wp_region_held_drew (S := (fun w' => w'.rangeAt w.heap.size 0 C.toList ∧ w'.cell? (a1.add i) = some (.int .i64 xi))) (by kernel_rfl) ?_ (fun hHeld => ?_)
              · exact ⟨(by exact (by repeat (first | with_reducible assumption | with_reducible exact Bk.new _ _ _ | with_reducible refine Bk.drew ?_ | with_reducible refine Bk.drewN ?_ _ | with_reducible refine Bk.alloc ?_ _ | (with_reducible refine Bk.far ?_ ?_ _; rotate_left; (try simp) <;> omega))) : Bk _ w.heap.size 29 C).range, t0⟩
              refine tk 0 78 ?_
              refine tk 1 79 ?_
              refine tk 2 80 ?_
              refine tk 3 81 ?_
              refine tk 4 82 ?_
              refine tk 5 83 ?_
              refine tk 6 84 ?_
              refine tk 7 85 ?_
              refine tk 8 86 ?_
              refine tk 9 87 ?_
              refine tk 10 88 ?_
              refine tk 11 89 ?_
              refine tk 12 90 ?_
              refine tk 13 91 ?_
              refine tk 14 92 ?_
              refine tk 15 93 ?_
              refine sk 16 94 ?_
              refine sk 17 95 ?_
              refine sk 18 96 ?_
              refine sk 19 97 ?_
              refine sk 20 98 ?_
              refine sk 21 99 ?_
              refine sk 22 100 ?_
              refine sk 23 101 ?_
              refine sk 24 102 ?_
              refine tk 25 103 ?_
              refine wpAnyH_done (by kernel_rfl) ?_ _
              clear hHeld hfw
              go_wp2
              go_ret
              exact sh_ret HG.out.symm hbw.drew.drew
          · have HG : Hid (R = false) := HNO.out (by
              rw [Bool.eq_false_iff]
              intro e
              rcases (HMA.out.1 e).2.2 with h | h
              · omega
              · exact q1 h.1)
            clear HMA HNO
            have qb1 : decide (xi < f) = true := decide_eq_true (by omega)
            go_upto_region 6 with fail
            refine wp_region_held_drew (S := (fun w' => w'.cell? (a1.add i) = some (.int .i64 xi))) (by kernel_rfl) ?_ (fun hHeld => ?_)
            · exact t0
            refine tk 0 43 ?_
            refine tk 1 44 ?_
            refine tk 2 45 ?_
            refine tk 3 46 ?_
            refine sk 4 47 ?_
            refine sk 5 48 ?_
            refine sk 6 49 ?_
            refine sk 7 50 ?_
            refine sk 8 51 ?_
            refine sk 9 52 ?_
            refine sk 10 53 ?_
            refine sk 11 54 ?_
            refine sk 12 55 ?_
            refine sk 13 56 ?_
            refine sk 14 57 ?_
            refine tk 15 58 ?_
            refine tk 16 59 ?_
            refine tk 17 60 ?_
            refine tk 18 61 ?_
            refine tk 19 62 ?_
            refine sk 20 63 ?_
            refine sk 21 64 ?_
            refine sk 22 65 ?_
            refine sk 23 66 ?_
            refine sk 24 67 ?_
            refine sk 25 68 ?_
            refine sk 26 69 ?_
            refine sk 27 70 ?_
            refine sk 28 71 ?_
            refine sk 29 72 ?_
            refine tk 30 73 ?_
            refine tk 31 74 ?_
            refine wpAnyH_done (by kernel_rfl) ?_ _
            clear hHeld
            have hfw := HFW.out
            go_upto_region 9 with fail
            refine wp_region_held_drew (S := (fun w' => w'.rangeAt w.heap.size 0 C.toList ∧ w'.cell? (a1.add i) = some (.int .i64 xi))) (by kernel_rfl) ?_ (fun hHeld => ?_)
            · exact ⟨(by exact (by repeat (first | with_reducible assumption | with_reducible exact Bk.new _ _ _ | with_reducible refine Bk.drew ?_ | with_reducible refine Bk.drewN ?_ _ | with_reducible refine Bk.alloc ?_ _ | (with_reducible refine Bk.far ?_ ?_ _; rotate_left; (try simp) <;> omega))) : Bk _ w.heap.size 29 C).range, t0⟩
            refine tk 0 78 ?_
            refine tk 1 79 ?_
            refine tk 2 80 ?_
            refine tk 3 81 ?_
            refine tk 4 82 ?_
            refine tk 5 83 ?_
            refine tk 6 84 ?_
            refine sk 7 85 ?_
            refine sk 8 86 ?_
            refine sk 9 87 ?_
            refine sk 10 88 ?_
            refine sk 11 89 ?_
            refine sk 12 90 ?_
            refine sk 13 91 ?_
            refine tk 14 92 ?_
            refine tk 15 93 ?_
            refine sk 16 94 ?_
            refine sk 17 95 ?_
            refine sk 18 96 ?_
            refine sk 19 97 ?_
            refine sk 20 98 ?_
            refine sk 21 99 ?_
            refine sk 22 100 ?_
            refine sk 23 101 ?_
            refine sk 24 102 ?_
            refine tk 25 103 ?_
            refine wpAnyH_done (by kernel_rfl) ?_ _
            clear hHeld hfw
            go_wp2
            go_ret
            exact sh_ret HG.out.symm hbw.drew.drew
        · have h0b : decide ((0 : Int) < (i : Int)) = true := decide_eq_true (by omega)
          have h0p : 0 < i := by omega
          have hip : i - 1 < D.length := by omega
          obtain ⟨a1', e1, _, p0⟩ := int_at (HDW.out wr hbw) hip
          cases e1
          have HXP : Hid (D.getD (i - 1) 0 = D[i - 1]'hip) := by show _ = _; rw [List.getD_eq_getElem?_getD, List.getElem?_eq_getElem hip]; rfl
          generalize D[i - 1]'hip = xp at *
          have hkd : ((i : Int) - 1).toNat = i - 1 := by omega
          have hk1 : 0 ≤ (i : Int) - 1 := by omega
          have hk2 : (i : Int) - 1 < (D.length : Int) := by omega
          have hk3 : 1 ≤ (i : Int) := by omega
          have hsub0 : Hid (IntKind.i64.wrap ((i : Int) - 1) = (i : Int) - 1) := IntWalk.i64_in _ (by omega)
          by_cases hp : xi ≤ xp
          · have HG : Hid (R = false) := HNO.out (by
              rw [Bool.eq_false_iff]
              intro e
              have := (HMA.out.1 e).2.1
              rw [HXP.out] at this
              omega)
            have hpb : decide (xi ≤ xp) = true := decide_eq_true hp
            clear HMA HNO
            have hsub := hsub0.out
            go_upto_region 6 with fail
            refine wp_region_held_drew (S := (fun w' => w'.cell? (a1.add i) = some (.int .i64 xi) ∧ w'.cell? (a1.add (i - 1)) = some (.int .i64 xp))) (by kernel_rfl) ?_ (fun hHeld => ?_)
            · exact ⟨t0, p0⟩
            refine tk 0 43 ?_
            refine tk 1 44 ?_
            refine tk 2 45 ?_
            refine tk 3 46 ?_
            refine sk 4 47 ?_
            refine sk 5 48 ?_
            refine sk 6 49 ?_
            refine sk 7 50 ?_
            refine sk 8 51 ?_
            refine sk 9 52 ?_
            refine sk 10 53 ?_
            refine sk 11 54 ?_
            refine sk 12 55 ?_
            refine sk 13 56 ?_
            refine sk 14 57 ?_
            refine tk 15 58 ?_
            refine tk 16 59 ?_
            refine tk 17 60 ?_
            refine tk 18 61 ?_
            refine tk 19 62 ?_
            refine tk 20 63 ?_
            refine tk 21 64 ?_
            refine tk 22 65 ?_
            refine tk 23 66 ?_
            refine tk 24 67 ?_
            refine tk 25 68 ?_
            refine tk 26 69 ?_
            refine tk 27 70 ?_
            refine tk 28 71 ?_
            refine tk 29 72 ?_
            refine tk 30 73 ?_
            refine tk 31 74 ?_
            refine wpAnyH_done (by kernel_rfl) ?_ _
            clear hHeld hsub
            go_wp2
            go_ret
            exact sh_ret HG.out.symm hbw.drew
          · have HPP : Hid (i = 0 ∨ D.getD (i - 1) 0 < xi) := .inr (by rw [HXP.out]; omega)
            have hpb : decide (xi ≤ xp) = false := decide_eq_false hp
            by_cases q1 : f ≤ xi
            · by_cases q2 : xi < f + 400
              · cases hsu : suitB Y l[i] i xi with
                | false =>
                  have HSB := Lib.hid hsu
                  have HG : Hid (R = false) := HNO.out (by
                    rw [Bool.eq_false_iff]
                    intro e
                    rcases (HMA.out.1 e).2.2 with h | h
                    · omega
                    · rw [hsu] at h; exact absurd h.2.2.1 (by decide))
                  clear HMA HNO
                  clear hsu
                  have qb1 : decide (xi < f) = false := decide_eq_false (by omega)
                  have q1n : ¬ xi < f := by omega
                  have qb2 : decide (f + 400 ≤ xi) = false := decide_eq_false (by omega)
                  have q2n : ¬ f + 400 ≤ xi := by omega
                  have hsub := hsub0.out
                  go_upto_region 6 with fail
                  refine wp_region_held_drew (S := (fun w' => w'.cell? (a1.add i) = some (.int .i64 xi) ∧ w'.cell? (a1.add (i - 1)) = some (.int .i64 xp))) (by kernel_rfl) ?_ (fun hHeld => ?_)
                  · exact ⟨t0, p0⟩
                  refine tk 0 43 ?_
                  refine tk 1 44 ?_
                  refine tk 2 45 ?_
                  refine tk 3 46 ?_
                  refine sk 4 47 ?_
                  refine sk 5 48 ?_
                  refine sk 6 49 ?_
                  refine sk 7 50 ?_
                  refine sk 8 51 ?_
                  refine sk 9 52 ?_
                  refine sk 10 53 ?_
                  refine sk 11 54 ?_
                  refine sk 12 55 ?_
                  refine sk 13 56 ?_
                  refine sk 14 57 ?_
                  refine tk 15 58 ?_
                  refine tk 16 59 ?_
                  refine tk 17 60 ?_
                  refine tk 18 61 ?_
                  refine tk 19 62 ?_
                  refine tk 20 63 ?_
                  refine tk 21 64 ?_
                  refine tk 22 65 ?_
                  refine tk 23 66 ?_
                  refine tk 24 67 ?_
                  refine tk 25 68 ?_
                  refine tk 26 69 ?_
                  refine tk 27 70 ?_
                  refine tk 28 71 ?_
                  refine tk 29 72 ?_
                  refine tk 30 73 ?_
                  refine tk 31 74 ?_
                  refine wpAnyH_done (by kernel_rfl) ?_ _
                  clear hHeld hsub
                  have hfw := HFW.out
                  go_upto_region 9 with fail
                  refine wp_region_held_drew (S := (fun w' => w'.rangeAt w.heap.size 0 C.toList ∧ w'.cell? (a1.add i) = some (.int .i64 xi))) (by kernel_rfl) ?_ (fun hHeld => ?_)
                  · exact ⟨(by exact (by repeat (first | with_reducible assumption | with_reducible exact Bk.new _ _ _ | with_reducible refine Bk.drew ?_ | with_reducible refine Bk.drewN ?_ _ | with_reducible refine Bk.alloc ?_ _ | (with_reducible refine Bk.far ?_ ?_ _; rotate_left; (try simp) <;> omega))) : Bk _ w.heap.size 29 C).range, t0⟩
                  refine tk 0 78 ?_
                  refine tk 1 79 ?_
                  refine tk 2 80 ?_
                  refine tk 3 81 ?_
                  refine tk 4 82 ?_
                  refine tk 5 83 ?_
                  refine tk 6 84 ?_
                  refine tk 7 85 ?_
                  refine tk 8 86 ?_
                  refine tk 9 87 ?_
                  refine tk 10 88 ?_
                  refine tk 11 89 ?_
                  refine tk 12 90 ?_
                  refine tk 13 91 ?_
                  refine tk 14 92 ?_
                  refine tk 15 93 ?_
                  (refine held_row 16 (some 94) 29 (.tmp 6) (w.heap.size) 0 C.toList _ rfl rfl (by kernel_rfl) (by kernel_rfl) (by kernel_rfl) (by rfl) rfl (fun _ _ _ h => h) (by assumption) (fun _ hS => hS.1) Try.underlying29 rfl (by assumption) ?_; (try simp only [Act.put, List.setIfInBounds_toArray, List.set_cons_zero, List.set_cons_succ]))
                  refine tk 17 95 ?_
                  refine tk 18 96 ?_
                  refine tk 19 97 ?_
                  refine tk 20 98 ?_
                  refine tk 21 99 ?_
                  refine tk 22 100 ?_
                  (refine held_call 23 (some 101) 59 _ rfl (by kernel_rfl) (by rfl) ?_ ((HFI.out _ (by exact (by repeat (first | with_reducible exact Below.refl _ _ | with_reducible assumption | with_reducible refine Below.drew ?_ | with_reducible refine below_drewN ?_ _ | (with_reducible refine Below.alloc ?_ ?_ _; rotate_left; (try simp) <;> omega) | (with_reducible refine Below.setCell ?_ ?_ _; rotate_left; (try simp) <;> omega)))) i hli xi)) ?_; rotate_left; rotate_left; (simp only [List.getElem?_toArray, List.getElem?_cons_zero, List.getElem?_cons_succ, Option.map_some]; refine congrArg some ?_; go_simp))
                  rintro e w4 ⟨rfl, hb4⟩
                  rw [HSB.out]
                  have hB4 : Below w.heap.size w w4 := Below.trans (by exact (by repeat (first | with_reducible exact Below.refl _ _ | with_reducible assumption | with_reducible refine Below.drew ?_ | with_reducible refine below_drewN ?_ _ | (with_reducible refine Below.alloc ?_ ?_ _; rotate_left; (try simp) <;> omega) | (with_reducible refine Below.setCell ?_ ?_ _; rotate_left; (try simp) <;> omega)))) (hb4.mono (by first | exact hbs | (simp; exact hbs)))
                  have h64 : Bk w4 w.heap.size 29 C := Bk.below (by exact (by repeat (first | with_reducible assumption | with_reducible exact Bk.new _ _ _ | with_reducible refine Bk.drew ?_ | with_reducible refine Bk.drewN ?_ _ | with_reducible refine Bk.alloc ?_ _ | (with_reducible refine Bk.far ?_ ?_ _; rotate_left; (try simp) <;> omega)))) hb4 (by first | exact h6.lt | (simp; exact h6.lt))
                  have h84 : Bk w4 (w.heap.size + 1) 42 #[.slice T old.length ct] := Bk.below (by exact (by repeat (first | with_reducible assumption | with_reducible exact Bk.new _ _ _ | with_reducible refine Bk.drew ?_ | with_reducible refine Bk.drewN ?_ _ | with_reducible refine Bk.alloc ?_ _ | (with_reducible refine Bk.far ?_ ?_ _; rotate_left; (try simp) <;> omega)))) hb4 (by first | exact h8.lt | (simp; exact h8.lt))
                  have t4 : w4.cell? (a1.add i) = some (.int .i64 xi) := by (obtain ⟨a1', e1, _, t4⟩ := int_at (HDW.out w4 hB4) hlt; cases e1; rw [HXI2.out] at t4; exact t4)
                  refine ⟨_, rfl, ⟨h64.range, t4⟩, fun hHeld => ?_⟩
                  (try simp only [Act.put, List.setIfInBounds_toArray, List.set_cons_zero, List.set_cons_succ])
                  refine tk 24 102 ?_
                  refine tk 25 103 ?_
                  refine wpAnyH_done (by kernel_rfl) ?_ _
                  clear hHeld hfw
                  go_wp2
                  go_ret
                  exact sh_ret HG.out.symm hB4
                | true =>
                  have HSB := Lib.hid hsu
                  have qb1 : decide (xi < f) = false := decide_eq_false (by omega)
                  have q1n : ¬ xi < f := by omega
                  have qb2 : decide (f + 400 ≤ xi) = false := decide_eq_false (by omega)
                  have q2n : ¬ f + 400 ≤ xi := by omega
                  have hsub := hsub0.out
                  go_upto_region 6 with fail
                  refine wp_region_held_drew (S := (fun w' => w'.cell? (a1.add i) = some (.int .i64 xi) ∧ w'.cell? (a1.add (i - 1)) = some (.int .i64 xp))) (by kernel_rfl) ?_ (fun hHeld => ?_)
                  · exact ⟨t0, p0⟩
                  refine tk 0 43 ?_
                  refine tk 1 44 ?_
                  refine tk 2 45 ?_
                  refine tk 3 46 ?_
                  refine sk 4 47 ?_
                  refine sk 5 48 ?_
                  refine sk 6 49 ?_
                  refine sk 7 50 ?_
                  refine sk 8 51 ?_
                  refine sk 9 52 ?_
                  refine sk 10 53 ?_
                  refine sk 11 54 ?_
                  refine sk 12 55 ?_
                  refine sk 13 56 ?_
                  refine sk 14 57 ?_
                  refine tk 15 58 ?_
                  refine tk 16 59 ?_
                  refine tk 17 60 ?_
                  refine tk 18 61 ?_
                  refine tk 19 62 ?_
                  refine tk 20 63 ?_
                  refine tk 21 64 ?_
                  refine tk 22 65 ?_
                  refine tk 23 66 ?_
                  refine tk 24 67 ?_
                  refine tk 25 68 ?_
                  refine tk 26 69 ?_
                  refine tk 27 70 ?_
                  refine tk 28 71 ?_
                  refine tk 29 72 ?_
                  refine tk 30 73 ?_
                  refine tk 31 74 ?_
                  refine wpAnyH_done (by kernel_rfl) ?_ _
                  clear hHeld hsub
                  have hfw := HFW.out
                  go_upto_region 9 with fail
                  refine wp_region_held_drew (S := (fun w' => w'.rangeAt w.heap.size 0 C.toList ∧ w'.cell? (a1.add i) = some (.int .i64 xi))) (by kernel_rfl) ?_ (fun hHeld => ?_)
                  · exact ⟨(by exact (by repeat (first | with_reducible assumption | with_reducible exact Bk.new _ _ _ | with_reducible refine Bk.drew ?_ | with_reducible refine Bk.drewN ?_ _ | with_reducible refine Bk.alloc ?_ _ | (with_reducible refine Bk.far ?_ ?_ _; rotate_left; (try simp) <;> omega))) : Bk _ w.heap.size 29 C).range, t0⟩
                  refine tk 0 78 ?_
                  refine tk 1 79 ?_
                  refine tk 2 80 ?_
                  refine tk 3 81 ?_
                  refine tk 4 82 ?_
                  refine tk 5 83 ?_
                  refine tk 6 84 ?_
                  refine tk 7 85 ?_
                  refine tk 8 86 ?_
                  refine tk 9 87 ?_
                  refine tk 10 88 ?_
                  refine tk 11 89 ?_
                  refine tk 12 90 ?_
                  refine tk 13 91 ?_
                  refine tk 14 92 ?_
                  refine tk 15 93 ?_
                  (refine held_row 16 (some 94) 29 (.tmp 6) (w.heap.size) 0 C.toList _ rfl rfl (by kernel_rfl) (by kernel_rfl) (by kernel_rfl) (by rfl) rfl (fun _ _ _ h => h) (by assumption) (fun _ hS => hS.1) Try.underlying29 rfl (by assumption) ?_; (try simp only [Act.put, List.setIfInBounds_toArray, List.set_cons_zero, List.set_cons_succ]))
                  refine tk 17 95 ?_
                  refine tk 18 96 ?_
                  refine tk 19 97 ?_
                  refine tk 20 98 ?_
                  refine tk 21 99 ?_
                  refine tk 22 100 ?_
                  (refine held_call 23 (some 101) 59 _ rfl (by kernel_rfl) (by rfl) ?_ ((HFI.out _ (by exact (by repeat (first | with_reducible exact Below.refl _ _ | with_reducible assumption | with_reducible refine Below.drew ?_ | with_reducible refine below_drewN ?_ _ | (with_reducible refine Below.alloc ?_ ?_ _; rotate_left; (try simp) <;> omega) | (with_reducible refine Below.setCell ?_ ?_ _; rotate_left; (try simp) <;> omega)))) i hli xi)) ?_; rotate_left; rotate_left; (simp only [List.getElem?_toArray, List.getElem?_cons_zero, List.getElem?_cons_succ, Option.map_some]; refine congrArg some ?_; go_simp))
                  rintro e w4 ⟨rfl, hb4⟩
                  rw [HSB.out]
                  have hB4 : Below w.heap.size w w4 := Below.trans (by exact (by repeat (first | with_reducible exact Below.refl _ _ | with_reducible assumption | with_reducible refine Below.drew ?_ | with_reducible refine below_drewN ?_ _ | (with_reducible refine Below.alloc ?_ ?_ _; rotate_left; (try simp) <;> omega) | (with_reducible refine Below.setCell ?_ ?_ _; rotate_left; (try simp) <;> omega)))) (hb4.mono (by first | exact hbs | (simp; exact hbs)))
                  have h64 : Bk w4 w.heap.size 29 C := Bk.below (by exact (by repeat (first | with_reducible assumption | with_reducible exact Bk.new _ _ _ | with_reducible refine Bk.drew ?_ | with_reducible refine Bk.drewN ?_ _ | with_reducible refine Bk.alloc ?_ _ | (with_reducible refine Bk.far ?_ ?_ _; rotate_left; (try simp) <;> omega)))) hb4 (by first | exact h6.lt | (simp; exact h6.lt))
                  have h84 : Bk w4 (w.heap.size + 1) 42 #[.slice T old.length ct] := Bk.below (by exact (by repeat (first | with_reducible assumption | with_reducible exact Bk.new _ _ _ | with_reducible refine Bk.drew ?_ | with_reducible refine Bk.drewN ?_ _ | with_reducible refine Bk.alloc ?_ _ | (with_reducible refine Bk.far ?_ ?_ _; rotate_left; (try simp) <;> omega)))) hb4 (by first | exact h8.lt | (simp; exact h8.lt))
                  have t4 : w4.cell? (a1.add i) = some (.int .i64 xi) := by (obtain ⟨a1', e1, _, t4⟩ := int_at (HDW.out w4 hB4) hlt; cases e1; rw [HXI2.out] at t4; exact t4)
                  refine ⟨_, rfl, ⟨h64.range, t4⟩, fun hHeld => ?_⟩
                  (try simp only [Act.put, List.setIfInBounds_toArray, List.set_cons_zero, List.set_cons_succ])
                  refine tk 24 102 ?_
                  refine tk 25 103 ?_
                  refine wpAnyH_done (by kernel_rfl) ?_ _
                  clear hHeld hfw
                  have h6l := h64.lt
                  clear HNO hxv t0 h6 h8
                  have HKE : Hid (∀ W, Below w.heap.size w W → W.cell? (a1.add i) = some (.int .i64 xi)) := fun W hb => by (obtain ⟨a1', e1, _, t5⟩ := int_at (HDW.out W hb) hlt; cases e1; rw [HXI2.out] at t5; exact t5)
                  obtain ⟨at_, rfl, hat, _, _, c2, _⟩ := task_at (HTW.out w4 hB4).at_ hli
                  have HC2 : Hid (∀ W, Below w.heap.size w W → W.cell? ⟨(at_.add (i * 4)).block, (at_.add (i * 4)).off + 2, none⟩ = some (.slice l[i].aA l[i].af.length l[i].ac)) := fun W hb => by (obtain ⟨at2, e2, _, _, _, c3, _⟩ := task_at (HTW.out W hb).at_ hli; cases e2; exact c3)
                  have HTA := Lib.hid (fun W (hb : Below w.heap.size w W) => (HTW.out W hb).af l[i] (List.getElem_mem hli))
                  have HAI := Lib.hid (HAF.out i hli)
                  have han := HAN.out i hli
                  have HQ : Hid ((∀ k ∈ l[i].af, D.getD k.toNat 0 + Y.dry < xi) → MM = true) := fun h => HMA.out.2 ⟨.inl (by omega), HPP.out, .inr ⟨q1, q2, HSB.out, h⟩⟩
                  have HQN : Hid (∀ k ∈ l[i].af, ¬ (D.getD k.toNat 0 + Y.dry < xi) → R = false) := fun k hk h => mayB_no' HRE.out hlt (by
                    rw [HMM.out, Bool.eq_false_iff]
                    intro e
                    rcases (HMA.out.1 e).2.2 with h1 | h1
                    · omega
                    · exact h (h1.2.2.2 k hk))
                  clear HFI HMA c2 HSB HPP
                  generalize l[i] = t at *
                  obtain ⟨wk, nd, aA, ac, af, cA, cc, co⟩ := t
                  dsimp only at *
                  go_wp2
                  go_loopw [14] (fun y wr => ∃ m : Nat, m ≤ af.length ∧ y = .int .i64 (m : Int) ∧ Hid (∀ j (h : j < af.length), j < m → D.getD af[j].toNat 0 + Y.dry < xi) ∧ Below w.heap.size w wr ∧ Bk wr w.heap.size 29 C ∧ Bk wr (w.heap.size + 1) 42 #[.slice T old.length ct]) (fun y _ => af.length - (intOf y).toNat)
                  case atStart => exact ⟨0, Nat.zero_le _, rfl, fun j h hj => absurd hj (Nat.not_lt_zero _), hB4, h64, h84⟩
                  case round =>
                  clear hB4 h64 h84 h6l t4 hb4
                  obtain ⟨m, hm, rfl, HI, hbq, h6q, h8q⟩ := hrel
                  have hbqs := hbq.size
                  have c2 := HC2.out wr hbq
                  by_cases hml : m < af.length
                  · have hmI : (m : Int) < (af.length : Int) := by omega
                    have hm0 : 0 ≤ (m : Int) := by omega
                    obtain ⟨a3, rfl, _, d0⟩ := int_at (HTA.out wr hbq) hml
                    have hkb := HAI.out af[m] (List.getElem_mem hml)
                    have HKM := HQN.out af[m] (List.getElem_mem hml)
                    obtain ⟨kn, hkn⟩ : ∃ kn : Nat, af[m]'hml = (kn : Int) := ⟨(af[m]'hml).toNat, by omega⟩
                    have HKN := Lib.hid hkn
                    rw [hkn] at d0 hkb HKM
                    rw [Int.toNat_natCast] at HKM
                    have HKO := Lib.hid HKM
                    clear hkn HKM
                    have hknD : kn < D.length := by omega
                    have hknI : (kn : Int) < (D.length : Int) := by omega
                    have hkn0 : 0 ≤ (kn : Int) := by omega
                    obtain ⟨a1', e1, _, u0⟩ := int_at (HDW.out wr hbq) hknD
                    cases e1
                    have HXK : Hid (D.getD kn 0 = D[kn]'hknD) := by show _ = _; rw [List.getD_eq_getElem?_getD, List.getElem?_eq_getElem hknD]; rfl
                    have hbk := HBD.out kn (by omega)
                    rw [HXK.out] at hbk
                    generalize D[kn]'hknD = xk at *
                    have t0 := HKE.out wr hbq
                    have y27 := h6q.cell 27 e27.out
                    obtain ⟨hbk1, hbk2⟩ := hbk
                    have HSU : Hid (IntKind.i64.wrap (xk + Y.dry) = xk + Y.dry) := IntWalk.i64_in _ (by omega)
                    by_cases hle : xi ≤ xk + Y.dry
                    · have HG : Hid (R = false) := HKO.out (by rw [HXK.out]; omega)
                      have hlb : decide (xi ≤ xk + Y.dry) = true := decide_eq_true hle
                      clear HKO HQ HQN
                      have hsum := HSU.out
                      go_upto_region 14 with fail
                      refine wp_region_held_drew (S := (fun w' => (w'.cell? (a1.add i) = some (.int .i64 xi) ∧ w'.cell? ⟨(at_.add (i * 4)).block, (at_.add (i * 4)).off + 2, none⟩ = some (.slice (some a3) af.length ac)) ∧ w'.cell? (a3.add m) = some (.int .i64 (kn : Int)) ∧ w'.cell? (a1.add kn) = some (.int .i64 xk) ∧ w'.cell? ⟨w.heap.size, 27, none⟩ = some (.int .i64 Y.dry))) (by kernel_rfl) ?_ (fun hHeld => ?_)
                      · exact ⟨⟨t0, c2⟩, d0, u0, y27⟩
                      refine tk 0 114 ?_
                      refine tk 1 115 ?_
                      refine tk 2 116 ?_
                      refine tk 3 117 ?_
                      refine tk 4 118 ?_
                      refine tk 5 119 ?_
                      refine tk 6 120 ?_
                      refine tk 7 121 ?_
                      refine tk 8 122 ?_
                      refine tk 9 123 ?_
                      refine tk 10 124 ?_
                      refine tk 11 125 ?_
                      refine tk 12 126 ?_
                      refine tk 13 127 ?_
                      refine tk 14 128 ?_
                      refine tk 15 129 ?_
                      refine tk 16 130 ?_
                      refine tk 17 131 ?_
                      refine tk 18 132 ?_
                      refine wpAnyH_done (by kernel_rfl) ?_ _
                      clear hHeld hsum
                      go_wp2
                      go_ret
                      exact sh_ret HG.out.symm hbq.drew
                    · have HI2 : Hid (∀ j (h : j < af.length), j < m + 1 → D.getD af[j].toNat 0 + Y.dry < xi) := fun j h hj => by
                        by_cases e : j = m
                        · subst e
                          rw [HKN.out, Int.toNat_natCast, HXK.out]
                          omega
                        · exact HI.out j h (by omega)
                      have hlb : decide (xi ≤ xk + Y.dry) = false := decide_eq_false hle
                      clear HKO
                      have hsum := HSU.out
                      go_upto_region 14 with fail
                      refine wp_region_held_drew (S := (fun w' => (w'.cell? (a1.add i) = some (.int .i64 xi) ∧ w'.cell? ⟨(at_.add (i * 4)).block, (at_.add (i * 4)).off + 2, none⟩ = some (.slice (some a3) af.length ac)) ∧ w'.cell? (a3.add m) = some (.int .i64 (kn : Int)) ∧ w'.cell? (a1.add kn) = some (.int .i64 xk) ∧ w'.cell? ⟨w.heap.size, 27, none⟩ = some (.int .i64 Y.dry))) (by kernel_rfl) ?_ (fun hHeld => ?_)
                      · exact ⟨⟨t0, c2⟩, d0, u0, y27⟩
                      refine tk 0 114 ?_
                      refine tk 1 115 ?_
                      refine tk 2 116 ?_
                      refine tk 3 117 ?_
                      refine tk 4 118 ?_
                      refine tk 5 119 ?_
                      refine tk 6 120 ?_
                      refine tk 7 121 ?_
                      refine tk 8 122 ?_
                      refine tk 9 123 ?_
                      refine tk 10 124 ?_
                      refine tk 11 125 ?_
                      refine tk 12 126 ?_
                      refine tk 13 127 ?_
                      refine tk 14 128 ?_
                      refine tk 15 129 ?_
                      refine tk 16 130 ?_
                      refine tk 17 131 ?_
                      refine tk 18 132 ?_
                      refine wpAnyH_done (by kernel_rfl) ?_ _
                      clear hHeld hsum
                      go_wp2
                      go_roundw
                      case rel => exact ⟨m + 1, by omega, by go_num, HI2, hbq.drew, h6q.drew, h8q.drew⟩
                      case measure => simp [intOf] <;> omega
                  · obtain rfl : m = af.length := by omega
                    have HG : Hid (MM = true) := HQ.out (fun k hk => by
                      obtain ⟨j, hj, rfl⟩ := List.mem_iff_getElem.1 hk
                      exact HI.out j hj hj)
                    have hmn : ¬ (af.length : Int) < (af.length : Int) := by omega
                    clear HQ HQN HI
                    go_wp2
                    go_roundw
                    case rel => exact ⟨i + 1, by omega, by go_num, fun j hj => (by
                      by_cases e : j = i
                      · rw [e, HMM.out]; exact HG.out
                      · exact HM.out j (by omega)), hbq, h6q, h8q⟩
                    case measure => simp [intOf] <;> omega
              · have HG : Hid (R = false) := HNO.out (by
                  rw [Bool.eq_false_iff]
                  intro e
                  rcases (HMA.out.1 e).2.2 with h | h
                  · omega
                  · exact q2 h.2.1)
                clear HMA HNO
                have qb1 : decide (xi < f) = false := decide_eq_false (by omega)
                have q1n : ¬ xi < f := by omega
                have qb2 : decide (f + 400 ≤ xi) = true := decide_eq_true (by omega)
                have hsub := hsub0.out
                go_upto_region 6 with fail
                refine wp_region_held_drew (S := (fun w' => w'.cell? (a1.add i) = some (.int .i64 xi) ∧ w'.cell? (a1.add (i - 1)) = some (.int .i64 xp))) (by kernel_rfl) ?_ (fun hHeld => ?_)
                · exact ⟨t0, p0⟩
                refine tk 0 43 ?_
                refine tk 1 44 ?_
                refine tk 2 45 ?_
                refine tk 3 46 ?_
                refine sk 4 47 ?_
                refine sk 5 48 ?_
                refine sk 6 49 ?_
                refine sk 7 50 ?_
                refine sk 8 51 ?_
                refine sk 9 52 ?_
                refine sk 10 53 ?_
                refine sk 11 54 ?_
                refine sk 12 55 ?_
                refine sk 13 56 ?_
                refine sk 14 57 ?_
                refine tk 15 58 ?_
                refine tk 16 59 ?_
                refine tk 17 60 ?_
                refine tk 18 61 ?_
                refine tk 19 62 ?_
                refine tk 20 63 ?_
                refine tk 21 64 ?_
                refine tk 22 65 ?_
                refine tk 23 66 ?_
                refine tk 24 67 ?_
                refine tk 25 68 ?_
                refine tk 26 69 ?_
                refine tk 27 70 ?_
                refine tk 28 71 ?_
                refine tk 29 72 ?_
                refine tk 30 73 ?_
                refine tk 31 74 ?_
                refine wpAnyH_done (by kernel_rfl) ?_ _
                clear hHeld hsub
                have hfw := HFW.out
                go_upto_region 9 with fail
                refine wp_region_held_drew (S := (fun w' => w'.rangeAt w.heap.size 0 C.toList ∧ w'.cell? (a1.add i) = some (.int .i64 xi))) (by kernel_rfl) ?_ (fun hHeld => ?_)
                · exact ⟨(by exact (by repeat (first | with_reducible assumption | with_reducible exact Bk.new _ _ _ | with_reducible refine Bk.drew ?_ | with_reducible refine Bk.drewN ?_ _ | with_reducible refine Bk.alloc ?_ _ | (with_reducible refine Bk.far ?_ ?_ _; rotate_left; (try simp) <;> omega))) : Bk _ w.heap.size 29 C).range, t0⟩
                refine tk 0 78 ?_
                refine tk 1 79 ?_
                refine tk 2 80 ?_
                refine tk 3 81 ?_
                refine tk 4 82 ?_
                refine tk 5 83 ?_
                refine tk 6 84 ?_
                refine tk 7 85 ?_
                refine tk 8 86 ?_
                refine tk 9 87 ?_
                refine tk 10 88 ?_
                refine tk 11 89 ?_
                refine tk 12 90 ?_
                refine tk 13 91 ?_
                refine tk 14 92 ?_
                refine tk 15 93 ?_
                refine sk 16 94 ?_
                refine sk 17 95 ?_
                refine sk 18 96 ?_
                refine sk 19 97 ?_
                refine sk 20 98 ?_
                refine sk 21 99 ?_
                refine sk 22 100 ?_
                refine sk 23 101 ?_
                refine sk 24 102 ?_
                refine tk 25 103 ?_
                refine wpAnyH_done (by kernel_rfl) ?_ _
                clear hHeld hfw
                go_wp2
                go_ret
                exact sh_ret HG.out.symm hbw.drew.drew
            · have HG : Hid (R = false) := HNO.out (by
                rw [Bool.eq_false_iff]
                intro e
                rcases (HMA.out.1 e).2.2 with h | h
                · omega
                · exact q1 h.1)
              clear HMA HNO
              have qb1 : decide (xi < f) = true := decide_eq_true (by omega)
              have hsub := hsub0.out
              go_upto_region 6 with fail
              refine wp_region_held_drew (S := (fun w' => w'.cell? (a1.add i) = some (.int .i64 xi) ∧ w'.cell? (a1.add (i - 1)) = some (.int .i64 xp))) (by kernel_rfl) ?_ (fun hHeld => ?_)
              · exact ⟨t0, p0⟩
              refine tk 0 43 ?_
              refine tk 1 44 ?_
              refine tk 2 45 ?_
              refine tk 3 46 ?_
              refine sk 4 47 ?_
              refine sk 5 48 ?_
              refine sk 6 49 ?_
              refine sk 7 50 ?_
              refine sk 8 51 ?_
              refine sk 9 52 ?_
              refine sk 10 53 ?_
              refine sk 11 54 ?_
              refine sk 12 55 ?_
              refine sk 13 56 ?_
              refine sk 14 57 ?_
              refine tk 15 58 ?_
              refine tk 16 59 ?_
              refine tk 17 60 ?_
              refine tk 18 61 ?_
              refine tk 19 62 ?_
              refine tk 20 63 ?_
              refine tk 21 64 ?_
              refine tk 22 65 ?_
              refine tk 23 66 ?_
              refine tk 24 67 ?_
              refine tk 25 68 ?_
              refine tk 26 69 ?_
              refine tk 27 70 ?_
              refine tk 28 71 ?_
              refine tk 29 72 ?_
              refine tk 30 73 ?_
              refine tk 31 74 ?_
              refine wpAnyH_done (by kernel_rfl) ?_ _
              clear hHeld hsub
              have hfw := HFW.out
              go_upto_region 9 with fail
              refine wp_region_held_drew (S := (fun w' => w'.rangeAt w.heap.size 0 C.toList ∧ w'.cell? (a1.add i) = some (.int .i64 xi))) (by kernel_rfl) ?_ (fun hHeld => ?_)
              · exact ⟨(by exact (by repeat (first | with_reducible assumption | with_reducible exact Bk.new _ _ _ | with_reducible refine Bk.drew ?_ | with_reducible refine Bk.drewN ?_ _ | with_reducible refine Bk.alloc ?_ _ | (with_reducible refine Bk.far ?_ ?_ _; rotate_left; (try simp) <;> omega))) : Bk _ w.heap.size 29 C).range, t0⟩
              refine tk 0 78 ?_
              refine tk 1 79 ?_
              refine tk 2 80 ?_
              refine tk 3 81 ?_
              refine tk 4 82 ?_
              refine tk 5 83 ?_
              refine tk 6 84 ?_
              refine sk 7 85 ?_
              refine sk 8 86 ?_
              refine sk 9 87 ?_
              refine sk 10 88 ?_
              refine sk 11 89 ?_
              refine sk 12 90 ?_
              refine sk 13 91 ?_
              refine tk 14 92 ?_
              refine tk 15 93 ?_
              refine sk 16 94 ?_
              refine sk 17 95 ?_
              refine sk 18 96 ?_
              refine sk 19 97 ?_
              refine sk 20 98 ?_
              refine sk 21 99 ?_
              refine sk 22 100 ?_
              refine sk 23 101 ?_
              refine sk 24 102 ?_
              refine tk 25 103 ?_
              refine wpAnyH_done (by kernel_rfl) ?_ _
              clear hHeld hfw
              go_wp2
              go_ret
              exact sh_ret HG.out.symm hbw.drew.drew
    · obtain rfl : i = D.length := by omega
      have HG := Lib.hid (mayB_yes (Y := Y) HL.out HM.out)
      go_wp2
      go_ret
      exact sh_ret HG.out.symm hbw
  · have HG := Lib.hid (mayB_len (Y := Y) (f := f) (old := old) (dn := dn) hl)
    have hneq : ((D.length : Int) != (l.length : Int)) = true := by
      rw [bne_iff_ne]
      intro e
      exact hl (by omega)
    clear hl
    go_enter Try.func27, Try.ntmps27
    go_wp2
    go_ret
    exact sh_ret HG.out.symm hb0
end Go.Proofs.Ytjgnikmnadmheaa
