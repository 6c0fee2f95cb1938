/- giornataref07.Replan, walked. Printed by wip/gen_z22.py. -/
import Derived.Test.YtjgnikmnadmheaaG02
import Derived.Test.YtjgnikmnadmheaaG89
import Derived.Test.YtjgnikmnadmheaaG93
import Derived.Test.YtjgnikmnadmheaaG95

namespace Go.Proofs.Ytjgnikmnadmheaa
open Go.RowKit

set_option maxRecDepth 100000 in
set_option maxHeartbeats 2500000 in
theorem rreplan_any (C : Array Value) (Y : Yd) (l : List Tk) (A : Option Addr) (c : Nat) (old : List Tu) (T : Option Addr) (ct : Nat) (done f : Int) (w : World) (hY : YardAt w w.heap.size C Y) (hs : Small Y) (hT : TasksAt w w.heap.size A l) (ht : tame l)
    (hP : Lies w w.heap.size T (turnsC old)) (ho : old.length ≤ 20) (hcp : old.length ≤ ct) :
    Calls Try.prog 37 #[.agg C, .slice A l.length c, .agg #[.slice T old.length ct], .int .i64 done, .int .i64 f] w (PlanE (replP Y l f old done) (replE Y l f old done) w) := by
  have HCO := Lib.hid (fun W (hb : Below w.heap.size w W) => rcommon_any C Y l A c W ((hY.below hb (Nat.le_refl _)).more hb.size) hs ((hT.below hb (Nat.le_refl _)).more hb.size) ht)
  have HLOAD := load_any hY
  have HC28 := Lib.hid hY.len
  have HDY := Lib.hid (fun W => isDay_any f W)
  have HYW := Lib.hid (fun W (hb : Below w.heap.size w W) => (hY.below hb (Nat.le_refl _)).more hb.size)
  have HTW := Lib.hid (fun W (hb : Below w.heap.size w W) => (hT.below hb (Nat.le_refl _)).more hb.size)
  have HPW := Lib.hid (fun W (hb : Below w.heap.size w W) => (hP.below hb (Nat.le_refl _)).more hb.size)
  have HTM := Lib.hid ht
  have b5 : Bk (((w.alloc (.cells C 29)).alloc (.cells #[.slice T old.length ct] 42)).alloc (.cells #[.slice none 0 0] 42)) w.heap.size 29 C := ((Bk.new _ _ _).alloc _).alloc _
  have b7 : Bk (((w.alloc (.cells C 29)).alloc (.cells #[.slice T old.length ct] 42)).alloc (.cells #[.slice none 0 0] 42)) (w.heap.size + 1) 42 #[.slice T old.length ct] := by simpa using (Bk.new (w.alloc (.cells C 29)) 42 #[.slice T old.length ct]).alloc (.cells #[.slice none 0 0] 42)
  have b10 : Bk (((w.alloc (.cells C 29)).alloc (.cells #[.slice T old.length ct] 42)).alloc (.cells #[.slice none 0 0] 42)) (w.heap.size + 2) 42 #[.slice none 0 0] := by simpa using Bk.new ((w.alloc (.cells C 29)).alloc (.cells #[.slice T old.length ct] 42)) 42 #[.slice none 0 0]
  have hb0 : Below w.heap.size w (((w.alloc (.cells C 29)).alloc (.cells #[.slice T old.length ct] 42)).alloc (.cells #[.slice none 0 0] 42)) := by exact (by repeat (first | with_reducible exact Below.refl _ _ | with_reducible assumption | with_reducible refine Below.drew ?_ | with_reducible refine below_drewN ?_ _ | (with_reducible refine Below.alloc ?_ ?_ _; rotate_left; (try simp) <;> omega) | (with_reducible refine Below.setCell ?_ ?_ _; rotate_left; (try simp) <;> omega)))
  have HR0 := Lib.hid b5.range
  clear hY hT hs ht hP
  by_cases hn : comE Y l = 0
  · obtain ⟨hok, hvt⟩ := com_ok hn
    have HVT := Lib.hid hvt
    have HO := Lib.hid hok
    have hl12 := hvt.n
    rw [hn] at HCO
    have HN := Lib.hid hn
    clear hn hok hvt
    have HAR := Lib.hid (fun h => repl_arg (Y := Y) (l := l) (f := f) (old := old) (done := done) HN.out h)
    by_cases g1 : done < 0
    · obtain ⟨h1, h2⟩ := HAR.out (fun h => by have := inB_iff.1 h.1; omega)
      rw [h1, h2]
      have g1b : decide (done < 0) = true := decide_eq_true g1
      clear h1 h2 HAR
      go_enter Try.func37, Try.ntmps37
      go_wp2_with (first | (have h9 := HR0; clear h9; refine wpList_load_guard (P := Try.prog) (by rfl) 29 (.tmp 5) rfl w.heap.size 0 rfl C.toList _ HR0.out Try.underlying29 rfl (by rw [HC28.out]; exact info29) ?_) | (go_at_call 89; refine (HCO.out _ hb0).mono ?_; rintro e w1 ⟨rfl, hb1⟩; have hB1 : Below w.heap.size w w1 := hb0.trans (hb1.mono hb0.size); have k5 := b5.below hb1 b5.lt; have k7 := b7.below hb1 b7.lt; have k10 := b10.below hb1 b10.lt; have hl10 := k10.lt; have q7 := k7.cell 0 rfl; have x10 := k10.cell 0 rfl; have f10 := k10.fro 0; have hz1 := hb1.size; clear hb1 HR0) | (go_at_call 81; refine (HDY.out _).mono ?_; rintro e wq ⟨rfl, rfl⟩; rw [HR2.out]; clear HR2))
      have hs6 := (k10.set 0 (.slice none 0 0)).cell 0 rfl
      have hb9 : Below w.heap.size w (w1.setCell ⟨w.heap.size + 2, 0, none⟩ (.slice none 0 0)) := hB1.setCell (by simp) _
      generalize w1.setCell ⟨w.heap.size + 2, 0, none⟩ (.slice none 0 0) = w9 at *
      refine bodyPost_ret (v := .tuple #[.agg #[.slice none 0 0], .int .i64 1]) (by simp [results, Try.results37, go_sem, hs6]) rfl ?_
      exact ⟨_, rfl, plan_nil _ _, hb9⟩
    · have g1b : decide (done < 0) = false := decide_eq_false g1
      by_cases g2 : (l.length : Int) < done
      · obtain ⟨h1, h2⟩ := HAR.out (fun h => by have := inB_iff.1 h.1; omega)
        rw [h1, h2]
        have g2b : decide ((l.length : Int) < done) = true := decide_eq_true g2
        clear h1 h2 HAR
        go_enter Try.func37, Try.ntmps37
        go_wp2_with (first | (have h9 := HR0; clear h9; refine wpList_load_guard (P := Try.prog) (by rfl) 29 (.tmp 5) rfl w.heap.size 0 rfl C.toList _ HR0.out Try.underlying29 rfl (by rw [HC28.out]; exact info29) ?_) | (go_at_call 89; refine (HCO.out _ hb0).mono ?_; rintro e w1 ⟨rfl, hb1⟩; have hB1 : Below w.heap.size w w1 := hb0.trans (hb1.mono hb0.size); have k5 := b5.below hb1 b5.lt; have k7 := b7.below hb1 b7.lt; have k10 := b10.below hb1 b10.lt; have hl10 := k10.lt; have q7 := k7.cell 0 rfl; have x10 := k10.cell 0 rfl; have f10 := k10.fro 0; have hz1 := hb1.size; clear hb1 HR0) | (go_at_call 81; refine (HDY.out _).mono ?_; rintro e wq ⟨rfl, rfl⟩; rw [HR2.out]; clear HR2))
        have hs6 := (k10.set 0 (.slice none 0 0)).cell 0 rfl
        have hb9 : Below w.heap.size w (w1.setCell ⟨w.heap.size + 2, 0, none⟩ (.slice none 0 0)) := hB1.setCell (by simp) _
        generalize w1.setCell ⟨w.heap.size + 2, 0, none⟩ (.slice none 0 0) = w9 at *
        refine bodyPost_ret (v := .tuple #[.agg #[.slice none 0 0], .int .i64 1]) (by simp [results, Try.results37, go_sem, hs6]) rfl ?_
        exact ⟨_, rfl, plan_nil _ _, hb9⟩
      · have g2b : decide ((l.length : Int) < done) = false := decide_eq_false g2
        by_cases g3 : (old.length : Int) < done
        · obtain ⟨h1, h2⟩ := HAR.out (fun h => by have := inB_iff.1 h.1; omega)
          rw [h1, h2]
          have g3b : decide ((old.length : Int) < done) = true := decide_eq_true g3
          clear h1 h2 HAR
          go_enter Try.func37, Try.ntmps37
          go_wp2_with (first | (have h9 := HR0; clear h9; refine wpList_load_guard (P := Try.prog) (by rfl) 29 (.tmp 5) rfl w.heap.size 0 rfl C.toList _ HR0.out Try.underlying29 rfl (by rw [HC28.out]; exact info29) ?_) | (go_at_call 89; refine (HCO.out _ hb0).mono ?_; rintro e w1 ⟨rfl, hb1⟩; have hB1 : Below w.heap.size w w1 := hb0.trans (hb1.mono hb0.size); have k5 := b5.below hb1 b5.lt; have k7 := b7.below hb1 b7.lt; have k10 := b10.below hb1 b10.lt; have hl10 := k10.lt; have q7 := k7.cell 0 rfl; have x10 := k10.cell 0 rfl; have f10 := k10.fro 0; have hz1 := hb1.size; clear hb1 HR0) | (go_at_call 81; refine (HDY.out _).mono ?_; rintro e wq ⟨rfl, rfl⟩; rw [HR2.out]; clear HR2))
          have hs6 := (k10.set 0 (.slice none 0 0)).cell 0 rfl
          have hb9 : Below w.heap.size w (w1.setCell ⟨w.heap.size + 2, 0, none⟩ (.slice none 0 0)) := hB1.setCell (by simp) _
          generalize w1.setCell ⟨w.heap.size + 2, 0, none⟩ (.slice none 0 0) = w9 at *
          refine bodyPost_ret (v := .tuple #[.agg #[.slice none 0 0], .int .i64 1]) (by simp [results, Try.results37, go_sem, hs6]) rfl ?_
          exact ⟨_, rfl, plan_nil _ _, hb9⟩
        · have g3b : decide ((old.length : Int) < done) = false := decide_eq_false g3
          cases hr2 : inB f 0 100000 with
          | false =>
            obtain ⟨h1, h2⟩ := HAR.out (fun h => by rw [hr2] at h; cases h.2)
            rw [h1, h2]
            have HR2 := Lib.hid hr2
            clear h1 h2 HAR hr2
            go_enter Try.func37, Try.ntmps37
            go_wp2_with (first | (have h9 := HR0; clear h9; refine wpList_load_guard (P := Try.prog) (by rfl) 29 (.tmp 5) rfl w.heap.size 0 rfl C.toList _ HR0.out Try.underlying29 rfl (by rw [HC28.out]; exact info29) ?_) | (go_at_call 89; refine (HCO.out _ hb0).mono ?_; rintro e w1 ⟨rfl, hb1⟩; have hB1 : Below w.heap.size w w1 := hb0.trans (hb1.mono hb0.size); have k5 := b5.below hb1 b5.lt; have k7 := b7.below hb1 b7.lt; have k10 := b10.below hb1 b10.lt; have hl10 := k10.lt; have q7 := k7.cell 0 rfl; have x10 := k10.cell 0 rfl; have f10 := k10.fro 0; have hz1 := hb1.size; clear hb1 HR0) | (go_at_call 81; refine (HDY.out _).mono ?_; rintro e wq ⟨rfl, rfl⟩; rw [HR2.out]; clear HR2))
            have hs6 := (k10.set 0 (.slice none 0 0)).cell 0 rfl
            have hb9 : Below w.heap.size w (w1.setCell ⟨w.heap.size + 2, 0, none⟩ (.slice none 0 0)) := hB1.setCell (by simp) _
            generalize w1.setCell ⟨w.heap.size + 2, 0, none⟩ (.slice none 0 0) = w9 at *
            refine bodyPost_ret (v := .tuple #[.agg #[.slice none 0 0], .int .i64 1]) (by simp [results, Try.results37, go_sem, hs6]) rfl ?_
            exact ⟨_, rfl, plan_nil _ _, hb9⟩
          | true =>
            have hf := inB_iff.1 hr2
            obtain ⟨hf0, hf1⟩ := hf
            obtain ⟨dn, rfl⟩ : ∃ dn : Nat, done = (dn : Int) := ⟨done.toNat, by omega⟩
            have hdl : dn ≤ l.length := by omega
            have hdo : dn ≤ old.length := by omega
            have hdc : dn ≤ ct := by omega
            have hdcI : (dn : Int) ≤ (ct : Int) := by omega
            have hd0 : 0 ≤ (dn : Int) := by omega
            have HRR := Lib.hid (And.intro (show inB (dn : Int) 0 (min (l.length : Int) (old.length : Int)) = true from inB_iff.2 (by omega)) hr2)
            have HR2 := Lib.hid hr2
            have HST : Hid (stayB old f 0 = true) := rfl
            have hdn : ((dn : Int)).toNat = dn := Int.toNat_natCast dn
            have HDN := Lib.hid hdn
            clear hr2 hdn HAR
            have hdd : (staysOf old dn).length = dn := stays_len hdo
            have HDD := Lib.hid hdd
            have htl : (old.take dn).length = dn := by rw [List.length_take]; omega
            have HTL := Lib.hid htl
            have HTT := Lib.hid (fun W (hb : Below w.heap.size w W) => turns_take (HPW.out W hb) dn)
            have HDA : Hid (∀ W, Below w.heap.size w W → Calls Try.prog 28 #[.agg #[.slice T dn ct]] W (IntsEnd (staysOf old dn) W)) := fun W hb => by
              have := dates_any (old.take dn) T ct W (HTT.out W hb) (by rw [htl]; omega)
              rw [htl] at this
              exact this
            have HSD : Hid (∀ k (h : k < dn), (staysOf old dn)[k]? = some (old[k]'(Nat.lt_of_lt_of_le h hdo)).day) := fun k h => by
              unfold staysOf
              have hko : k < old.length := Nat.lt_of_lt_of_le h hdo
              rw [List.getElem?_map, List.getElem?_take_of_lt h, List.getElem?_eq_getElem hko]
              rfl
            clear hdd htl
            go_enter Try.func37, Try.ntmps37
            go_wp2_with (first | (have h9 := HR0; clear h9; refine wpList_load_guard (P := Try.prog) (by rfl) 29 (.tmp 5) rfl w.heap.size 0 rfl C.toList _ HR0.out Try.underlying29 rfl (by rw [HC28.out]; exact info29) ?_) | (go_at_call 89; refine (HCO.out _ hb0).mono ?_; rintro e w1 ⟨rfl, hb1⟩; have hB1 : Below w.heap.size w w1 := hb0.trans (hb1.mono hb0.size); have k5 := b5.below hb1 b5.lt; have k7 := b7.below hb1 b7.lt; have k10 := b10.below hb1 b10.lt; have hl10 := k10.lt; have q7 := k7.cell 0 rfl; have x10 := k10.cell 0 rfl; have f10 := k10.fro 0; have hz1 := hb1.size; clear hb1 HR0) | (go_at_call 81; refine (HDY.out _).mono ?_; rintro e wq ⟨rfl, rfl⟩; rw [HR2.out]; clear HR2) | (go_at_call 28; refine (HDA.out _ hB1).mono ?_; rintro e w2 ⟨v2, rfl, ho2, hb2⟩; rw [HDD.out] at ho2; obtain ⟨A4, c4, rfl, _, _⟩ := ownsSlice ho2; have hB2 : Below w.heap.size w w2 := hB1.trans (hb2.mono hB1.size); have d2 := ownsRow_lies ho2; have k52 := k5.below hb2 k5.lt; have k72 := k7.below hb2 k7.lt; have k102 := k10.below hb2 k10.lt; have hl52 := k52.lt; have hl72 := k72.lt; have hl102 := k102.lt; have hz2 := hB2.size; clear hb2 ho2 HDA k5 k7 k10 q7 x10 f10 hl10))
            have HK5 : Hid (∀ W, Below w2.heap.size w2 W → Bk W w.heap.size 29 C) := fun W hb => k52.below hb hl52
            have HK7 : Hid (∀ W, Below w2.heap.size w2 W → Bk W (w.heap.size + 1) 42 #[.slice T old.length ct]) := fun W hb => k72.below hb hl72
            have HK10 : Hid (∀ W, Below w2.heap.size w2 W → Bk W (w.heap.size + 2) 42 #[.slice none 0 0]) := fun W hb => k102.below hb hl102
            have HBW : Hid (∀ W, Below w2.heap.size w2 W → Below w.heap.size w W) := fun W hb => hB2.trans (hb.mono hB2.size)
            have HDW : Hid (∀ W, Below w2.heap.size w2 W → Lies W w2.heap.size A4 (ints (staysOf old dn))) := fun W hb => d2.below hb (Nat.le_refl _)
            clear k52 k72 k102 d2 hb0 b5 b7 b10
            go_loopw [15] (fun y wr => ∃ k : Nat, k ≤ dn ∧ y = .int .i64 (k : Int) ∧ Hid (stayB old f k = true) ∧ Below w2.heap.size w2 wr) (fun y _ => dn - (intOf y).toNat)
            case atStart => exact ⟨0, Nat.zero_le _, rfl, HST, Below.refl _ _⟩
            case round =>
            obtain ⟨k, hk, rfl, HSK, hbw⟩ := hrel
            have hbs := hbw.size
            have hBw := HBW.out wr hbw
            by_cases hlt : k < dn
            · have hko : k < old.length := by omega
              have hkI : (k : Int) < (dn : Int) := by omega
              have hk0 : 0 ≤ (k : Int) := by omega
              have hks : k < (staysOf old dn).length := by rw [HDD.out]; exact hlt
              obtain ⟨a4, rfl, haT, c0⟩ := int_at (HDW.out wr hbw) hks
              have hde : (staysOf old dn)[k] = old[k].day := by
                have := HSD.out k hlt
                rw [List.getElem?_eq_getElem hks] at this
                exact Option.some.inj this
              rw [hde] at c0
              clear hde
              have HSA := Lib.hid (stayAt_eq (f := f) hko)
              have HSC := Lib.hid (stayB_succ (old := old) (f := f) k)
              have HSDd := Lib.hid (fun h => stayB_bad (old := old) (f := f) (k := k) (n := dn) hlt h)
              have HRS := Lib.hid (fun h => repl_state (Y := Y) (f := f) (old := old) (done := (dn : Int)) HN.out HRR.out h)
              generalize old[k].day = d at *
              have hbA : Below w2.heap.size w2 wr.drew := hbw.drew
              have kA := HK10.out _ hbA
              have hBA := HBW.out _ hbA
              by_cases h1 : d < 0
              · have h1b : decide (d < 0) = true := decide_eq_true h1
                have HBAD : Hid (stayAt old f k = false) := by show _ = _; rw [HSA.out, decide_eq_false (by omega)]; rfl
                obtain ⟨r1, r2⟩ := HRS.out (by rw [HDN.out]; exact HSDd.out HBAD.out)
                rw [r1, r2]
                clear HSA HSC HSDd HRS r1 r2
                go_upto_region 11 with fail
                refine wp_region_held_drew (S := (fun w' => w'.cell? (a4.add k) = some (.int .i64 d))) (by kernel_rfl) ?_ (fun hHeld => ?_)
                · exact c0
                refine tk 0 58 ?_
                refine tk 1 59 ?_
                refine tk 2 60 ?_
                refine tk 3 61 ?_
                refine tk 4 62 ?_
                refine tk 5 63 ?_
                refine sk 6 64 ?_
                refine sk 7 65 ?_
                refine sk 8 66 ?_
                refine sk 9 67 ?_
                refine sk 10 68 ?_
                refine sk 11 69 ?_
                refine tk 12 70 ?_
                refine tk 13 71 ?_
                refine sk 14 72 ?_
                refine sk 15 73 ?_
                refine sk 16 74 ?_
                refine sk 17 75 ?_
                refine sk 18 76 ?_
                refine sk 19 77 ?_
                refine sk 20 78 ?_
                refine sk 21 79 ?_
                refine sk 22 80 ?_
                refine sk 23 81 ?_
                refine sk 24 82 ?_
                refine sk 25 83 ?_
                refine sk 26 84 ?_
                refine sk 27 85 ?_
                refine tk 28 86 ?_
                refine wpAnyH_done (by kernel_rfl) ?_ _
                clear hHeld
                have x10 := kA.cell 0 rfl
                have f10 := kA.fro 0
                have hz9 := kA.lt
                generalize wr.drew = wA at *
                go_wp2
                have hs6 := (kA.set 0 (.slice none 0 0)).cell 0 rfl
                have hb9 : Below w.heap.size w (wA.setCell ⟨w.heap.size + 2, 0, none⟩ (.slice none 0 0)) := hBA.setCell (by simp) _
                generalize wA.setCell ⟨w.heap.size + 2, 0, none⟩ (.slice none 0 0) = w9 at *
                refine bodyPost_ret (v := .tuple #[.agg #[.slice none 0 0], .int .i64 8]) (by simp [results, Try.results37, go_sem, hs6]) rfl ?_
                exact ⟨_, rfl, plan_nil _ _, hb9⟩
              · have h1b : decide (d < 0) = false := decide_eq_false h1
                by_cases h2 : f ≤ d
                · have h2b : decide (f ≤ d) = true := decide_eq_true h2
                  have HBAD : Hid (stayAt old f k = false) := by show _ = _; rw [HSA.out, decide_eq_false (show ¬ d < f by omega), Bool.false_and, Bool.and_false]
                  obtain ⟨r1, r2⟩ := HRS.out (by rw [HDN.out]; exact HSDd.out HBAD.out)
                  rw [r1, r2]
                  clear HSA HSC HSDd HRS r1 r2
                  go_upto_region 11 with fail
                  refine wp_region_held_drew (S := (fun w' => w'.cell? (a4.add k) = some (.int .i64 d))) (by kernel_rfl) ?_ (fun hHeld => ?_)
                  · exact c0
                  refine tk 0 58 ?_
                  refine tk 1 59 ?_
                  refine tk 2 60 ?_
                  refine tk 3 61 ?_
                  refine tk 4 62 ?_
                  refine tk 5 63 ?_
                  refine tk 6 64 ?_
                  refine tk 7 65 ?_
                  refine tk 8 66 ?_
                  refine tk 9 67 ?_
                  refine tk 10 68 ?_
                  refine tk 11 69 ?_
                  refine tk 12 70 ?_
                  refine tk 13 71 ?_
                  refine sk 14 72 ?_
                  refine sk 15 73 ?_
                  refine sk 16 74 ?_
                  refine sk 17 75 ?_
                  refine sk 18 76 ?_
                  refine sk 19 77 ?_
                  refine sk 20 78 ?_
                  refine sk 21 79 ?_
                  refine sk 22 80 ?_
                  refine sk 23 81 ?_
                  refine sk 24 82 ?_
                  refine sk 25 83 ?_
                  refine sk 26 84 ?_
                  refine sk 27 85 ?_
                  refine tk 28 86 ?_
                  refine wpAnyH_done (by kernel_rfl) ?_ _
                  clear hHeld
                  have x10 := kA.cell 0 rfl
                  have f10 := kA.fro 0
                  have hz9 := kA.lt
                  generalize wr.drew = wA at *
                  go_wp2
                  have hs6 := (kA.set 0 (.slice none 0 0)).cell 0 rfl
                  have hb9 : Below w.heap.size w (wA.setCell ⟨w.heap.size + 2, 0, none⟩ (.slice none 0 0)) := hBA.setCell (by simp) _
                  generalize wA.setCell ⟨w.heap.size + 2, 0, none⟩ (.slice none 0 0) = w9 at *
                  refine bodyPost_ret (v := .tuple #[.agg #[.slice none 0 0], .int .i64 8]) (by simp [results, Try.results37, go_sem, hs6]) rfl ?_
                  exact ⟨_, rfl, plan_nil _ _, hb9⟩
                · have h2b : decide (f ≤ d) = false := decide_eq_false h2
                  by_cases h3 : k = 0
                  · have HGOOD : Hid (stayB old f (k + 1) = true) := by show _ = _; rw [HSC.out, HSK.out, HSA.out, decide_eq_true (show 0 ≤ d by omega), decide_eq_true (show d < f by omega), decide_eq_true h3]; rfl
                    have h3i : ¬ (0 : Int) < (k : Int) := by omega
                    have h3b : decide ((0 : Int) < (k : Int)) = false := decide_eq_false h3i
                    have h3c : decide (0 < k) = false := decide_eq_false (by omega)
                    clear h3i
                    clear HSA HSC HSDd HRS h3
                    go_upto_region 11 with fail
                    refine wp_region_held_drew (S := (fun w' => w'.cell? (a4.add k) = some (.int .i64 d))) (by kernel_rfl) ?_ (fun hHeld => ?_)
                    · exact c0
                    refine tk 0 58 ?_
                    refine tk 1 59 ?_
                    refine tk 2 60 ?_
                    refine tk 3 61 ?_
                    refine tk 4 62 ?_
                    refine tk 5 63 ?_
                    refine tk 6 64 ?_
                    refine tk 7 65 ?_
                    refine tk 8 66 ?_
                    refine tk 9 67 ?_
                    refine tk 10 68 ?_
                    refine tk 11 69 ?_
                    refine tk 12 70 ?_
                    refine tk 13 71 ?_
                    refine tk 14 72 ?_
                    refine tk 15 73 ?_
                    refine tk 16 74 ?_
                    refine sk 17 75 ?_
                    refine sk 18 76 ?_
                    refine sk 19 77 ?_
                    refine sk 20 78 ?_
                    refine sk 21 79 ?_
                    refine sk 22 80 ?_
                    refine sk 23 81 ?_
                    refine sk 24 82 ?_
                    refine sk 25 83 ?_
                    refine sk 26 84 ?_
                    refine tk 27 85 ?_
                    refine tk 28 86 ?_
                    refine wpAnyH_done (by kernel_rfl) ?_ _
                    clear hHeld
                    go_wp2
                    go_roundw
                    case rel => exact ⟨k + 1, by omega, by go_num, HGOOD, hbA⟩
                    case measure => simp [intOf] <;> omega
                  · have h3i : (0 : Int) < (k : Int) := by omega
                    have h3b : decide ((0 : Int) < (k : Int)) = true := decide_eq_true h3i
                    have h3p : 0 < k := by omega
                    have hkp : k - 1 < old.length := by omega
                    have hkq : k - 1 < (staysOf old dn).length := by rw [HDD.out]; omega
                    obtain ⟨a4', e2, _, p0⟩ := int_at (HDW.out wr hbw) hkq
                    cases e2
                    have hpe : (staysOf old dn)[k - 1] = (old[k - 1]'hkp).day := by
                      have := HSD.out (k - 1) (by omega)
                      rw [List.getElem?_eq_getElem hkq] at this
                      exact Option.some.inj this
                    rw [hpe] at p0
                    clear hpe
                    have hkd : ((k : Int) - 1).toNat = k - 1 := by omega
                    have hk1 : 0 ≤ (k : Int) - 1 := by omega
                    have hk2 : (k : Int) - 1 < (dn : Int) := by omega
                    have hk3 : 1 ≤ (k : Int) := by omega
                    generalize (old[k - 1]'hkp).day = pd at *
                    have hsub0 : Hid (IntKind.i64.wrap ((k : Int) - 1) = (k : Int) - 1) := IntWalk.i64_in _ (by omega)
                    by_cases h4 : d ≤ pd
                    · have h4b : decide (d ≤ pd) = true := decide_eq_true h4
                      have HBAD : Hid (stayAt old f k = false) := by
                        show _ = _
                        rw [HSA.out, decide_eq_false h3, decide_eq_false (show ¬ pd < d by omega), Bool.or_false, Bool.and_false, Bool.and_false]
                      obtain ⟨r1, r2⟩ := HRS.out (by rw [HDN.out]; exact HSDd.out HBAD.out)
                      rw [r1, r2]
                      clear HSA HSC HSDd HRS r1 r2 h3
                      go_upto_region 11 with fail
                      have hsub := hsub0.out
                      refine wp_region_held_drew (S := (fun w' => w'.cell? (a4.add k) = some (.int .i64 d) ∧ w'.cell? (a4.add (k - 1)) = some (.int .i64 pd))) (by kernel_rfl) ?_ (fun hHeld => ?_)
                      · exact ⟨c0, p0⟩
                      refine tk 0 58 ?_
                      refine tk 1 59 ?_
                      refine tk 2 60 ?_
                      refine tk 3 61 ?_
                      refine tk 4 62 ?_
                      refine tk 5 63 ?_
                      refine tk 6 64 ?_
                      refine tk 7 65 ?_
                      refine tk 8 66 ?_
                      refine tk 9 67 ?_
                      refine tk 10 68 ?_
                      refine tk 11 69 ?_
                      refine tk 12 70 ?_
                      refine tk 13 71 ?_
                      refine tk 14 72 ?_
                      refine tk 15 73 ?_
                      refine tk 16 74 ?_
                      refine tk 17 75 ?_
                      refine tk 18 76 ?_
                      refine tk 19 77 ?_
                      refine tk 20 78 ?_
                      refine tk 21 79 ?_
                      refine tk 22 80 ?_
                      refine tk 23 81 ?_
                      refine tk 24 82 ?_
                      refine tk 25 83 ?_
                      refine tk 26 84 ?_
                      refine tk 27 85 ?_
                      refine tk 28 86 ?_
                      refine wpAnyH_done (by kernel_rfl) ?_ _
                      clear hHeld
                      clear hsub
                      have x10 := kA.cell 0 rfl
                      have f10 := kA.fro 0
                      have hz9 := kA.lt
                      generalize wr.drew = wA at *
                      go_wp2
                      have hs6 := (kA.set 0 (.slice none 0 0)).cell 0 rfl
                      have hb9 : Below w.heap.size w (wA.setCell ⟨w.heap.size + 2, 0, none⟩ (.slice none 0 0)) := hBA.setCell (by simp) _
                      generalize wA.setCell ⟨w.heap.size + 2, 0, none⟩ (.slice none 0 0) = w9 at *
                      refine bodyPost_ret (v := .tuple #[.agg #[.slice none 0 0], .int .i64 8]) (by simp [results, Try.results37, go_sem, hs6]) rfl ?_
                      exact ⟨_, rfl, plan_nil _ _, hb9⟩
                    · have h4b : decide (d ≤ pd) = false := decide_eq_false h4
                      have HGOOD : Hid (stayB old f (k + 1) = true) := by
                        show _ = _
                        rw [HSC.out, HSK.out, HSA.out, decide_eq_true (show 0 ≤ d by omega), decide_eq_true (show d < f by omega), decide_eq_true (show pd < d by omega), Bool.or_true]; rfl
                      clear HSA HSC HSDd HRS h3
                      go_upto_region 11 with fail
                      have hsub := hsub0.out
                      refine wp_region_held_drew (S := (fun w' => w'.cell? (a4.add k) = some (.int .i64 d) ∧ w'.cell? (a4.add (k - 1)) = some (.int .i64 pd))) (by kernel_rfl) ?_ (fun hHeld => ?_)
                      · exact ⟨c0, p0⟩
                      refine tk 0 58 ?_
                      refine tk 1 59 ?_
                      refine tk 2 60 ?_
                      refine tk 3 61 ?_
                      refine tk 4 62 ?_
                      refine tk 5 63 ?_
                      refine tk 6 64 ?_
                      refine tk 7 65 ?_
                      refine tk 8 66 ?_
                      refine tk 9 67 ?_
                      refine tk 10 68 ?_
                      refine tk 11 69 ?_
                      refine tk 12 70 ?_
                      refine tk 13 71 ?_
                      refine tk 14 72 ?_
                      refine tk 15 73 ?_
                      refine tk 16 74 ?_
                      refine tk 17 75 ?_
                      refine tk 18 76 ?_
                      refine tk 19 77 ?_
                      refine tk 20 78 ?_
                      refine tk 21 79 ?_
                      refine tk 22 80 ?_
                      refine tk 23 81 ?_
                      refine tk 24 82 ?_
                      refine tk 25 83 ?_
                      refine tk 26 84 ?_
                      refine tk 27 85 ?_
                      refine tk 28 86 ?_
                      refine wpAnyH_done (by kernel_rfl) ?_ _
                      clear hHeld
                      clear hsub
                      go_wp2
                      go_roundw
                      case rel => exact ⟨k + 1, by omega, by go_num, HGOOD, hbA⟩
                      case measure => simp [intOf] <;> omega
            · obtain rfl : k = dn := by omega
              have hirr : ¬ (k : Int) < (k : Int) := by omega
              have k5 := HK5.out wr hbw
              have k7 := HK7.out wr hbw
              have k10 := HK10.out wr hbw
              have hl5 := k5.lt
              have hl7 := k7.lt
              have hl10 := k10.lt
              have q7 := k7.cell 0 rfl
              have x10 := k10.cell 0 rfl
              have f10 := k10.fro 0
              have HR5 := Lib.hid k5.range
              have hSX := stay_bd (old := old) (f := f) hf1 hdo HSK.out
              have HBS : Hid (Calls Try.prog 94 #[.agg C, .slice A l.length c, .agg #[.slice T old.length ct], .slice A4 k c4, .int .i64 (k : Int), .int .i64 f] wr (BestE (rplD Y l f old (staysOf old k)) wr)) := by
                have h := best_rec wr C Y l A c old T ct k f (HYW.out wr hBw) (HTW.out wr hBw) HO.out HVT.out HTM.out ⟨hf0, hf1⟩ (HPW.out wr hBw) ho hdl (l.length - k) (staysOf old k) A4 c4 wr (Below.refl _ _) (by rw [HDD.out]; omega) ((HDW.out wr hbw).more hbw.size) (fun x hx => by have := hSX x hx; omega)
                have e := ref_rpl (Y := Y) (l := l) (f := f) (old := old) (ds := staysOf old k) (by rw [HDD.out]; exact hdl)
                rw [HDD.out] at e h
                rw [e] at h
                exact h
              clear hSX
              cases hrp : rplD Y l f old (staysOf old k) with
              | none =>
                obtain ⟨r1, r2⟩ := repl_span (Y := Y) (l := l) (f := f) (old := old) (done := (k : Int)) HN.out HRR.out (by rw [HDN.out]; exact HSK.out) (by rw [HDN.out]; exact hrp)
                rw [hrp] at HBS
                have HRE := Lib.hid (And.intro r1 r2)
                clear r1 r2 hrp
                go_wp2_with (first | (have h9 := HR5; clear h9; refine wpList_load_guard (P := Try.prog) (by rfl) 29 (.tmp 5) rfl w.heap.size 0 rfl C.toList _ HR5.out Try.underlying29 rfl (by rw [HC28.out]; exact info29) ?_; clear HR5) | (go_at_call 94; refine HBS.out.mono ?_; rintro e w3 ⟨v3, o3, rfl, ⟨rfl, rfl⟩, hb3⟩; have hB3 : Below w.heap.size w w3 := hBw.trans (hb3.mono hBw.size); have k103 := k10.below hb3 hl10; have x10 := k103.cell 0 rfl; have f10 := k103.fro 0; have hl103 := k103.lt; clear hb3))
                have hs6 := (k103.set 0 (.slice none 0 0)).cell 0 rfl
                have hb9 : Below w.heap.size w (w3.setCell ⟨w.heap.size + 2, 0, none⟩ (.slice none 0 0)) := hB3.setCell (by simp) _
                generalize w3.setCell ⟨w.heap.size + 2, 0, none⟩ (.slice none 0 0) = w9 at *
                refine bodyPost_ret (v := .tuple #[.agg #[.slice none 0 0], .int .i64 70]) (by simp [results, Try.results37, go_sem, hs6]) rfl ?_
                rw [HRE.out.1, HRE.out.2]
                exact ⟨_, rfl, plan_nil _ _, hb9⟩
              | some P =>
                obtain ⟨r1, r2⟩ := repl_ok (Y := Y) (l := l) (f := f) (old := old) (done := (k : Int)) HN.out HRR.out (by rw [HDN.out]; exact HSK.out) (by rw [HDN.out]; exact hrp)
                rw [hrp] at HBS
                rw [HDN.out] at r2
                have HRE := Lib.hid (And.intro r1 r2)
                have hPl : P.length = l.length := (rpl_opt (ds := staysOf old k) (by rw [HDD.out]; exact hdl) hrp).1.len
                have H46 : Hid (∀ W (B0 : Option Addr) (cb : Nat), Below w.heap.size w W → Lies W W.heap.size B0 (ints P) → Calls Try.prog 46 #[.agg C, .slice A l.length c, .slice T k ct, .slice B0 P.length cb] W (PlanEnd (usual Y l (old.take k) P) W)) := fun W B0 cb hb hl => by
                  have h := rusual_any C Y l A c (old.take k) T ct P B0 cb W (HYW.out W hb) HO.out (HTW.out W hb) (HTT.out W hb) hl (by omega) hl12 (by rw [HTL.out]; omega)
                  rw [HTL.out] at h
                  exact h
                clear r1 r2 hrp hPl
                generalize usual Y l (old.take k) P = U at *
                go_wp2_with (first | (have h9 := HR5; clear h9; refine wpList_load_guard (P := Try.prog) (by rfl) 29 (.tmp 5) rfl w.heap.size 0 rfl C.toList _ HR5.out Try.underlying29 rfl (by rw [HC28.out]; exact info29) ?_; clear HR5) | (have h9 := HR6; clear h9; refine wpList_load_guard (P := Try.prog) (by rfl) 29 (.tmp 5) rfl w.heap.size 0 rfl C.toList _ HR6.out Try.underlying29 rfl (by rw [HC28.out]; exact info29) ?_; clear HR6) | (go_at_call 94; refine HBS.out.mono ?_; rintro e w3 ⟨v3, o3, rfl, ⟨A3, c3, rfl, rfl, hl3⟩, hb3⟩; have hB3 : Below w.heap.size w w3 := hBw.trans (hb3.mono hBw.size); have k103 := k10.below hb3 hl10; have k53 := k5.below hb3 hl5; have hl53 := k53.lt; have HR6 := Lib.hid k53.range; have x10 := k103.cell 0 rfl; have f10 := k103.fro 0; have hl103 := k103.lt; clear hb3) | (go_at_call 46; refine (H46.out _ A3 c3 hB3 hl3).mono ?_; rintro e w4 ⟨v4, rfl, ho4, hb4⟩; obtain ⟨A5, c5, rfl, _, _⟩ := ownsSlice ho4; have hB4 : Below w.heap.size w w4 := hB3.trans (hb4.mono hB3.size); have k104 := k103.below hb4 hl103; have x10 := k104.cell 0 rfl; have f10 := k104.fro 0; have hz3 := hB3.size))
                have hs6 := (k104.set 0 (.slice A5 U.length c5)).cell 0 rfl
                have hb9 : Below w.heap.size w (w4.setCell ⟨w.heap.size + 2, 0, none⟩ (.slice A5 U.length c5)) := hB4.setCell (by simp) _
                have ho9 : (w4.setCell ⟨w.heap.size + 2, 0, none⟩ (.slice A5 U.length c5)).ownsRow w3.heap.size 55 3 (.slice A5 U.length c5) U.length (turnsC U) := (far_setCells (w.heap.size + 2) [.slice A5 U.length c5] 0 w4).own ho4 hl103
                generalize w4.setCell ⟨w.heap.size + 2, 0, none⟩ (.slice A5 U.length c5) = w9 at *
                refine bodyPost_ret (v := .tuple #[.agg #[.slice A5 U.length c5], .int .i64 0]) (by simp [results, Try.results37, go_sem, hs6]) rfl ?_
                rw [HRE.out.1, HRE.out.2]
                exact ⟨_, rfl, ownsRow_base ho9 hz3, hb9⟩
  · obtain ⟨h1, h2⟩ := repl_com (f := f) (old := old) (done := done) hn
    rw [h1, h2]
    have HN := Lib.hid hn
    generalize comE Y l = N at *
    have hne : (N != 0) = true := by simp [hn]
    clear h1 h2 hn
    go_enter Try.func37, Try.ntmps37
    go_wp2_with (first | (have h9 := HR0; clear h9; refine wpList_load_guard (P := Try.prog) (by rfl) 29 (.tmp 5) rfl w.heap.size 0 rfl C.toList _ HR0.out Try.underlying29 rfl (by rw [HC28.out]; exact info29) ?_) | (go_at_call 89; refine (HCO.out _ hb0).mono ?_; rintro e w1 ⟨rfl, hb1⟩; have hB1 : Below w.heap.size w w1 := hb0.trans (hb1.mono hb0.size); have k5 := b5.below hb1 b5.lt; have k7 := b7.below hb1 b7.lt; have k10 := b10.below hb1 b10.lt; have hl10 := k10.lt; have q7 := k7.cell 0 rfl; have x10 := k10.cell 0 rfl; have f10 := k10.fro 0; have hz1 := hb1.size; clear hb1 HR0))
    have hs6 := (k10.set 0 (.slice none 0 0)).cell 0 rfl
    have hb9 : Below w.heap.size w (w1.setCell ⟨w.heap.size + 2, 0, none⟩ (.slice none 0 0)) := hB1.setCell (by simp) _
    generalize w1.setCell ⟨w.heap.size + 2, 0, none⟩ (.slice none 0 0) = w9 at *
    refine bodyPost_ret (v := .tuple #[.agg #[.slice none 0 0], .int .i64 N]) (by simp [results, Try.results37, go_sem, hs6]) rfl ?_
    exact ⟨_, rfl, plan_nil _ _, hb9⟩
end Go.Proofs.Ytjgnikmnadmheaa
