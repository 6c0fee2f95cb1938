/- The law CrewReplans, walked. Printed by wip/gen_z23.py. -/
import Derived.Test.YtjgnikmnadmheaaG02
import Derived.Test.YtjgnikmnadmheaaG89
import Derived.Test.YtjgnikmnadmheaaG90
import Derived.Test.YtjgnikmnadmheaaG93
import Derived.Test.YtjgnikmnadmheaaG94
import Derived.Test.YtjgnikmnadmheaaG96

namespace Go.Proofs.Ytjgnikmnadmheaa
open Go.RowKit

theorem small_l2 {Y : Yd} {l : List Tk} (h : slowB Y l = false) : Small Y ∧ tame l := by
  have hv : vastB Y l = false := by unfold slowB at h; rw [Bool.or_eq_false_iff] at h; exact h.1
  obtain ⟨h1, h2, _⟩ := vast_facts hv
  exact ⟨⟨by omega, by omega, by omega, h2⟩, tame_of hv⟩
theorem sameB_self (l : List Int) : sameB l l = true := by unfold sameB; simp
theorem replP_len (Y : Yd) (l : List Tk) (f : Int) (old : List Tu) (done : Int) : (replP Y l f old done).length ≤ 12 := by
  by_cases hc : comE Y l = 0
  · by_cases h2 : inB done 0 (min (l.length : Int) (old.length : Int)) = true ∧ inB f 0 100000 = true
    · cases h3 : stayB old f done.toNat with
      | false => rw [(repl_state hc h2 h3).2]; simp
      | true =>
        cases h4 : rplD Y l f old (staysOf old done.toNat) with
        | none => rw [(repl_span hc h2 h3 h4).2]; simp
        | some P =>
          have hi := inB_iff.1 h2.1
          have hsl : (staysOf old done.toNat).length = done.toNat := stays_len (by omega)
          have hPl := (rpl_opt (by omega) h4).1.len
          have htl : (old.take done.toNat).length = done.toNat := by rw [List.length_take]; omega
          have := (com_ok hc).2.n
          rw [(repl_ok hc h2 h3 h4).2, usual_len Y l _ P (by rw [htl, hPl]; omega), hPl]
          omega
    · rw [(repl_arg hc h2).2]; simp
  · rw [(repl_com hc).2]; simp
set_option maxRecDepth 100000 in
set_option maxHeartbeats 4000000 in
theorem lawReplans_any (C : Array Value) (Y : Yd) (l : List Tk) (A : Option Addr) (c : Nat) (ts : List Tu) (T : Option Addr) (ct : Nat) (us : List Tu) (U : Option Addr) (cu : Nat) (done f : Int) (w : World) (hY : YardAt w w.heap.size C Y) (hT : TasksAt w w.heap.size A l)
    (hP : Lies w w.heap.size T (turnsC ts)) (hgp : ∀ p ∈ ts, i64v p.day ∧ i64v p.pit ∧ i64v p.mas) (hQ : Lies w w.heap.size U (turnsC us)) (_ : ∀ p ∈ us, i64v p.day ∧ i64v p.pit ∧ i64v p.mas) (hcp : ts.length ≤ ct) (_ : us.length ≤ cu) :
    Calls Try.prog 8 #[.agg C, .slice A l.length c, .agg #[.slice T ts.length ct], .agg #[.slice U us.length cu], .int .i64 done, .int .i64 f] w fun e w' => e = .returned (.bool true) ∧ Below w.heap.size w w' := by
  have HWO := Lib.hid works_any
  have HSL := Lib.hid (fun W (hb : Below w.heap.size w W) => slow_any C Y l A c W ((hY.below hb (Nat.le_refl _)).more hb.size) ((hT.below hb (Nat.le_refl _)).more hb.size))
  have HLOAD : Hid (∀ W : World, Bk W w.heap.size 29 C → W.rangeAt w.heap.size 0 C.toList) := fun W hb => hb.range
  have HC28 := Lib.hid hY.len
  have hKc : Bk (((w.alloc (.cells C 29)).alloc (.cells #[.slice T ts.length ct] 42)).alloc (.cells #[.slice U us.length cu] 42)) w.heap.size 29 C := ((Bk.new _ _ _).alloc _).alloc _
  have hPc : Bk (((w.alloc (.cells C 29)).alloc (.cells #[.slice T ts.length ct] 42)).alloc (.cells #[.slice U us.length cu] 42)) (w.heap.size + 1) 42 #[.slice T ts.length ct] := by simpa using (Bk.new (w.alloc (.cells C 29)) 42 #[.slice T ts.length ct]).alloc (.cells #[.slice U us.length cu] 42)
  have hQc : Bk (((w.alloc (.cells C 29)).alloc (.cells #[.slice T ts.length ct] 42)).alloc (.cells #[.slice U us.length cu] 42)) (w.heap.size + 2) 42 #[.slice U us.length cu] := by simpa using Bk.new ((w.alloc (.cells C 29)).alloc (.cells #[.slice T ts.length ct] 42)) 42 #[.slice U us.length cu]
  have hB0 : Below w.heap.size w (((w.alloc (.cells C 29)).alloc (.cells #[.slice T ts.length ct] 42)).alloc (.cells #[.slice U us.length cu] 42)) := by exact (by repeat (first | with_reducible exact Below.refl _ _ | with_reducible assumption | with_reducible refine Below.drew ?_ | with_reducible refine below_drewN ?_ _ | (with_reducible refine Below.alloc ?_ ?_ _; rotate_left; (try simp) <;> omega) | (with_reducible refine Below.setCell ?_ ?_ _; rotate_left; (try simp) <;> omega)))
  have hlk := hKc.lt
  have hlp := hPc.lt
  have hlq := hQc.lt
  have x8 := hPc.cell 0 rfl
  have x9 := hQc.cell 0 rfl
  cases h0 : slowB Y l with
  | true =>
    have H0 := Lib.hid h0; clear h0 hY hT hP hQ hgp hcp
    go_enter Try.func8, Try.ntmps8
    go_wp2_with (first | (have h9 := hKc; clear h9; refine wpList_load_guard (P := Try.prog) (by rfl) 29 (.tmp 6) rfl w.heap.size 0 rfl C.toList _ (HLOAD.out _ (by exact (by repeat (first | with_reducible assumption | with_reducible exact Bk.new _ _ _ | with_reducible refine Bk.drew ?_ | with_reducible refine Bk.drewN ?_ _ | with_reducible refine Bk.alloc ?_ _ | (with_reducible refine Bk.far ?_ ?_ _; rotate_left; (try simp) <;> omega))))) Try.underlying29 rfl (by rw [HC28.out]; exact info29) ?_) | (go_at_call 23; refine (HSL.out _ hB0).mono ?_; rintro e w1 ⟨rfl, hb1⟩; rw [H0.out]; have hB1 : Below w.heap.size w w1 := hB0.trans (hb1.mono hB0.size); clear x8 x9; have hKcn := Bk.below (by exact (by repeat (first | with_reducible assumption | with_reducible exact Bk.new _ _ _ | with_reducible refine Bk.drew ?_ | with_reducible refine Bk.drewN ?_ _ | with_reducible refine Bk.alloc ?_ _ | (with_reducible refine Bk.far ?_ ?_ _; rotate_left; (try simp) <;> omega)))) hb1 hlk; clear hKc hlk; have hKc := hKcn; clear hKcn; have hlk := hKc.lt; have hPcn := Bk.below (by exact (by repeat (first | with_reducible assumption | with_reducible exact Bk.new _ _ _ | with_reducible refine Bk.drew ?_ | with_reducible refine Bk.drewN ?_ _ | with_reducible refine Bk.alloc ?_ _ | (with_reducible refine Bk.far ?_ ?_ _; rotate_left; (try simp) <;> omega)))) hb1 hlp; clear hPc hlp; have hPc := hPcn; clear hPcn; have hlp := hPc.lt; have hQcn := Bk.below (by exact (by repeat (first | with_reducible assumption | with_reducible exact Bk.new _ _ _ | with_reducible refine Bk.drew ?_ | with_reducible refine Bk.drewN ?_ _ | with_reducible refine Bk.alloc ?_ _ | (with_reducible refine Bk.far ?_ ?_ _; rotate_left; (try simp) <;> omega)))) hb1 hlq; clear hQc hlq; have hQc := hQcn; clear hQcn; have hlq := hQc.lt; have x8 := hPc.cell 0 rfl; have x9 := hQc.cell 0 rfl; clear hb1) | (go_at_call 15; refine (HWO.out _).mono ?_; rintro e w9 ⟨rfl, hb9⟩; have hB9 : Below w.heap.size w w9 := hB1.trans (hb9.mono hB1.size)))
    go_ret
    exact ⟨rfl, hB9⟩
  | false =>
    by_cases a1 : (20 : Int) < (ts.length : Int)
    · have H0 := Lib.hid h0; clear h0 hY hT hP hQ hgp hcp
      go_enter Try.func8, Try.ntmps8
      go_wp2_with (first | (have h9 := hKc; clear h9; refine wpList_load_guard (P := Try.prog) (by rfl) 29 (.tmp 6) rfl w.heap.size 0 rfl C.toList _ (HLOAD.out _ (by exact (by repeat (first | with_reducible assumption | with_reducible exact Bk.new _ _ _ | with_reducible refine Bk.drew ?_ | with_reducible refine Bk.drewN ?_ _ | with_reducible refine Bk.alloc ?_ _ | (with_reducible refine Bk.far ?_ ?_ _; rotate_left; (try simp) <;> omega))))) Try.underlying29 rfl (by rw [HC28.out]; exact info29) ?_) | (go_at_call 23; refine (HSL.out _ hB0).mono ?_; rintro e w1 ⟨rfl, hb1⟩; rw [H0.out]; have hB1 : Below w.heap.size w w1 := hB0.trans (hb1.mono hB0.size); clear x8 x9; have hKcn := Bk.below (by exact (by repeat (first | with_reducible assumption | with_reducible exact Bk.new _ _ _ | with_reducible refine Bk.drew ?_ | with_reducible refine Bk.drewN ?_ _ | with_reducible refine Bk.alloc ?_ _ | (with_reducible refine Bk.far ?_ ?_ _; rotate_left; (try simp) <;> omega)))) hb1 hlk; clear hKc hlk; have hKc := hKcn; clear hKcn; have hlk := hKc.lt; have hPcn := Bk.below (by exact (by repeat (first | with_reducible assumption | with_reducible exact Bk.new _ _ _ | with_reducible refine Bk.drew ?_ | with_reducible refine Bk.drewN ?_ _ | with_reducible refine Bk.alloc ?_ _ | (with_reducible refine Bk.far ?_ ?_ _; rotate_left; (try simp) <;> omega)))) hb1 hlp; clear hPc hlp; have hPc := hPcn; clear hPcn; have hlp := hPc.lt; have hQcn := Bk.below (by exact (by repeat (first | with_reducible assumption | with_reducible exact Bk.new _ _ _ | with_reducible refine Bk.drew ?_ | with_reducible refine Bk.drewN ?_ _ | with_reducible refine Bk.alloc ?_ _ | (with_reducible refine Bk.far ?_ ?_ _; rotate_left; (try simp) <;> omega)))) hb1 hlq; clear hQc hlq; have hQc := hQcn; clear hQcn; have hlq := hQc.lt; have x8 := hPc.cell 0 rfl; have x9 := hQc.cell 0 rfl; clear hb1) | (go_at_call 15; refine (HWO.out _).mono ?_; rintro e w9 ⟨rfl, hb9⟩; have hB9 : Below w.heap.size w w9 := hB1.trans (hb9.mono hB1.size)))
      go_ret
      exact ⟨rfl, hB9⟩
    by_cases a2 : (20 : Int) < (us.length : Int)
    · have H0 := Lib.hid h0; clear h0 hY hT hP hQ hgp hcp
      go_enter Try.func8, Try.ntmps8
      go_wp2_with (first | (have h9 := hKc; clear h9; refine wpList_load_guard (P := Try.prog) (by rfl) 29 (.tmp 6) rfl w.heap.size 0 rfl C.toList _ (HLOAD.out _ (by exact (by repeat (first | with_reducible assumption | with_reducible exact Bk.new _ _ _ | with_reducible refine Bk.drew ?_ | with_reducible refine Bk.drewN ?_ _ | with_reducible refine Bk.alloc ?_ _ | (with_reducible refine Bk.far ?_ ?_ _; rotate_left; (try simp) <;> omega))))) Try.underlying29 rfl (by rw [HC28.out]; exact info29) ?_) | (go_at_call 23; refine (HSL.out _ hB0).mono ?_; rintro e w1 ⟨rfl, hb1⟩; rw [H0.out]; have hB1 : Below w.heap.size w w1 := hB0.trans (hb1.mono hB0.size); clear x8 x9; have hKcn := Bk.below (by exact (by repeat (first | with_reducible assumption | with_reducible exact Bk.new _ _ _ | with_reducible refine Bk.drew ?_ | with_reducible refine Bk.drewN ?_ _ | with_reducible refine Bk.alloc ?_ _ | (with_reducible refine Bk.far ?_ ?_ _; rotate_left; (try simp) <;> omega)))) hb1 hlk; clear hKc hlk; have hKc := hKcn; clear hKcn; have hlk := hKc.lt; have hPcn := Bk.below (by exact (by repeat (first | with_reducible assumption | with_reducible exact Bk.new _ _ _ | with_reducible refine Bk.drew ?_ | with_reducible refine Bk.drewN ?_ _ | with_reducible refine Bk.alloc ?_ _ | (with_reducible refine Bk.far ?_ ?_ _; rotate_left; (try simp) <;> omega)))) hb1 hlp; clear hPc hlp; have hPc := hPcn; clear hPcn; have hlp := hPc.lt; have hQcn := Bk.below (by exact (by repeat (first | with_reducible assumption | with_reducible exact Bk.new _ _ _ | with_reducible refine Bk.drew ?_ | with_reducible refine Bk.drewN ?_ _ | with_reducible refine Bk.alloc ?_ _ | (with_reducible refine Bk.far ?_ ?_ _; rotate_left; (try simp) <;> omega)))) hb1 hlq; clear hQc hlq; have hQc := hQcn; clear hQcn; have hlq := hQc.lt; have x8 := hPc.cell 0 rfl; have x9 := hQc.cell 0 rfl; clear hb1) | (go_at_call 15; refine (HWO.out _).mono ?_; rintro e w9 ⟨rfl, hb9⟩; have hB9 : Below w.heap.size w w9 := hB1.trans (hb9.mono hB1.size)))
      go_ret
      exact ⟨rfl, hB9⟩
    obtain ⟨hs, ht⟩ := small_l2 h0
    have hn : ts.length ≤ 20 := by omega
    have hnu : us.length ≤ 20 := by omega
    have H0 := Lib.hid h0
    clear h0
    have HRA : Hid (∀ W, Below w.heap.size w W → Calls Try.prog 26 #[.agg C, .slice A l.length c, .agg #[.slice T ts.length ct], .int .i64 done, .int .i64 f] W (PlanE (replP Y l f ts done) (replE Y l f ts done) W)) := fun W hb =>
      replan_any C Y l A c ts T ct done f W ((hY.below hb (Nat.le_refl _)).more hb.size) hs ((hT.below hb (Nat.le_refl _)).more hb.size) ht ((hP.below hb (Nat.le_refl _)).more hb.size) hn hcp (fun t h => ⟨(hgp t h).1, (hgp t h).2.1⟩)
    have HRB : Hid (∀ W, Below w.heap.size w W → Calls Try.prog 37 #[.agg C, .slice A l.length c, .agg #[.slice T ts.length ct], .int .i64 done, .int .i64 f] W (PlanE (replP Y l f ts done) (replE Y l f ts done) W)) := fun W hb =>
      rreplan_any C Y l A c ts T ct done f W ((hY.below hb (Nat.le_refl _)).more hb.size) hs ((hT.below hb (Nat.le_refl _)).more hb.size) ht ((hP.below hb (Nat.le_refl _)).more hb.size) hn hcp
    have hR12 := replP_len Y l f ts done
    have HCA : Hid (∀ W, Below w.heap.size w W → Calls Try.prog 38 #[.agg #[.slice T ts.length ct], .agg #[.slice U us.length cu]] W (IntsEnd (chgL ts us) W)) := fun W hb =>
      changed_any ts us T U ct cu W ((hP.below hb (Nat.le_refl _)).more hb.size) ((hQ.below hb (Nat.le_refl _)).more hb.size) (by omega) (by omega)
    have HCB : Hid (∀ W, Below w.heap.size w W → Calls Try.prog 39 #[.agg #[.slice T ts.length ct], .agg #[.slice U us.length cu]] W (IntsEnd (chgL ts us) W)) := fun W hb =>
      rchanged_any ts us T U ct cu W ((hP.below hb (Nat.le_refl _)).more hb.size) ((hQ.below hb (Nat.le_refl _)).more hb.size) (by omega) (by omega)
    have hcl : (chgL ts us).length ≤ 1000 := by have := chgK_len ts us (max ts.length us.length); unfold chgL; omega
    clear hY hT hP hQ hgp hcp hs ht
    generalize replP Y l f ts done = R at *
    generalize replE Y l f ts done = N at *
    generalize chgL ts us = G at *
    go_enter Try.func8, Try.ntmps8
    go_upto_region 5 with (first | (have h9 := hKc; clear h9; refine wpList_load_guard (P := Try.prog) (by rfl) 29 (.tmp 6) rfl w.heap.size 0 rfl C.toList _ (HLOAD.out _ (by exact (by repeat (first | with_reducible assumption | with_reducible exact Bk.new _ _ _ | with_reducible refine Bk.drew ?_ | with_reducible refine Bk.drewN ?_ _ | with_reducible refine Bk.alloc ?_ _ | (with_reducible refine Bk.far ?_ ?_ _; rotate_left; (try simp) <;> omega))))) Try.underlying29 rfl (by rw [HC28.out]; exact info29) ?_) | (go_at_call 23; refine (HSL.out _ hB0).mono ?_; rintro e w1 ⟨rfl, hb1⟩; rw [H0.out]; have hB1 : Below w.heap.size w w1 := hB0.trans (hb1.mono hB0.size); clear x8 x9; have hKcn := Bk.below (by exact (by repeat (first | with_reducible assumption | with_reducible exact Bk.new _ _ _ | with_reducible refine Bk.drew ?_ | with_reducible refine Bk.drewN ?_ _ | with_reducible refine Bk.alloc ?_ _ | (with_reducible refine Bk.far ?_ ?_ _; rotate_left; (try simp) <;> omega)))) hb1 hlk; clear hKc hlk; have hKc := hKcn; clear hKcn; have hlk := hKc.lt; have hPcn := Bk.below (by exact (by repeat (first | with_reducible assumption | with_reducible exact Bk.new _ _ _ | with_reducible refine Bk.drew ?_ | with_reducible refine Bk.drewN ?_ _ | with_reducible refine Bk.alloc ?_ _ | (with_reducible refine Bk.far ?_ ?_ _; rotate_left; (try simp) <;> omega)))) hb1 hlp; clear hPc hlp; have hPc := hPcn; clear hPcn; have hlp := hPc.lt; have hQcn := Bk.below (by exact (by repeat (first | with_reducible assumption | with_reducible exact Bk.new _ _ _ | with_reducible refine Bk.drew ?_ | with_reducible refine Bk.drewN ?_ _ | with_reducible refine Bk.alloc ?_ _ | (with_reducible refine Bk.far ?_ ?_ _; rotate_left; (try simp) <;> omega)))) hb1 hlq; clear hQc hlq; have hQc := hQcn; clear hQcn; have hlq := hQc.lt; have x8 := hPc.cell 0 rfl; have x9 := hQc.cell 0 rfl; clear hb1) | (go_at_call 26; refine (HRA.out _ hB1).mono ?_; rintro e w2 ⟨v2, rfl, ho2, hb2⟩; obtain ⟨A2, c2, rfl, hc2, _⟩ := ownsSlice ho2; have hB2 : Below w.heap.size w w2 := hB1.trans (hb2.mono hB1.size); have hl2 := ownsRow_lies ho2; clear x8 x9; have hKcn := Bk.below (by exact (by repeat (first | with_reducible assumption | with_reducible exact Bk.new _ _ _ | with_reducible refine Bk.drew ?_ | with_reducible refine Bk.drewN ?_ _ | with_reducible refine Bk.alloc ?_ _ | (with_reducible refine Bk.far ?_ ?_ _; rotate_left; (try simp) <;> omega)))) hb2 hlk; clear hKc hlk; have hKc := hKcn; clear hKcn; have hlk := hKc.lt; have hPcn := Bk.below (by exact (by repeat (first | with_reducible assumption | with_reducible exact Bk.new _ _ _ | with_reducible refine Bk.drew ?_ | with_reducible refine Bk.drewN ?_ _ | with_reducible refine Bk.alloc ?_ _ | (with_reducible refine Bk.far ?_ ?_ _; rotate_left; (try simp) <;> omega)))) hb2 hlp; clear hPc hlp; have hPc := hPcn; clear hPcn; have hlp := hPc.lt; have hQcn := Bk.below (by exact (by repeat (first | with_reducible assumption | with_reducible exact Bk.new _ _ _ | with_reducible refine Bk.drew ?_ | with_reducible refine Bk.drewN ?_ _ | with_reducible refine Bk.alloc ?_ _ | (with_reducible refine Bk.far ?_ ?_ _; rotate_left; (try simp) <;> omega)))) hb2 hlq; clear hQc hlq; have hQc := hQcn; clear hQcn; have hlq := hQc.lt; have x8 := hPc.cell 0 rfl; have x9 := hQc.cell 0 rfl; have hz2 := hB2.size; clear ho2 hb2 HRA) | (go_at_call 37; refine (HRB.out (w2.alloc (.cells #[.slice A2 R.length c2] 42)) (hB2.alloc hz2 _)).mono ?_; rintro e w3 ⟨v3, rfl, ho3, hb3⟩; obtain ⟨A3, c3, rfl, _, _⟩ := ownsSlice ho3; have hB3 : Below w.heap.size w w3 := (hB2.alloc hz2 _).trans (hb3.mono (by simp; omega)); have hl3 := ownsRow_lies ho3; have p2 : Bk w3 w2.heap.size 42 #[.slice A2 R.length c2] := (Bk.new w2 42 _).below hb3 (by simp); have q2 : Lies w3 w3.heap.size A2 (turnsC R) := (((hl2.below ((Below.refl _ _).alloc (Nat.le_refl _) _) (Nat.le_refl _)).more (by simp)).below hb3 (Nat.le_refl _)).more hb3.size; clear x8 x9; have hKcn := (hKc.alloc (.cells #[.slice A2 R.length c2] 42)).below hb3 (by simp; omega); clear hKc hlk; have hKc := hKcn; clear hKcn; have hlk := hKc.lt; have hPcn := (hPc.alloc (.cells #[.slice A2 R.length c2] 42)).below hb3 (by simp; omega); clear hPc hlp; have hPc := hPcn; clear hPcn; have hlp := hPc.lt; have hQcn := (hQc.alloc (.cells #[.slice A2 R.length c2] 42)).below hb3 (by simp; omega); clear hQc hlq; have hQc := hQcn; clear hQcn; have hlq := hQc.lt; have x8 := hPc.cell 0 rfl; have x9 := hQc.cell 0 rfl; have hz3 := hB3.size; have y2 := p2.cell 0 rfl; have hz23 := p2.lt; clear ho3 hb3 hl2 HRB))
    have p3 : Bk (w3.alloc (.cells #[.slice A3 R.length c3] 42)) w3.heap.size 42 #[.slice A3 R.length c3] := Bk.new _ _ _
    have hb33 : Below w3.heap.size w3 (w3.alloc (.cells #[.slice A3 R.length c3] 42)) := (Below.refl _ _).alloc (Nat.le_refl _) _
    have hB33 : Below w.heap.size w (w3.alloc (.cells #[.slice A3 R.length c3] 42)) := hB3.alloc hz3 _
    have p2' := p2.below hb33 hz23
    have q3' : Lies (w3.alloc (.cells #[.slice A3 R.length c3] 42)) ((w3.alloc (.cells #[.slice A3 R.length c3] 42))).heap.size A3 (turnsC R) := (hl3.below hb33 (Nat.le_refl _)).more hb33.size
    have q2' := (q2.below hb33 (Nat.le_refl _)).more hb33.size
    have t1 := hPc.below hb33 hlp
    have t2 := hQc.below hb33 hlq
    clear p2 hl3 q2 hb33 hB3 x8 x9 hKc hlk hPc hlp hQc hlq y2
    generalize (w3.alloc (.cells #[.slice A3 R.length c3] 42)) = w5 at *
    have HKS : Hid (∀ W, Below w5.heap.size w5 W → (W.cell? ⟨w2.heap.size, 0, none⟩ = some (.slice A2 R.length c2) ∧ W.cell? ⟨w3.heap.size, 0, none⟩ = some (.slice A3 R.length c3)) ∧ W.cell? ⟨w.heap.size + 1, 0, none⟩ = some (.slice T ts.length ct) ∧ W.cell? ⟨w.heap.size + 2, 0, none⟩ = some (.slice U us.length cu)) := fun W hb => ⟨⟨(p2'.below hb p2'.lt).cell 0 rfl, (p3.below hb p3.lt).cell 0 rfl⟩, (t1.below hb t1.lt).cell 0 rfl, (t2.below hb t2.lt).cell 0 rfl⟩
    have HBW : Hid (∀ W, Below w5.heap.size w5 W → Below w.heap.size w W) := fun W hb => hB33.trans (hb.mono hB33.size)
    have HSP : Hid (∀ W, Below w5.heap.size w5 W → Calls Try.prog 35 #[.agg #[.slice A2 R.length c2], .agg #[.slice A3 R.length c3]] W (ShEnd true W)) := fun W hb => samePlan_me R A2 A3 c2 c3 W ((q2'.below hb (Nat.le_refl _)).more hb.size) ((q3'.below hb (Nat.le_refl _)).more hb.size) (by omega)
    have HC1 := Lib.hid (fun W (hb : Below w5.heap.size w5 W) => HCA.out W (HBW.out W hb))
    have HC2 := Lib.hid (fun W (hb : Below w5.heap.size w5 W) => HCB.out W (HBW.out W hb))
    have hX5 : Below w5.heap.size w5 w5 := Below.refl _ _
    refine wp_region_held_drew (S := (fun w' => (w'.cell? ⟨w2.heap.size, 0, none⟩ = some (.slice A2 R.length c2) ∧ w'.cell? ⟨w3.heap.size, 0, none⟩ = some (.slice A3 R.length c3)) ∧ w'.cell? ⟨w.heap.size + 1, 0, none⟩ = some (.slice T ts.length ct) ∧ w'.cell? ⟨w.heap.size + 2, 0, none⟩ = some (.slice U us.length cu))) (by kernel_rfl) ?_ (fun hHeld => ?_)
    · exact HKS.out _ hX5.drew
    (refine held_call 0 (some 51) 15 _ rfl (by kernel_rfl) (by rfl) ?_ (HWO.out _) ?_; rotate_left; rotate_left; (simp only [List.getElem?_toArray, List.getElem?_cons_zero, List.getElem?_cons_succ, Option.map_some]; refine congrArg some ?_; go_simp))
    rintro e w6 ⟨rfl, hb6'⟩
    have hX6 : Below w5.heap.size w5 w6 := Below.trans (by exact (by repeat (first | with_reducible exact Below.refl _ _ | with_reducible assumption | with_reducible refine Below.drew ?_ | with_reducible refine below_drewN ?_ _ | (with_reducible refine Below.alloc ?_ ?_ _; rotate_left; (try simp) <;> omega) | (with_reducible refine Below.setCell ?_ ?_ _; rotate_left; (try simp) <;> omega)))) (hb6'.mono (by first | exact hX5.size | (simp; exact hX5.size)))
    refine ⟨_, rfl, HKS.out w6 hX6, fun hHeld => ?_⟩
    (try simp only [Act.put, List.setIfInBounds_toArray, List.set_cons_zero, List.set_cons_succ])
    refine tk 1 52 ?_
    refine tk 2 53 ?_
    refine tk 3 54 ?_
    refine tk 4 55 ?_
    refine tk 5 56 ?_
    refine tk 6 57 ?_
    refine tk 7 58 ?_
    refine tk 8 59 ?_
    (refine held_call 9 (some 60) 35 _ rfl (by kernel_rfl) (by rfl) ?_ (HSP.out _ (by exact (by repeat (first | with_reducible exact Below.refl _ _ | with_reducible assumption | with_reducible refine Below.drew ?_ | with_reducible refine below_drewN ?_ _ | (with_reducible refine Below.alloc ?_ ?_ _; rotate_left; (try simp) <;> omega) | (with_reducible refine Below.setCell ?_ ?_ _; rotate_left; (try simp) <;> omega))))) ?_; rotate_left; rotate_left; (simp only [List.getElem?_toArray, List.getElem?_cons_zero, List.getElem?_cons_succ, Option.map_some]; refine congrArg some ?_; go_simp))
    rintro e w7 ⟨rfl, hb7'⟩
    have hX7 : Below w5.heap.size w5 w7 := Below.trans (by exact (by repeat (first | with_reducible exact Below.refl _ _ | with_reducible assumption | with_reducible refine Below.drew ?_ | with_reducible refine below_drewN ?_ _ | (with_reducible refine Below.alloc ?_ ?_ _; rotate_left; (try simp) <;> omega) | (with_reducible refine Below.setCell ?_ ?_ _; rotate_left; (try simp) <;> omega)))) (hb7'.mono (by first | exact hX6.size | (simp; exact hX6.size)))
    refine ⟨_, rfl, HKS.out w7 hX7, fun hHeld => ?_⟩
    (try simp only [Act.put, List.setIfInBounds_toArray, List.set_cons_zero, List.set_cons_succ])
    refine tk 10 61 ?_
    refine tk 11 62 ?_
    refine tk 12 63 ?_
    refine tk 13 64 ?_
    refine tk 15 66 ?_
    refine tk 16 67 ?_
    (refine held_call 14 (some 65) 38 _ rfl (by kernel_rfl) (by rfl) ?_ (HC1.out _ (by exact (by repeat (first | with_reducible exact Below.refl _ _ | with_reducible assumption | with_reducible refine Below.drew ?_ | with_reducible refine below_drewN ?_ _ | (with_reducible refine Below.alloc ?_ ?_ _; rotate_left; (try simp) <;> omega) | (with_reducible refine Below.setCell ?_ ?_ _; rotate_left; (try simp) <;> omega))))) ?_; rotate_left; rotate_left; (simp only [List.getElem?_toArray, List.getElem?_cons_zero, List.getElem?_cons_succ, Option.map_some]; refine congrArg some ?_; go_simp))
    rintro e w8 ⟨v8, rfl, ho8, hb8'⟩
    obtain ⟨A7, c7, rfl, _, _⟩ := ownsSlice ho8
    have l7 := ownsRow_lies ho8
    have hX8 : Below w5.heap.size w5 w8 := Below.trans (by exact (by repeat (first | with_reducible exact Below.refl _ _ | with_reducible assumption | with_reducible refine Below.drew ?_ | with_reducible refine below_drewN ?_ _ | (with_reducible refine Below.alloc ?_ ?_ _; rotate_left; (try simp) <;> omega) | (with_reducible refine Below.setCell ?_ ?_ _; rotate_left; (try simp) <;> omega)))) (hb8'.mono (by first | exact hX7.size | (simp; exact hX7.size)))
    refine ⟨_, rfl, HKS.out w8 hX8, fun hHeld => ?_⟩
    (try simp only [Act.put, List.setIfInBounds_toArray, List.set_cons_zero, List.set_cons_succ])
    (refine held_call 17 (some 68) 39 _ rfl (by kernel_rfl) (by rfl) ?_ (HC2.out _ (by exact (by repeat (first | with_reducible exact Below.refl _ _ | with_reducible assumption | with_reducible refine Below.drew ?_ | with_reducible refine below_drewN ?_ _ | (with_reducible refine Below.alloc ?_ ?_ _; rotate_left; (try simp) <;> omega) | (with_reducible refine Below.setCell ?_ ?_ _; rotate_left; (try simp) <;> omega))))) ?_; rotate_left; rotate_left; (simp only [List.getElem?_toArray, List.getElem?_cons_zero, List.getElem?_cons_succ, Option.map_some]; refine congrArg some ?_; go_simp))
    rintro e w9 ⟨v9, rfl, ho9, hb9'⟩
    obtain ⟨A8, c8, rfl, _, _⟩ := ownsSlice ho9
    have l8 := ownsRow_lies ho9
    have l78 := (l7.below hb9' (Nat.le_refl _)).more hb9'.size
    have hX9 : Below w5.heap.size w5 w9 := Below.trans (by exact (by repeat (first | with_reducible exact Below.refl _ _ | with_reducible assumption | with_reducible refine Below.drew ?_ | with_reducible refine below_drewN ?_ _ | (with_reducible refine Below.alloc ?_ ?_ _; rotate_left; (try simp) <;> omega) | (with_reducible refine Below.setCell ?_ ?_ _; rotate_left; (try simp) <;> omega)))) (hb9'.mono (by first | exact hX8.size | (simp; exact hX8.size)))
    refine ⟨_, rfl, HKS.out w9 hX9, fun hHeld => ?_⟩
    (try simp only [Act.put, List.setIfInBounds_toArray, List.set_cons_zero, List.set_cons_succ])
    have H36 : Hid (Calls Try.prog 36 #[.slice A7 G.length c7, .slice A8 G.length c8] w9 (ShEnd true w9)) := by
      have h := sameInts_any G G A7 A8 c7 c8 w9 l78 l8 (by omega) (by omega)
      rw [sameB_self] at h
      exact h
    (refine held_call 18 (some 69) 36 _ rfl (by kernel_rfl) (by rfl) ?_ (H36.out) ?_; rotate_left; rotate_left; (simp only [List.getElem?_toArray, List.getElem?_cons_zero, List.getElem?_cons_succ, Option.map_some]; refine congrArg some ?_; go_simp))
    rintro e w10 ⟨rfl, hb10'⟩
    have hX10 : Below w5.heap.size w5 w10 := Below.trans (by exact (by repeat (first | with_reducible exact Below.refl _ _ | with_reducible assumption | with_reducible refine Below.drew ?_ | with_reducible refine below_drewN ?_ _ | (with_reducible refine Below.alloc ?_ ?_ _; rotate_left; (try simp) <;> omega) | (with_reducible refine Below.setCell ?_ ?_ _; rotate_left; (try simp) <;> omega)))) (hb10'.mono (by first | exact hX9.size | (simp; exact hX9.size)))
    refine ⟨_, rfl, HKS.out w10 hX10, fun hHeld => ?_⟩
    (try simp only [Act.put, List.setIfInBounds_toArray, List.set_cons_zero, List.set_cons_succ])
    refine tk 19 70 ?_
    refine tk 20 12 ?_
    refine wpAnyH_done (by kernel_rfl) ?_ _
    clear hHeld
    go_wp2
    go_ret
    exact ⟨by first | rfl | simp, HBW.out _ hX10⟩
end Go.Proofs.Ytjgnikmnadmheaa

namespace Go.Proofs.Ytjgnikmnadmheaa
open Go.ChangeShapes Go.WideShapes Go.ChangeAt Go.RowKit Go.Deep

section
variable {H : Type} {enc : TypeId × Value → H} {W : World} {sp : Nat → Bool} {hd : Bool}
theorem cap_slice {t e : TypeId} {n : Nat} {c : Value} {x : DataW H × List MemPlace} (ht : Try.prog.underlying t = some (.slice e)) (h : DataW.trod enc Try.prog W 0 sp hd n t [c] = some x) (A : Option Addr) (k m : Nat) (hc : c = .slice A k m) : k ≤ m := by
  rcases open_slice ht h with ⟨hc', _⟩ | ⟨a, len, cap, m', n', D, Pl, hc', hb, hl, _⟩
  · rw [hc] at hc'; cases hc'; exact Nat.le_refl _
  · rw [hc] at hc'; cases hc'; exact hl
set_option maxRecDepth 100000 in
theorem caps_yard {C : Array Value} {r : Reach} {b0 : Nat} {d : DataW H} {p : List MemPlace} (hv : Value.okWide Try.prog W r b0 29 (.agg C)) (h : DataW.Trod enc Try.prog W 0 sp hd 29 (.agg C) d p) :
    ∀ k, k = 25 ∨ k = 26 → ∀ (A : Option Addr) (n m : Nat), C[k]? = some (.slice A n m) → n ≤ m := by
  obtain ⟨cs, e, hsz⟩ := okWide_struct Try.underlying29 hv
  cases e
  obtain ⟨fuel, hf⟩ := h
  rw [cells29] at hsz
  obtain ⟨hlen, hg⟩ := struct_cells Try.underlying29 cells29 hf
  simp only [Value.cells] at hlen hg
  obtain ⟨_, _, f2⟩ := hg 2 _ rfl
  obtain ⟨_, _, f3⟩ := hg 3 _ rfl
  simp only [List.getElem_toArray, List.getElem_cons_zero, List.getElem_cons_succ] at f2 f3
  rw [cells26] at f2
  rw [cells27] at f3
  have one : ∀ k, k < 28 → ∃ c, (C.toList.drop k).take 1 = [c] ∧ C[k]? = some c := fun k hk => by
    have hk' : k < C.toList.length := by omega
    refine ⟨C.toList[k], ?_, ?_⟩
    · rw [List.drop_eq_getElem_cons hk']; rfl
    · rw [← Array.getElem?_toList, List.getElem?_eq_getElem hk']
  obtain ⟨c2, e2, g2⟩ := one 25 (by omega)
  obtain ⟨c3, e3, g3⟩ := one 26 (by omega)
  rw [e2] at f2
  rw [e3] at f3
  intro k hk A n m hc
  rcases hk with rfl | rfl
  · rw [g2] at hc
    exact cap_slice Try.underlying26 f2 A n m (Option.some.inj hc)
  · rw [g3] at hc
    exact cap_slice Try.underlying27 f3 A n m (Option.some.inj hc)
set_option maxRecDepth 100000 in
theorem caps_plan {A : Option Addr} {n m : Nat} {r : Reach} {b0 : Nat} {d : DataW H} {p : List MemPlace} (hv : Value.okWide Try.prog W r b0 42 (.agg #[.slice A n m])) (h : DataW.Trod enc Try.prog W 0 sp hd 42 (.agg #[.slice A n m]) d p) : n ≤ m := by
  obtain ⟨fuel, hf⟩ := h
  obtain ⟨_, hg⟩ := struct_cells Try.underlying42 cells42 hf
  obtain ⟨_, _, f0⟩ := hg 0 _ rfl
  simp only [List.getElem_toArray, List.getElem_cons_zero, List.getElem_cons_succ] at f0
  simp only [Value.cells] at f0
  rw [cells40] at f0
  dsimp only [List.drop, List.take] at f0
  exact cap_slice Try.underlying40 f0 A n m rfl
end
end Go.Proofs.Ytjgnikmnadmheaa
