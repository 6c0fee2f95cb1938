/- The law CrewLeast, walked. Printed by wip/gen_x2.py. -/
import Derived.Test.YtjgnikmnadmheaaG02
import Derived.Test.YtjgnikmnadmheaaG30

namespace Go.Proofs.Ytjgnikmnadmheaa
open Go.RowKit

theorem small_l {Y : Yd} {l : List Tk} (h : slowB Y l = false) : Small Y ∧ tame l := by
  have hv : vastB Y l = false := by unfold slowB at h; rw [Bool.or_eq_false_iff] at h; exact h.1
  obtain ⟨h1, h2, _⟩ := vast_facts hv
  exact ⟨⟨by omega, by omega, by omega, h2⟩, tame_of hv⟩
theorem begE_span (Y : Yd) (l : List Tk) (f : Int) : begE Y l f ≠ 70 := by
  have h1 : chkY Y ≠ 70 := by unfold chkY; split <;> (try split) <;> (try split) <;> decide
  have h2 : chkL l ≠ 70 := by unfold chkL; split <;> (try split) <;> decide
  have h3 : comE Y l ≠ 70 := by unfold comE; split <;> assumption
  unfold begE
  split
  · split <;> decide
  · exact h3
theorem plan_pits {Y : Yd} {l : List Tk} {f : Int} {ts : List Tu} (hp : Y.pi.length ≤ 1000) (h : planOK Y l f ts = true) : ∀ t ∈ ts, i64v t.pit := fun t ht => by
  unfold planOK at h
  rw [Bool.and_eq_true, decide_eq_true_eq, List.all_eq_true] at h
  obtain ⟨i, hi, rfl⟩ := List.mem_iff_getElem.1 ht
  have h1 := h.2 i (List.mem_range.2 (by omega))
  rw [turnOK_at (by omega) hi, Bool.and_eq_true, Bool.and_eq_true, Bool.and_eq_true] at h1
  have h2 := inB_iff.1 h1.2.2.1
  unfold i64v
  omega

set_option maxRecDepth 100000 in
set_option maxHeartbeats 4000000 in
theorem lawLeast_any (C : Array Value) (Y : Yd) (l : List Tk) (A : Option Addr) (c : Nat) (f : Int) (ts : List Tu) (T : Option Addr) (ct : Nat) (bs : List Int) (D : Option Addr) (cd : Nat) (w : World) (hY : YardAt w w.heap.size C Y) (hT : TasksAt w w.heap.size A l)
    (hP : Lies w w.heap.size T (turnsC ts)) (hgp : ∀ p ∈ ts, i64v p.day ∧ i64v p.pit ∧ i64v p.mas) (hD : Lies w w.heap.size D (ints bs)) (hgi : ∀ k ∈ bs, i64v k) :
    Calls Try.prog 10 #[.agg C, .slice A l.length c, .int .i64 f, .agg #[.slice T ts.length ct], .slice D bs.length cd] w fun e w' => e = .returned (.bool true) ∧ Below w.heap.size w w' := by
  have HWO := Lib.hid works_any
  have HSL := Lib.hid (fun W (hb : Below w.heap.size w W) => slow_any C Y l A c W ((hY.below hb (Nat.le_refl _)).more hb.size) ((hT.below hb (Nat.le_refl _)).more hb.size))
  have HLOAD : Hid (∀ W : World, Bk W w.heap.size 29 C → W.rangeAt w.heap.size 0 C.toList) := fun W hb => hb.range
  have HC28 := Lib.hid hY.len
  have hKc : Bk ((w.alloc (.cells C 29)).alloc (.cells #[.slice T ts.length ct] 42)) w.heap.size 29 C := (Bk.new _ _ _).alloc _
  have hPc : Bk ((w.alloc (.cells C 29)).alloc (.cells #[.slice T ts.length ct] 42)) (w.heap.size + 1) 42 #[.slice T ts.length ct] := by simpa using Bk.new (w.alloc (.cells C 29)) 42 #[.slice T ts.length ct]
  have hB0 : Below w.heap.size w ((w.alloc (.cells C 29)).alloc (.cells #[.slice T ts.length ct] 42)) := by exact (by repeat (first | with_reducible exact Below.refl _ _ | with_reducible assumption | with_reducible refine Below.drew ?_ | with_reducible refine below_drewN ?_ _ | (with_reducible refine Below.alloc ?_ ?_ _; rotate_left; (try simp) <;> omega) | (with_reducible refine Below.setCell ?_ ?_ _; rotate_left; (try simp) <;> omega)))
  have hlk := hKc.lt
  have hlp := hPc.lt
  have x8 := hPc.cell 0 rfl
  cases h0 : slowB Y l with
  | true =>
    have H0 := Lib.hid h0; clear h0 hY hT hP hD hgp hgi
    go_enter Try.func10, Try.ntmps10
    go_wp2_with (first | (have h9 := hKc; clear h9; refine wpList_load_guard (P := Try.prog) (by rfl) 29 (.tmp 5) rfl w.heap.size 0 rfl C.toList _ (HLOAD.out _ (by exact (by repeat (first | with_reducible assumption | with_reducible exact Bk.new _ _ _ | with_reducible refine Bk.drew ?_ | with_reducible refine Bk.drewN ?_ _ | with_reducible refine Bk.alloc ?_ _ | (with_reducible refine Bk.far ?_ ?_ _; rotate_left; (try simp) <;> omega))))) Try.underlying29 rfl (by rw [HC28.out]; exact info29) ?_) | (go_at_call 23; refine (HSL.out _ hB0).mono ?_; rintro e w1 ⟨rfl, hb1⟩; rw [H0.out]; have hB1 : Below w.heap.size w w1 := hB0.trans (hb1.mono hB0.size); have hKn := Bk.below (by exact (by repeat (first | with_reducible assumption | with_reducible exact Bk.new _ _ _ | with_reducible refine Bk.drew ?_ | with_reducible refine Bk.drewN ?_ _ | with_reducible refine Bk.alloc ?_ _ | (with_reducible refine Bk.far ?_ ?_ _; rotate_left; (try simp) <;> omega)))) hb1 hlk; clear hKc hlk; have hKc := hKn; clear hKn; have hlk := hKc.lt; have hPn := Bk.below (by exact (by repeat (first | with_reducible assumption | with_reducible exact Bk.new _ _ _ | with_reducible refine Bk.drew ?_ | with_reducible refine Bk.drewN ?_ _ | with_reducible refine Bk.alloc ?_ _ | (with_reducible refine Bk.far ?_ ?_ _; rotate_left; (try simp) <;> omega)))) hb1 hlp; clear hPc hlp x8; have hPc := hPn; clear hPn; have hlp := hPc.lt; have x8 := hPc.cell 0 rfl; clear hb1) | (go_at_call 15; refine (HWO.out _).mono ?_; rintro e w2 ⟨rfl, hb2⟩; have hB2 : Below w.heap.size w w2 := hB1.trans (hb2.mono hB1.size)))
    go_ret
    exact ⟨rfl, hB2⟩
  | false =>
    by_cases a1 : (20 : Int) < (ts.length : Int)
    · have H0 := Lib.hid h0; clear h0 hY hT hP hD hgp hgi
      go_enter Try.func10, Try.ntmps10
      go_wp2_with (first | (have h9 := hKc; clear h9; refine wpList_load_guard (P := Try.prog) (by rfl) 29 (.tmp 5) rfl w.heap.size 0 rfl C.toList _ (HLOAD.out _ (by exact (by repeat (first | with_reducible assumption | with_reducible exact Bk.new _ _ _ | with_reducible refine Bk.drew ?_ | with_reducible refine Bk.drewN ?_ _ | with_reducible refine Bk.alloc ?_ _ | (with_reducible refine Bk.far ?_ ?_ _; rotate_left; (try simp) <;> omega))))) Try.underlying29 rfl (by rw [HC28.out]; exact info29) ?_) | (go_at_call 23; refine (HSL.out _ hB0).mono ?_; rintro e w1 ⟨rfl, hb1⟩; rw [H0.out]; have hB1 : Below w.heap.size w w1 := hB0.trans (hb1.mono hB0.size); have hKn := Bk.below (by exact (by repeat (first | with_reducible assumption | with_reducible exact Bk.new _ _ _ | with_reducible refine Bk.drew ?_ | with_reducible refine Bk.drewN ?_ _ | with_reducible refine Bk.alloc ?_ _ | (with_reducible refine Bk.far ?_ ?_ _; rotate_left; (try simp) <;> omega)))) hb1 hlk; clear hKc hlk; have hKc := hKn; clear hKn; have hlk := hKc.lt; have hPn := Bk.below (by exact (by repeat (first | with_reducible assumption | with_reducible exact Bk.new _ _ _ | with_reducible refine Bk.drew ?_ | with_reducible refine Bk.drewN ?_ _ | with_reducible refine Bk.alloc ?_ _ | (with_reducible refine Bk.far ?_ ?_ _; rotate_left; (try simp) <;> omega)))) hb1 hlp; clear hPc hlp x8; have hPc := hPn; clear hPn; have hlp := hPc.lt; have x8 := hPc.cell 0 rfl; clear hb1) | (go_at_call 15; refine (HWO.out _).mono ?_; rintro e w2 ⟨rfl, hb2⟩; have hB2 : Below w.heap.size w w2 := hB1.trans (hb2.mono hB1.size)))
      go_ret
      exact ⟨rfl, hB2⟩
    · by_cases a2 : (20 : Int) < (bs.length : Int)
      · have H0 := Lib.hid h0; clear h0 hY hT hP hD hgp hgi
        go_enter Try.func10, Try.ntmps10
        go_wp2_with (first | (have h9 := hKc; clear h9; refine wpList_load_guard (P := Try.prog) (by rfl) 29 (.tmp 5) rfl w.heap.size 0 rfl C.toList _ (HLOAD.out _ (by exact (by repeat (first | with_reducible assumption | with_reducible exact Bk.new _ _ _ | with_reducible refine Bk.drew ?_ | with_reducible refine Bk.drewN ?_ _ | with_reducible refine Bk.alloc ?_ _ | (with_reducible refine Bk.far ?_ ?_ _; rotate_left; (try simp) <;> omega))))) Try.underlying29 rfl (by rw [HC28.out]; exact info29) ?_) | (go_at_call 23; refine (HSL.out _ hB0).mono ?_; rintro e w1 ⟨rfl, hb1⟩; rw [H0.out]; have hB1 : Below w.heap.size w w1 := hB0.trans (hb1.mono hB0.size); have hKn := Bk.below (by exact (by repeat (first | with_reducible assumption | with_reducible exact Bk.new _ _ _ | with_reducible refine Bk.drew ?_ | with_reducible refine Bk.drewN ?_ _ | with_reducible refine Bk.alloc ?_ _ | (with_reducible refine Bk.far ?_ ?_ _; rotate_left; (try simp) <;> omega)))) hb1 hlk; clear hKc hlk; have hKc := hKn; clear hKn; have hlk := hKc.lt; have hPn := Bk.below (by exact (by repeat (first | with_reducible assumption | with_reducible exact Bk.new _ _ _ | with_reducible refine Bk.drew ?_ | with_reducible refine Bk.drewN ?_ _ | with_reducible refine Bk.alloc ?_ _ | (with_reducible refine Bk.far ?_ ?_ _; rotate_left; (try simp) <;> omega)))) hb1 hlp; clear hPc hlp x8; have hPc := hPn; clear hPn; have hlp := hPc.lt; have x8 := hPc.cell 0 rfl; clear hb1) | (go_at_call 15; refine (HWO.out _).mono ?_; rintro e w2 ⟨rfl, hb2⟩; have hB2 : Below w.heap.size w w2 := hB1.trans (hb2.mono hB1.size)))
        go_ret
        exact ⟨rfl, hB2⟩
      · obtain ⟨hs, ht⟩ := small_l h0
        have hn : ts.length ≤ 20 := by omega
        have hm : bs.length ≤ 20 := by omega
        have H0 := Lib.hid h0
        clear h0
        have HEA := Lib.hid (fun W (hb : Below w.heap.size w W) => earliest_any C Y l A c f W ((hY.below hb (Nat.le_refl _)).more hb.size) hs ((hT.below hb (Nat.le_refl _)).more hb.size) ht)
        have HBD := Lib.hid (fun W (hb : Below w.heap.size w W) => bounds_any C Y l A c f W ((hY.below hb (Nat.le_refl _)).more hb.size) hs ((hT.below hb (Nat.le_refl _)).more hb.size) ht)
        have HCP := Lib.hid (fun W (hb : Below w.heap.size w W) => checkPlan_any C Y l A c f ts T ct W ((hY.below hb (Nat.le_refl _)).more hb.size) hs ((hT.below hb (Nat.le_refl _)).more hb.size) ht ((hP.below hb (Nat.le_refl _)).more hb.size) hn (fun t h => (hgp t h).2.1))
        have HCB := Lib.hid (fun W (hb : Below w.heap.size w W) => checkBounds_any C Y l A c f bs D cd W ((hY.below hb (Nat.le_refl _)).more hb.size) hs ((hT.below hb (Nat.le_refl _)).more hb.size) ht ((hD.below hb (Nat.le_refl _)).more hb.size) (by omega) hgi)
        by_cases hbe : begE Y l f = 0
        · obtain ⟨ho, hvt, hf⟩ := begE_ok hbe
          have hl12 := hvt.n
          rw [hbe, show decide ((0 : Int) = 0) = true from rfl, Bool.true_and] at HCP HCB
          cases he : earD Y l f with
          | none =>
            obtain ⟨e1, e2⟩ := earP_none hbe he
            have e3 := none_plan (ts := ts) he
            rw [e1, e2] at HEA HBD
            rw [e3] at HCP
            clear e1 e2 e3 he ho hvt hbe hs ht hY hT hP hD hgp hgi
            generalize bndsOK Y l f bs = r2 at *
            obtain ⟨U, hU⟩ : ∃ U : List Tu, U = [] := ⟨_, rfl⟩
            obtain ⟨M, hM⟩ : ∃ M : List Int, M = ([] : List Tu).map Tu.day := ⟨_, rfl⟩
            rw [← hM] at HBD
            rw [← hU] at HEA
            clear hU hM
            go_enter Try.func10, Try.ntmps10
            go_wp2_with (first | (have h9 := hKc; clear h9; refine wpList_load_guard (P := Try.prog) (by rfl) 29 (.tmp 5) rfl w.heap.size 0 rfl C.toList _ (HLOAD.out _ (by exact (by repeat (first | with_reducible assumption | with_reducible exact Bk.new _ _ _ | with_reducible refine Bk.drew ?_ | with_reducible refine Bk.drewN ?_ _ | with_reducible refine Bk.alloc ?_ _ | (with_reducible refine Bk.far ?_ ?_ _; rotate_left; (try simp) <;> omega))))) Try.underlying29 rfl (by rw [HC28.out]; exact info29) ?_) | (go_at_call 23; refine (HSL.out _ hB0).mono ?_; rintro e w1 ⟨rfl, hb1⟩; rw [H0.out]; have hB1 : Below w.heap.size w w1 := hB0.trans (hb1.mono hB0.size); have hKn := Bk.below (by exact (by repeat (first | with_reducible assumption | with_reducible exact Bk.new _ _ _ | with_reducible refine Bk.drew ?_ | with_reducible refine Bk.drewN ?_ _ | with_reducible refine Bk.alloc ?_ _ | (with_reducible refine Bk.far ?_ ?_ _; rotate_left; (try simp) <;> omega)))) hb1 hlk; clear hKc hlk; have hKc := hKn; clear hKn; have hlk := hKc.lt; have hPn := Bk.below (by exact (by repeat (first | with_reducible assumption | with_reducible exact Bk.new _ _ _ | with_reducible refine Bk.drew ?_ | with_reducible refine Bk.drewN ?_ _ | with_reducible refine Bk.alloc ?_ _ | (with_reducible refine Bk.far ?_ ?_ _; rotate_left; (try simp) <;> omega)))) hb1 hlp; clear hPc hlp x8; have hPc := hPn; clear hPn; have hlp := hPc.lt; have x8 := hPc.cell 0 rfl; clear hb1) | (go_at_call 24; refine (HEA.out _ hB1).mono ?_; rintro e w2 ⟨v2, rfl, ho2, hb2⟩; obtain ⟨A2, c2, rfl, _, _⟩ := ownsSlice ho2; have hB2 : Below w.heap.size w w2 := hB1.trans (hb2.mono hB1.size); have hl2 := ownsRow_lies ho2; have hKn := Bk.below (by exact (by repeat (first | with_reducible assumption | with_reducible exact Bk.new _ _ _ | with_reducible refine Bk.drew ?_ | with_reducible refine Bk.drewN ?_ _ | with_reducible refine Bk.alloc ?_ _ | (with_reducible refine Bk.far ?_ ?_ _; rotate_left; (try simp) <;> omega)))) hb2 hlk; clear hKc hlk; have hKc := hKn; clear hKn; have hlk := hKc.lt; have hPn := Bk.below (by exact (by repeat (first | with_reducible assumption | with_reducible exact Bk.new _ _ _ | with_reducible refine Bk.drew ?_ | with_reducible refine Bk.drewN ?_ _ | with_reducible refine Bk.alloc ?_ _ | (with_reducible refine Bk.far ?_ ?_ _; rotate_left; (try simp) <;> omega)))) hb2 hlp; clear hPc hlp x8; have hPc := hPn; clear hPn; have hlp := hPc.lt; have x8 := hPc.cell 0 rfl; have hz2 := hB2.size; clear ho2 hb2) | (go_at_call 31; refine (HBD.out _ (by exact (by repeat (first | with_reducible exact Below.refl _ _ | with_reducible assumption | with_reducible refine Below.drew ?_ | with_reducible refine below_drewN ?_ _ | (with_reducible refine Below.alloc ?_ ?_ _; rotate_left; (try simp) <;> omega) | (with_reducible refine Below.setCell ?_ ?_ _; rotate_left; (try simp) <;> omega))) : Below w.heap.size w (w2.alloc (.cells #[.slice A2 U.length c2] 42)))).mono ?_; rintro e w3 ⟨v3, rfl, ho3, hb3⟩; obtain ⟨A3, c3, rfl, _, _⟩ := ownsSlice ho3; have hB3 : Below w.heap.size w w3 := Below.trans (by exact (by repeat (first | with_reducible exact Below.refl _ _ | with_reducible assumption | with_reducible refine Below.drew ?_ | with_reducible refine below_drewN ?_ _ | (with_reducible refine Below.alloc ?_ ?_ _; rotate_left; (try simp) <;> omega) | (with_reducible refine Below.setCell ?_ ?_ _; rotate_left; (try simp) <;> omega))) : Below w.heap.size w (w2.alloc (.cells #[.slice A2 U.length c2] 42))) (hb3.mono (by simp; omega)); have hl3 := ownsRow_lies ho3; have p3 : Bk w3 w2.heap.size 42 #[.slice A2 U.length c2] := (Bk.new w2 42 #[.slice A2 U.length c2]).below hb3 (by simp); have q3 : Lies w3 w3.heap.size A2 (turnsC U) := (((hl2.below (by exact (by repeat (first | with_reducible exact Below.refl _ _ | with_reducible assumption | with_reducible refine Below.drew ?_ | with_reducible refine below_drewN ?_ _ | (with_reducible refine Below.alloc ?_ ?_ _; rotate_left; (try simp) <;> omega) | (with_reducible refine Below.setCell ?_ ?_ _; rotate_left; (try simp) <;> omega))) : Below w2.heap.size w2 (w2.alloc (.cells #[.slice A2 U.length c2] 42))) (Nat.le_refl _)).more (by simp)).below hb3 (Nat.le_refl _)).more hb3.size; have hKn : Bk w3 w.heap.size 29 C := (hKc.alloc (.cells #[.slice A2 U.length c2] 42)).below hb3 (by simp; omega); have hPn : Bk w3 (w.heap.size + 1) 42 #[.slice T ts.length ct] := (hPc.alloc (.cells #[.slice A2 U.length c2] 42)).below hb3 (by simp; omega); clear hKc hlk hPc hlp x8; have hKc := hKn; have hPc := hPn; clear hKn hPn; have hlk := hKc.lt; have hlp := hPc.lt; have x8 := hPc.cell 0 rfl; clear ho3 hb3 hl2) | (have h9 := HCP; clear h9; go_at_call 41; refine (HCP.out _ hB3).mono ?_; rintro e w4 ⟨rfl, hb4⟩; clear HCP; have hB4 : Below w.heap.size w w4 := hB3.trans (hb4.mono hB3.size); have hKn := Bk.below (by exact (by repeat (first | with_reducible assumption | with_reducible exact Bk.new _ _ _ | with_reducible refine Bk.drew ?_ | with_reducible refine Bk.drewN ?_ _ | with_reducible refine Bk.alloc ?_ _ | (with_reducible refine Bk.far ?_ ?_ _; rotate_left; (try simp) <;> omega)))) hb4 hlk; clear hKc hlk; have hKc := hKn; clear hKn; have hlk := hKc.lt; have hPn := Bk.below (by exact (by repeat (first | with_reducible assumption | with_reducible exact Bk.new _ _ _ | with_reducible refine Bk.drew ?_ | with_reducible refine Bk.drewN ?_ _ | with_reducible refine Bk.alloc ?_ _ | (with_reducible refine Bk.far ?_ ?_ _; rotate_left; (try simp) <;> omega)))) hb4 hlp; clear hPc hlp x8; have hPc := hPn; clear hPn; have hlp := hPc.lt; have x8 := hPc.cell 0 rfl; have p4 := p3.below hb4 p3.lt; have q4 := (q3.below hb4 (Nat.le_refl _)).more hb4.size; have hl4 := (hl3.below hb4 (Nat.le_refl _)).more hb4.size; have x11 := p4.cell 0 rfl; clear hb4 p3 q3 hl3) | (have h9 := HCB; clear h9; go_at_call 42; refine (HCB.out _ hB4).mono ?_; rintro e w5 ⟨rfl, hb5⟩; clear HCB; clear x11; have hB5 : Below w.heap.size w w5 := hB4.trans (hb5.mono hB4.size); have hKn := Bk.below (by exact (by repeat (first | with_reducible assumption | with_reducible exact Bk.new _ _ _ | with_reducible refine Bk.drew ?_ | with_reducible refine Bk.drewN ?_ _ | with_reducible refine Bk.alloc ?_ _ | (with_reducible refine Bk.far ?_ ?_ _; rotate_left; (try simp) <;> omega)))) hb5 hlk; clear hKc hlk; have hKc := hKn; clear hKn; have hlk := hKc.lt; have hPn := Bk.below (by exact (by repeat (first | with_reducible assumption | with_reducible exact Bk.new _ _ _ | with_reducible refine Bk.drew ?_ | with_reducible refine Bk.drewN ?_ _ | with_reducible refine Bk.alloc ?_ _ | (with_reducible refine Bk.far ?_ ?_ _; rotate_left; (try simp) <;> omega)))) hb5 hlp; clear hPc hlp x8; have hPc := hPn; clear hPn; have hlp := hPc.lt; have x8 := hPc.cell 0 rfl; have p5 := p4.below hb5 p4.lt; have q5 := (q4.below hb5 (Nat.le_refl _)).more hb5.size; have hl5 := (hl4.below hb5 (Nat.le_refl _)).more hb5.size; have x11 := p5.cell 0 rfl; clear hb5 p4 q4 hl4) | (go_at_call 15; refine (HWO.out _).mono ?_; rintro e w6 ⟨rfl, hb6⟩; have hB6 : Below w.heap.size w w6 := hB5.trans (hb6.mono hB5.size)))
            go_ret
            exact ⟨by first | rfl | simp, hB6⟩
          | some ds =>
            obtain ⟨e1, e2⟩ := earP_some hbe he
            have hdl := earD_len he
            have hea := early_of he
            have hul := usual_len Y l [] ds (Nat.zero_le _)
            have hud := usual_day Y l ds (by omega)
            rw [e1, e2] at HEA HBD
            rw [hud] at HBD
            have hok := plan_usual (daysOK_ear he)
            have hbk := bnds_self hf he
            have HCQ : Hid (∀ (A2 : Option Addr) (c2 : Nat) (W : World), Below w.heap.size w W → Lies W W.heap.size A2 (turnsC (usual Y l [] ds)) → Calls Try.prog 41 #[.agg C, .slice A l.length c, .int .i64 f, .agg #[.slice A2 (usual Y l [] ds).length c2]] W (TwoEnd true 0 W)) := fun A2 c2 W hb hl => by
              have := checkPlan_any C Y l A c f (usual Y l [] ds) A2 c2 W ((hY.below hb (Nat.le_refl _)).more hb.size) hs ((hT.below hb (Nat.le_refl _)).more hb.size) ht hl (by rw [hul, hdl]; have := hvt.n; omega) (plan_pits hs.pi hok)
              rw [hbe, hok] at this; exact this
            have HCC : Hid (∀ (A3 : Option Addr) (c3 : Nat) (W : World), Below w.heap.size w W → Lies W W.heap.size A3 (ints ds) → Calls Try.prog 42 #[.agg C, .slice A l.length c, .int .i64 f, .slice A3 ds.length c3] W (TwoEnd true 0 W)) := fun A3 c3 W hb hl => by
              have := checkBounds_any C Y l A c f ds A3 c3 W ((hY.below hb (Nat.le_refl _)).more hb.size) hs ((hT.below hb (Nat.le_refl _)).more hb.size) ht hl (by rw [hdl]; have := hvt.n; omega) (fun x hx => by
                obtain ⟨i, hi, rfl⟩ := List.mem_iff_getElem.1 hx
                have := hea.bd i (by omega)
                rw [List.getD_eq_getElem?_getD, List.getElem?_eq_getElem hi, Option.getD_some] at this
                unfold i64v; omega)
              rw [hbe, hbk] at this; exact this
            have HTS0 : Hid (∀ W : World, Below w.heap.size w W → Lies W W.heap.size T (turnsC ts)) := fun W hb => ((hP.below hb (Nat.le_refl _)).more hb.size)
            have HDS0 : Hid (∀ W : World, Below w.heap.size w W → Lies W W.heap.size D (ints bs)) := fun W hb => ((hD.below hb (Nat.le_refl _)).more hb.size)
            have HUD : Hid (∀ k (h : k < (usual Y l [] ds).length) (h2 : k < ds.length), ((usual Y l [] ds)[k]'h).day = ds[k]) := fun k h h2 => by
              have : ((usual Y l [] ds).map Tu.day)[k]? = ds[k]? := by rw [hud]
              rw [List.getElem?_map, List.getElem?_eq_getElem h, List.getElem?_eq_getElem h2] at this
              exact Option.some.inj this
            have HKP : Hid (planOK Y l f ts = true → Hid (ts.length = l.length) ∧ ∀ k (_ : k < l.length) (h : k < ts.length), ds.getD k 0 ≤ (ts[k]'h).day) := fun h => by
              have h1 := daysOK_plan h
              refine ⟨show _ = _ by simpa using h1.len, fun k hk hk2 => ?_⟩
              have h2 := least_plan he h1 k hk
              rw [List.getD_eq_getElem?_getD (l := ts.map Tu.day), List.getElem?_map, List.getElem?_eq_getElem hk2] at h2
              exact h2
            have HRP : Hid (bndsOK Y l f bs = true → Hid (bs.length = l.length) ∧ ∀ k (_ : k < l.length) (h : k < bs.length), bs[k]'h ≤ ds.getD k 0) := fun h => by
              refine ⟨show _ = _ by (unfold bndsOK at h; rw [Bool.and_eq_true, decide_eq_true_eq] at h; exact h.1), fun k hk hk2 => ?_⟩
              have h2 := bnds_le hf h (daysOK_ear he) l.length (Nat.le_refl _) k hk
              rw [List.getD_eq_getElem?_getD, List.getElem?_eq_getElem hk2] at h2
              exact h2
            have HKR : Hid (planOK Y l f ts = true → bndsOK Y l f bs = true → ∀ k (_ : k < l.length) (h : k < ts.length) (h2 : k < bs.length), bs[k]'h2 ≤ (ts[k]'h).day) := fun hp h k hk hk1 hk2 => by
              have h2 := bnds_le hf h (daysOK_plan hp) l.length (Nat.le_refl _) k hk
              rw [List.getD_eq_getElem?_getD, List.getElem?_eq_getElem hk2, List.getD_eq_getElem?_getD, List.getElem?_map, List.getElem?_eq_getElem hk1] at h2
              exact h2
            have HDL := Lib.hid hdl
            have HUL := Lib.hid hul
            have hdl1 : ds.length ≤ l.length := by omega
            have hdl2 : l.length ≤ ds.length := by omega
            have hlneq : ((ds.length : Int) != (l.length : Int)) = false := by rw [hdl]; simp
            clear e1 e2 he ho hvt hbe hs ht hY hT hP hD hgp hgi hea hul hud hok hbk hdl
            generalize bndsOK Y l f bs = r2 at *
            generalize planOK Y l f ts = r1 at *
            generalize usual Y l [] ds = U at *
            go_enter Try.func10, Try.ntmps10
            go_wp2_with (first | (have h9 := hKc; clear h9; refine wpList_load_guard (P := Try.prog) (by rfl) 29 (.tmp 5) rfl w.heap.size 0 rfl C.toList _ (HLOAD.out _ (by exact (by repeat (first | with_reducible assumption | with_reducible exact Bk.new _ _ _ | with_reducible refine Bk.drew ?_ | with_reducible refine Bk.drewN ?_ _ | with_reducible refine Bk.alloc ?_ _ | (with_reducible refine Bk.far ?_ ?_ _; rotate_left; (try simp) <;> omega))))) Try.underlying29 rfl (by rw [HC28.out]; exact info29) ?_) | (go_at_call 23; refine (HSL.out _ hB0).mono ?_; rintro e w1 ⟨rfl, hb1⟩; rw [H0.out]; have hB1 : Below w.heap.size w w1 := hB0.trans (hb1.mono hB0.size); have hKn := Bk.below (by exact (by repeat (first | with_reducible assumption | with_reducible exact Bk.new _ _ _ | with_reducible refine Bk.drew ?_ | with_reducible refine Bk.drewN ?_ _ | with_reducible refine Bk.alloc ?_ _ | (with_reducible refine Bk.far ?_ ?_ _; rotate_left; (try simp) <;> omega)))) hb1 hlk; clear hKc hlk; have hKc := hKn; clear hKn; have hlk := hKc.lt; have hPn := Bk.below (by exact (by repeat (first | with_reducible assumption | with_reducible exact Bk.new _ _ _ | with_reducible refine Bk.drew ?_ | with_reducible refine Bk.drewN ?_ _ | with_reducible refine Bk.alloc ?_ _ | (with_reducible refine Bk.far ?_ ?_ _; rotate_left; (try simp) <;> omega)))) hb1 hlp; clear hPc hlp x8; have hPc := hPn; clear hPn; have hlp := hPc.lt; have x8 := hPc.cell 0 rfl; clear hb1) | (go_at_call 24; refine (HEA.out _ hB1).mono ?_; rintro e w2 ⟨v2, rfl, ho2, hb2⟩; obtain ⟨A2, c2, rfl, _, _⟩ := ownsSlice ho2; have hB2 : Below w.heap.size w w2 := hB1.trans (hb2.mono hB1.size); have hl2 := ownsRow_lies ho2; have hKn := Bk.below (by exact (by repeat (first | with_reducible assumption | with_reducible exact Bk.new _ _ _ | with_reducible refine Bk.drew ?_ | with_reducible refine Bk.drewN ?_ _ | with_reducible refine Bk.alloc ?_ _ | (with_reducible refine Bk.far ?_ ?_ _; rotate_left; (try simp) <;> omega)))) hb2 hlk; clear hKc hlk; have hKc := hKn; clear hKn; have hlk := hKc.lt; have hPn := Bk.below (by exact (by repeat (first | with_reducible assumption | with_reducible exact Bk.new _ _ _ | with_reducible refine Bk.drew ?_ | with_reducible refine Bk.drewN ?_ _ | with_reducible refine Bk.alloc ?_ _ | (with_reducible refine Bk.far ?_ ?_ _; rotate_left; (try simp) <;> omega)))) hb2 hlp; clear hPc hlp x8; have hPc := hPn; clear hPn; have hlp := hPc.lt; have x8 := hPc.cell 0 rfl; have hz2 := hB2.size; clear ho2 hb2) | (go_at_call 31; refine (HBD.out _ (by exact (by repeat (first | with_reducible exact Below.refl _ _ | with_reducible assumption | with_reducible refine Below.drew ?_ | with_reducible refine below_drewN ?_ _ | (with_reducible refine Below.alloc ?_ ?_ _; rotate_left; (try simp) <;> omega) | (with_reducible refine Below.setCell ?_ ?_ _; rotate_left; (try simp) <;> omega))) : Below w.heap.size w (w2.alloc (.cells #[.slice A2 U.length c2] 42)))).mono ?_; rintro e w3 ⟨v3, rfl, ho3, hb3⟩; obtain ⟨A3, c3, rfl, _, _⟩ := ownsSlice ho3; have hB3 : Below w.heap.size w w3 := Below.trans (by exact (by repeat (first | with_reducible exact Below.refl _ _ | with_reducible assumption | with_reducible refine Below.drew ?_ | with_reducible refine below_drewN ?_ _ | (with_reducible refine Below.alloc ?_ ?_ _; rotate_left; (try simp) <;> omega) | (with_reducible refine Below.setCell ?_ ?_ _; rotate_left; (try simp) <;> omega))) : Below w.heap.size w (w2.alloc (.cells #[.slice A2 U.length c2] 42))) (hb3.mono (by simp; omega)); have hl3 := ownsRow_lies ho3; have p3 : Bk w3 w2.heap.size 42 #[.slice A2 U.length c2] := (Bk.new w2 42 #[.slice A2 U.length c2]).below hb3 (by simp); have q3 : Lies w3 w3.heap.size A2 (turnsC U) := (((hl2.below (by exact (by repeat (first | with_reducible exact Below.refl _ _ | with_reducible assumption | with_reducible refine Below.drew ?_ | with_reducible refine below_drewN ?_ _ | (with_reducible refine Below.alloc ?_ ?_ _; rotate_left; (try simp) <;> omega) | (with_reducible refine Below.setCell ?_ ?_ _; rotate_left; (try simp) <;> omega))) : Below w2.heap.size w2 (w2.alloc (.cells #[.slice A2 U.length c2] 42))) (Nat.le_refl _)).more (by simp)).below hb3 (Nat.le_refl _)).more hb3.size; have hKn : Bk w3 w.heap.size 29 C := (hKc.alloc (.cells #[.slice A2 U.length c2] 42)).below hb3 (by simp; omega); have hPn : Bk w3 (w.heap.size + 1) 42 #[.slice T ts.length ct] := (hPc.alloc (.cells #[.slice A2 U.length c2] 42)).below hb3 (by simp; omega); clear hKc hlk hPc hlp x8; have hKc := hKn; have hPc := hPn; clear hKn hPn; have hlk := hKc.lt; have hlp := hPc.lt; have x8 := hPc.cell 0 rfl; clear ho3 hb3 hl2) | (have h9 := HCP; clear h9; go_at_call 41; refine (HCP.out _ hB3).mono ?_; rintro e w4 ⟨rfl, hb4⟩; clear HCP; have hB4 : Below w.heap.size w w4 := hB3.trans (hb4.mono hB3.size); have hKn := Bk.below (by exact (by repeat (first | with_reducible assumption | with_reducible exact Bk.new _ _ _ | with_reducible refine Bk.drew ?_ | with_reducible refine Bk.drewN ?_ _ | with_reducible refine Bk.alloc ?_ _ | (with_reducible refine Bk.far ?_ ?_ _; rotate_left; (try simp) <;> omega)))) hb4 hlk; clear hKc hlk; have hKc := hKn; clear hKn; have hlk := hKc.lt; have hPn := Bk.below (by exact (by repeat (first | with_reducible assumption | with_reducible exact Bk.new _ _ _ | with_reducible refine Bk.drew ?_ | with_reducible refine Bk.drewN ?_ _ | with_reducible refine Bk.alloc ?_ _ | (with_reducible refine Bk.far ?_ ?_ _; rotate_left; (try simp) <;> omega)))) hb4 hlp; clear hPc hlp x8; have hPc := hPn; clear hPn; have hlp := hPc.lt; have x8 := hPc.cell 0 rfl; have p4 := p3.below hb4 p3.lt; have q4 := (q3.below hb4 (Nat.le_refl _)).more hb4.size; have hl4 := (hl3.below hb4 (Nat.le_refl _)).more hb4.size; have x11 := p4.cell 0 rfl; clear hb4 p3 q3 hl3) | (have h9 := HCB; clear h9; go_at_call 42; refine (HCB.out _ hB4).mono ?_; rintro e w5 ⟨rfl, hb5⟩; clear HCB; clear x11; have hB5 : Below w.heap.size w w5 := hB4.trans (hb5.mono hB4.size); have hKn := Bk.below (by exact (by repeat (first | with_reducible assumption | with_reducible exact Bk.new _ _ _ | with_reducible refine Bk.drew ?_ | with_reducible refine Bk.drewN ?_ _ | with_reducible refine Bk.alloc ?_ _ | (with_reducible refine Bk.far ?_ ?_ _; rotate_left; (try simp) <;> omega)))) hb5 hlk; clear hKc hlk; have hKc := hKn; clear hKn; have hlk := hKc.lt; have hPn := Bk.below (by exact (by repeat (first | with_reducible assumption | with_reducible exact Bk.new _ _ _ | with_reducible refine Bk.drew ?_ | with_reducible refine Bk.drewN ?_ _ | with_reducible refine Bk.alloc ?_ _ | (with_reducible refine Bk.far ?_ ?_ _; rotate_left; (try simp) <;> omega)))) hb5 hlp; clear hPc hlp x8; have hPc := hPn; clear hPn; have hlp := hPc.lt; have x8 := hPc.cell 0 rfl; have p5 := p4.below hb5 p4.lt; have q5 := (q4.below hb5 (Nat.le_refl _)).more hb5.size; have hl5 := (hl4.below hb5 (Nat.le_refl _)).more hb5.size; have x11 := p5.cell 0 rfl; clear hb5 p4 q4 hl4) | (have h9 := HCQ; clear h9; go_at_call 41; refine (HCQ.out A2 c2 _ hB5 q5).mono ?_; rintro e w6 ⟨rfl, hb6⟩; clear HCQ; clear x11; have hB6 : Below w.heap.size w w6 := hB5.trans (hb6.mono hB5.size); have hKn := Bk.below (by exact (by repeat (first | with_reducible assumption | with_reducible exact Bk.new _ _ _ | with_reducible refine Bk.drew ?_ | with_reducible refine Bk.drewN ?_ _ | with_reducible refine Bk.alloc ?_ _ | (with_reducible refine Bk.far ?_ ?_ _; rotate_left; (try simp) <;> omega)))) hb6 hlk; clear hKc hlk; have hKc := hKn; clear hKn; have hlk := hKc.lt; have hPn := Bk.below (by exact (by repeat (first | with_reducible assumption | with_reducible exact Bk.new _ _ _ | with_reducible refine Bk.drew ?_ | with_reducible refine Bk.drewN ?_ _ | with_reducible refine Bk.alloc ?_ _ | (with_reducible refine Bk.far ?_ ?_ _; rotate_left; (try simp) <;> omega)))) hb6 hlp; clear hPc hlp x8; have hPc := hPn; clear hPn; have hlp := hPc.lt; have x8 := hPc.cell 0 rfl; have p6 := p5.below hb6 p5.lt; have q6 := (q5.below hb6 (Nat.le_refl _)).more hb6.size; have hl6 := (hl5.below hb6 (Nat.le_refl _)).more hb6.size; have x11 := p6.cell 0 rfl; clear hb6 p5 q5 hl5) | (have h9 := HCC; clear h9; go_at_call 42; refine (HCC.out A3 c3 _ hB6 hl6).mono ?_; rintro e w7 ⟨rfl, hb7⟩; clear HCC; clear x11; have hB7 : Below w.heap.size w w7 := hB6.trans (hb7.mono hB6.size); have hKn := Bk.below (by exact (by repeat (first | with_reducible assumption | with_reducible exact Bk.new _ _ _ | with_reducible refine Bk.drew ?_ | with_reducible refine Bk.drewN ?_ _ | with_reducible refine Bk.alloc ?_ _ | (with_reducible refine Bk.far ?_ ?_ _; rotate_left; (try simp) <;> omega)))) hb7 hlk; clear hKc hlk; have hKc := hKn; clear hKn; have hlk := hKc.lt; have hPn := Bk.below (by exact (by repeat (first | with_reducible assumption | with_reducible exact Bk.new _ _ _ | with_reducible refine Bk.drew ?_ | with_reducible refine Bk.drewN ?_ _ | with_reducible refine Bk.alloc ?_ _ | (with_reducible refine Bk.far ?_ ?_ _; rotate_left; (try simp) <;> omega)))) hb7 hlp; clear hPc hlp x8; have hPc := hPn; clear hPn; have hlp := hPc.lt; have x8 := hPc.cell 0 rfl; have p7 := p6.below hb7 p6.lt; have q7 := (q6.below hb7 (Nat.le_refl _)).more hb7.size; have hl7 := (hl6.below hb7 (Nat.le_refl _)).more hb7.size; have x11 := p7.cell 0 rfl; clear hb7 p6 q6 hl6))
            have HX : Hid (∀ W : World, Below w7.heap.size w7 W → W.cell? ⟨w2.heap.size, 0, none⟩ = some (.slice A2 U.length c2) ∧ W.cell? ⟨w.heap.size + 1, 0, none⟩ = some (.slice T ts.length ct)) := fun W hb => ⟨(p7.below hb p7.lt).cell 0 rfl, (hPc.below hb hlp).cell 0 rfl⟩
            have HQ := Lib.hid (fun W (hb : Below w7.heap.size w7 W) => (q7.below hb (Nat.le_refl _)).more hb.size)
            have HM := Lib.hid (fun W (hb : Below w7.heap.size w7 W) => (hl7.below hb (Nat.le_refl _)).more hb.size)
            have HTS := Lib.hid (fun W (hb : Below w7.heap.size w7 W) => HTS0.out W (hB7.trans (hb.mono hB7.size)))
            have HDS := Lib.hid (fun W (hb : Below w7.heap.size w7 W) => HDS0.out W (hB7.trans (hb.mono hB7.size)))
            clear hKc hPc hlk hlp x8 x11 p7 q7 hl7 HTS0 HDS0
            go_loopw [23] (fun y wr => ∃ k : Nat, k ≤ l.length ∧ y = .int .i64 (k : Int) ∧ Below w7.heap.size w7 wr) (fun y _ => l.length - (intOf y).toNat)
            case atStart => exact ⟨0, Nat.zero_le _, rfl, Below.refl _ _⟩
            case round =>
            obtain ⟨k, hk, rfl, hbx⟩ := hrel
            by_cases hlt : k < l.length
            · have hkU : k < U.length := by have := HUL.out; omega
              have hkD : k < ds.length := by omega
              obtain ⟨a1, rfl, _, z1, _, _⟩ := turn_at (HQ.out wr hbx) hkU
              obtain ⟨a3, rfl, _, z3⟩ := int_at (HM.out wr hbx) hkD
              have hdd := HUD.out k hkU hkD
              rw [hdd] at z1
              have hdq : ds.getD k 0 = ds[k] := by rw [List.getD_eq_getElem?_getD, List.getElem?_eq_getElem hkD]; rfl
              clear hdd
              generalize ds[k] = dq at *
              have hkI : (k : Int) < (l.length : Int) := by omega
              have hkUI : (k : Int) < (U.length : Int) := by omega
              have hkDI : (k : Int) < (ds.length : Int) := by omega
              have hk0 : 0 ≤ (k : Int) := by omega
              cases r1 with
              | true =>
                cases r2 with
                | true =>
                  obtain ⟨hkt, hkl⟩ := HKP.out rfl
                  have hk5 : k < ts.length := by have := hkt.out; omega
                  obtain ⟨a5, rfl, _, z5, _, _⟩ := turn_at (HTS.out wr hbx) hk5
                  have hpd := hkl k hlt hk5
                  rw [hdq] at hpd
                  have y8 := (HX.out wr hbx).2
                  have hk5I : (k : Int) < (ts.length : Int) := by omega
                  obtain ⟨hrt, hrl⟩ := HRP.out rfl
                  have hk6 : k < bs.length := by have := hrt.out; omega
                  obtain ⟨a6, rfl, _, z6⟩ := int_at (HDS.out wr hbx) hk6
                  have hbb := hrl k hlt hk6
                  rw [hdq] at hbb
                  have hk6I : (k : Int) < (bs.length : Int) := by omega
                  have hpb := HKR.out rfl rfl k hlt hk5 hk6
                  generalize (ts[k]'hk5).day = pd at *
                  generalize bs[k]'hk6 = bb at *
                  have hpn1 : ¬ pd < dq := by omega
                  have hpn2 : ¬ dq < bb := by omega
                  have hpn3 : ¬ pd < bb := by omega
                  clear hdq
                  go_upto_region 18 with fail
                  refine wp_region_held_drew (S := (fun w' => w'.cell? ⟨w2.heap.size, 0, none⟩ = some (.slice (some a1) U.length c2) ∧ w'.cell? (a1.add (k * 3)) = some (.int .i64 dq) ∧ w'.cell? (a3.add k) = some (.int .i64 dq) ∧ w'.cell? ⟨w.heap.size + 1, 0, none⟩ = some (.slice (some a5) ts.length ct) ∧ w'.cell? (a5.add (k * 3)) = some (.int .i64 pd) ∧ w'.cell? (a6.add k) = some (.int .i64 bb))) (by kernel_rfl) ?_ (fun hHeld => ?_)
                  · exact ⟨(HX.out wr hbx).1, z1, z3, y8, z5, z6⟩
                  refine tk 0 158 ?_
                  refine tk 1 159 ?_
                  refine tk 2 160 ?_
                  refine tk 3 161 ?_
                  refine tk 4 162 ?_
                  refine tk 5 163 ?_
                  refine tk 6 164 ?_
                  refine tk 7 165 ?_
                  refine tk 8 166 ?_
                  refine tk 9 167 ?_
                  refine tk 10 168 ?_
                  refine tk 11 169 ?_
                  refine tk 12 170 ?_
                  refine tk 13 171 ?_
                  refine tk 14 172 ?_
                  refine tk 15 173 ?_
                  refine tk 16 174 ?_
                  refine tk 17 175 ?_
                  refine tk 18 176 ?_
                  refine tk 19 177 ?_
                  refine tk 20 178 ?_
                  refine tk 21 179 ?_
                  refine tk 22 180 ?_
                  refine tk 23 181 ?_
                  refine tk 24 182 ?_
                  refine tk 25 183 ?_
                  refine tk 26 184 ?_
                  refine tk 27 185 ?_
                  refine tk 28 186 ?_
                  refine tk 29 187 ?_
                  refine tk 30 188 ?_
                  refine tk 31 189 ?_
                  refine tk 32 190 ?_
                  refine tk 33 191 ?_
                  refine tk 34 192 ?_
                  refine tk 35 193 ?_
                  refine tk 36 194 ?_
                  refine tk 37 195 ?_
                  refine tk 38 196 ?_
                  refine tk 39 197 ?_
                  refine tk 40 198 ?_
                  refine tk 41 199 ?_
                  refine tk 42 200 ?_
                  refine tk 43 201 ?_
                  refine tk 44 202 ?_
                  refine tk 45 203 ?_
                  refine tk 46 204 ?_
                  refine tk 47 205 ?_
                  refine tk 48 206 ?_
                  refine tk 49 207 ?_
                  refine tk 50 208 ?_
                  refine tk 51 209 ?_
                  refine tk 52 210 ?_
                  refine tk 53 211 ?_
                  refine tk 54 212 ?_
                  refine tk 55 213 ?_
                  refine tk 56 214 ?_
                  refine tk 57 215 ?_
                  refine tk 58 216 ?_
                  refine tk 59 217 ?_
                  refine tk 60 218 ?_
                  refine tk 61 219 ?_
                  refine wpAnyH_done (by kernel_rfl) ?_ _
                  clear hHeld
                  go_wp2
                  go_roundw
                  case rel => exact ⟨k + 1, by omega, by go_num, by exact (by repeat (first | with_reducible exact Below.refl _ _ | with_reducible assumption | with_reducible refine Below.drew ?_ | with_reducible refine below_drewN ?_ _ | (with_reducible refine Below.alloc ?_ ?_ _; rotate_left; (try simp) <;> omega) | (with_reducible refine Below.setCell ?_ ?_ _; rotate_left; (try simp) <;> omega)))⟩
                  case measure => simp [intOf] <;> omega
                | false =>
                  obtain ⟨hkt, hkl⟩ := HKP.out rfl
                  have hk5 : k < ts.length := by have := hkt.out; omega
                  obtain ⟨a5, rfl, _, z5, _, _⟩ := turn_at (HTS.out wr hbx) hk5
                  have hpd := hkl k hlt hk5
                  rw [hdq] at hpd
                  have y8 := (HX.out wr hbx).2
                  have hk5I : (k : Int) < (ts.length : Int) := by omega
                  generalize (ts[k]'hk5).day = pd at *
                  have hpn1 : ¬ pd < dq := by omega
                  clear hdq
                  go_upto_region 18 with fail
                  refine wp_region_held_drew (S := (fun w' => w'.cell? ⟨w2.heap.size, 0, none⟩ = some (.slice (some a1) U.length c2) ∧ w'.cell? (a1.add (k * 3)) = some (.int .i64 dq) ∧ w'.cell? (a3.add k) = some (.int .i64 dq) ∧ w'.cell? ⟨w.heap.size + 1, 0, none⟩ = some (.slice (some a5) ts.length ct) ∧ w'.cell? (a5.add (k * 3)) = some (.int .i64 pd))) (by kernel_rfl) ?_ (fun hHeld => ?_)
                  · exact ⟨(HX.out wr hbx).1, z1, z3, y8, z5⟩
                  refine tk 0 158 ?_
                  refine tk 1 159 ?_
                  refine tk 2 160 ?_
                  refine tk 3 161 ?_
                  refine tk 4 162 ?_
                  refine tk 5 163 ?_
                  refine tk 6 164 ?_
                  refine tk 7 165 ?_
                  refine tk 8 166 ?_
                  refine tk 9 167 ?_
                  refine tk 10 168 ?_
                  refine tk 11 169 ?_
                  refine tk 12 170 ?_
                  refine tk 13 171 ?_
                  refine tk 14 172 ?_
                  refine tk 15 173 ?_
                  refine tk 16 174 ?_
                  refine tk 17 175 ?_
                  refine tk 18 176 ?_
                  refine tk 19 177 ?_
                  refine tk 20 178 ?_
                  refine tk 21 179 ?_
                  refine tk 22 180 ?_
                  refine tk 23 181 ?_
                  refine tk 24 182 ?_
                  refine tk 25 183 ?_
                  refine tk 26 184 ?_
                  refine tk 27 185 ?_
                  refine tk 28 186 ?_
                  refine tk 29 187 ?_
                  refine tk 30 188 ?_
                  refine tk 31 189 ?_
                  refine tk 32 190 ?_
                  refine sk 33 191 ?_
                  refine sk 34 192 ?_
                  refine sk 35 193 ?_
                  refine sk 36 194 ?_
                  refine sk 37 195 ?_
                  refine sk 38 196 ?_
                  refine sk 39 197 ?_
                  refine sk 40 198 ?_
                  refine sk 41 199 ?_
                  refine sk 42 200 ?_
                  refine sk 43 201 ?_
                  refine tk 44 202 ?_
                  refine tk 45 203 ?_
                  refine tk 46 204 ?_
                  refine tk 47 205 ?_
                  refine tk 48 206 ?_
                  refine sk 49 207 ?_
                  refine sk 50 208 ?_
                  refine sk 51 209 ?_
                  refine sk 52 210 ?_
                  refine sk 53 211 ?_
                  refine sk 54 212 ?_
                  refine sk 55 213 ?_
                  refine sk 56 214 ?_
                  refine sk 57 215 ?_
                  refine sk 58 216 ?_
                  refine sk 59 217 ?_
                  refine tk 60 218 ?_
                  refine tk 61 219 ?_
                  refine wpAnyH_done (by kernel_rfl) ?_ _
                  clear hHeld
                  go_wp2
                  go_roundw
                  case rel => exact ⟨k + 1, by omega, by go_num, by exact (by repeat (first | with_reducible exact Below.refl _ _ | with_reducible assumption | with_reducible refine Below.drew ?_ | with_reducible refine below_drewN ?_ _ | (with_reducible refine Below.alloc ?_ ?_ _; rotate_left; (try simp) <;> omega) | (with_reducible refine Below.setCell ?_ ?_ _; rotate_left; (try simp) <;> omega)))⟩
                  case measure => simp [intOf] <;> omega
              | false =>
                cases r2 with
                | true =>
                  obtain ⟨hrt, hrl⟩ := HRP.out rfl
                  have hk6 : k < bs.length := by have := hrt.out; omega
                  obtain ⟨a6, rfl, _, z6⟩ := int_at (HDS.out wr hbx) hk6
                  have hbb := hrl k hlt hk6
                  rw [hdq] at hbb
                  have hk6I : (k : Int) < (bs.length : Int) := by omega
                  generalize bs[k]'hk6 = bb at *
                  have hpn2 : ¬ dq < bb := by omega
                  clear hdq
                  go_upto_region 18 with fail
                  refine wp_region_held_drew (S := (fun w' => w'.cell? ⟨w2.heap.size, 0, none⟩ = some (.slice (some a1) U.length c2) ∧ w'.cell? (a1.add (k * 3)) = some (.int .i64 dq) ∧ w'.cell? (a3.add k) = some (.int .i64 dq) ∧ w'.cell? (a6.add k) = some (.int .i64 bb))) (by kernel_rfl) ?_ (fun hHeld => ?_)
                  · exact ⟨(HX.out wr hbx).1, z1, z3, z6⟩
                  refine tk 0 158 ?_
                  refine tk 1 159 ?_
                  refine tk 2 160 ?_
                  refine tk 3 161 ?_
                  refine tk 4 162 ?_
                  refine tk 5 163 ?_
                  refine tk 6 164 ?_
                  refine tk 7 165 ?_
                  refine tk 8 166 ?_
                  refine tk 9 167 ?_
                  refine tk 10 168 ?_
                  refine tk 11 169 ?_
                  refine tk 12 170 ?_
                  refine tk 13 171 ?_
                  refine sk 14 172 ?_
                  refine sk 15 173 ?_
                  refine sk 16 174 ?_
                  refine sk 17 175 ?_
                  refine sk 18 176 ?_
                  refine sk 19 177 ?_
                  refine sk 20 178 ?_
                  refine sk 21 179 ?_
                  refine sk 22 180 ?_
                  refine sk 23 181 ?_
                  refine sk 24 182 ?_
                  refine tk 25 183 ?_
                  refine tk 26 184 ?_
                  refine tk 27 185 ?_
                  refine tk 28 186 ?_
                  refine tk 29 187 ?_
                  refine sk 30 188 ?_
                  refine tk 31 189 ?_
                  refine tk 32 190 ?_
                  refine sk 33 191 ?_
                  refine sk 34 192 ?_
                  refine sk 35 193 ?_
                  refine sk 36 194 ?_
                  refine sk 37 195 ?_
                  refine sk 38 196 ?_
                  refine sk 39 197 ?_
                  refine sk 40 198 ?_
                  refine sk 41 199 ?_
                  refine sk 42 200 ?_
                  refine sk 43 201 ?_
                  refine tk 44 202 ?_
                  refine tk 45 203 ?_
                  refine tk 46 204 ?_
                  refine tk 47 205 ?_
                  refine tk 48 206 ?_
                  refine tk 49 207 ?_
                  refine tk 50 208 ?_
                  refine tk 51 209 ?_
                  refine tk 52 210 ?_
                  refine tk 53 211 ?_
                  refine tk 54 212 ?_
                  refine tk 55 213 ?_
                  refine tk 56 214 ?_
                  refine tk 57 215 ?_
                  refine tk 58 216 ?_
                  refine tk 59 217 ?_
                  refine tk 60 218 ?_
                  refine tk 61 219 ?_
                  refine wpAnyH_done (by kernel_rfl) ?_ _
                  clear hHeld
                  go_wp2
                  go_roundw
                  case rel => exact ⟨k + 1, by omega, by go_num, by exact (by repeat (first | with_reducible exact Below.refl _ _ | with_reducible assumption | with_reducible refine Below.drew ?_ | with_reducible refine below_drewN ?_ _ | (with_reducible refine Below.alloc ?_ ?_ _; rotate_left; (try simp) <;> omega) | (with_reducible refine Below.setCell ?_ ?_ _; rotate_left; (try simp) <;> omega)))⟩
                  case measure => simp [intOf] <;> omega
                | false =>
                  clear hdq
                  go_upto_region 18 with fail
                  refine wp_region_held_drew (S := (fun w' => w'.cell? ⟨w2.heap.size, 0, none⟩ = some (.slice (some a1) U.length c2) ∧ w'.cell? (a1.add (k * 3)) = some (.int .i64 dq) ∧ w'.cell? (a3.add k) = some (.int .i64 dq))) (by kernel_rfl) ?_ (fun hHeld => ?_)
                  · exact ⟨(HX.out wr hbx).1, z1, z3⟩
                  refine tk 0 158 ?_
                  refine tk 1 159 ?_
                  refine tk 2 160 ?_
                  refine tk 3 161 ?_
                  refine tk 4 162 ?_
                  refine tk 5 163 ?_
                  refine tk 6 164 ?_
                  refine tk 7 165 ?_
                  refine tk 8 166 ?_
                  refine tk 9 167 ?_
                  refine tk 10 168 ?_
                  refine tk 11 169 ?_
                  refine tk 12 170 ?_
                  refine tk 13 171 ?_
                  refine sk 14 172 ?_
                  refine sk 15 173 ?_
                  refine sk 16 174 ?_
                  refine sk 17 175 ?_
                  refine sk 18 176 ?_
                  refine sk 19 177 ?_
                  refine sk 20 178 ?_
                  refine sk 21 179 ?_
                  refine sk 22 180 ?_
                  refine sk 23 181 ?_
                  refine sk 24 182 ?_
                  refine tk 25 183 ?_
                  refine tk 26 184 ?_
                  refine tk 27 185 ?_
                  refine tk 28 186 ?_
                  refine tk 29 187 ?_
                  refine sk 30 188 ?_
                  refine tk 31 189 ?_
                  refine tk 32 190 ?_
                  refine sk 33 191 ?_
                  refine sk 34 192 ?_
                  refine sk 35 193 ?_
                  refine sk 36 194 ?_
                  refine sk 37 195 ?_
                  refine sk 38 196 ?_
                  refine sk 39 197 ?_
                  refine sk 40 198 ?_
                  refine sk 41 199 ?_
                  refine sk 42 200 ?_
                  refine sk 43 201 ?_
                  refine tk 44 202 ?_
                  refine tk 45 203 ?_
                  refine tk 46 204 ?_
                  refine tk 47 205 ?_
                  refine tk 48 206 ?_
                  refine sk 49 207 ?_
                  refine sk 50 208 ?_
                  refine sk 51 209 ?_
                  refine sk 52 210 ?_
                  refine sk 53 211 ?_
                  refine sk 54 212 ?_
                  refine sk 55 213 ?_
                  refine sk 56 214 ?_
                  refine sk 57 215 ?_
                  refine sk 58 216 ?_
                  refine sk 59 217 ?_
                  refine tk 60 218 ?_
                  refine tk 61 219 ?_
                  refine wpAnyH_done (by kernel_rfl) ?_ _
                  clear hHeld
                  go_wp2
                  go_roundw
                  case rel => exact ⟨k + 1, by omega, by go_num, by exact (by repeat (first | with_reducible exact Below.refl _ _ | with_reducible assumption | with_reducible refine Below.drew ?_ | with_reducible refine below_drewN ?_ _ | (with_reducible refine Below.alloc ?_ ?_ _; rotate_left; (try simp) <;> omega) | (with_reducible refine Below.setCell ?_ ?_ _; rotate_left; (try simp) <;> omega)))⟩
                  case measure => simp [intOf] <;> omega
            · go_wp2_with (go_at_call 15; refine (HWO.out _).mono ?_; rintro e w8 ⟨rfl, hb8⟩)
              go_ret
              exact ⟨rfl, hB7.trans ((hbx.trans (hb8.mono hbx.size)).mono hB7.size)⟩
        · obtain ⟨e1, e2⟩ := earP_bad hbe
          have hsp := begE_span Y l f
          rw [e2] at HEA HBD
          rw [decide_eq_false hbe, Bool.false_and] at HCP HCB
          clear e1 e2 hs ht hY hT hP hD hgp hgi
          generalize (earP Y l f).map Tu.day = M at *
          generalize earP Y l f = U at *
          generalize begE Y l f = N at *
          have hne1 : (N == 70) = false := by simpa using hsp
          have hne2 : (N != 0) = true := by simpa using hbe
          clear hbe hsp
          go_enter Try.func10, Try.ntmps10
          go_wp2_with (first | (have h9 := hKc; clear h9; refine wpList_load_guard (P := Try.prog) (by rfl) 29 (.tmp 5) rfl w.heap.size 0 rfl C.toList _ (HLOAD.out _ (by exact (by repeat (first | with_reducible assumption | with_reducible exact Bk.new _ _ _ | with_reducible refine Bk.drew ?_ | with_reducible refine Bk.drewN ?_ _ | with_reducible refine Bk.alloc ?_ _ | (with_reducible refine Bk.far ?_ ?_ _; rotate_left; (try simp) <;> omega))))) Try.underlying29 rfl (by rw [HC28.out]; exact info29) ?_) | (go_at_call 23; refine (HSL.out _ hB0).mono ?_; rintro e w1 ⟨rfl, hb1⟩; rw [H0.out]; have hB1 : Below w.heap.size w w1 := hB0.trans (hb1.mono hB0.size); have hKn := Bk.below (by exact (by repeat (first | with_reducible assumption | with_reducible exact Bk.new _ _ _ | with_reducible refine Bk.drew ?_ | with_reducible refine Bk.drewN ?_ _ | with_reducible refine Bk.alloc ?_ _ | (with_reducible refine Bk.far ?_ ?_ _; rotate_left; (try simp) <;> omega)))) hb1 hlk; clear hKc hlk; have hKc := hKn; clear hKn; have hlk := hKc.lt; have hPn := Bk.below (by exact (by repeat (first | with_reducible assumption | with_reducible exact Bk.new _ _ _ | with_reducible refine Bk.drew ?_ | with_reducible refine Bk.drewN ?_ _ | with_reducible refine Bk.alloc ?_ _ | (with_reducible refine Bk.far ?_ ?_ _; rotate_left; (try simp) <;> omega)))) hb1 hlp; clear hPc hlp x8; have hPc := hPn; clear hPn; have hlp := hPc.lt; have x8 := hPc.cell 0 rfl; clear hb1) | (go_at_call 24; refine (HEA.out _ hB1).mono ?_; rintro e w2 ⟨v2, rfl, ho2, hb2⟩; obtain ⟨A2, c2, rfl, _, _⟩ := ownsSlice ho2; have hB2 : Below w.heap.size w w2 := hB1.trans (hb2.mono hB1.size); have hl2 := ownsRow_lies ho2; have hKn := Bk.below (by exact (by repeat (first | with_reducible assumption | with_reducible exact Bk.new _ _ _ | with_reducible refine Bk.drew ?_ | with_reducible refine Bk.drewN ?_ _ | with_reducible refine Bk.alloc ?_ _ | (with_reducible refine Bk.far ?_ ?_ _; rotate_left; (try simp) <;> omega)))) hb2 hlk; clear hKc hlk; have hKc := hKn; clear hKn; have hlk := hKc.lt; have hPn := Bk.below (by exact (by repeat (first | with_reducible assumption | with_reducible exact Bk.new _ _ _ | with_reducible refine Bk.drew ?_ | with_reducible refine Bk.drewN ?_ _ | with_reducible refine Bk.alloc ?_ _ | (with_reducible refine Bk.far ?_ ?_ _; rotate_left; (try simp) <;> omega)))) hb2 hlp; clear hPc hlp x8; have hPc := hPn; clear hPn; have hlp := hPc.lt; have x8 := hPc.cell 0 rfl; have hz2 := hB2.size; clear ho2 hb2) | (go_at_call 31; refine (HBD.out _ (by exact (by repeat (first | with_reducible exact Below.refl _ _ | with_reducible assumption | with_reducible refine Below.drew ?_ | with_reducible refine below_drewN ?_ _ | (with_reducible refine Below.alloc ?_ ?_ _; rotate_left; (try simp) <;> omega) | (with_reducible refine Below.setCell ?_ ?_ _; rotate_left; (try simp) <;> omega))) : Below w.heap.size w (w2.alloc (.cells #[.slice A2 U.length c2] 42)))).mono ?_; rintro e w3 ⟨v3, rfl, ho3, hb3⟩; obtain ⟨A3, c3, rfl, _, _⟩ := ownsSlice ho3; have hB3 : Below w.heap.size w w3 := Below.trans (by exact (by repeat (first | with_reducible exact Below.refl _ _ | with_reducible assumption | with_reducible refine Below.drew ?_ | with_reducible refine below_drewN ?_ _ | (with_reducible refine Below.alloc ?_ ?_ _; rotate_left; (try simp) <;> omega) | (with_reducible refine Below.setCell ?_ ?_ _; rotate_left; (try simp) <;> omega))) : Below w.heap.size w (w2.alloc (.cells #[.slice A2 U.length c2] 42))) (hb3.mono (by simp; omega)); have hl3 := ownsRow_lies ho3; have p3 : Bk w3 w2.heap.size 42 #[.slice A2 U.length c2] := (Bk.new w2 42 #[.slice A2 U.length c2]).below hb3 (by simp); have q3 : Lies w3 w3.heap.size A2 (turnsC U) := (((hl2.below (by exact (by repeat (first | with_reducible exact Below.refl _ _ | with_reducible assumption | with_reducible refine Below.drew ?_ | with_reducible refine below_drewN ?_ _ | (with_reducible refine Below.alloc ?_ ?_ _; rotate_left; (try simp) <;> omega) | (with_reducible refine Below.setCell ?_ ?_ _; rotate_left; (try simp) <;> omega))) : Below w2.heap.size w2 (w2.alloc (.cells #[.slice A2 U.length c2] 42))) (Nat.le_refl _)).more (by simp)).below hb3 (Nat.le_refl _)).more hb3.size; have hKn : Bk w3 w.heap.size 29 C := (hKc.alloc (.cells #[.slice A2 U.length c2] 42)).below hb3 (by simp; omega); have hPn : Bk w3 (w.heap.size + 1) 42 #[.slice T ts.length ct] := (hPc.alloc (.cells #[.slice A2 U.length c2] 42)).below hb3 (by simp; omega); clear hKc hlk hPc hlp x8; have hKc := hKn; have hPc := hPn; clear hKn hPn; have hlk := hKc.lt; have hlp := hPc.lt; have x8 := hPc.cell 0 rfl; clear ho3 hb3 hl2) | (have h9 := HCP; clear h9; go_at_call 41; refine (HCP.out _ hB3).mono ?_; rintro e w4 ⟨rfl, hb4⟩; clear HCP; have hB4 : Below w.heap.size w w4 := hB3.trans (hb4.mono hB3.size); have hKn := Bk.below (by exact (by repeat (first | with_reducible assumption | with_reducible exact Bk.new _ _ _ | with_reducible refine Bk.drew ?_ | with_reducible refine Bk.drewN ?_ _ | with_reducible refine Bk.alloc ?_ _ | (with_reducible refine Bk.far ?_ ?_ _; rotate_left; (try simp) <;> omega)))) hb4 hlk; clear hKc hlk; have hKc := hKn; clear hKn; have hlk := hKc.lt; have hPn := Bk.below (by exact (by repeat (first | with_reducible assumption | with_reducible exact Bk.new _ _ _ | with_reducible refine Bk.drew ?_ | with_reducible refine Bk.drewN ?_ _ | with_reducible refine Bk.alloc ?_ _ | (with_reducible refine Bk.far ?_ ?_ _; rotate_left; (try simp) <;> omega)))) hb4 hlp; clear hPc hlp x8; have hPc := hPn; clear hPn; have hlp := hPc.lt; have x8 := hPc.cell 0 rfl; have p4 := p3.below hb4 p3.lt; have q4 := (q3.below hb4 (Nat.le_refl _)).more hb4.size; have hl4 := (hl3.below hb4 (Nat.le_refl _)).more hb4.size; have x11 := p4.cell 0 rfl; clear hb4 p3 q3 hl3) | (have h9 := HCB; clear h9; go_at_call 42; refine (HCB.out _ hB4).mono ?_; rintro e w5 ⟨rfl, hb5⟩; clear HCB; clear x11; have hB5 : Below w.heap.size w w5 := hB4.trans (hb5.mono hB4.size); have hKn := Bk.below (by exact (by repeat (first | with_reducible assumption | with_reducible exact Bk.new _ _ _ | with_reducible refine Bk.drew ?_ | with_reducible refine Bk.drewN ?_ _ | with_reducible refine Bk.alloc ?_ _ | (with_reducible refine Bk.far ?_ ?_ _; rotate_left; (try simp) <;> omega)))) hb5 hlk; clear hKc hlk; have hKc := hKn; clear hKn; have hlk := hKc.lt; have hPn := Bk.below (by exact (by repeat (first | with_reducible assumption | with_reducible exact Bk.new _ _ _ | with_reducible refine Bk.drew ?_ | with_reducible refine Bk.drewN ?_ _ | with_reducible refine Bk.alloc ?_ _ | (with_reducible refine Bk.far ?_ ?_ _; rotate_left; (try simp) <;> omega)))) hb5 hlp; clear hPc hlp x8; have hPc := hPn; clear hPn; have hlp := hPc.lt; have x8 := hPc.cell 0 rfl; have p5 := p4.below hb5 p4.lt; have q5 := (q4.below hb5 (Nat.le_refl _)).more hb5.size; have hl5 := (hl4.below hb5 (Nat.le_refl _)).more hb5.size; have x11 := p5.cell 0 rfl; clear hb5 p4 q4 hl4) | (go_at_call 15; refine (HWO.out _).mono ?_; rintro e w6 ⟨rfl, hb6⟩; have hB6 : Below w.heap.size w w6 := hB5.trans (hb6.mono hB5.size)))
          go_ret
          exact ⟨by first | rfl | simp, hB6⟩
end Go.Proofs.Ytjgnikmnadmheaa
