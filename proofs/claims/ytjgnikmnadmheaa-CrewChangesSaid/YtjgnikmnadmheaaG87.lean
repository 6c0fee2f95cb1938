/- The law CrewChanges, walked. Printed by wip/gen_z17.py. -/
import Derived.Test.YtjgnikmnadmheaaG02
import Derived.Test.YtjgnikmnadmheaaG80
import Derived.Test.YtjgnikmnadmheaaG84
import Derived.Test.YtjgnikmnadmheaaG85
import Derived.Test.YtjgnikmnadmheaaG86

namespace Go.Proofs.Ytjgnikmnadmheaa
open Go.RowKit

set_option maxRecDepth 100000 in
set_option maxHeartbeats 4000000 in
theorem lawChanges_any (C : Array Value) (Y : Yd) (l : List Tk) (A : Option Addr) (c : Nat) (ts : List Tu) (T : Option Addr) (ct : Nat) (done f : Int) (D : List Int) (O : Option Addr) (cO : Nat) (w : World) (hY : YardAt w w.heap.size C Y) (hT : TasksAt w w.heap.size A l)
    (hP : Lies w w.heap.size T (turnsC ts)) (hgp : ∀ p ∈ ts, i64v p.day ∧ i64v p.pit ∧ i64v p.mas) (hDd : Lies w w.heap.size O (ints D)) (hDv : ∀ x ∈ D, i64v x) (hcp : ts.length ≤ ct) :
    Calls Try.prog 6 #[.agg C, .slice A l.length c, .agg #[.slice T ts.length ct], .int .i64 done, .int .i64 f, .slice O D.length cO] w fun e w' => e = .returned (.bool true) ∧ Below w.heap.size w w' := by
  have HWO := Lib.hid works_any
  have HSL := Lib.hid (fun W (hb : Below w.heap.size w W) => slow_any C Y l A c W ((hY.below hb (Nat.le_refl _)).more hb.size) ((hT.below hb (Nat.le_refl _)).more hb.size))
  have HLOAD : Hid (∀ W : World, Bk W w.heap.size 29 C → W.rangeAt w.heap.size 0 C.toList) := fun W hb => hb.range
  have HC28 := Lib.hid hY.len
  have hKc : Bk ((w.alloc (.cells C 29)).alloc (.cells #[.slice T ts.length ct] 42)) w.heap.size 29 C := (Bk.new _ _ _).alloc _
  have hPc : Bk ((w.alloc (.cells C 29)).alloc (.cells #[.slice T ts.length ct] 42)) (w.heap.size + 1) 42 #[.slice T ts.length ct] := by simpa using Bk.new (w.alloc (.cells C 29)) 42 #[.slice T ts.length ct]
  have hB0 : Below w.heap.size w ((w.alloc (.cells C 29)).alloc (.cells #[.slice T ts.length ct] 42)) := by exact (by repeat (first | with_reducible exact Below.refl _ _ | with_reducible assumption | with_reducible refine Below.drew ?_ | with_reducible refine below_drewN ?_ _ | (with_reducible refine Below.alloc ?_ ?_ _; rotate_left; (try simp) <;> omega) | (with_reducible refine Below.setCell ?_ ?_ _; rotate_left; (try simp) <;> omega)))
  have hlk := hKc.lt
  have hlp := hPc.lt
  have x8 := hPc.cell 0 rfl
  cases h0 : slowB Y l with
  | true =>
    have H0 := Lib.hid h0; clear h0 hY hT hP hgp hcp hDd hDv
    go_enter Try.func6, Try.ntmps6
    go_wp2_with (first | (have h9 := hKc; clear h9; refine wpList_load_guard (P := Try.prog) (by rfl) 29 (.tmp 6) rfl w.heap.size 0 rfl C.toList _ (HLOAD.out _ (by exact (by repeat (first | with_reducible assumption | with_reducible exact Bk.new _ _ _ | with_reducible refine Bk.drew ?_ | with_reducible refine Bk.drewN ?_ _ | with_reducible refine Bk.alloc ?_ _ | (with_reducible refine Bk.far ?_ ?_ _; rotate_left; (try simp) <;> omega))))) Try.underlying29 rfl (by rw [HC28.out]; exact info29) ?_) | (go_at_call 23; refine (HSL.out _ hB0).mono ?_; rintro e w1 ⟨rfl, hb1⟩; rw [H0.out]; have hB1 : Below w.heap.size w w1 := hB0.trans (hb1.mono hB0.size); have hKn := Bk.below (by exact (by repeat (first | with_reducible assumption | with_reducible exact Bk.new _ _ _ | with_reducible refine Bk.drew ?_ | with_reducible refine Bk.drewN ?_ _ | with_reducible refine Bk.alloc ?_ _ | (with_reducible refine Bk.far ?_ ?_ _; rotate_left; (try simp) <;> omega)))) hb1 hlk; clear hKc hlk; have hKc := hKn; clear hKn; have hlk := hKc.lt; have hPn := Bk.below (by exact (by repeat (first | with_reducible assumption | with_reducible exact Bk.new _ _ _ | with_reducible refine Bk.drew ?_ | with_reducible refine Bk.drewN ?_ _ | with_reducible refine Bk.alloc ?_ _ | (with_reducible refine Bk.far ?_ ?_ _; rotate_left; (try simp) <;> omega)))) hb1 hlp; clear hPc hlp x8; have hPc := hPn; clear hPn; have hlp := hPc.lt; have x8 := hPc.cell 0 rfl; clear hb1) | (go_at_call 15; refine (HWO.out _).mono ?_; rintro e w9 ⟨rfl, hb9⟩; have hB9 : Below w.heap.size w w9 := hB1.trans (hb9.mono hB1.size)))
    go_ret
    exact ⟨rfl, hB9⟩
  | false =>
    by_cases a1 : (20 : Int) < (ts.length : Int)
    · have H0 := Lib.hid h0; clear h0 hY hT hP hgp hcp hDd hDv
      go_enter Try.func6, Try.ntmps6
      go_wp2_with (first | (have h9 := hKc; clear h9; refine wpList_load_guard (P := Try.prog) (by rfl) 29 (.tmp 6) rfl w.heap.size 0 rfl C.toList _ (HLOAD.out _ (by exact (by repeat (first | with_reducible assumption | with_reducible exact Bk.new _ _ _ | with_reducible refine Bk.drew ?_ | with_reducible refine Bk.drewN ?_ _ | with_reducible refine Bk.alloc ?_ _ | (with_reducible refine Bk.far ?_ ?_ _; rotate_left; (try simp) <;> omega))))) Try.underlying29 rfl (by rw [HC28.out]; exact info29) ?_) | (go_at_call 23; refine (HSL.out _ hB0).mono ?_; rintro e w1 ⟨rfl, hb1⟩; rw [H0.out]; have hB1 : Below w.heap.size w w1 := hB0.trans (hb1.mono hB0.size); have hKn := Bk.below (by exact (by repeat (first | with_reducible assumption | with_reducible exact Bk.new _ _ _ | with_reducible refine Bk.drew ?_ | with_reducible refine Bk.drewN ?_ _ | with_reducible refine Bk.alloc ?_ _ | (with_reducible refine Bk.far ?_ ?_ _; rotate_left; (try simp) <;> omega)))) hb1 hlk; clear hKc hlk; have hKc := hKn; clear hKn; have hlk := hKc.lt; have hPn := Bk.below (by exact (by repeat (first | with_reducible assumption | with_reducible exact Bk.new _ _ _ | with_reducible refine Bk.drew ?_ | with_reducible refine Bk.drewN ?_ _ | with_reducible refine Bk.alloc ?_ _ | (with_reducible refine Bk.far ?_ ?_ _; rotate_left; (try simp) <;> omega)))) hb1 hlp; clear hPc hlp x8; have hPc := hPn; clear hPn; have hlp := hPc.lt; have x8 := hPc.cell 0 rfl; clear hb1) | (go_at_call 15; refine (HWO.out _).mono ?_; rintro e w9 ⟨rfl, hb9⟩; have hB9 : Below w.heap.size w w9 := hB1.trans (hb9.mono hB1.size)))
      go_ret
      exact ⟨rfl, hB9⟩
    by_cases a2 : (20 : Int) < (D.length : Int)
    · have H0 := Lib.hid h0; clear h0 hY hT hP hgp hcp hDd hDv
      go_enter Try.func6, Try.ntmps6
      go_wp2_with (first | (have h9 := hKc; clear h9; refine wpList_load_guard (P := Try.prog) (by rfl) 29 (.tmp 6) rfl w.heap.size 0 rfl C.toList _ (HLOAD.out _ (by exact (by repeat (first | with_reducible assumption | with_reducible exact Bk.new _ _ _ | with_reducible refine Bk.drew ?_ | with_reducible refine Bk.drewN ?_ _ | with_reducible refine Bk.alloc ?_ _ | (with_reducible refine Bk.far ?_ ?_ _; rotate_left; (try simp) <;> omega))))) Try.underlying29 rfl (by rw [HC28.out]; exact info29) ?_) | (go_at_call 23; refine (HSL.out _ hB0).mono ?_; rintro e w1 ⟨rfl, hb1⟩; rw [H0.out]; have hB1 : Below w.heap.size w w1 := hB0.trans (hb1.mono hB0.size); have hKn := Bk.below (by exact (by repeat (first | with_reducible assumption | with_reducible exact Bk.new _ _ _ | with_reducible refine Bk.drew ?_ | with_reducible refine Bk.drewN ?_ _ | with_reducible refine Bk.alloc ?_ _ | (with_reducible refine Bk.far ?_ ?_ _; rotate_left; (try simp) <;> omega)))) hb1 hlk; clear hKc hlk; have hKc := hKn; clear hKn; have hlk := hKc.lt; have hPn := Bk.below (by exact (by repeat (first | with_reducible assumption | with_reducible exact Bk.new _ _ _ | with_reducible refine Bk.drew ?_ | with_reducible refine Bk.drewN ?_ _ | with_reducible refine Bk.alloc ?_ _ | (with_reducible refine Bk.far ?_ ?_ _; rotate_left; (try simp) <;> omega)))) hb1 hlp; clear hPc hlp x8; have hPc := hPn; clear hPn; have hlp := hPc.lt; have x8 := hPc.cell 0 rfl; clear hb1) | (go_at_call 15; refine (HWO.out _).mono ?_; rintro e w9 ⟨rfl, hb9⟩; have hB9 : Below w.heap.size w w9 := hB1.trans (hb9.mono hB1.size)))
      go_ret
      exact ⟨rfl, hB9⟩
    by_cases a3 : f < 0
    · have H0 := Lib.hid h0; clear h0 hY hT hP hgp hcp hDd hDv
      go_enter Try.func6, Try.ntmps6
      go_wp2_with (first | (have h9 := hKc; clear h9; refine wpList_load_guard (P := Try.prog) (by rfl) 29 (.tmp 6) rfl w.heap.size 0 rfl C.toList _ (HLOAD.out _ (by exact (by repeat (first | with_reducible assumption | with_reducible exact Bk.new _ _ _ | with_reducible refine Bk.drew ?_ | with_reducible refine Bk.drewN ?_ _ | with_reducible refine Bk.alloc ?_ _ | (with_reducible refine Bk.far ?_ ?_ _; rotate_left; (try simp) <;> omega))))) Try.underlying29 rfl (by rw [HC28.out]; exact info29) ?_) | (go_at_call 23; refine (HSL.out _ hB0).mono ?_; rintro e w1 ⟨rfl, hb1⟩; rw [H0.out]; have hB1 : Below w.heap.size w w1 := hB0.trans (hb1.mono hB0.size); have hKn := Bk.below (by exact (by repeat (first | with_reducible assumption | with_reducible exact Bk.new _ _ _ | with_reducible refine Bk.drew ?_ | with_reducible refine Bk.drewN ?_ _ | with_reducible refine Bk.alloc ?_ _ | (with_reducible refine Bk.far ?_ ?_ _; rotate_left; (try simp) <;> omega)))) hb1 hlk; clear hKc hlk; have hKc := hKn; clear hKn; have hlk := hKc.lt; have hPn := Bk.below (by exact (by repeat (first | with_reducible assumption | with_reducible exact Bk.new _ _ _ | with_reducible refine Bk.drew ?_ | with_reducible refine Bk.drewN ?_ _ | with_reducible refine Bk.alloc ?_ _ | (with_reducible refine Bk.far ?_ ?_ _; rotate_left; (try simp) <;> omega)))) hb1 hlp; clear hPc hlp x8; have hPc := hPn; clear hPn; have hlp := hPc.lt; have x8 := hPc.cell 0 rfl; clear hb1) | (go_at_call 15; refine (HWO.out _).mono ?_; rintro e w9 ⟨rfl, hb9⟩; have hB9 : Below w.heap.size w w9 := hB1.trans (hb9.mono hB1.size)))
      go_ret
      exact ⟨rfl, hB9⟩
    by_cases a4 : (100000 : Int) < f
    · have H0 := Lib.hid h0; clear h0 hY hT hP hgp hcp hDd hDv
      go_enter Try.func6, Try.ntmps6
      go_wp2_with (first | (have h9 := hKc; clear h9; refine wpList_load_guard (P := Try.prog) (by rfl) 29 (.tmp 6) rfl w.heap.size 0 rfl C.toList _ (HLOAD.out _ (by exact (by repeat (first | with_reducible assumption | with_reducible exact Bk.new _ _ _ | with_reducible refine Bk.drew ?_ | with_reducible refine Bk.drewN ?_ _ | with_reducible refine Bk.alloc ?_ _ | (with_reducible refine Bk.far ?_ ?_ _; rotate_left; (try simp) <;> omega))))) Try.underlying29 rfl (by rw [HC28.out]; exact info29) ?_) | (go_at_call 23; refine (HSL.out _ hB0).mono ?_; rintro e w1 ⟨rfl, hb1⟩; rw [H0.out]; have hB1 : Below w.heap.size w w1 := hB0.trans (hb1.mono hB0.size); have hKn := Bk.below (by exact (by repeat (first | with_reducible assumption | with_reducible exact Bk.new _ _ _ | with_reducible refine Bk.drew ?_ | with_reducible refine Bk.drewN ?_ _ | with_reducible refine Bk.alloc ?_ _ | (with_reducible refine Bk.far ?_ ?_ _; rotate_left; (try simp) <;> omega)))) hb1 hlk; clear hKc hlk; have hKc := hKn; clear hKn; have hlk := hKc.lt; have hPn := Bk.below (by exact (by repeat (first | with_reducible assumption | with_reducible exact Bk.new _ _ _ | with_reducible refine Bk.drew ?_ | with_reducible refine Bk.drewN ?_ _ | with_reducible refine Bk.alloc ?_ _ | (with_reducible refine Bk.far ?_ ?_ _; rotate_left; (try simp) <;> omega)))) hb1 hlp; clear hPc hlp x8; have hPc := hPn; clear hPn; have hlp := hPc.lt; have x8 := hPc.cell 0 rfl; clear hb1) | (go_at_call 15; refine (HWO.out _).mono ?_; rintro e w9 ⟨rfl, hb9⟩; have hB9 : Below w.heap.size w w9 := hB1.trans (hb9.mono hB1.size)))
      go_ret
      exact ⟨rfl, hB9⟩
    obtain ⟨hs, ht⟩ := small_l h0
    have hn : ts.length ≤ 20 := by omega
    have hnD : D.length ≤ 20 := by omega
    have H0 := Lib.hid h0
    clear h0
    have HRA : Hid (∀ W, Below w.heap.size w W → Calls Try.prog 26 #[.agg C, .slice A l.length c, .agg #[.slice T ts.length ct], .int .i64 done, .int .i64 f] W (PlanE (replP Y l f ts done) (replE Y l f ts done) W)) := fun W hb =>
      replan_any C Y l A c ts T ct done f W ((hY.below hb (Nat.le_refl _)).more hb.size) hs ((hT.below hb (Nat.le_refl _)).more hb.size) ht ((hP.below hb (Nat.le_refl _)).more hb.size) hn hcp (fun t h => ⟨(hgp t h).1, (hgp t h).2.1⟩)
    have hgd : ∀ t ∈ ts, i64v t.day := fun t h => (hgp t h).1
    rcases chg_split (Y := Y) (l := l) (f := f) (old := ts) (done := done) with ⟨e1, e2, e3⟩ | ⟨dn, hk, hcase⟩
    · have hNe : (replE Y l f ts done != 0) = true := by simpa using e1
      have hNs : (replE Y l f ts done != 70) = true := by simpa using e2
      rw [e3] at HRA
      obtain ⟨R, hR⟩ : ∃ R : List Tu, R = [] := ⟨_, rfl⟩
      have hR0 : (R.length : Int) = 0 := by rw [hR]; rfl
      rw [← hR] at HRA
      clear hY hT hP hgp hcp e1 e2 e3 hs ht hDd hDv hgd hR
      generalize replE Y l f ts done = N at *
      go_enter Try.func6, Try.ntmps6
      go_wp2_with (first | (have h9 := hKc; clear h9; refine wpList_load_guard (P := Try.prog) (by rfl) 29 (.tmp 6) rfl w.heap.size 0 rfl C.toList _ (HLOAD.out _ (by exact (by repeat (first | with_reducible assumption | with_reducible exact Bk.new _ _ _ | with_reducible refine Bk.drew ?_ | with_reducible refine Bk.drewN ?_ _ | with_reducible refine Bk.alloc ?_ _ | (with_reducible refine Bk.far ?_ ?_ _; rotate_left; (try simp) <;> omega))))) Try.underlying29 rfl (by rw [HC28.out]; exact info29) ?_) | (go_at_call 23; refine (HSL.out _ hB0).mono ?_; rintro e w1 ⟨rfl, hb1⟩; rw [H0.out]; have hB1 : Below w.heap.size w w1 := hB0.trans (hb1.mono hB0.size); have hKn := Bk.below (by exact (by repeat (first | with_reducible assumption | with_reducible exact Bk.new _ _ _ | with_reducible refine Bk.drew ?_ | with_reducible refine Bk.drewN ?_ _ | with_reducible refine Bk.alloc ?_ _ | (with_reducible refine Bk.far ?_ ?_ _; rotate_left; (try simp) <;> omega)))) hb1 hlk; clear hKc hlk; have hKc := hKn; clear hKn; have hlk := hKc.lt; have hPn := Bk.below (by exact (by repeat (first | with_reducible assumption | with_reducible exact Bk.new _ _ _ | with_reducible refine Bk.drew ?_ | with_reducible refine Bk.drewN ?_ _ | with_reducible refine Bk.alloc ?_ _ | (with_reducible refine Bk.far ?_ ?_ _; rotate_left; (try simp) <;> omega)))) hb1 hlp; clear hPc hlp x8; have hPc := hPn; clear hPn; have hlp := hPc.lt; have x8 := hPc.cell 0 rfl; clear hb1) | (go_at_call 26; refine (HRA.out _ hB1).mono ?_; rintro e w2 ⟨v2, rfl, ho2, hb2⟩; obtain ⟨A2, c2, rfl, hc2, _⟩ := ownsSlice ho2; have hB2 : Below w.heap.size w w2 := hB1.trans (hb2.mono hB1.size); have hl2 := ownsRow_lies ho2; have hKn := Bk.below (by exact (by repeat (first | with_reducible assumption | with_reducible exact Bk.new _ _ _ | with_reducible refine Bk.drew ?_ | with_reducible refine Bk.drewN ?_ _ | with_reducible refine Bk.alloc ?_ _ | (with_reducible refine Bk.far ?_ ?_ _; rotate_left; (try simp) <;> omega)))) hb2 hlk; clear hKc hlk; have hKc := hKn; clear hKn; have hlk := hKc.lt; have hPn := Bk.below (by exact (by repeat (first | with_reducible assumption | with_reducible exact Bk.new _ _ _ | with_reducible refine Bk.drew ?_ | with_reducible refine Bk.drewN ?_ _ | with_reducible refine Bk.alloc ?_ _ | (with_reducible refine Bk.far ?_ ?_ _; rotate_left; (try simp) <;> omega)))) hb2 hlp; clear hPc hlp x8; have hPc := hPn; clear hPn; have hlp := hPc.lt; have x8 := hPc.cell 0 rfl; have hz2 := hB2.size; clear ho2 hb2 HRA) | (go_at_call 15; refine (HWO.out _).mono ?_; rintro e w9 ⟨rfl, hb9⟩; have hB9 : Below w.heap.size w w9 := (hB2.alloc hz2 _).trans (hb9.mono (by simp; omega)); have y9 := ((Bk.new w2 42 #[.slice A2 R.length c2]).below hb9 (by simp)).cell 0 rfl))
      go_ret
      exact ⟨by simp [hR0], hB9⟩
    · obtain rfl := hk.hd
      have HMG : ∀ (X : List Int) (XA : Option Addr) (cX : Nat), X.length ≤ 1000 → (∀ x ∈ X, i64v x) → ∀ W, Below w.heap.size w W → Lies W W.heap.size XA (ints X) → Calls Try.prog 27 #[.agg C, .slice A l.length c, .agg #[.slice T ts.length ct], .slice XA X.length cX, .int .i64 (dn : Int), .int .i64 f] W (ShEnd (mayB Y l f ts dn X) W) := fun X XA cX hx hv W hb hl =>
        may_any C Y l A c ts T ct X XA cX dn f W ((hY.below hb (Nat.le_refl _)).more hb.size) hs ((hT.below hb (Nat.le_refl _)).more hb.size) ht ((hP.below hb (Nat.le_refl _)).more hb.size) hl hx hn hk.com hk.hl hk.ho hk.st hk.hf hv hgd
      have HMA : Hid (∀ W, Below w.heap.size w W → Calls Try.prog 27 #[.agg C, .slice A l.length c, .agg #[.slice T ts.length ct], .slice O D.length cO, .int .i64 (dn : Int), .int .i64 f] W (ShEnd (mayB Y l f ts dn D) W)) := fun W hb =>
        HMG D O cO (by omega) hDv W hb ((hDd.below hb (Nat.le_refl _)).more hb.size)
      rcases hcase with ⟨e1, e2⟩ | ⟨P, e1, hmap, hRl, hPl, hmP, hRi, hbest⟩
      · rw [e1] at HRA
        rw [e2 D] at HMA
        clear hY hT hP hgp hcp e1 e2 hs ht hDd hDv hgd HMG hk
        generalize replP Y l f ts (dn : Int) = R at *
        go_enter Try.func6, Try.ntmps6
        go_wp2_with (first | (have h9 := hKc; clear h9; refine wpList_load_guard (P := Try.prog) (by rfl) 29 (.tmp 6) rfl w.heap.size 0 rfl C.toList _ (HLOAD.out _ (by exact (by repeat (first | with_reducible assumption | with_reducible exact Bk.new _ _ _ | with_reducible refine Bk.drew ?_ | with_reducible refine Bk.drewN ?_ _ | with_reducible refine Bk.alloc ?_ _ | (with_reducible refine Bk.far ?_ ?_ _; rotate_left; (try simp) <;> omega))))) Try.underlying29 rfl (by rw [HC28.out]; exact info29) ?_) | (go_at_call 23; refine (HSL.out _ hB0).mono ?_; rintro e w1 ⟨rfl, hb1⟩; rw [H0.out]; have hB1 : Below w.heap.size w w1 := hB0.trans (hb1.mono hB0.size); have hKn := Bk.below (by exact (by repeat (first | with_reducible assumption | with_reducible exact Bk.new _ _ _ | with_reducible refine Bk.drew ?_ | with_reducible refine Bk.drewN ?_ _ | with_reducible refine Bk.alloc ?_ _ | (with_reducible refine Bk.far ?_ ?_ _; rotate_left; (try simp) <;> omega)))) hb1 hlk; clear hKc hlk; have hKc := hKn; clear hKn; have hlk := hKc.lt; have hPn := Bk.below (by exact (by repeat (first | with_reducible assumption | with_reducible exact Bk.new _ _ _ | with_reducible refine Bk.drew ?_ | with_reducible refine Bk.drewN ?_ _ | with_reducible refine Bk.alloc ?_ _ | (with_reducible refine Bk.far ?_ ?_ _; rotate_left; (try simp) <;> omega)))) hb1 hlp; clear hPc hlp x8; have hPc := hPn; clear hPn; have hlp := hPc.lt; have x8 := hPc.cell 0 rfl; clear hb1) | (go_at_call 26; refine (HRA.out _ hB1).mono ?_; rintro e w2 ⟨v2, rfl, ho2, hb2⟩; obtain ⟨A2, c2, rfl, hc2, _⟩ := ownsSlice ho2; have hB2 : Below w.heap.size w w2 := hB1.trans (hb2.mono hB1.size); have hl2 := ownsRow_lies ho2; have hKn := Bk.below (by exact (by repeat (first | with_reducible assumption | with_reducible exact Bk.new _ _ _ | with_reducible refine Bk.drew ?_ | with_reducible refine Bk.drewN ?_ _ | with_reducible refine Bk.alloc ?_ _ | (with_reducible refine Bk.far ?_ ?_ _; rotate_left; (try simp) <;> omega)))) hb2 hlk; clear hKc hlk; have hKc := hKn; clear hKn; have hlk := hKc.lt; have hPn := Bk.below (by exact (by repeat (first | with_reducible assumption | with_reducible exact Bk.new _ _ _ | with_reducible refine Bk.drew ?_ | with_reducible refine Bk.drewN ?_ _ | with_reducible refine Bk.alloc ?_ _ | (with_reducible refine Bk.far ?_ ?_ _; rotate_left; (try simp) <;> omega)))) hb2 hlp; clear hPc hlp x8; have hPc := hPn; clear hPn; have hlp := hPc.lt; have x8 := hPc.cell 0 rfl; have hz2 := hB2.size; clear ho2 hb2 HRA) | (go_at_call 27; refine (HMA.out (w2.alloc (.cells #[.slice A2 R.length c2] 42)) (hB2.alloc hz2 _)).mono ?_; rintro e w3 ⟨rfl, hb3⟩; have hB3 : Below w.heap.size w w3 := (hB2.alloc hz2 _).trans (hb3.mono (by simp; omega)); have p3 : Bk w3 w2.heap.size 42 #[.slice A2 R.length c2] := (Bk.new w2 42 _).below hb3 (by simp); have q3 : Lies w3 w3.heap.size A2 (turnsC R) := (((hl2.below ((Below.refl _ _).alloc (Nat.le_refl _) _) (Nat.le_refl _)).more (by simp)).below hb3 (Nat.le_refl _)).more hb3.size; have hKn : Bk w3 w.heap.size 29 C := (hKc.alloc (.cells #[.slice A2 R.length c2] 42)).below hb3 (by simp; omega); have hPn : Bk w3 (w.heap.size + 1) 42 #[.slice T ts.length ct] := (hPc.alloc (.cells #[.slice A2 R.length c2] 42)).below hb3 (by simp; omega); clear hKc hlk hPc hlp x8; have hKc := hKn; have hPc := hPn; clear hKn hPn; have hlk := hKc.lt; have hlp := hPc.lt; have x8 := hPc.cell 0 rfl; have hz3 := hB3.size; have y3 := p3.cell 0 rfl; have hz23 := p3.lt; clear hb3 hl2 HMA) | (go_at_call 15; refine (HWO.out _).mono ?_; rintro e w9 ⟨rfl, hb9⟩; have hB9 : Below w.heap.size w w9 := hB3.trans (hb9.mono hB3.size)))
        go_ret
        exact ⟨by simp, hB9⟩
      · have hl12 : l.length ≤ 12 := (com_ok hk.com).2.n
        have HMB : Hid (∀ W (B2 : Option Addr) (c2 : Nat), Below w.heap.size w W → Lies W W.heap.size B2 (ints P) → Calls Try.prog 27 #[.agg C, .slice A l.length c, .agg #[.slice T ts.length ct], .slice B2 P.length c2, .int .i64 (dn : Int), .int .i64 f] W (ShEnd true W)) := fun W B2 c2 hb hl => by
          have h := HMG P B2 c2 (by omega) (may_i64 hk hmP hgd) W hb hl
          rw [hmP] at h
          exact h
        have hdR : dn ≤ (replP Y l f ts (dn : Int)).length := by rw [hRl]; exact hk.hl
        have hdo : dn ≤ ts.length := hk.ho
        have hdP : dn ≤ P.length := by rw [hPl]; exact hk.hl
        have hR12 : (replP Y l f ts (dn : Int)).length ≤ 12 := by omega
        have HRI := Lib.hid hRi
        have HDA : Hid (∀ W (B2 : Option Addr) (c2 : Nat), Lies W W.heap.size B2 (turnsC (replP Y l f ts (dn : Int))) → Calls Try.prog 28 #[.agg #[.slice B2 (replP Y l f ts (dn : Int)).length c2]] W (IntsEnd P W)) := fun W B2 c2 hl => by
          have h := dates_any _ B2 c2 W hl (by omega)
          rw [hmap] at h
          exact h
        have HCA : Hid (D.length = l.length → ∀ W, Below w.heap.size w W → Calls Try.prog 29 #[.slice O D.length cO, .agg #[.slice T ts.length ct], .int .i64 (dn : Int)] W (IntEnd (cntC ts dn D) W)) := fun hd W hb =>
          count_any D O cO ts T ct dn W ((hDd.below hb (Nat.le_refl _)).more hb.size) ((hP.below hb (Nat.le_refl _)).more hb.size) (by omega) (by omega) (by rw [hd]; exact hk.hl)
        have HCB : Hid (∀ W (B2 : Option Addr) (c2 : Nat), Below w.heap.size w W → Lies W W.heap.size B2 (ints P) → Calls Try.prog 29 #[.slice B2 P.length c2, .agg #[.slice T ts.length ct], .int .i64 (dn : Int)] W (IntEnd (cntC ts dn P) W)) := fun W B2 c2 hb hl =>
          count_any P B2 c2 ts T ct dn W hl ((hP.below hb (Nat.le_refl _)).more hb.size) (by omega) (by omega) hdP
        have HBE : Hid (mayB Y l f ts dn D = true → D.length = l.length ∧ (endL P < endL D ∨ (endL P = endL D ∧ cntC ts dn P ≤ cntC ts dn D))) := fun h => ⟨(may_parts h).1, hbest D h⟩
        have HPW := Lib.hid (fun W (hb : Below w.heap.size w W) => hP.below hb (Nat.le_refl _))
        have HDW := Lib.hid (fun W (hb : Below w.heap.size w W) => hDd.below hb (Nat.le_refl _))
        rw [e1] at HRA
        have hPl1 : P.length ≤ l.length := by omega
        have hPl2 : l.length ≤ P.length := by omega
        clear hY hT hP hgp hcp e1 hs ht hDd hDv hgd HMG hk hmap hRl hPl hmP hRi hbest
        generalize replP Y l f ts (dn : Int) = R at *
        generalize hcan : mayB Y l f ts dn D = can at *
        clear hcan
        generalize cntC ts dn D = cD at *
        generalize cntC ts dn P = cP at *
        go_enter Try.func6, Try.ntmps6
        go_wp2_with (first | (have h9 := hKc; clear h9; refine wpList_load_guard (P := Try.prog) (by rfl) 29 (.tmp 6) rfl w.heap.size 0 rfl C.toList _ (HLOAD.out _ (by exact (by repeat (first | with_reducible assumption | with_reducible exact Bk.new _ _ _ | with_reducible refine Bk.drew ?_ | with_reducible refine Bk.drewN ?_ _ | with_reducible refine Bk.alloc ?_ _ | (with_reducible refine Bk.far ?_ ?_ _; rotate_left; (try simp) <;> omega))))) Try.underlying29 rfl (by rw [HC28.out]; exact info29) ?_) | (go_at_call 23; refine (HSL.out _ hB0).mono ?_; rintro e w1 ⟨rfl, hb1⟩; rw [H0.out]; have hB1 : Below w.heap.size w w1 := hB0.trans (hb1.mono hB0.size); have hKn := Bk.below (by exact (by repeat (first | with_reducible assumption | with_reducible exact Bk.new _ _ _ | with_reducible refine Bk.drew ?_ | with_reducible refine Bk.drewN ?_ _ | with_reducible refine Bk.alloc ?_ _ | (with_reducible refine Bk.far ?_ ?_ _; rotate_left; (try simp) <;> omega)))) hb1 hlk; clear hKc hlk; have hKc := hKn; clear hKn; have hlk := hKc.lt; have hPn := Bk.below (by exact (by repeat (first | with_reducible assumption | with_reducible exact Bk.new _ _ _ | with_reducible refine Bk.drew ?_ | with_reducible refine Bk.drewN ?_ _ | with_reducible refine Bk.alloc ?_ _ | (with_reducible refine Bk.far ?_ ?_ _; rotate_left; (try simp) <;> omega)))) hb1 hlp; clear hPc hlp x8; have hPc := hPn; clear hPn; have hlp := hPc.lt; have x8 := hPc.cell 0 rfl; clear hb1) | (go_at_call 26; refine (HRA.out _ hB1).mono ?_; rintro e w2 ⟨v2, rfl, ho2, hb2⟩; obtain ⟨A2, c2, rfl, hc2, _⟩ := ownsSlice ho2; have hB2 : Below w.heap.size w w2 := hB1.trans (hb2.mono hB1.size); have hl2 := ownsRow_lies ho2; have hKn := Bk.below (by exact (by repeat (first | with_reducible assumption | with_reducible exact Bk.new _ _ _ | with_reducible refine Bk.drew ?_ | with_reducible refine Bk.drewN ?_ _ | with_reducible refine Bk.alloc ?_ _ | (with_reducible refine Bk.far ?_ ?_ _; rotate_left; (try simp) <;> omega)))) hb2 hlk; clear hKc hlk; have hKc := hKn; clear hKn; have hlk := hKc.lt; have hPn := Bk.below (by exact (by repeat (first | with_reducible assumption | with_reducible exact Bk.new _ _ _ | with_reducible refine Bk.drew ?_ | with_reducible refine Bk.drewN ?_ _ | with_reducible refine Bk.alloc ?_ _ | (with_reducible refine Bk.far ?_ ?_ _; rotate_left; (try simp) <;> omega)))) hb2 hlp; clear hPc hlp x8; have hPc := hPn; clear hPn; have hlp := hPc.lt; have x8 := hPc.cell 0 rfl; have hz2 := hB2.size; clear ho2 hb2 HRA) | (go_at_call 27; refine (HMA.out (w2.alloc (.cells #[.slice A2 R.length c2] 42)) (hB2.alloc hz2 _)).mono ?_; rintro e w3 ⟨rfl, hb3⟩; have hB3 : Below w.heap.size w w3 := (hB2.alloc hz2 _).trans (hb3.mono (by simp; omega)); have p3 : Bk w3 w2.heap.size 42 #[.slice A2 R.length c2] := (Bk.new w2 42 _).below hb3 (by simp); have q3 : Lies w3 w3.heap.size A2 (turnsC R) := (((hl2.below ((Below.refl _ _).alloc (Nat.le_refl _) _) (Nat.le_refl _)).more (by simp)).below hb3 (Nat.le_refl _)).more hb3.size; have hKn : Bk w3 w.heap.size 29 C := (hKc.alloc (.cells #[.slice A2 R.length c2] 42)).below hb3 (by simp; omega); have hPn : Bk w3 (w.heap.size + 1) 42 #[.slice T ts.length ct] := (hPc.alloc (.cells #[.slice A2 R.length c2] 42)).below hb3 (by simp; omega); clear hKc hlk hPc hlp x8; have hKc := hKn; have hPc := hPn; clear hKn hPn; have hlk := hKc.lt; have hlp := hPc.lt; have x8 := hPc.cell 0 rfl; have hz3 := hB3.size; have y3 := p3.cell 0 rfl; have hz23 := p3.lt; clear hb3 hl2 HMA) | (go_at_call 28; refine (HDA.out w3 A2 c2 q3).mono ?_; rintro e w4 ⟨v4, rfl, ho4, hb4⟩; obtain ⟨A4, c4, rfl, _, _⟩ := ownsSlice ho4; have hB4 : Below w.heap.size w w4 := hB3.trans (hb4.mono hB3.size); have hl4 := ownsRow_lies ho4; have p4 := p3.below hb4 hz23; have q4 : Lies w4 w4.heap.size A2 (turnsC R) := (q3.below hb4 (Nat.le_refl _)).more hb4.size; have hKn := Bk.below (by exact (by repeat (first | with_reducible assumption | with_reducible exact Bk.new _ _ _ | with_reducible refine Bk.drew ?_ | with_reducible refine Bk.drewN ?_ _ | with_reducible refine Bk.alloc ?_ _ | (with_reducible refine Bk.far ?_ ?_ _; rotate_left; (try simp) <;> omega)))) hb4 hlk; clear hKc hlk; have hKc := hKn; clear hKn; have hlk := hKc.lt; have hPn := Bk.below (by exact (by repeat (first | with_reducible assumption | with_reducible exact Bk.new _ _ _ | with_reducible refine Bk.drew ?_ | with_reducible refine Bk.drewN ?_ _ | with_reducible refine Bk.alloc ?_ _ | (with_reducible refine Bk.far ?_ ?_ _; rotate_left; (try simp) <;> omega)))) hb4 hlp; clear hPc hlp x8; have hPc := hPn; clear hPn; have hlp := hPc.lt; have x8 := hPc.cell 0 rfl; have hz24 := p4.lt; have y4 := p4.cell 0 rfl; clear ho4 hb4 p3 q3 y3 HDA) | (go_at_call 27; refine (HMB.out w4 A4 c4 hB4 hl4).mono ?_; rintro e w5 ⟨rfl, hb5⟩; have hB5 : Below w.heap.size w w5 := hB4.trans (hb5.mono hB4.size); have p5 := p4.below hb5 hz24; have q5 : Lies w5 w5.heap.size A2 (turnsC R) := (q4.below hb5 (Nat.le_refl _)).more hb5.size; have d5 : Lies w5 w5.heap.size A4 (ints P) := (hl4.below hb5 (Nat.le_refl _)).more hb5.size; have hKn := Bk.below (by exact (by repeat (first | with_reducible assumption | with_reducible exact Bk.new _ _ _ | with_reducible refine Bk.drew ?_ | with_reducible refine Bk.drewN ?_ _ | with_reducible refine Bk.alloc ?_ _ | (with_reducible refine Bk.far ?_ ?_ _; rotate_left; (try simp) <;> omega)))) hb5 hlk; clear hKc hlk; have hKc := hKn; clear hKn; have hlk := hKc.lt; have hPn := Bk.below (by exact (by repeat (first | with_reducible assumption | with_reducible exact Bk.new _ _ _ | with_reducible refine Bk.drew ?_ | with_reducible refine Bk.drewN ?_ _ | with_reducible refine Bk.alloc ?_ _ | (with_reducible refine Bk.far ?_ ?_ _; rotate_left; (try simp) <;> omega)))) hb5 hlp; clear hPc hlp x8; have hPc := hPn; clear hPn; have hlp := hPc.lt; have x8 := hPc.cell 0 rfl; have hz5 := p5.lt; clear hb5 p4 q4 hl4 y4 HMB))
        have HBW : Hid (∀ W, Below w5.heap.size w5 W → Below w.heap.size w W) := fun W hb => hB5.trans (hb.mono hB5.size)
        have HK8 : Hid (∀ W, Below w5.heap.size w5 W → W.cell? ⟨w.heap.size + 1, 0, none⟩ = some (.slice T ts.length ct)) := fun W hb => (hPc.below hb hlp).cell 0 rfl
        have HK9 : Hid (∀ W, Below w5.heap.size w5 W → W.cell? ⟨w2.heap.size, 0, none⟩ = some (.slice A2 R.length c2)) := fun W hb => (p5.below hb hz5).cell 0 rfl
        have HRW : Hid (∀ W, Below w5.heap.size w5 W → Lies W w5.heap.size A2 (turnsC R)) := fun W hb => q5.below hb (Nat.le_refl _)
        have HEW : Hid (∀ W, Below w5.heap.size w5 W → Lies W w5.heap.size A4 (ints P)) := fun W hb => d5.below hb (Nat.le_refl _)
        clear x8 hKc hlk hPc hlp p5 q5 d5
        go_loopw [17] (fun y wr => ∃ i : Nat, i ≤ dn ∧ y = .int .i64 (i : Int) ∧ Below w5.heap.size w5 wr) (fun y _ => dn - (intOf y).toNat)
        case atStart => exact ⟨0, Nat.zero_le _, rfl, Below.refl _ _⟩
        case round =>
        obtain ⟨i, hi, rfl, hbw⟩ := hrel
        have hbs := hbw.size
        by_cases hlt : i < dn
        · have hiI : (i : Int) < (dn : Int) := by omega
          have hi0 : 0 ≤ (i : Int) := by omega
          have hiR : i < R.length := by omega
          have hio : i < ts.length := by omega
          have hiRI : (i : Int) < (R.length : Int) := by omega
          have hioI : (i : Int) < (ts.length : Int) := by omega
          have hee : R[i] = ts[i] := by
            have h := HRI.out i hlt
            rw [List.getElem?_eq_getElem hiR, List.getElem?_eq_getElem hio] at h
            exact Option.some.inj h
          have x9 := HK9.out wr hbw
          have x8 := HK8.out wr hbw
          obtain ⟨a1, rfl, ha1, t0, t1, t2⟩ := turn_at (HRW.out wr hbw) hiR
          obtain ⟨a2, rfl, ha2, s0, s1, s2⟩ := turn_at (HPW.out wr (HBW.out wr hbw)) hio
          rw [hee] at t0 t1 t2
          clear hee
          generalize ts[i] = t at *
          obtain ⟨dd, pp, mm⟩ := t
          dsimp only at *
          go_upto_region 15 with fail
          refine wp_region_held_drew (S := (fun w' => (w'.cell? ⟨w2.heap.size, 0, none⟩ = some (.slice (some a1) R.length c2) ∧ w'.cell? ⟨w.heap.size + 1, 0, none⟩ = some (.slice (some a2) ts.length ct)) ∧ (w'.cell? (a1.add (i * 3)) = some (.int .i64 dd) ∧ w'.cell? ⟨(a1.add (i * 3)).block, (a1.add (i * 3)).off + 1, none⟩ = some (.int .i64 pp) ∧ w'.cell? ⟨(a1.add (i * 3)).block, (a1.add (i * 3)).off + 2, none⟩ = some (.int .i64 mm)) ∧ (w'.cell? (a2.add (i * 3)) = some (.int .i64 dd) ∧ w'.cell? ⟨(a2.add (i * 3)).block, (a2.add (i * 3)).off + 1, none⟩ = some (.int .i64 pp) ∧ w'.cell? ⟨(a2.add (i * 3)).block, (a2.add (i * 3)).off + 2, none⟩ = some (.int .i64 mm)))) (by kernel_rfl) ?_ (fun hHeld => ?_)
          · exact ⟨⟨x9, x8⟩, ⟨t0, t1, t2⟩, s0, s1, s2⟩
          refine tk 0 94 ?_
          refine tk 1 95 ?_
          refine tk 2 96 ?_
          refine tk 3 97 ?_
          refine tk 4 98 ?_
          refine tk 5 99 ?_
          refine tk 6 100 ?_
          refine tk 7 101 ?_
          refine tk 8 102 ?_
          refine tk 9 103 ?_
          refine tk 10 104 ?_
          refine wpAnyH_done (by kernel_rfl) ?_ _
          clear hHeld
          go_wp2
          go_roundw
          case rel => exact ⟨i + 1, by omega, by go_num, by exact (by repeat (first | with_reducible exact Below.refl _ _ | with_reducible assumption | with_reducible refine Below.drew ?_ | with_reducible refine below_drewN ?_ _ | (with_reducible refine Below.alloc ?_ ?_ _; rotate_left; (try simp) <;> omega) | (with_reducible refine Below.setCell ?_ ?_ _; rotate_left; (try simp) <;> omega)))⟩
          case measure => simp [intOf] <;> omega
        · obtain rfl : i = dn := by omega
          have hirr : ¬ (i : Int) < (i : Int) := by omega
          cases can with
          | false =>
            clear HBE
            go_wp2_with (first | (go_at_call 15; refine (HWO.out _).mono ?_; rintro e w9 ⟨rfl, hb9⟩; have hB9 : Below w.heap.size w w9 := Below.trans (by exact (HBW.out _ hbw)) (hb9.mono (HBW.out _ hbw).size)))
            go_ret
            exact ⟨by simp, hB9⟩
          | true =>
            by_cases hl0 : l.length = 0
            · have hl0b : ((l.length : Int) == 0) = true := by rw [hl0]; rfl
              clear HBE
              go_wp2_with (first | (go_at_call 15; refine (HWO.out _).mono ?_; rintro e w9 ⟨rfl, hb9⟩; have hB9 : Below w.heap.size w w9 := Below.trans (by exact (HBW.out _ hbw)) (hb9.mono (HBW.out _ hbw).size)))
              go_ret
              exact ⟨by simp, hB9⟩
            · have hl0b : ((l.length : Int) == 0) = false := by rw [beq_eq_false_iff_ne]; omega
              obtain ⟨hDl, hbe⟩ := HBE.out rfl
              have HCD := Lib.hid (HCA.out hDl)
              have hDl1 : D.length ≤ l.length := by omega
              have hDl2 : l.length ≤ D.length := by omega
              clear hDl
              have hpp : P.length - 1 < P.length := by omega
              have hdd : D.length - 1 < D.length := by omega
              obtain ⟨a4, rfl, _, t0⟩ := int_at (HEW.out wr hbw) hpp
              obtain ⟨a5, rfl, _, s0⟩ := int_at (HDW.out wr (HBW.out wr hbw)) hdd
              have hePP : endL P = P[P.length - 1] := by unfold endL; rw [List.getD_eq_getElem?_getD, List.getElem?_eq_getElem hpp]; rfl
              have heDD : endL D = D[D.length - 1] := by unfold endL; rw [List.getD_eq_getElem?_getD, List.getElem?_eq_getElem hdd]; rfl
              rw [hePP, heDD] at hbe
              clear hePP heDD HCA HBE
              have hP0 : 1 ≤ (P.length : Int) := by omega
              have hD0 : 1 ≤ (D.length : Int) := by omega
              have hP1 : 0 ≤ (P.length : Int) - 1 := by omega
              have hD1 : 0 ≤ (D.length : Int) - 1 := by omega
              have hP2 : (P.length : Int) - 1 < (P.length : Int) := by omega
              have hD2 : (D.length : Int) - 1 < (D.length : Int) := by omega
              have hP3 : ((P.length : Int) - 1).toNat = P.length - 1 := by omega
              have hD3 : ((D.length : Int) - 1).toNat = D.length - 1 := by omega
              generalize P[P.length - 1] = eP at *
              generalize D[D.length - 1] = eD at *
              have HC1 := Lib.hid (fun W (hb : Below w5.heap.size w5 W) => HCD.out W (HBW.out W hb))
              have HC2 := Lib.hid (fun W (hb : Below w5.heap.size w5 W) => HCB.out W (some a4) c4 (HBW.out W hb) ((HEW.out W hb).more hb.size))
              have hX5 := hbw
              by_cases hlate : eP < eD
              · have hlb : decide (eP < eD) = true := decide_eq_true hlate
                clear hbe
                go_upto_region 21 with fail
                refine wp_region_held_drew (S := (fun w' => w'.cell? ⟨w.heap.size + 1, 0, none⟩ = some (.slice T ts.length ct))) (by kernel_rfl) ?_ (fun hHeld => ?_)
                · exact HK8.out _ (by exact (by repeat (first | with_reducible exact Below.refl _ _ | with_reducible assumption | with_reducible refine Below.drew ?_ | with_reducible refine below_drewN ?_ _ | (with_reducible refine Below.alloc ?_ ?_ _; rotate_left; (try simp) <;> omega) | (with_reducible refine Below.setCell ?_ ?_ _; rotate_left; (try simp) <;> omega))))
                (refine held_call 0 (some 125) 15 _ rfl (by kernel_rfl) (by rfl) ?_ (HWO.out _) ?_; rotate_left; rotate_left; (simp only [List.getElem?_toArray, List.getElem?_cons_zero, List.getElem?_cons_succ, Option.map_some]; refine congrArg some ?_; go_simp))
                rintro e w6 ⟨rfl, hb6'⟩
                have hX6 : Below w5.heap.size w5 w6 := Below.trans (by exact (by repeat (first | with_reducible exact Below.refl _ _ | with_reducible assumption | with_reducible refine Below.drew ?_ | with_reducible refine below_drewN ?_ _ | (with_reducible refine Below.alloc ?_ ?_ _; rotate_left; (try simp) <;> omega) | (with_reducible refine Below.setCell ?_ ?_ _; rotate_left; (try simp) <;> omega)))) (hb6'.mono (by first | exact hX5.size | (simp; exact hX5.size)))
                refine ⟨_, rfl, HK8.out w6 hX6, fun hHeld => ?_⟩
                (try simp only [Act.put, List.setIfInBounds_toArray, List.set_cons_zero, List.set_cons_succ])
                refine tk 1 126 ?_
                refine tk 2 127 ?_
                refine tk 3 128 ?_
                refine tk 4 129 ?_
                refine tk 5 130 ?_
                refine sk 6 131 ?_
                refine sk 7 132 ?_
                refine sk 8 133 ?_
                refine sk 9 134 ?_
                refine sk 10 135 ?_
                refine sk 11 136 ?_
                refine sk 12 137 ?_
                refine sk 13 138 ?_
                refine sk 14 139 ?_
                refine sk 15 140 ?_
                refine sk 16 141 ?_
                refine sk 17 142 ?_
                refine sk 18 143 ?_
                refine sk 19 144 ?_
                refine tk 20 145 ?_
                refine tk 21 146 ?_
                refine tk 22 12 ?_
                refine wpAnyH_done (by kernel_rfl) ?_ _
                clear hHeld
                go_wp2
                go_ret
                exact ⟨by first | rfl | simp | simp [*], HBW.out _ hX6⟩
              · obtain ⟨hq, hcc⟩ := hbe.resolve_left hlate
                subst hq
                have hge : decide (cP ≤ cD) = true := decide_eq_true hcc
                go_upto_region 21 with fail
                refine wp_region_held_drew (S := (fun w' => w'.cell? ⟨w.heap.size + 1, 0, none⟩ = some (.slice T ts.length ct))) (by kernel_rfl) ?_ (fun hHeld => ?_)
                · exact HK8.out _ (by exact (by repeat (first | with_reducible exact Below.refl _ _ | with_reducible assumption | with_reducible refine Below.drew ?_ | with_reducible refine below_drewN ?_ _ | (with_reducible refine Below.alloc ?_ ?_ _; rotate_left; (try simp) <;> omega) | (with_reducible refine Below.setCell ?_ ?_ _; rotate_left; (try simp) <;> omega))))
                (refine held_call 0 (some 125) 15 _ rfl (by kernel_rfl) (by rfl) ?_ (HWO.out _) ?_; rotate_left; rotate_left; (simp only [List.getElem?_toArray, List.getElem?_cons_zero, List.getElem?_cons_succ, Option.map_some]; refine congrArg some ?_; go_simp))
                rintro e w6 ⟨rfl, hb6'⟩
                have hX6 : Below w5.heap.size w5 w6 := Below.trans (by exact (by repeat (first | with_reducible exact Below.refl _ _ | with_reducible assumption | with_reducible refine Below.drew ?_ | with_reducible refine below_drewN ?_ _ | (with_reducible refine Below.alloc ?_ ?_ _; rotate_left; (try simp) <;> omega) | (with_reducible refine Below.setCell ?_ ?_ _; rotate_left; (try simp) <;> omega)))) (hb6'.mono (by first | exact hX5.size | (simp; exact hX5.size)))
                refine ⟨_, rfl, HK8.out w6 hX6, fun hHeld => ?_⟩
                (try simp only [Act.put, List.setIfInBounds_toArray, List.set_cons_zero, List.set_cons_succ])
                refine tk 1 126 ?_
                refine tk 2 127 ?_
                refine tk 3 128 ?_
                refine tk 4 129 ?_
                refine tk 5 130 ?_
                refine tk 6 131 ?_
                refine tk 7 132 ?_
                refine tk 8 133 ?_
                refine tk 9 134 ?_
                refine tk 10 135 ?_
                refine tk 11 136 ?_
                refine tk 12 137 ?_
                refine tk 14 139 ?_
                refine tk 15 140 ?_
                refine tk 16 141 ?_
                (refine held_call 13 (some 138) 29 _ rfl (by kernel_rfl) (by rfl) ?_ (HC1.out _ (by exact (by repeat (first | with_reducible exact Below.refl _ _ | with_reducible assumption | with_reducible refine Below.drew ?_ | with_reducible refine below_drewN ?_ _ | (with_reducible refine Below.alloc ?_ ?_ _; rotate_left; (try simp) <;> omega) | (with_reducible refine Below.setCell ?_ ?_ _; rotate_left; (try simp) <;> omega))))) ?_; rotate_left; rotate_left; (simp only [List.getElem?_toArray, List.getElem?_cons_zero, List.getElem?_cons_succ, Option.map_some]; refine congrArg some ?_; go_simp))
                rintro e w7 ⟨rfl, hb7'⟩
                have hX7 : Below w5.heap.size w5 w7 := Below.trans (by exact (by repeat (first | with_reducible exact Below.refl _ _ | with_reducible assumption | with_reducible refine Below.drew ?_ | with_reducible refine below_drewN ?_ _ | (with_reducible refine Below.alloc ?_ ?_ _; rotate_left; (try simp) <;> omega) | (with_reducible refine Below.setCell ?_ ?_ _; rotate_left; (try simp) <;> omega)))) (hb7'.mono (by first | exact hX6.size | (simp; exact hX6.size)))
                refine ⟨_, rfl, HK8.out w7 hX7, fun hHeld => ?_⟩
                (try simp only [Act.put, List.setIfInBounds_toArray, List.set_cons_zero, List.set_cons_succ])
                (refine held_call 17 (some 142) 29 _ rfl (by kernel_rfl) (by rfl) ?_ (HC2.out _ (by exact (by repeat (first | with_reducible exact Below.refl _ _ | with_reducible assumption | with_reducible refine Below.drew ?_ | with_reducible refine below_drewN ?_ _ | (with_reducible refine Below.alloc ?_ ?_ _; rotate_left; (try simp) <;> omega) | (with_reducible refine Below.setCell ?_ ?_ _; rotate_left; (try simp) <;> omega))))) ?_; rotate_left; rotate_left; (simp only [List.getElem?_toArray, List.getElem?_cons_zero, List.getElem?_cons_succ, Option.map_some]; refine congrArg some ?_; go_simp))
                rintro e w8 ⟨rfl, hb8'⟩
                have hX8 : Below w5.heap.size w5 w8 := Below.trans (by exact (by repeat (first | with_reducible exact Below.refl _ _ | with_reducible assumption | with_reducible refine Below.drew ?_ | with_reducible refine below_drewN ?_ _ | (with_reducible refine Below.alloc ?_ ?_ _; rotate_left; (try simp) <;> omega) | (with_reducible refine Below.setCell ?_ ?_ _; rotate_left; (try simp) <;> omega)))) (hb8'.mono (by first | exact hX7.size | (simp; exact hX7.size)))
                refine ⟨_, rfl, HK8.out w8 hX8, fun hHeld => ?_⟩
                (try simp only [Act.put, List.setIfInBounds_toArray, List.set_cons_zero, List.set_cons_succ])
                refine tk 18 143 ?_
                refine tk 19 144 ?_
                refine tk 20 145 ?_
                refine tk 21 146 ?_
                refine tk 22 12 ?_
                refine wpAnyH_done (by kernel_rfl) ?_ _
                clear hHeld
                go_wp2
                go_ret
                exact ⟨by first | rfl | simp | simp [*], HBW.out _ hX8⟩
end Go.Proofs.Ytjgnikmnadmheaa

namespace Go.Proofs.Ytjgnikmnadmheaa
open Go.ChangeShapes Go.WideShapes Go.ChangeAt Go.RowKit Go.Deep

section
variable {H : Type} {enc : TypeId × Value → H} {W : World} {sp : Nat → Bool} {hd : Bool}
theorem cap_slice {t e : TypeId} {n : Nat} {c : Value} {x : DataW H × List MemPlace} (ht : Try.prog.underlying t = some (.slice e)) (h : DataW.trod enc Try.prog W 0 sp hd n t [c] = some x) (A : Option Addr) (k m : Nat) (hc : c = .slice A k m) : k ≤ m := by
  rcases open_slice ht h with ⟨hc', _⟩ | ⟨a, len, cap, m', n', D, Pl, hc', hb, hl, _⟩
  · rw [hc] at hc'; cases hc'; exact Nat.le_refl _
  · rw [hc] at hc'; cases hc'; exact hl
set_option maxRecDepth 100000 in
theorem caps_yard {C : Array Value} {r : Reach} {b0 : Nat} {d : DataW H} {p : List MemPlace} (hv : Value.okWide Try.prog W r b0 29 (.agg C)) (h : DataW.Trod enc Try.prog W 0 sp hd 29 (.agg C) d p) :
    ∀ k, k = 25 ∨ k = 26 → ∀ (A : Option Addr) (n m : Nat), C[k]? = some (.slice A n m) → n ≤ m := by
  obtain ⟨cs, e, hsz⟩ := okWide_struct Try.underlying29 hv
  cases e
  obtain ⟨fuel, hf⟩ := h
  rw [cells29] at hsz
  obtain ⟨hlen, hg⟩ := struct_cells Try.underlying29 cells29 hf
  simp only [Value.cells] at hlen hg
  obtain ⟨_, _, f2⟩ := hg 2 _ rfl
  obtain ⟨_, _, f3⟩ := hg 3 _ rfl
  simp only [List.getElem_toArray, List.getElem_cons_zero, List.getElem_cons_succ] at f2 f3
  rw [cells26] at f2
  rw [cells27] at f3
  have one : ∀ k, k < 28 → ∃ c, (C.toList.drop k).take 1 = [c] ∧ C[k]? = some c := fun k hk => by
    have hk' : k < C.toList.length := by omega
    refine ⟨C.toList[k], ?_, ?_⟩
    · rw [List.drop_eq_getElem_cons hk']; rfl
    · rw [← Array.getElem?_toList, List.getElem?_eq_getElem hk']
  obtain ⟨c2, e2, g2⟩ := one 25 (by omega)
  obtain ⟨c3, e3, g3⟩ := one 26 (by omega)
  rw [e2] at f2
  rw [e3] at f3
  intro k hk A n m hc
  rcases hk with rfl | rfl
  · rw [g2] at hc
    exact cap_slice Try.underlying26 f2 A n m (Option.some.inj hc)
  · rw [g3] at hc
    exact cap_slice Try.underlying27 f3 A n m (Option.some.inj hc)
set_option maxRecDepth 100000 in
theorem caps_plan {A : Option Addr} {n m : Nat} {r : Reach} {b0 : Nat} {d : DataW H} {p : List MemPlace} (hv : Value.okWide Try.prog W r b0 42 (.agg #[.slice A n m])) (h : DataW.Trod enc Try.prog W 0 sp hd 42 (.agg #[.slice A n m]) d p) : n ≤ m := by
  obtain ⟨fuel, hf⟩ := h
  obtain ⟨_, hg⟩ := struct_cells Try.underlying42 cells42 hf
  obtain ⟨_, _, f0⟩ := hg 0 _ rfl
  simp only [List.getElem_toArray, List.getElem_cons_zero, List.getElem_cons_succ] at f0
  simp only [Value.cells] at f0
  rw [cells40] at f0
  dsimp only [List.drop, List.take] at f0
  exact cap_slice Try.underlying40 f0 A n m rfl
end
end Go.Proofs.Ytjgnikmnadmheaa
