/- The law CrewSlack, walked. Printed by wip/gen_x5.py. -/
import Derived.Test.YtjgnikmnadmheaaG02
import Derived.Test.YtjgnikmnadmheaaG39
import Derived.Test.YtjgnikmnadmheaaG40

namespace Go.Proofs.Ytjgnikmnadmheaa
open Go.RowKit

set_option maxRecDepth 100000 in
set_option maxHeartbeats 4000000 in
theorem lawSlack_any (C : Array Value) (Y : Yd) (l : List Tk) (A : Option Addr) (c : Nat) (f task : Int) (ts : List Tu) (T : Option Addr) (ct : Nat) (w : World) (hY : YardAt w w.heap.size C Y) (hT : TasksAt w w.heap.size A l)
    (hP : Lies w w.heap.size T (turnsC ts)) (hgp : ∀ p ∈ ts, i64v p.day ∧ i64v p.pit ∧ i64v p.mas) :
    Calls Try.prog 12 #[.agg C, .slice A l.length c, .int .i64 f, .int .i64 task, .agg #[.slice T ts.length ct]] w fun e w' => e = .returned (.bool true) ∧ Below w.heap.size w w' := by
  have HWO := Lib.hid works_any
  have HSL := Lib.hid (fun W (hb : Below w.heap.size w W) => slow_any C Y l A c W ((hY.below hb (Nat.le_refl _)).more hb.size) ((hT.below hb (Nat.le_refl _)).more hb.size))
  have HLOAD : Hid (∀ W : World, Bk W w.heap.size 29 C → W.rangeAt w.heap.size 0 C.toList) := fun W hb => hb.range
  have HC28 := Lib.hid hY.len
  have hKc : Bk ((w.alloc (.cells C 29)).alloc (.cells #[.slice T ts.length ct] 42)) w.heap.size 29 C := (Bk.new _ _ _).alloc _
  have hPc : Bk ((w.alloc (.cells C 29)).alloc (.cells #[.slice T ts.length ct] 42)) (w.heap.size + 1) 42 #[.slice T ts.length ct] := by simpa using Bk.new (w.alloc (.cells C 29)) 42 #[.slice T ts.length ct]
  have hB0 : Below w.heap.size w ((w.alloc (.cells C 29)).alloc (.cells #[.slice T ts.length ct] 42)) := by exact (by repeat (first | with_reducible exact Below.refl _ _ | with_reducible assumption | with_reducible refine Below.drew ?_ | with_reducible refine below_drewN ?_ _ | (with_reducible refine Below.alloc ?_ ?_ _; rotate_left; (try simp) <;> omega) | (with_reducible refine Below.setCell ?_ ?_ _; rotate_left; (try simp) <;> omega)))
  have hlk := hKc.lt
  have hlp := hPc.lt
  have x8 := hPc.cell 0 rfl
  cases h0 : slowB Y l with
  | true =>
    have H0 := Lib.hid h0; clear h0 hY hT hP hgp
    go_enter Try.func12, Try.ntmps12
    go_wp2_with (first | (have h9 := hKc; clear h9; refine wpList_load_guard (P := Try.prog) (by rfl) 29 (.tmp 5) rfl w.heap.size 0 rfl C.toList _ (HLOAD.out _ (by exact (by repeat (first | with_reducible assumption | with_reducible exact Bk.new _ _ _ | with_reducible refine Bk.drew ?_ | with_reducible refine Bk.drewN ?_ _ | with_reducible refine Bk.alloc ?_ _ | (with_reducible refine Bk.far ?_ ?_ _; rotate_left; (try simp) <;> omega))))) Try.underlying29 rfl (by rw [HC28.out]; exact info29) ?_) | (go_at_call 23; refine (HSL.out _ hB0).mono ?_; rintro e w1 ⟨rfl, hb1⟩; rw [H0.out]; have hB1 : Below w.heap.size w w1 := hB0.trans (hb1.mono hB0.size); have hKn := Bk.below (by exact (by repeat (first | with_reducible assumption | with_reducible exact Bk.new _ _ _ | with_reducible refine Bk.drew ?_ | with_reducible refine Bk.drewN ?_ _ | with_reducible refine Bk.alloc ?_ _ | (with_reducible refine Bk.far ?_ ?_ _; rotate_left; (try simp) <;> omega)))) hb1 hlk; clear hKc hlk; have hKc := hKn; clear hKn; have hlk := hKc.lt; have hPn := Bk.below (by exact (by repeat (first | with_reducible assumption | with_reducible exact Bk.new _ _ _ | with_reducible refine Bk.drew ?_ | with_reducible refine Bk.drewN ?_ _ | with_reducible refine Bk.alloc ?_ _ | (with_reducible refine Bk.far ?_ ?_ _; rotate_left; (try simp) <;> omega)))) hb1 hlp; clear hPc hlp x8; have hPc := hPn; clear hPn; have hlp := hPc.lt; have x8 := hPc.cell 0 rfl; clear hb1) | (go_at_call 15; refine (HWO.out _).mono ?_; rintro e w2 ⟨rfl, hb2⟩; have hB2 : Below w.heap.size w w2 := hB1.trans (hb2.mono hB1.size)))
    go_ret
    exact ⟨rfl, hB2⟩
  | false =>
    by_cases a1 : (20 : Int) < (ts.length : Int)
    · have H0 := Lib.hid h0; clear h0 hY hT hP hgp
      go_enter Try.func12, Try.ntmps12
      go_wp2_with (first | (have h9 := hKc; clear h9; refine wpList_load_guard (P := Try.prog) (by rfl) 29 (.tmp 5) rfl w.heap.size 0 rfl C.toList _ (HLOAD.out _ (by exact (by repeat (first | with_reducible assumption | with_reducible exact Bk.new _ _ _ | with_reducible refine Bk.drew ?_ | with_reducible refine Bk.drewN ?_ _ | with_reducible refine Bk.alloc ?_ _ | (with_reducible refine Bk.far ?_ ?_ _; rotate_left; (try simp) <;> omega))))) Try.underlying29 rfl (by rw [HC28.out]; exact info29) ?_) | (go_at_call 23; refine (HSL.out _ hB0).mono ?_; rintro e w1 ⟨rfl, hb1⟩; rw [H0.out]; have hB1 : Below w.heap.size w w1 := hB0.trans (hb1.mono hB0.size); have hKn := Bk.below (by exact (by repeat (first | with_reducible assumption | with_reducible exact Bk.new _ _ _ | with_reducible refine Bk.drew ?_ | with_reducible refine Bk.drewN ?_ _ | with_reducible refine Bk.alloc ?_ _ | (with_reducible refine Bk.far ?_ ?_ _; rotate_left; (try simp) <;> omega)))) hb1 hlk; clear hKc hlk; have hKc := hKn; clear hKn; have hlk := hKc.lt; have hPn := Bk.below (by exact (by repeat (first | with_reducible assumption | with_reducible exact Bk.new _ _ _ | with_reducible refine Bk.drew ?_ | with_reducible refine Bk.drewN ?_ _ | with_reducible refine Bk.alloc ?_ _ | (with_reducible refine Bk.far ?_ ?_ _; rotate_left; (try simp) <;> omega)))) hb1 hlp; clear hPc hlp x8; have hPc := hPn; clear hPn; have hlp := hPc.lt; have x8 := hPc.cell 0 rfl; clear hb1) | (go_at_call 15; refine (HWO.out _).mono ?_; rintro e w2 ⟨rfl, hb2⟩; have hB2 : Below w.heap.size w w2 := hB1.trans (hb2.mono hB1.size)))
      go_ret
      exact ⟨rfl, hB2⟩
    · obtain ⟨hs, ht⟩ := small_l h0
      have hn : ts.length ≤ 20 := by omega
      have H0 := Lib.hid h0
      clear h0
      have HEA := Lib.hid (fun W (hb : Below w.heap.size w W) => earliest_any C Y l A c f W ((hY.below hb (Nat.le_refl _)).more hb.size) hs ((hT.below hb (Nat.le_refl _)).more hb.size) ht)
      have HSK := Lib.hid (fun W (hb : Below w.heap.size w W) => slack_any C Y l A c f W ((hY.below hb (Nat.le_refl _)).more hb.size) hs ((hT.below hb (Nat.le_refl _)).more hb.size) ht)
      have HCP := Lib.hid (fun W (hb : Below w.heap.size w W) => checkPlan_any C Y l A c f ts T ct W ((hY.below hb (Nat.le_refl _)).more hb.size) hs ((hT.below hb (Nat.le_refl _)).more hb.size) ht ((hP.below hb (Nat.le_refl _)).more hb.size) hn (fun t h => (hgp t h).2.1))
      by_cases hbe : earE Y l f = 0
      · obtain ⟨hbg, ds, he, hsl, hp⟩ := slk_good hbe
        obtain ⟨ho, hvt, hf⟩ := begE_ok hbg
        have hl12 := hvt.n
        have hea := early_of he
        have hdl := hea.len
        rw [hbe, hp] at HEA
        rw [hbe, hsl] at HSK
        rw [hbg, show decide ((0 : Int) = 0) = true from rfl, Bool.true_and] at HCP
        have hul := usual_len Y l [] ds (Nat.zero_le _)
        have hud := usual_day Y l ds (by omega)
        have HSLn : Hid ((slkL Y l ds).length = l.length) := by show _ = _; unfold slkL; rw [List.length_zipWith, lateT_len, hdl]; omega
        have HUL : Hid ((usual Y l [] ds).length = l.length) := by show _ = _; rw [hul, hdl]
        have HUD : Hid (∀ k (h : k < (usual Y l [] ds).length), ((usual Y l [] ds)[k]'h).day = ds.getD k 0) := fun k h => by
          have : ((usual Y l [] ds).map Tu.day)[k]? = ds[k]? := by rw [hud]
          rw [List.getElem?_map, List.getElem?_eq_getElem h] at this
          rw [List.getD_eq_getElem?_getD, ← this]; rfl
        have HSV : Hid (∀ k (_ : k < l.length) (h : k < (slkL Y l ds).length), (slkL Y l ds)[k]'h = lt Y l ds k - ds.getD k 0) := fun k hk h => by
          have := slkL_at (Y := Y) hdl hk
          rw [List.getD_eq_getElem?_getD, List.getElem?_eq_getElem h] at this
          exact this
        have HSB : Hid (∀ k, k < l.length → 0 ≤ ds.getD k 0 ∧ ds.getD k 0 < 100400 ∧ ds.getD k 0 ≤ lt Y l ds k ∧ lt Y l ds k < ds.getD k 0 + 1000) := fun k hk => by
          have h1 := lt_facts hea hk
          have h2 := hea.bd k hk
          omega
        have HSLz : Hid (0 < l.length → ∀ h2 : (slkL Y l ds).length - 1 < (slkL Y l ds).length, (slkL Y l ds)[(slkL Y l ds).length - 1]'h2 = 0) := fun h _ => by
          have h0 : (slkL Y l ds).length - 1 = l.length - 1 := by rw [HSLn.out]
          rw [HSV.out _ (by omega) _, h0, (lt_facts hea (show l.length - 1 < l.length by omega)).2.2.2.2.2 (by omega)]
          omega
        have HMS : Hid (∀ k, k < l.length → mixD Y l ds task (k + 1) = mixD Y l ds task k ++ [if task ≤ (k : Int) then lt Y l ds k else ds.getD k 0]) := fun k _ => (mixD_snoc Y l ds task k).symm
        have HKP : Hid (planOK Y l f ts = true → Hid (ts.length = l.length) ∧ (endP ts = endP (usual Y l [] ds) → ∀ k (_ : k < l.length) (h : k < ts.length), (ts[k]'h).day ≤ lt Y l ds k)) := fun h => by
          have h1 := daysOK_plan h
          have hln : ts.length = l.length := by simpa using h1.len
          refine ⟨hln, fun hend k hk hk2 => ?_⟩
          have h2 := late_max he h1 (fun i hi => by
            have e1 : endP ts = (ts.map Tu.day).getD i 0 := by
              unfold endP
              rw [dif_neg (by omega), List.getD_eq_getElem?_getD, List.getElem?_map, List.getElem?_eq_getElem (by omega)]
              show _ = ts[i].day
              congr 2; omega
            rw [← e1, hend, endP_usual hdl (by omega)]
            congr 1; omega) (l.length - 1) 0 (by omega) k (Nat.zero_le _) hk
          rw [List.getD_eq_getElem?_getD, List.getElem?_map, List.getElem?_eq_getElem hk2] at h2
          exact h2
        have hmix := mix_ok hvt he task
        have hok := plan_usual hmix
        have HCQ : Hid (∀ (A2 : Option Addr) (c2 : Nat) (W : World), Below w.heap.size w W → Lies W W.heap.size A2 (turnsC (usual Y l [] (mixD Y l ds task l.length))) → Calls Try.prog 41 #[.agg C, .slice A l.length c, .int .i64 f, .agg #[.slice A2 (usual Y l [] (mixD Y l ds task l.length)).length c2]] W (TwoEnd true 0 W)) := fun A2 c2 W hb hl => by
          have hlen : (usual Y l [] (mixD Y l ds task l.length)).length = l.length := by rw [usual_len _ _ _ _ (Nat.zero_le _), mixD_len]
          have := checkPlan_any C Y l A c f (usual Y l [] (mixD Y l ds task l.length)) A2 c2 W ((hY.below hb (Nat.le_refl _)).more hb.size) hs ((hT.below hb (Nat.le_refl _)).more hb.size) ht hl (by omega) (plan_pits hs.pi hok)
          rw [hbg, hok] at this; exact this
        have HUS : Hid (∀ (A9 : Option Addr) (c9 : Nat) (W : World), Below w.heap.size w W → Lies W W.heap.size A9 (ints (mixD Y l ds task l.length)) → Calls Try.prog 46 #[.agg C, .slice A l.length c, .slice none 0 0, .slice A9 (slkL Y l ds).length c9] W (PlanEnd (usual Y l [] (mixD Y l ds task l.length)) W)) := fun A9 c9 W hb hl => by
          have := rusual_any C Y l A c [] none 0 (mixD Y l ds task l.length) A9 c9 W ((hY.below hb (Nat.le_refl _)).more hb.size) ho ((hT.below hb (Nat.le_refl _)).more hb.size) (fun h => absurd rfl h) hl (by rw [mixD_len]; exact Nat.le_refl _) hl12 (by simp)
          rw [mixD_len, ← HSLn.out] at this
          rw [← HSLn.out]
          exact this
        have HMend : Hid (0 < l.length → ∀ h, (mixD Y l ds task l.length)[(mixD Y l ds task l.length).length - 1]'h = endP (usual Y l [] ds)) := fun h0 h => by
          have h1 := mixD_at (Y := Y) (l := l) (ds := ds) (task := task) (show l.length - 1 < l.length by omega)
          rw [(lt_facts hea (show l.length - 1 < l.length by omega)).2.2.2.2.2 (by omega), ite_self] at h1
          rw [endP_usual hdl h0, ← h1, List.getD_eq_getElem?_getD, List.getElem?_eq_getElem (by rw [mixD_len]; omega)]
          show _ = (mixD Y l ds task l.length)[l.length - 1]'(by rw [mixD_len]; omega)
          congr 1; rw [mixD_len]
        have HTS0 : Hid (∀ W : World, Below w.heap.size w W → Lies W W.heap.size T (turnsC ts)) := fun W hb => ((hP.below hb (Nat.le_refl _)).more hb.size)
        have HYW0 : Hid (∀ W : World, Below w.heap.size w W → YardAt W W.heap.size C Y) := fun W hb => ((hY.below hb (Nat.le_refl _)).more hb.size)
        have HTW0 : Hid (∀ W : World, Below w.heap.size w W → TasksAt W W.heap.size A l) := fun W hb => ((hT.below hb (Nat.le_refl _)).more hb.size)
        have HEP0 : Hid (∀ W : World, Below w.heap.size w W → Calls Try.prog 40 #[.agg #[.slice T ts.length ct]] W (IntEnd (endP ts) W)) := fun W hb => end_any ts T ct W (HTS0.out W hb) (by omega)
        have HeU : Hid (endP (usual Y l [] ds) = endP (usual Y l [] ds)) := rfl
        have HO := Lib.hid ho
        have hlneq : (((slkL Y l ds).length : Int) != (l.length : Int)) = false := by rw [HSLn.out]; simp
        clear he hsl hp ho hvt hbg hs ht hY hT hP hgp hea hul hud hok hmix hdl
        generalize planOK Y l f ts = r1 at *
        generalize usual Y l [] ds = U at *
        generalize slkL Y l ds = SL at *
        obtain ⟨eU, heU⟩ : ∃ eU, endP U = eU := ⟨_, rfl⟩
        obtain ⟨eT, heT⟩ : ∃ eT, endP ts = eT := ⟨_, rfl⟩
        rw [heT] at HEP0 HKP
        rw [heU] at HKP HMend HeU
        clear HeU
        have HeU := Lib.hid heU
        clear heU heT
        by_cases h0n : 0 < l.length
        · have HSLz := Lib.hid (HSLz.out h0n (by have := HSLn.out; omega))
          have HMend := Lib.hid (HMend.out h0n (by rw [mixD_len]; omega))
          clear hbe
          obtain ⟨i0, hi0, hz0, hz1, hz2'⟩ := info_parts info3
          have I3 := Lib.hid (And.intro hi0 (And.intro hz0 (And.intro hz1 hz2'))); clear hi0 hz0 hz1 hz2'
          have hsn1 : (0 : Int) < (SL.length : Int) := by have := HSLn.out; omega
          have hsn2 : 0 ≤ (SL.length : Int) - 1 := by omega
          have hsn7 : 1 ≤ (SL.length : Int) := by omega
          have hsn3 : ((SL.length : Int) - 1).toNat = SL.length - 1 := by omega
          have hsn4 : (SL.length : Int) - 1 < (SL.length : Int) := by omega
          have hsn5 : SL.length ≤ 12 := by have := HSLn.out; omega
          have hsn6 : ((SL.length : Int) == 0) = false := by rw [beq_eq_false_iff_ne]; omega
          have WSL : IntKind.i64.wrap ((SL.length : Int) - 1) = (SL.length : Int) - 1 := IntWalk.i64_in _ (by omega)
          go_enter Try.func12, Try.ntmps12
          go_wp2_with (first | (have h9 := hKc; clear h9; refine wpList_load_guard (P := Try.prog) (by rfl) 29 (.tmp 5) rfl w.heap.size 0 rfl C.toList _ (HLOAD.out _ (by exact (by repeat (first | with_reducible assumption | with_reducible exact Bk.new _ _ _ | with_reducible refine Bk.drew ?_ | with_reducible refine Bk.drewN ?_ _ | with_reducible refine Bk.alloc ?_ _ | (with_reducible refine Bk.far ?_ ?_ _; rotate_left; (try simp) <;> omega))))) Try.underlying29 rfl (by rw [HC28.out]; exact info29) ?_) | (go_at_call 23; refine (HSL.out _ hB0).mono ?_; rintro e w1 ⟨rfl, hb1⟩; rw [H0.out]; have hB1 : Below w.heap.size w w1 := hB0.trans (hb1.mono hB0.size); have hKn := Bk.below (by exact (by repeat (first | with_reducible assumption | with_reducible exact Bk.new _ _ _ | with_reducible refine Bk.drew ?_ | with_reducible refine Bk.drewN ?_ _ | with_reducible refine Bk.alloc ?_ _ | (with_reducible refine Bk.far ?_ ?_ _; rotate_left; (try simp) <;> omega)))) hb1 hlk; clear hKc hlk; have hKc := hKn; clear hKn; have hlk := hKc.lt; have hPn := Bk.below (by exact (by repeat (first | with_reducible assumption | with_reducible exact Bk.new _ _ _ | with_reducible refine Bk.drew ?_ | with_reducible refine Bk.drewN ?_ _ | with_reducible refine Bk.alloc ?_ _ | (with_reducible refine Bk.far ?_ ?_ _; rotate_left; (try simp) <;> omega)))) hb1 hlp; clear hPc hlp x8; have hPc := hPn; clear hPn; have hlp := hPc.lt; have x8 := hPc.cell 0 rfl; clear hb1) | (go_at_call 24; refine (HEA.out _ hB1).mono ?_; rintro e w2 ⟨v2, rfl, ho2, hb2⟩; obtain ⟨A2, c2, rfl, _, _⟩ := ownsSlice ho2; have hB2 : Below w.heap.size w w2 := hB1.trans (hb2.mono hB1.size); have hl2 := ownsRow_lies ho2; have hKn := Bk.below (by exact (by repeat (first | with_reducible assumption | with_reducible exact Bk.new _ _ _ | with_reducible refine Bk.drew ?_ | with_reducible refine Bk.drewN ?_ _ | with_reducible refine Bk.alloc ?_ _ | (with_reducible refine Bk.far ?_ ?_ _; rotate_left; (try simp) <;> omega)))) hb2 hlk; clear hKc hlk; have hKc := hKn; clear hKn; have hlk := hKc.lt; have hPn := Bk.below (by exact (by repeat (first | with_reducible assumption | with_reducible exact Bk.new _ _ _ | with_reducible refine Bk.drew ?_ | with_reducible refine Bk.drewN ?_ _ | with_reducible refine Bk.alloc ?_ _ | (with_reducible refine Bk.far ?_ ?_ _; rotate_left; (try simp) <;> omega)))) hb2 hlp; clear hPc hlp x8; have hPc := hPn; clear hPn; have hlp := hPc.lt; have x8 := hPc.cell 0 rfl; have hz2 := hB2.size; clear ho2 hb2) | (go_at_call 33; refine (HSK.out _ (by exact (by repeat (first | with_reducible exact Below.refl _ _ | with_reducible assumption | with_reducible refine Below.drew ?_ | with_reducible refine below_drewN ?_ _ | (with_reducible refine Below.alloc ?_ ?_ _; rotate_left; (try simp) <;> omega) | (with_reducible refine Below.setCell ?_ ?_ _; rotate_left; (try simp) <;> omega))) : Below w.heap.size w (w2.alloc (.cells #[.slice A2 U.length c2] 42)))).mono ?_; rintro e w3 ⟨v3, rfl, ho3, hb3⟩; obtain ⟨A3, c3, rfl, _, _⟩ := ownsSlice ho3; have hB3 : Below w.heap.size w w3 := Below.trans (by exact (by repeat (first | with_reducible exact Below.refl _ _ | with_reducible assumption | with_reducible refine Below.drew ?_ | with_reducible refine below_drewN ?_ _ | (with_reducible refine Below.alloc ?_ ?_ _; rotate_left; (try simp) <;> omega) | (with_reducible refine Below.setCell ?_ ?_ _; rotate_left; (try simp) <;> omega))) : Below w.heap.size w (w2.alloc (.cells #[.slice A2 U.length c2] 42))) (hb3.mono (by simp; omega)); have hl3 := ownsRow_lies ho3; have p3 : Bk w3 w2.heap.size 42 #[.slice A2 U.length c2] := (Bk.new w2 42 #[.slice A2 U.length c2]).below hb3 (by simp); have q3 : Lies w3 w3.heap.size A2 (turnsC U) := (((hl2.below (by exact (by repeat (first | with_reducible exact Below.refl _ _ | with_reducible assumption | with_reducible refine Below.drew ?_ | with_reducible refine below_drewN ?_ _ | (with_reducible refine Below.alloc ?_ ?_ _; rotate_left; (try simp) <;> omega) | (with_reducible refine Below.setCell ?_ ?_ _; rotate_left; (try simp) <;> omega))) : Below w2.heap.size w2 (w2.alloc (.cells #[.slice A2 U.length c2] 42))) (Nat.le_refl _)).more (by simp)).below hb3 (Nat.le_refl _)).more hb3.size; have hKn : Bk w3 w.heap.size 29 C := (hKc.alloc (.cells #[.slice A2 U.length c2] 42)).below hb3 (by simp; omega); have hPn : Bk w3 (w.heap.size + 1) 42 #[.slice T ts.length ct] := (hPc.alloc (.cells #[.slice A2 U.length c2] 42)).below hb3 (by simp; omega); clear hKc hlk hPc hlp x8; have hKc := hKn; have hPc := hPn; clear hKn hPn; have hlk := hKc.lt; have hlp := hPc.lt; have x8 := hPc.cell 0 rfl; clear ho3 hb3 hl2) | (go_at_call 41; refine (HCP.out _ hB3).mono ?_; rintro e w4 ⟨rfl, hb4⟩; have hB4 : Below w.heap.size w w4 := hB3.trans (hb4.mono hB3.size); have hKn := Bk.below (by exact (by repeat (first | with_reducible assumption | with_reducible exact Bk.new _ _ _ | with_reducible refine Bk.drew ?_ | with_reducible refine Bk.drewN ?_ _ | with_reducible refine Bk.alloc ?_ _ | (with_reducible refine Bk.far ?_ ?_ _; rotate_left; (try simp) <;> omega)))) hb4 hlk; clear hKc hlk; have hKc := hKn; clear hKn; have hlk := hKc.lt; have hPn := Bk.below (by exact (by repeat (first | with_reducible assumption | with_reducible exact Bk.new _ _ _ | with_reducible refine Bk.drew ?_ | with_reducible refine Bk.drewN ?_ _ | with_reducible refine Bk.alloc ?_ _ | (with_reducible refine Bk.far ?_ ?_ _; rotate_left; (try simp) <;> omega)))) hb4 hlp; clear hPc hlp x8; have hPc := hPn; clear hPn; have hlp := hPc.lt; have x8 := hPc.cell 0 rfl; have p4 := p3.below hb4 p3.lt; have q4 := (q3.below hb4 (Nat.le_refl _)).more hb4.size; have hl4 := (hl3.below hb4 (Nat.le_refl _)).more hb4.size; obtain ⟨a3, e3', _, c3'⟩ := int_at hl4 (show SL.length - 1 < SL.length by omega); rw [HSLz.out] at c3'; subst e3'; clear hb4 p3 q3 hl3))
          have HX : Hid (∀ W : World, Below w4.heap.size w4 W → W.cell? ⟨w2.heap.size, 0, none⟩ = some (.slice A2 U.length c2) ∧ W.cell? ⟨w.heap.size + 1, 0, none⟩ = some (.slice T ts.length ct)) := fun W hb => ⟨(p4.below hb p4.lt).cell 0 rfl, (hPc.below hb hlp).cell 0 rfl⟩
          have HKK : Hid (∀ W : World, Below w4.heap.size w4 W → Bk W w.heap.size 29 C) := fun W hb => hKc.below hb hlk
          have HQ := Lib.hid (fun W (hb : Below w4.heap.size w4 W) => (q4.below hb (Nat.le_refl _)).more hb.size)
          have HM := Lib.hid (fun W (hb : Below w4.heap.size w4 W) => (hl4.below hb (Nat.le_refl _)).more hb.size)
          have HB4W : Hid (∀ W : World, Below w4.heap.size w4 W → Below w.heap.size w W) := fun W hb => hB4.trans (hb.mono hB4.size)
          have HTS := Lib.hid (fun W (hb : Below w4.heap.size w4 W) => HTS0.out W (HB4W.out W hb))
          have HYW := Lib.hid (fun W (hb : Below w4.heap.size w4 W) => HYW0.out W (HB4W.out W hb))
          have HTW := Lib.hid (fun W (hb : Below w4.heap.size w4 W) => HTW0.out W (HB4W.out W hb))
          have HEP := Lib.hid (fun W (hb : Below w4.heap.size w4 W) => HEP0.out W (HB4W.out W hb))
          have HEU : Hid (∀ W : World, Below w4.heap.size w4 W → Calls Try.prog 40 #[.agg #[.slice A2 U.length c2]] W (IntEnd eU W)) := fun W hb => by
            rw [← HeU.out]; exact end_any U A2 c2 W (HQ.out W hb) (by have := HUL.out; omega)
          have hu29 := Try.underlying29
          have h28 : C.toList.length = 28 := HC28.out
          have hi29 : (Try.prog.info? 29).map (·.size) = some C.toList.length := by rw [h28]; exact info29
          clear h28 hKc hPc hlk hlp x8 p4 q4 hl4 HTS0 HYW0 HTW0 HEP0
          go_loopw [17, 18] (fun v y wr => ∃ k : Nat, k ≤ SL.length ∧ y = .int .i64 (k : Int) ∧ wr.ownsRow w4.heap.size 3 1 v k (ints (mixD Y l ds task k)) ∧ Below w4.heap.size w4 wr) (fun _ y _ => SL.length - (intOf y).toNat)
          case atStart => exact ⟨0, Nat.zero_le _, rfl, World.ownsRow_nil _ _ _ _, Below.refl _ _⟩
          case round =>
          obtain ⟨k, hk, rfl, hown, hbx⟩ := hrel
          have hbxs := hbx.size
          by_cases hlt' : k < SL.length
          · have hlt : k < l.length := by have := HSLn.out; omega
            have hkU : k < U.length := by have := HUL.out; omega
            obtain ⟨a1, rfl, _, z1, z2, z3⟩ := turn_at (HQ.out wr hbx) hkU
            obtain ⟨b0, ea3, _, s3⟩ := int_at (HM.out wr hbx) hlt'
            cases ea3
            have hdd := HUD.out k hkU
            rw [hdd] at z1
            have HS3 : Hid (∀ W : World, Below w4.heap.size w4 W → W.cell? (a3.add k) = some (.int .i64 SL[k])) := fun W hb => by
              obtain ⟨b, e, _, h⟩ := int_at (HM.out W hb) hlt'
              cases e; exact h
            have HQ1 : Hid (∀ W : World, Below w4.heap.size w4 W → W.cell? (a1.add (k * 3)) = some (.int .i64 (ds.getD k 0))) := fun W hb => by
              obtain ⟨b, e, _, h, _, _⟩ := turn_at (HQ.out W hb) hkU
              cases e; rw [hdd] at h; exact h
            have hsl := HSV.out k hlt hlt'
            obtain ⟨hsv1, hsv2, hsv3, hsv4⟩ := HSB.out k hlt
            have x11 := (HX.out wr hbx).1
            have hsd : lt Y l ds k = ds.getD k 0 + SL[k] := by omega
            have hdq : ds.getD k 0 = ds.getD k 0 := rfl
            obtain ⟨dq, hdq⟩ : ∃ dq, ds.getD k 0 = dq := ⟨_, rfl⟩
            obtain ⟨sv, hsq⟩ : ∃ sv, SL[k] = sv := ⟨_, rfl⟩
            have HLK := Lib.hid hsd
            rw [hdq] at z1 HQ1 hsv1 hsv2 hsl hsd
            rw [hsq] at s3 HS3 hsl hsd
            have HDQ := Lib.hid hdq
            have HSQ := Lib.hid hsq
            have HLT : Hid (∀ k' (_ : k' < l.length), k' = k → lt Y l ds k' = dq + sv) := fun k' _ e => by subst e; exact hsd
            have HSD := Lib.hid hsd
            have hs0 : 0 ≤ sv := by omega
            have hs1 : sv < 1000 := by omega
            have hd0 : 0 ≤ dq := by omega
            have hd1 : dq < 100400 := by omega
            clear hdd hsl hsv1 hsv2 hsv3 hsv4 hdq hsq hsd
            have hkI : (k : Int) < (SL.length : Int) := by omega
            have hkUI : (k : Int) < (U.length : Int) := by omega
            have hk0 : 0 ≤ (k : Int) := by omega
            have hsneg : ¬ sv < 0 := by omega
            have WV : IntKind.i64.wrap (dq + sv) = dq + sv := IntWalk.i64_in _ (by omega)
            by_cases hct : task ≤ (k : Int)
            · have hmk := HMS.out k hlt
              rw [if_pos hct, HSD.out] at hmk
              have HMK := Lib.hid hmk
              clear hmk
              go_upto_region 18 with (at_builtin; refine wpList_append_own _ rfl (.tmp 115) (.tmp 117) 25 rfl w4.heap.size 3 i0 (.int .i64 0) 1 8 Try.underlying25 I3.out.1 I3.out.2.1 I3.out.2.2.1 I3.out.2.2.2 rfl (by decide) _ k _ rfl (hown.alloc _) ⟨wr.heap.size, 0, none⟩ 1 1 [.int .i64 (dq + sv)] rfl rfl ?_ ?_ ?_ ?_ ?_ ?_; (exact cell_one_new _ _ _); (intro u hu; simp at hu; subst hu; rfl); (unfold maxLen; omega); (omega); (have := hbx.size; simp; omega); intro v6 w6 hown6 hgrow6 _; have hX6 : Below w4.heap.size w4 w6 := below_own (by exact (by repeat (first | with_reducible exact Below.refl _ _ | with_reducible assumption | with_reducible refine Below.drew ?_ | with_reducible refine below_drewN ?_ _ | (with_reducible refine Below.alloc ?_ ?_ _; rotate_left; (try simp) <;> omega) | (with_reducible refine Below.setCell ?_ ?_ _; rotate_left; (try simp) <;> omega)))) (hown.alloc _) hgrow6 (Nat.le_refl _) (by have := hbx.size; simp; omega); clear hgrow6)
              rw [ints_snoc, ← HMK.out] at hown6
              cases r1 with
              | true =>
                obtain ⟨hkt, hkl⟩ := HKP.out rfl
                by_cases heq : eT = eU
                · have heq2 : (eT == eU) = true := by simpa using heq
                  have HEQ := Lib.hid heq
                  have hk5 : k < ts.length := by have := hkt.out; omega
                  obtain ⟨a5, rfl, _, _, _, _⟩ := turn_at (HTS.out w6 hX6) hk5
                  have H5 : Hid (∀ W : World, Below w4.heap.size w4 W → W.cell? (a5.add (k * 3)) = some (.int .i64 (ts[k]'hk5).day)) := fun W hb => by
                    obtain ⟨b, e, _, h, _, _⟩ := turn_at (HTS.out W hb) hk5
                    cases e; exact h
                  have hpd := hkl HEQ.out k hlt hk5
                  rw [HSD.out] at hpd
                  have hk5I : (k : Int) < (ts.length : Int) := by omega
                  generalize (ts[k]'hk5).day = pd at *
                  have hpn : ¬ dq + sv < pd := by omega
                  have hY6 : Below w6.heap.size w6 w6 := Below.refl _ _
                  go_upto_region 18 with fail
                  refine wp_region_held_drew (S := (fun w' => w'.cell? (a3.add k) = some (.int .i64 sv) ∧ w'.cell? ⟨w.heap.size + 1, 0, none⟩ = some (.slice (some a5) ts.length ct) ∧ w'.cell? ⟨w2.heap.size, 0, none⟩ = some (.slice (some a1) U.length c2) ∧ w'.cell? (a1.add (k * 3)) = some (.int .i64 dq) ∧ w'.cell? (a5.add (k * 3)) = some (.int .i64 pd))) (by kernel_rfl) ?_ (fun hHeld => ?_)
                  · exact ⟨HS3.out _ (by exact (by repeat (first | with_reducible exact Below.refl _ _ | with_reducible assumption | with_reducible refine Below.drew ?_ | with_reducible refine below_drewN ?_ _ | (with_reducible refine Below.alloc ?_ ?_ _; rotate_left; (try simp) <;> omega) | (with_reducible refine Below.setCell ?_ ?_ _; rotate_left; (try simp) <;> omega)))), (HX.out _ (by exact (by repeat (first | with_reducible exact Below.refl _ _ | with_reducible assumption | with_reducible refine Below.drew ?_ | with_reducible refine below_drewN ?_ _ | (with_reducible refine Below.alloc ?_ ?_ _; rotate_left; (try simp) <;> omega) | (with_reducible refine Below.setCell ?_ ?_ _; rotate_left; (try simp) <;> omega))))).2, (HX.out _ (by exact (by repeat (first | with_reducible exact Below.refl _ _ | with_reducible assumption | with_reducible refine Below.drew ?_ | with_reducible refine below_drewN ?_ _ | (with_reducible refine Below.alloc ?_ ?_ _; rotate_left; (try simp) <;> omega) | (with_reducible refine Below.setCell ?_ ?_ _; rotate_left; (try simp) <;> omega))))).1, HQ1.out _ (by exact (by repeat (first | with_reducible exact Below.refl _ _ | with_reducible assumption | with_reducible refine Below.drew ?_ | with_reducible refine below_drewN ?_ _ | (with_reducible refine Below.alloc ?_ ?_ _; rotate_left; (try simp) <;> omega) | (with_reducible refine Below.setCell ?_ ?_ _; rotate_left; (try simp) <;> omega)))), H5.out _ (by exact (by repeat (first | with_reducible exact Below.refl _ _ | with_reducible assumption | with_reducible refine Below.drew ?_ | with_reducible refine below_drewN ?_ _ | (with_reducible refine Below.alloc ?_ ?_ _; rotate_left; (try simp) <;> omega) | (with_reducible refine Below.setCell ?_ ?_ _; rotate_left; (try simp) <;> omega))))⟩
                  refine tk 0 119 ?_
                  refine tk 1 120 ?_
                  refine tk 2 121 ?_
                  refine tk 3 122 ?_
                  refine tk 4 123 ?_
                  refine tk 5 124 ?_
                  refine tk 6 125 ?_
                  refine tk 7 126 ?_
                  refine tk 8 127 ?_
                  refine tk 10 129 ?_
                  (refine held_call 9 (some 128) 40 _ rfl (by kernel_rfl) (by rfl) ?_ (HEP.out _ (by exact (by repeat (first | with_reducible exact Below.refl _ _ | with_reducible assumption | with_reducible refine Below.drew ?_ | with_reducible refine below_drewN ?_ _ | (with_reducible refine Below.alloc ?_ ?_ _; rotate_left; (try simp) <;> omega) | (with_reducible refine Below.setCell ?_ ?_ _; rotate_left; (try simp) <;> omega))))) ?_; rotate_left; rotate_left; (simp only [List.getElem?_toArray, List.getElem?_cons_zero, List.getElem?_cons_succ, Option.map_some]; refine congrArg some ?_; go_simp))
                  rintro e w7 ⟨rfl, hb7'⟩
                  have hX7 : Below w4.heap.size w4 w7 := Below.trans (by exact (by repeat (first | with_reducible exact Below.refl _ _ | with_reducible assumption | with_reducible refine Below.drew ?_ | with_reducible refine below_drewN ?_ _ | (with_reducible refine Below.alloc ?_ ?_ _; rotate_left; (try simp) <;> omega) | (with_reducible refine Below.setCell ?_ ?_ _; rotate_left; (try simp) <;> omega)))) (hb7'.mono (by first | exact hX6.size | (simp; exact hX6.size)))
                  have hY7 : Below w6.heap.size w6 w7 := Below.trans (by exact (by repeat (first | with_reducible exact Below.refl _ _ | with_reducible assumption | with_reducible refine Below.drew ?_ | with_reducible refine below_drewN ?_ _ | (with_reducible refine Below.alloc ?_ ?_ _; rotate_left; (try simp) <;> omega) | (with_reducible refine Below.setCell ?_ ?_ _; rotate_left; (try simp) <;> omega)))) (hb7'.mono (by first | exact hY6.size | (simp; exact hY6.size)))
                  refine ⟨_, rfl, ⟨HS3.out w7 (hX7), (HX.out w7 (hX7)).2, (HX.out w7 (hX7)).1, HQ1.out w7 (hX7), H5.out w7 (hX7)⟩, fun hHeld => ?_⟩
                  (try simp only [Act.put, List.setIfInBounds_toArray, List.set_cons_zero, List.set_cons_succ])
                  (refine held_call 11 (some 130) 40 _ rfl (by kernel_rfl) (by rfl) ?_ (HEU.out _ (by exact (by repeat (first | with_reducible exact Below.refl _ _ | with_reducible assumption | with_reducible refine Below.drew ?_ | with_reducible refine below_drewN ?_ _ | (with_reducible refine Below.alloc ?_ ?_ _; rotate_left; (try simp) <;> omega) | (with_reducible refine Below.setCell ?_ ?_ _; rotate_left; (try simp) <;> omega))))) ?_; rotate_left; rotate_left; (simp only [List.getElem?_toArray, List.getElem?_cons_zero, List.getElem?_cons_succ, Option.map_some]; refine congrArg some ?_; go_simp))
                  rintro e w8 ⟨rfl, hb8'⟩
                  have hX8 : Below w4.heap.size w4 w8 := Below.trans (by exact (by repeat (first | with_reducible exact Below.refl _ _ | with_reducible assumption | with_reducible refine Below.drew ?_ | with_reducible refine below_drewN ?_ _ | (with_reducible refine Below.alloc ?_ ?_ _; rotate_left; (try simp) <;> omega) | (with_reducible refine Below.setCell ?_ ?_ _; rotate_left; (try simp) <;> omega)))) (hb8'.mono (by first | exact hX7.size | (simp; exact hX7.size)))
                  have hY8 : Below w6.heap.size w6 w8 := Below.trans (by exact (by repeat (first | with_reducible exact Below.refl _ _ | with_reducible assumption | with_reducible refine Below.drew ?_ | with_reducible refine below_drewN ?_ _ | (with_reducible refine Below.alloc ?_ ?_ _; rotate_left; (try simp) <;> omega) | (with_reducible refine Below.setCell ?_ ?_ _; rotate_left; (try simp) <;> omega)))) (hb8'.mono (by first | exact hY7.size | (simp; exact hY7.size)))
                  refine ⟨_, rfl, ⟨HS3.out w8 (hX8), (HX.out w8 (hX8)).2, (HX.out w8 (hX8)).1, HQ1.out w8 (hX8), H5.out w8 (hX8)⟩, fun hHeld => ?_⟩
                  (try simp only [Act.put, List.setIfInBounds_toArray, List.set_cons_zero, List.set_cons_succ])
                  refine tk 12 131 ?_
                  refine tk 13 132 ?_
                  refine tk 14 133 ?_
                  refine tk 15 134 ?_
                  refine tk 16 135 ?_
                  refine tk 17 136 ?_
                  refine tk 18 137 ?_
                  refine tk 19 138 ?_
                  refine tk 20 139 ?_
                  refine tk 21 140 ?_
                  refine tk 22 141 ?_
                  refine tk 23 142 ?_
                  refine tk 24 143 ?_
                  refine tk 25 144 ?_
                  refine tk 26 145 ?_
                  refine tk 27 146 ?_
                  refine tk 28 147 ?_
                  refine tk 29 148 ?_
                  refine tk 30 149 ?_
                  refine tk 31 150 ?_
                  refine tk 32 151 ?_
                  refine tk 33 152 ?_
                  refine tk 34 153 ?_
                  refine wpAnyH_done (by kernel_rfl) ?_ _
                  clear hHeld
                  go_wp2
                  go_roundw
                  case rel => exact ⟨k + 1, by omega, by go_num, (ownsRow_below hown6 hY8 (Nat.le_refl _)).drew, by exact (by repeat (first | with_reducible exact Below.refl _ _ | with_reducible assumption | with_reducible refine Below.drew ?_ | with_reducible refine below_drewN ?_ _ | (with_reducible refine Below.alloc ?_ ?_ _; rotate_left; (try simp) <;> omega) | (with_reducible refine Below.setCell ?_ ?_ _; rotate_left; (try simp) <;> omega)))⟩
                  case measure => simp [intOf] <;> omega
                · have heq2 : (eT == eU) = false := by simpa using heq
                  have hY6 : Below w6.heap.size w6 w6 := Below.refl _ _
                  go_upto_region 18 with fail
                  refine wp_region_held_drew (S := (fun w' => w'.cell? (a3.add k) = some (.int .i64 sv) ∧ w'.cell? ⟨w.heap.size + 1, 0, none⟩ = some (.slice T ts.length ct) ∧ w'.cell? ⟨w2.heap.size, 0, none⟩ = some (.slice (some a1) U.length c2) ∧ w'.cell? (a1.add (k * 3)) = some (.int .i64 dq))) (by kernel_rfl) ?_ (fun hHeld => ?_)
                  · exact ⟨HS3.out _ (by exact (by repeat (first | with_reducible exact Below.refl _ _ | with_reducible assumption | with_reducible refine Below.drew ?_ | with_reducible refine below_drewN ?_ _ | (with_reducible refine Below.alloc ?_ ?_ _; rotate_left; (try simp) <;> omega) | (with_reducible refine Below.setCell ?_ ?_ _; rotate_left; (try simp) <;> omega)))), (HX.out _ (by exact (by repeat (first | with_reducible exact Below.refl _ _ | with_reducible assumption | with_reducible refine Below.drew ?_ | with_reducible refine below_drewN ?_ _ | (with_reducible refine Below.alloc ?_ ?_ _; rotate_left; (try simp) <;> omega) | (with_reducible refine Below.setCell ?_ ?_ _; rotate_left; (try simp) <;> omega))))).2, (HX.out _ (by exact (by repeat (first | with_reducible exact Below.refl _ _ | with_reducible assumption | with_reducible refine Below.drew ?_ | with_reducible refine below_drewN ?_ _ | (with_reducible refine Below.alloc ?_ ?_ _; rotate_left; (try simp) <;> omega) | (with_reducible refine Below.setCell ?_ ?_ _; rotate_left; (try simp) <;> omega))))).1, HQ1.out _ (by exact (by repeat (first | with_reducible exact Below.refl _ _ | with_reducible assumption | with_reducible refine Below.drew ?_ | with_reducible refine below_drewN ?_ _ | (with_reducible refine Below.alloc ?_ ?_ _; rotate_left; (try simp) <;> omega) | (with_reducible refine Below.setCell ?_ ?_ _; rotate_left; (try simp) <;> omega))))⟩
                  refine tk 0 119 ?_
                  refine tk 1 120 ?_
                  refine tk 2 121 ?_
                  refine tk 3 122 ?_
                  refine tk 4 123 ?_
                  refine tk 5 124 ?_
                  refine tk 6 125 ?_
                  refine tk 7 126 ?_
                  refine tk 8 127 ?_
                  refine tk 10 129 ?_
                  (refine held_call 9 (some 128) 40 _ rfl (by kernel_rfl) (by rfl) ?_ (HEP.out _ (by exact (by repeat (first | with_reducible exact Below.refl _ _ | with_reducible assumption | with_reducible refine Below.drew ?_ | with_reducible refine below_drewN ?_ _ | (with_reducible refine Below.alloc ?_ ?_ _; rotate_left; (try simp) <;> omega) | (with_reducible refine Below.setCell ?_ ?_ _; rotate_left; (try simp) <;> omega))))) ?_; rotate_left; rotate_left; (simp only [List.getElem?_toArray, List.getElem?_cons_zero, List.getElem?_cons_succ, Option.map_some]; refine congrArg some ?_; go_simp))
                  rintro e w7 ⟨rfl, hb7'⟩
                  have hX7 : Below w4.heap.size w4 w7 := Below.trans (by exact (by repeat (first | with_reducible exact Below.refl _ _ | with_reducible assumption | with_reducible refine Below.drew ?_ | with_reducible refine below_drewN ?_ _ | (with_reducible refine Below.alloc ?_ ?_ _; rotate_left; (try simp) <;> omega) | (with_reducible refine Below.setCell ?_ ?_ _; rotate_left; (try simp) <;> omega)))) (hb7'.mono (by first | exact hX6.size | (simp; exact hX6.size)))
                  have hY7 : Below w6.heap.size w6 w7 := Below.trans (by exact (by repeat (first | with_reducible exact Below.refl _ _ | with_reducible assumption | with_reducible refine Below.drew ?_ | with_reducible refine below_drewN ?_ _ | (with_reducible refine Below.alloc ?_ ?_ _; rotate_left; (try simp) <;> omega) | (with_reducible refine Below.setCell ?_ ?_ _; rotate_left; (try simp) <;> omega)))) (hb7'.mono (by first | exact hY6.size | (simp; exact hY6.size)))
                  refine ⟨_, rfl, ⟨HS3.out w7 (hX7), (HX.out w7 (hX7)).2, (HX.out w7 (hX7)).1, HQ1.out w7 (hX7)⟩, fun hHeld => ?_⟩
                  (try simp only [Act.put, List.setIfInBounds_toArray, List.set_cons_zero, List.set_cons_succ])
                  (refine held_call 11 (some 130) 40 _ rfl (by kernel_rfl) (by rfl) ?_ (HEU.out _ (by exact (by repeat (first | with_reducible exact Below.refl _ _ | with_reducible assumption | with_reducible refine Below.drew ?_ | with_reducible refine below_drewN ?_ _ | (with_reducible refine Below.alloc ?_ ?_ _; rotate_left; (try simp) <;> omega) | (with_reducible refine Below.setCell ?_ ?_ _; rotate_left; (try simp) <;> omega))))) ?_; rotate_left; rotate_left; (simp only [List.getElem?_toArray, List.getElem?_cons_zero, List.getElem?_cons_succ, Option.map_some]; refine congrArg some ?_; go_simp))
                  rintro e w8 ⟨rfl, hb8'⟩
                  have hX8 : Below w4.heap.size w4 w8 := Below.trans (by exact (by repeat (first | with_reducible exact Below.refl _ _ | with_reducible assumption | with_reducible refine Below.drew ?_ | with_reducible refine below_drewN ?_ _ | (with_reducible refine Below.alloc ?_ ?_ _; rotate_left; (try simp) <;> omega) | (with_reducible refine Below.setCell ?_ ?_ _; rotate_left; (try simp) <;> omega)))) (hb8'.mono (by first | exact hX7.size | (simp; exact hX7.size)))
                  have hY8 : Below w6.heap.size w6 w8 := Below.trans (by exact (by repeat (first | with_reducible exact Below.refl _ _ | with_reducible assumption | with_reducible refine Below.drew ?_ | with_reducible refine below_drewN ?_ _ | (with_reducible refine Below.alloc ?_ ?_ _; rotate_left; (try simp) <;> omega) | (with_reducible refine Below.setCell ?_ ?_ _; rotate_left; (try simp) <;> omega)))) (hb8'.mono (by first | exact hY7.size | (simp; exact hY7.size)))
                  refine ⟨_, rfl, ⟨HS3.out w8 (hX8), (HX.out w8 (hX8)).2, (HX.out w8 (hX8)).1, HQ1.out w8 (hX8)⟩, fun hHeld => ?_⟩
                  (try simp only [Act.put, List.setIfInBounds_toArray, List.set_cons_zero, List.set_cons_succ])
                  refine tk 12 131 ?_
                  refine tk 13 132 ?_
                  refine tk 14 133 ?_
                  refine sk 15 134 ?_
                  refine sk 16 135 ?_
                  refine sk 17 136 ?_
                  refine sk 18 137 ?_
                  refine sk 19 138 ?_
                  refine sk 20 139 ?_
                  refine sk 21 140 ?_
                  refine sk 22 141 ?_
                  refine sk 23 142 ?_
                  refine sk 24 143 ?_
                  refine sk 25 144 ?_
                  refine sk 26 145 ?_
                  refine sk 27 146 ?_
                  refine sk 28 147 ?_
                  refine sk 29 148 ?_
                  refine sk 30 149 ?_
                  refine sk 31 150 ?_
                  refine sk 32 151 ?_
                  refine tk 33 152 ?_
                  refine tk 34 153 ?_
                  refine wpAnyH_done (by kernel_rfl) ?_ _
                  clear hHeld
                  go_wp2
                  go_roundw
                  case rel => exact ⟨k + 1, by omega, by go_num, (ownsRow_below hown6 hY8 (Nat.le_refl _)).drew, by exact (by repeat (first | with_reducible exact Below.refl _ _ | with_reducible assumption | with_reducible refine Below.drew ?_ | with_reducible refine below_drewN ?_ _ | (with_reducible refine Below.alloc ?_ ?_ _; rotate_left; (try simp) <;> omega) | (with_reducible refine Below.setCell ?_ ?_ _; rotate_left; (try simp) <;> omega)))⟩
                  case measure => simp [intOf] <;> omega
              | false =>
                have hY6 : Below w6.heap.size w6 w6 := Below.refl _ _
                go_upto_region 18 with fail
                refine wp_region_held_drew (S := (fun w' => w'.cell? (a3.add k) = some (.int .i64 sv) ∧ w'.cell? ⟨w.heap.size + 1, 0, none⟩ = some (.slice T ts.length ct) ∧ w'.cell? ⟨w2.heap.size, 0, none⟩ = some (.slice (some a1) U.length c2) ∧ w'.cell? (a1.add (k * 3)) = some (.int .i64 dq))) (by kernel_rfl) ?_ (fun hHeld => ?_)
                · exact ⟨HS3.out _ (by exact (by repeat (first | with_reducible exact Below.refl _ _ | with_reducible assumption | with_reducible refine Below.drew ?_ | with_reducible refine below_drewN ?_ _ | (with_reducible refine Below.alloc ?_ ?_ _; rotate_left; (try simp) <;> omega) | (with_reducible refine Below.setCell ?_ ?_ _; rotate_left; (try simp) <;> omega)))), (HX.out _ (by exact (by repeat (first | with_reducible exact Below.refl _ _ | with_reducible assumption | with_reducible refine Below.drew ?_ | with_reducible refine below_drewN ?_ _ | (with_reducible refine Below.alloc ?_ ?_ _; rotate_left; (try simp) <;> omega) | (with_reducible refine Below.setCell ?_ ?_ _; rotate_left; (try simp) <;> omega))))).2, (HX.out _ (by exact (by repeat (first | with_reducible exact Below.refl _ _ | with_reducible assumption | with_reducible refine Below.drew ?_ | with_reducible refine below_drewN ?_ _ | (with_reducible refine Below.alloc ?_ ?_ _; rotate_left; (try simp) <;> omega) | (with_reducible refine Below.setCell ?_ ?_ _; rotate_left; (try simp) <;> omega))))).1, HQ1.out _ (by exact (by repeat (first | with_reducible exact Below.refl _ _ | with_reducible assumption | with_reducible refine Below.drew ?_ | with_reducible refine below_drewN ?_ _ | (with_reducible refine Below.alloc ?_ ?_ _; rotate_left; (try simp) <;> omega) | (with_reducible refine Below.setCell ?_ ?_ _; rotate_left; (try simp) <;> omega))))⟩
                refine tk 0 119 ?_
                refine tk 1 120 ?_
                refine tk 2 121 ?_
                refine tk 3 122 ?_
                refine tk 4 123 ?_
                refine tk 5 124 ?_
                refine tk 6 125 ?_
                refine tk 7 126 ?_
                refine sk 8 127 ?_
                refine sk 9 128 ?_
                refine sk 10 129 ?_
                refine sk 11 130 ?_
                refine sk 12 131 ?_
                refine tk 13 132 ?_
                refine tk 14 133 ?_
                refine sk 15 134 ?_
                refine sk 16 135 ?_
                refine sk 17 136 ?_
                refine sk 18 137 ?_
                refine sk 19 138 ?_
                refine sk 20 139 ?_
                refine sk 21 140 ?_
                refine sk 22 141 ?_
                refine sk 23 142 ?_
                refine sk 24 143 ?_
                refine sk 25 144 ?_
                refine sk 26 145 ?_
                refine sk 27 146 ?_
                refine sk 28 147 ?_
                refine sk 29 148 ?_
                refine sk 30 149 ?_
                refine sk 31 150 ?_
                refine sk 32 151 ?_
                refine tk 33 152 ?_
                refine tk 34 153 ?_
                refine wpAnyH_done (by kernel_rfl) ?_ _
                clear hHeld
                go_wp2
                go_roundw
                case rel => exact ⟨k + 1, by omega, by go_num, (ownsRow_below hown6 hY6 (Nat.le_refl _)).drew, by exact (by repeat (first | with_reducible exact Below.refl _ _ | with_reducible assumption | with_reducible refine Below.drew ?_ | with_reducible refine below_drewN ?_ _ | (with_reducible refine Below.alloc ?_ ?_ _; rotate_left; (try simp) <;> omega) | (with_reducible refine Below.setCell ?_ ?_ _; rotate_left; (try simp) <;> omega)))⟩
                case measure => simp [intOf] <;> omega
            · have hmk := HMS.out k hlt
              rw [if_neg hct, HDQ.out] at hmk
              have HMK := Lib.hid hmk
              clear hmk
              go_upto_region 18 with (at_builtin; refine wpList_append_own _ rfl (.tmp 115) (.tmp 117) 25 rfl w4.heap.size 3 i0 (.int .i64 0) 1 8 Try.underlying25 I3.out.1 I3.out.2.1 I3.out.2.2.1 I3.out.2.2.2 rfl (by decide) _ k _ rfl (hown.alloc _) ⟨wr.heap.size, 0, none⟩ 1 1 [.int .i64 (dq)] rfl rfl ?_ ?_ ?_ ?_ ?_ ?_; (exact cell_one_new _ _ _); (intro u hu; simp at hu; subst hu; rfl); (unfold maxLen; omega); (omega); (have := hbx.size; simp; omega); intro v6 w6 hown6 hgrow6 _; have hX6 : Below w4.heap.size w4 w6 := below_own (by exact (by repeat (first | with_reducible exact Below.refl _ _ | with_reducible assumption | with_reducible refine Below.drew ?_ | with_reducible refine below_drewN ?_ _ | (with_reducible refine Below.alloc ?_ ?_ _; rotate_left; (try simp) <;> omega) | (with_reducible refine Below.setCell ?_ ?_ _; rotate_left; (try simp) <;> omega)))) (hown.alloc _) hgrow6 (Nat.le_refl _) (by have := hbx.size; simp; omega); clear hgrow6)
              rw [ints_snoc, ← HMK.out] at hown6
              cases r1 with
              | true =>
                obtain ⟨hkt, hkl⟩ := HKP.out rfl
                by_cases heq : eT = eU
                · have heq2 : (eT == eU) = true := by simpa using heq
                  have HEQ := Lib.hid heq
                  have hk5 : k < ts.length := by have := hkt.out; omega
                  obtain ⟨a5, rfl, _, _, _, _⟩ := turn_at (HTS.out w6 hX6) hk5
                  have H5 : Hid (∀ W : World, Below w4.heap.size w4 W → W.cell? (a5.add (k * 3)) = some (.int .i64 (ts[k]'hk5).day)) := fun W hb => by
                    obtain ⟨b, e, _, h, _, _⟩ := turn_at (HTS.out W hb) hk5
                    cases e; exact h
                  have hpd := hkl HEQ.out k hlt hk5
                  rw [HSD.out] at hpd
                  have hk5I : (k : Int) < (ts.length : Int) := by omega
                  generalize (ts[k]'hk5).day = pd at *
                  have hpn : ¬ dq + sv < pd := by omega
                  have hY6 : Below w6.heap.size w6 w6 := Below.refl _ _
                  go_upto_region 18 with fail
                  refine wp_region_held_drew (S := (fun w' => w'.cell? (a3.add k) = some (.int .i64 sv) ∧ w'.cell? ⟨w.heap.size + 1, 0, none⟩ = some (.slice (some a5) ts.length ct) ∧ w'.cell? ⟨w2.heap.size, 0, none⟩ = some (.slice (some a1) U.length c2) ∧ w'.cell? (a1.add (k * 3)) = some (.int .i64 dq) ∧ w'.cell? (a5.add (k * 3)) = some (.int .i64 pd))) (by kernel_rfl) ?_ (fun hHeld => ?_)
                  · exact ⟨HS3.out _ (by exact (by repeat (first | with_reducible exact Below.refl _ _ | with_reducible assumption | with_reducible refine Below.drew ?_ | with_reducible refine below_drewN ?_ _ | (with_reducible refine Below.alloc ?_ ?_ _; rotate_left; (try simp) <;> omega) | (with_reducible refine Below.setCell ?_ ?_ _; rotate_left; (try simp) <;> omega)))), (HX.out _ (by exact (by repeat (first | with_reducible exact Below.refl _ _ | with_reducible assumption | with_reducible refine Below.drew ?_ | with_reducible refine below_drewN ?_ _ | (with_reducible refine Below.alloc ?_ ?_ _; rotate_left; (try simp) <;> omega) | (with_reducible refine Below.setCell ?_ ?_ _; rotate_left; (try simp) <;> omega))))).2, (HX.out _ (by exact (by repeat (first | with_reducible exact Below.refl _ _ | with_reducible assumption | with_reducible refine Below.drew ?_ | with_reducible refine below_drewN ?_ _ | (with_reducible refine Below.alloc ?_ ?_ _; rotate_left; (try simp) <;> omega) | (with_reducible refine Below.setCell ?_ ?_ _; rotate_left; (try simp) <;> omega))))).1, HQ1.out _ (by exact (by repeat (first | with_reducible exact Below.refl _ _ | with_reducible assumption | with_reducible refine Below.drew ?_ | with_reducible refine below_drewN ?_ _ | (with_reducible refine Below.alloc ?_ ?_ _; rotate_left; (try simp) <;> omega) | (with_reducible refine Below.setCell ?_ ?_ _; rotate_left; (try simp) <;> omega)))), H5.out _ (by exact (by repeat (first | with_reducible exact Below.refl _ _ | with_reducible assumption | with_reducible refine Below.drew ?_ | with_reducible refine below_drewN ?_ _ | (with_reducible refine Below.alloc ?_ ?_ _; rotate_left; (try simp) <;> omega) | (with_reducible refine Below.setCell ?_ ?_ _; rotate_left; (try simp) <;> omega))))⟩
                  refine tk 0 119 ?_
                  refine tk 1 120 ?_
                  refine tk 2 121 ?_
                  refine tk 3 122 ?_
                  refine tk 4 123 ?_
                  refine tk 5 124 ?_
                  refine tk 6 125 ?_
                  refine tk 7 126 ?_
                  refine tk 8 127 ?_
                  refine tk 10 129 ?_
                  (refine held_call 9 (some 128) 40 _ rfl (by kernel_rfl) (by rfl) ?_ (HEP.out _ (by exact (by repeat (first | with_reducible exact Below.refl _ _ | with_reducible assumption | with_reducible refine Below.drew ?_ | with_reducible refine below_drewN ?_ _ | (with_reducible refine Below.alloc ?_ ?_ _; rotate_left; (try simp) <;> omega) | (with_reducible refine Below.setCell ?_ ?_ _; rotate_left; (try simp) <;> omega))))) ?_; rotate_left; rotate_left; (simp only [List.getElem?_toArray, List.getElem?_cons_zero, List.getElem?_cons_succ, Option.map_some]; refine congrArg some ?_; go_simp))
                  rintro e w7 ⟨rfl, hb7'⟩
                  have hX7 : Below w4.heap.size w4 w7 := Below.trans (by exact (by repeat (first | with_reducible exact Below.refl _ _ | with_reducible assumption | with_reducible refine Below.drew ?_ | with_reducible refine below_drewN ?_ _ | (with_reducible refine Below.alloc ?_ ?_ _; rotate_left; (try simp) <;> omega) | (with_reducible refine Below.setCell ?_ ?_ _; rotate_left; (try simp) <;> omega)))) (hb7'.mono (by first | exact hX6.size | (simp; exact hX6.size)))
                  have hY7 : Below w6.heap.size w6 w7 := Below.trans (by exact (by repeat (first | with_reducible exact Below.refl _ _ | with_reducible assumption | with_reducible refine Below.drew ?_ | with_reducible refine below_drewN ?_ _ | (with_reducible refine Below.alloc ?_ ?_ _; rotate_left; (try simp) <;> omega) | (with_reducible refine Below.setCell ?_ ?_ _; rotate_left; (try simp) <;> omega)))) (hb7'.mono (by first | exact hY6.size | (simp; exact hY6.size)))
                  refine ⟨_, rfl, ⟨HS3.out w7 (hX7), (HX.out w7 (hX7)).2, (HX.out w7 (hX7)).1, HQ1.out w7 (hX7), H5.out w7 (hX7)⟩, fun hHeld => ?_⟩
                  (try simp only [Act.put, List.setIfInBounds_toArray, List.set_cons_zero, List.set_cons_succ])
                  (refine held_call 11 (some 130) 40 _ rfl (by kernel_rfl) (by rfl) ?_ (HEU.out _ (by exact (by repeat (first | with_reducible exact Below.refl _ _ | with_reducible assumption | with_reducible refine Below.drew ?_ | with_reducible refine below_drewN ?_ _ | (with_reducible refine Below.alloc ?_ ?_ _; rotate_left; (try simp) <;> omega) | (with_reducible refine Below.setCell ?_ ?_ _; rotate_left; (try simp) <;> omega))))) ?_; rotate_left; rotate_left; (simp only [List.getElem?_toArray, List.getElem?_cons_zero, List.getElem?_cons_succ, Option.map_some]; refine congrArg some ?_; go_simp))
                  rintro e w8 ⟨rfl, hb8'⟩
                  have hX8 : Below w4.heap.size w4 w8 := Below.trans (by exact (by repeat (first | with_reducible exact Below.refl _ _ | with_reducible assumption | with_reducible refine Below.drew ?_ | with_reducible refine below_drewN ?_ _ | (with_reducible refine Below.alloc ?_ ?_ _; rotate_left; (try simp) <;> omega) | (with_reducible refine Below.setCell ?_ ?_ _; rotate_left; (try simp) <;> omega)))) (hb8'.mono (by first | exact hX7.size | (simp; exact hX7.size)))
                  have hY8 : Below w6.heap.size w6 w8 := Below.trans (by exact (by repeat (first | with_reducible exact Below.refl _ _ | with_reducible assumption | with_reducible refine Below.drew ?_ | with_reducible refine below_drewN ?_ _ | (with_reducible refine Below.alloc ?_ ?_ _; rotate_left; (try simp) <;> omega) | (with_reducible refine Below.setCell ?_ ?_ _; rotate_left; (try simp) <;> omega)))) (hb8'.mono (by first | exact hY7.size | (simp; exact hY7.size)))
                  refine ⟨_, rfl, ⟨HS3.out w8 (hX8), (HX.out w8 (hX8)).2, (HX.out w8 (hX8)).1, HQ1.out w8 (hX8), H5.out w8 (hX8)⟩, fun hHeld => ?_⟩
                  (try simp only [Act.put, List.setIfInBounds_toArray, List.set_cons_zero, List.set_cons_succ])
                  refine tk 12 131 ?_
                  refine tk 13 132 ?_
                  refine tk 14 133 ?_
                  refine tk 15 134 ?_
                  refine tk 16 135 ?_
                  refine tk 17 136 ?_
                  refine tk 18 137 ?_
                  refine tk 19 138 ?_
                  refine tk 20 139 ?_
                  refine tk 21 140 ?_
                  refine tk 22 141 ?_
                  refine tk 23 142 ?_
                  refine tk 24 143 ?_
                  refine tk 25 144 ?_
                  refine tk 26 145 ?_
                  refine tk 27 146 ?_
                  refine tk 28 147 ?_
                  refine tk 29 148 ?_
                  refine tk 30 149 ?_
                  refine tk 31 150 ?_
                  refine tk 32 151 ?_
                  refine tk 33 152 ?_
                  refine tk 34 153 ?_
                  refine wpAnyH_done (by kernel_rfl) ?_ _
                  clear hHeld
                  go_wp2
                  go_roundw
                  case rel => exact ⟨k + 1, by omega, by go_num, (ownsRow_below hown6 hY8 (Nat.le_refl _)).drew, by exact (by repeat (first | with_reducible exact Below.refl _ _ | with_reducible assumption | with_reducible refine Below.drew ?_ | with_reducible refine below_drewN ?_ _ | (with_reducible refine Below.alloc ?_ ?_ _; rotate_left; (try simp) <;> omega) | (with_reducible refine Below.setCell ?_ ?_ _; rotate_left; (try simp) <;> omega)))⟩
                  case measure => simp [intOf] <;> omega
                · have heq2 : (eT == eU) = false := by simpa using heq
                  have hY6 : Below w6.heap.size w6 w6 := Below.refl _ _
                  go_upto_region 18 with fail
                  refine wp_region_held_drew (S := (fun w' => w'.cell? (a3.add k) = some (.int .i64 sv) ∧ w'.cell? ⟨w.heap.size + 1, 0, none⟩ = some (.slice T ts.length ct) ∧ w'.cell? ⟨w2.heap.size, 0, none⟩ = some (.slice (some a1) U.length c2) ∧ w'.cell? (a1.add (k * 3)) = some (.int .i64 dq))) (by kernel_rfl) ?_ (fun hHeld => ?_)
                  · exact ⟨HS3.out _ (by exact (by repeat (first | with_reducible exact Below.refl _ _ | with_reducible assumption | with_reducible refine Below.drew ?_ | with_reducible refine below_drewN ?_ _ | (with_reducible refine Below.alloc ?_ ?_ _; rotate_left; (try simp) <;> omega) | (with_reducible refine Below.setCell ?_ ?_ _; rotate_left; (try simp) <;> omega)))), (HX.out _ (by exact (by repeat (first | with_reducible exact Below.refl _ _ | with_reducible assumption | with_reducible refine Below.drew ?_ | with_reducible refine below_drewN ?_ _ | (with_reducible refine Below.alloc ?_ ?_ _; rotate_left; (try simp) <;> omega) | (with_reducible refine Below.setCell ?_ ?_ _; rotate_left; (try simp) <;> omega))))).2, (HX.out _ (by exact (by repeat (first | with_reducible exact Below.refl _ _ | with_reducible assumption | with_reducible refine Below.drew ?_ | with_reducible refine below_drewN ?_ _ | (with_reducible refine Below.alloc ?_ ?_ _; rotate_left; (try simp) <;> omega) | (with_reducible refine Below.setCell ?_ ?_ _; rotate_left; (try simp) <;> omega))))).1, HQ1.out _ (by exact (by repeat (first | with_reducible exact Below.refl _ _ | with_reducible assumption | with_reducible refine Below.drew ?_ | with_reducible refine below_drewN ?_ _ | (with_reducible refine Below.alloc ?_ ?_ _; rotate_left; (try simp) <;> omega) | (with_reducible refine Below.setCell ?_ ?_ _; rotate_left; (try simp) <;> omega))))⟩
                  refine tk 0 119 ?_
                  refine tk 1 120 ?_
                  refine tk 2 121 ?_
                  refine tk 3 122 ?_
                  refine tk 4 123 ?_
                  refine tk 5 124 ?_
                  refine tk 6 125 ?_
                  refine tk 7 126 ?_
                  refine tk 8 127 ?_
                  refine tk 10 129 ?_
                  (refine held_call 9 (some 128) 40 _ rfl (by kernel_rfl) (by rfl) ?_ (HEP.out _ (by exact (by repeat (first | with_reducible exact Below.refl _ _ | with_reducible assumption | with_reducible refine Below.drew ?_ | with_reducible refine below_drewN ?_ _ | (with_reducible refine Below.alloc ?_ ?_ _; rotate_left; (try simp) <;> omega) | (with_reducible refine Below.setCell ?_ ?_ _; rotate_left; (try simp) <;> omega))))) ?_; rotate_left; rotate_left; (simp only [List.getElem?_toArray, List.getElem?_cons_zero, List.getElem?_cons_succ, Option.map_some]; refine congrArg some ?_; go_simp))
                  rintro e w7 ⟨rfl, hb7'⟩
                  have hX7 : Below w4.heap.size w4 w7 := Below.trans (by exact (by repeat (first | with_reducible exact Below.refl _ _ | with_reducible assumption | with_reducible refine Below.drew ?_ | with_reducible refine below_drewN ?_ _ | (with_reducible refine Below.alloc ?_ ?_ _; rotate_left; (try simp) <;> omega) | (with_reducible refine Below.setCell ?_ ?_ _; rotate_left; (try simp) <;> omega)))) (hb7'.mono (by first | exact hX6.size | (simp; exact hX6.size)))
                  have hY7 : Below w6.heap.size w6 w7 := Below.trans (by exact (by repeat (first | with_reducible exact Below.refl _ _ | with_reducible assumption | with_reducible refine Below.drew ?_ | with_reducible refine below_drewN ?_ _ | (with_reducible refine Below.alloc ?_ ?_ _; rotate_left; (try simp) <;> omega) | (with_reducible refine Below.setCell ?_ ?_ _; rotate_left; (try simp) <;> omega)))) (hb7'.mono (by first | exact hY6.size | (simp; exact hY6.size)))
                  refine ⟨_, rfl, ⟨HS3.out w7 (hX7), (HX.out w7 (hX7)).2, (HX.out w7 (hX7)).1, HQ1.out w7 (hX7)⟩, fun hHeld => ?_⟩
                  (try simp only [Act.put, List.setIfInBounds_toArray, List.set_cons_zero, List.set_cons_succ])
                  (refine held_call 11 (some 130) 40 _ rfl (by kernel_rfl) (by rfl) ?_ (HEU.out _ (by exact (by repeat (first | with_reducible exact Below.refl _ _ | with_reducible assumption | with_reducible refine Below.drew ?_ | with_reducible refine below_drewN ?_ _ | (with_reducible refine Below.alloc ?_ ?_ _; rotate_left; (try simp) <;> omega) | (with_reducible refine Below.setCell ?_ ?_ _; rotate_left; (try simp) <;> omega))))) ?_; rotate_left; rotate_left; (simp only [List.getElem?_toArray, List.getElem?_cons_zero, List.getElem?_cons_succ, Option.map_some]; refine congrArg some ?_; go_simp))
                  rintro e w8 ⟨rfl, hb8'⟩
                  have hX8 : Below w4.heap.size w4 w8 := Below.trans (by exact (by repeat (first | with_reducible exact Below.refl _ _ | with_reducible assumption | with_reducible refine Below.drew ?_ | with_reducible refine below_drewN ?_ _ | (with_reducible refine Below.alloc ?_ ?_ _; rotate_left; (try simp) <;> omega) | (with_reducible refine Below.setCell ?_ ?_ _; rotate_left; (try simp) <;> omega)))) (hb8'.mono (by first | exact hX7.size | (simp; exact hX7.size)))
                  have hY8 : Below w6.heap.size w6 w8 := Below.trans (by exact (by repeat (first | with_reducible exact Below.refl _ _ | with_reducible assumption | with_reducible refine Below.drew ?_ | with_reducible refine below_drewN ?_ _ | (with_reducible refine Below.alloc ?_ ?_ _; rotate_left; (try simp) <;> omega) | (with_reducible refine Below.setCell ?_ ?_ _; rotate_left; (try simp) <;> omega)))) (hb8'.mono (by first | exact hY7.size | (simp; exact hY7.size)))
                  refine ⟨_, rfl, ⟨HS3.out w8 (hX8), (HX.out w8 (hX8)).2, (HX.out w8 (hX8)).1, HQ1.out w8 (hX8)⟩, fun hHeld => ?_⟩
                  (try simp only [Act.put, List.setIfInBounds_toArray, List.set_cons_zero, List.set_cons_succ])
                  refine tk 12 131 ?_
                  refine tk 13 132 ?_
                  refine tk 14 133 ?_
                  refine sk 15 134 ?_
                  refine sk 16 135 ?_
                  refine sk 17 136 ?_
                  refine sk 18 137 ?_
                  refine sk 19 138 ?_
                  refine sk 20 139 ?_
                  refine sk 21 140 ?_
                  refine sk 22 141 ?_
                  refine sk 23 142 ?_
                  refine sk 24 143 ?_
                  refine sk 25 144 ?_
                  refine sk 26 145 ?_
                  refine sk 27 146 ?_
                  refine sk 28 147 ?_
                  refine sk 29 148 ?_
                  refine sk 30 149 ?_
                  refine sk 31 150 ?_
                  refine sk 32 151 ?_
                  refine tk 33 152 ?_
                  refine tk 34 153 ?_
                  refine wpAnyH_done (by kernel_rfl) ?_ _
                  clear hHeld
                  go_wp2
                  go_roundw
                  case rel => exact ⟨k + 1, by omega, by go_num, (ownsRow_below hown6 hY8 (Nat.le_refl _)).drew, by exact (by repeat (first | with_reducible exact Below.refl _ _ | with_reducible assumption | with_reducible refine Below.drew ?_ | with_reducible refine below_drewN ?_ _ | (with_reducible refine Below.alloc ?_ ?_ _; rotate_left; (try simp) <;> omega) | (with_reducible refine Below.setCell ?_ ?_ _; rotate_left; (try simp) <;> omega)))⟩
                  case measure => simp [intOf] <;> omega
              | false =>
                have hY6 : Below w6.heap.size w6 w6 := Below.refl _ _
                go_upto_region 18 with fail
                refine wp_region_held_drew (S := (fun w' => w'.cell? (a3.add k) = some (.int .i64 sv) ∧ w'.cell? ⟨w.heap.size + 1, 0, none⟩ = some (.slice T ts.length ct) ∧ w'.cell? ⟨w2.heap.size, 0, none⟩ = some (.slice (some a1) U.length c2) ∧ w'.cell? (a1.add (k * 3)) = some (.int .i64 dq))) (by kernel_rfl) ?_ (fun hHeld => ?_)
                · exact ⟨HS3.out _ (by exact (by repeat (first | with_reducible exact Below.refl _ _ | with_reducible assumption | with_reducible refine Below.drew ?_ | with_reducible refine below_drewN ?_ _ | (with_reducible refine Below.alloc ?_ ?_ _; rotate_left; (try simp) <;> omega) | (with_reducible refine Below.setCell ?_ ?_ _; rotate_left; (try simp) <;> omega)))), (HX.out _ (by exact (by repeat (first | with_reducible exact Below.refl _ _ | with_reducible assumption | with_reducible refine Below.drew ?_ | with_reducible refine below_drewN ?_ _ | (with_reducible refine Below.alloc ?_ ?_ _; rotate_left; (try simp) <;> omega) | (with_reducible refine Below.setCell ?_ ?_ _; rotate_left; (try simp) <;> omega))))).2, (HX.out _ (by exact (by repeat (first | with_reducible exact Below.refl _ _ | with_reducible assumption | with_reducible refine Below.drew ?_ | with_reducible refine below_drewN ?_ _ | (with_reducible refine Below.alloc ?_ ?_ _; rotate_left; (try simp) <;> omega) | (with_reducible refine Below.setCell ?_ ?_ _; rotate_left; (try simp) <;> omega))))).1, HQ1.out _ (by exact (by repeat (first | with_reducible exact Below.refl _ _ | with_reducible assumption | with_reducible refine Below.drew ?_ | with_reducible refine below_drewN ?_ _ | (with_reducible refine Below.alloc ?_ ?_ _; rotate_left; (try simp) <;> omega) | (with_reducible refine Below.setCell ?_ ?_ _; rotate_left; (try simp) <;> omega))))⟩
                refine tk 0 119 ?_
                refine tk 1 120 ?_
                refine tk 2 121 ?_
                refine tk 3 122 ?_
                refine tk 4 123 ?_
                refine tk 5 124 ?_
                refine tk 6 125 ?_
                refine tk 7 126 ?_
                refine sk 8 127 ?_
                refine sk 9 128 ?_
                refine sk 10 129 ?_
                refine sk 11 130 ?_
                refine sk 12 131 ?_
                refine tk 13 132 ?_
                refine tk 14 133 ?_
                refine sk 15 134 ?_
                refine sk 16 135 ?_
                refine sk 17 136 ?_
                refine sk 18 137 ?_
                refine sk 19 138 ?_
                refine sk 20 139 ?_
                refine sk 21 140 ?_
                refine sk 22 141 ?_
                refine sk 23 142 ?_
                refine sk 24 143 ?_
                refine sk 25 144 ?_
                refine sk 26 145 ?_
                refine sk 27 146 ?_
                refine sk 28 147 ?_
                refine sk 29 148 ?_
                refine sk 30 149 ?_
                refine sk 31 150 ?_
                refine sk 32 151 ?_
                refine tk 33 152 ?_
                refine tk 34 153 ?_
                refine wpAnyH_done (by kernel_rfl) ?_ _
                clear hHeld
                go_wp2
                go_roundw
                case rel => exact ⟨k + 1, by omega, by go_num, (ownsRow_below hown6 hY6 (Nat.le_refl _)).drew, by exact (by repeat (first | with_reducible exact Below.refl _ _ | with_reducible assumption | with_reducible refine Below.drew ?_ | with_reducible refine below_drewN ?_ _ | (with_reducible refine Below.alloc ?_ ?_ _; rotate_left; (try simp) <;> omega) | (with_reducible refine Below.setCell ?_ ?_ _; rotate_left; (try simp) <;> omega)))⟩
                case measure => simp [intOf] <;> omega
          · obtain rfl : k = SL.length := by omega
            have HM9 : Hid (mixD Y l ds task SL.length = mixD Y l ds task l.length) := by show _ = _; rw [HSLn.out]
            rw [HM9.out] at hown
            have hMl : (mixD Y l ds task l.length).length = SL.length := by rw [mixD_len]; exact HSLn.out.symm
            have HML := Lib.hid hMl
            clear hMl
            obtain ⟨A9, c9, rfl, _, _⟩ := ownsSlice hown
            have hl9 := ownsRow_lies hown
            have HL9 : Hid (∀ W : World, Below wr.heap.size wr W → Lies W W.heap.size A9 (ints (mixD Y l ds task l.length))) := fun W hb => (hl9.below hb (Nat.le_refl _)).more hb.size
            have HME := Lib.hid HMend.out
            obtain ⟨a9, rfl, _, _⟩ := int_at hl9 (show (mixD Y l ds task l.length).length - 1 < (mixD Y l ds task l.length).length by have := HML.out; omega)
            have HC9 : Hid (∀ W : World, Below wr.heap.size wr W → W.cell? (a9.add (SL.length - 1)) = some (.int .i64 eU)) := fun W hb => by
              obtain ⟨b, e, _, h⟩ := int_at (HL9.out W hb) (show (mixD Y l ds task l.length).length - 1 < (mixD Y l ds task l.length).length by have := HML.out; omega)
              cases e
              rw [HMend.out, HML.out] at h; exact h
            clear hown hl9
            go_wp2
            refine wp_region_held_drew (S := (fun w' => w'.rangeAt w.heap.size 0 C.toList)) (by kernel_rfl) ?_ (fun hHeld => ?_)
            · exact (HKK.out _ (by exact (by repeat (first | with_reducible exact Below.refl _ _ | with_reducible assumption | with_reducible refine Below.drew ?_ | with_reducible refine below_drewN ?_ _ | (with_reducible refine Below.alloc ?_ ?_ _; rotate_left; (try simp) <;> omega) | (with_reducible refine Below.setCell ?_ ?_ _; rotate_left; (try simp) <;> omega))))).range
            (refine held_row 0 (some 155) 29 (.tmp 5) (w.heap.size) 0 C.toList _ rfl rfl (by kernel_rfl) (by kernel_rfl) (by kernel_rfl) (by rfl) rfl (fun _ _ _ h => h) (by assumption) (fun _ hS => hS) Try.underlying29 rfl (by assumption) ?_; (try simp only [Act.put, List.setIfInBounds_toArray, List.set_cons_zero, List.set_cons_succ]))
            refine tk 1 156 ?_
            refine tk 2 157 ?_
            (refine held_row 3 (some 158) 29 (.tmp 5) (w.heap.size) 0 C.toList _ rfl rfl (by kernel_rfl) (by kernel_rfl) (by kernel_rfl) (by rfl) rfl (fun _ _ _ h => h) (by assumption) (fun _ hS => hS) Try.underlying29 rfl (by assumption) ?_; (try simp only [Act.put, List.setIfInBounds_toArray, List.set_cons_zero, List.set_cons_succ]))
            refine tk 4 159 ?_
            refine tk 5 160 ?_
            (refine held_call 6 (some 161) 46 _ rfl (by kernel_rfl) (by rfl) ?_ (HUS.out (some a9) c9 _ (HB4W.out _ (by exact (by repeat (first | with_reducible exact Below.refl _ _ | with_reducible assumption | with_reducible refine Below.drew ?_ | with_reducible refine below_drewN ?_ _ | (with_reducible refine Below.alloc ?_ ?_ _; rotate_left; (try simp) <;> omega) | (with_reducible refine Below.setCell ?_ ?_ _; rotate_left; (try simp) <;> omega))))) (HL9.out _ (by exact (by repeat (first | with_reducible exact Below.refl _ _ | with_reducible assumption | with_reducible refine Below.drew ?_ | with_reducible refine below_drewN ?_ _ | (with_reducible refine Below.alloc ?_ ?_ _; rotate_left; (try simp) <;> omega) | (with_reducible refine Below.setCell ?_ ?_ _; rotate_left; (try simp) <;> omega)))))) ?_; rotate_left; rotate_left; (simp only [List.getElem?_toArray, List.getElem?_cons_zero, List.getElem?_cons_succ, Option.map_some]; refine congrArg some ?_; go_simp))
            rintro e w10 ⟨v10, rfl, ho10, hb10'⟩
            obtain ⟨A10, c10, rfl, _, _⟩ := ownsSlice ho10
            have hX10 : Below w4.heap.size w4 w10 := Below.trans (by exact (by repeat (first | with_reducible exact Below.refl _ _ | with_reducible assumption | with_reducible refine Below.drew ?_ | with_reducible refine below_drewN ?_ _ | (with_reducible refine Below.alloc ?_ ?_ _; rotate_left; (try simp) <;> omega) | (with_reducible refine Below.setCell ?_ ?_ _; rotate_left; (try simp) <;> omega)))) (hb10'.mono (by first | exact hbx.size | (simp; exact hbx.size)))
            have hZ10 : Below wr.heap.size wr w10 := Below.trans (by exact (by repeat (first | with_reducible exact Below.refl _ _ | with_reducible assumption | with_reducible refine Below.drew ?_ | with_reducible refine below_drewN ?_ _ | (with_reducible refine Below.alloc ?_ ?_ _; rotate_left; (try simp) <;> omega) | (with_reducible refine Below.setCell ?_ ?_ _; rotate_left; (try simp) <;> omega)))) (hb10'.mono (by first | exact Nat.le_refl _ | simp))
            have hl10 := ownsRow_lies ho10
            refine ⟨_, rfl, (HKK.out w10 hX10).range, fun hHeld => ?_⟩
            (try simp only [Act.put, List.setIfInBounds_toArray, List.set_cons_zero, List.set_cons_succ])
            (refine held_call 7 (some 162) 41 _ rfl (by kernel_rfl) (by rfl) ?_ (HCQ.out A10 c10 _ (HB4W.out _ hX10) hl10) ?_; rotate_left; rotate_left; (simp only [List.getElem?_toArray, List.getElem?_cons_zero, List.getElem?_cons_succ, Option.map_some]; refine congrArg some ?_; go_simp))
            rintro e w11 ⟨rfl, hb11'⟩
            have hX11 : Below w4.heap.size w4 w11 := hX10.trans (hb11'.mono hX10.size)
            have hZ11 : Below wr.heap.size wr w11 := hZ10.trans (hb11'.mono hZ10.size)
            refine ⟨_, rfl, (HKK.out w11 hX11).range, fun hHeld => ?_⟩
            (try simp only [Act.put, List.setIfInBounds_toArray, List.set_cons_zero, List.set_cons_succ])
            refine tk 8 154 ?_
            refine tk 9 163 ?_
            refine tk 10 164 ?_
            refine tk 11 20 ?_
            refine tk 12 21 ?_
            refine wpAnyH_done (by kernel_rfl) ?_ _
            clear hHeld
            go_upto_region 21 with fail
            refine wp_region_held_drew (S := (fun w' => w'.cell? ⟨w2.heap.size, 0, none⟩ = some (.slice A2 U.length c2) ∧ w'.cell? (a9.add (SL.length - 1)) = some (.int .i64 eU))) (by kernel_rfl) ?_ (fun hHeld => ?_)
            · exact ⟨(HX.out _ (by exact (by repeat (first | with_reducible exact Below.refl _ _ | with_reducible assumption | with_reducible refine Below.drew ?_ | with_reducible refine below_drewN ?_ _ | (with_reducible refine Below.alloc ?_ ?_ _; rotate_left; (try simp) <;> omega) | (with_reducible refine Below.setCell ?_ ?_ _; rotate_left; (try simp) <;> omega))))).1, HC9.out _ (by exact (by repeat (first | with_reducible exact Below.refl _ _ | with_reducible assumption | with_reducible refine Below.drew ?_ | with_reducible refine below_drewN ?_ _ | (with_reducible refine Below.alloc ?_ ?_ _; rotate_left; (try simp) <;> omega) | (with_reducible refine Below.setCell ?_ ?_ _; rotate_left; (try simp) <;> omega))))⟩
            (refine held_call 0 (some 165) 15 _ rfl (by kernel_rfl) (by rfl) ?_ (HWO.out _) ?_; rotate_left; rotate_left; (simp only [List.getElem?_toArray, List.getElem?_cons_zero, List.getElem?_cons_succ, Option.map_some]; refine congrArg some ?_; go_simp))
            rintro e w12 ⟨rfl, hb12'⟩
            have hX12 : Below w4.heap.size w4 w12 := Below.trans (by exact (by repeat (first | with_reducible exact Below.refl _ _ | with_reducible assumption | with_reducible refine Below.drew ?_ | with_reducible refine below_drewN ?_ _ | (with_reducible refine Below.alloc ?_ ?_ _; rotate_left; (try simp) <;> omega) | (with_reducible refine Below.setCell ?_ ?_ _; rotate_left; (try simp) <;> omega)))) (hb12'.mono (by first | exact hX11.size | (simp; exact hX11.size)))
            have hZ12 : Below wr.heap.size wr w12 := Below.trans (by exact (by repeat (first | with_reducible exact Below.refl _ _ | with_reducible assumption | with_reducible refine Below.drew ?_ | with_reducible refine below_drewN ?_ _ | (with_reducible refine Below.alloc ?_ ?_ _; rotate_left; (try simp) <;> omega) | (with_reducible refine Below.setCell ?_ ?_ _; rotate_left; (try simp) <;> omega)))) (hb12'.mono (by first | exact hZ11.size | (simp; exact hZ11.size)))
            refine ⟨_, rfl, ⟨(HX.out w12 (hX12)).1, HC9.out w12 (hZ12)⟩, fun hHeld => ?_⟩
            (try simp only [Act.put, List.setIfInBounds_toArray, List.set_cons_zero, List.set_cons_succ])
            refine tk 1 166 ?_
            refine tk 2 167 ?_
            refine tk 3 168 ?_
            refine tk 4 169 ?_
            refine tk 5 170 ?_
            refine tk 6 171 ?_
            refine tk 7 172 ?_
            refine tk 8 173 ?_
            refine tk 9 174 ?_
            refine tk 10 175 ?_
            refine tk 11 176 ?_
            refine tk 12 177 ?_
            refine tk 13 178 ?_
            refine tk 14 179 ?_
            refine tk 15 180 ?_
            refine tk 16 181 ?_
            refine tk 17 182 ?_
            refine tk 18 183 ?_
            refine tk 19 184 ?_
            (refine held_call 20 (some 185) 40 _ rfl (by kernel_rfl) (by rfl) ?_ (HEU.out _ (by exact (by repeat (first | with_reducible exact Below.refl _ _ | with_reducible assumption | with_reducible refine Below.drew ?_ | with_reducible refine below_drewN ?_ _ | (with_reducible refine Below.alloc ?_ ?_ _; rotate_left; (try simp) <;> omega) | (with_reducible refine Below.setCell ?_ ?_ _; rotate_left; (try simp) <;> omega))))) ?_; rotate_left; rotate_left; (simp only [List.getElem?_toArray, List.getElem?_cons_zero, List.getElem?_cons_succ, Option.map_some]; refine congrArg some ?_; go_simp))
            rintro e w13 ⟨rfl, hb13'⟩
            have hX13 : Below w4.heap.size w4 w13 := Below.trans (by exact (by repeat (first | with_reducible exact Below.refl _ _ | with_reducible assumption | with_reducible refine Below.drew ?_ | with_reducible refine below_drewN ?_ _ | (with_reducible refine Below.alloc ?_ ?_ _; rotate_left; (try simp) <;> omega) | (with_reducible refine Below.setCell ?_ ?_ _; rotate_left; (try simp) <;> omega)))) (hb13'.mono (by first | exact hX12.size | (simp; exact hX12.size)))
            have hZ13 : Below wr.heap.size wr w13 := Below.trans (by exact (by repeat (first | with_reducible exact Below.refl _ _ | with_reducible assumption | with_reducible refine Below.drew ?_ | with_reducible refine below_drewN ?_ _ | (with_reducible refine Below.alloc ?_ ?_ _; rotate_left; (try simp) <;> omega) | (with_reducible refine Below.setCell ?_ ?_ _; rotate_left; (try simp) <;> omega)))) (hb13'.mono (by first | exact hZ12.size | (simp; exact hZ12.size)))
            refine ⟨_, rfl, ⟨(HX.out w13 (hX13)).1, HC9.out w13 (hZ13)⟩, fun hHeld => ?_⟩
            (try simp only [Act.put, List.setIfInBounds_toArray, List.set_cons_zero, List.set_cons_succ])
            refine tk 21 186 ?_
            refine tk 22 187 ?_
            refine tk 23 188 ?_
            refine tk 24 10 ?_
            refine wpAnyH_done (by kernel_rfl) ?_ _
            go_wp2
            go_ret
            exact ⟨by first | rfl | simp, hB4.trans (hX13.mono hB4.size)⟩
        · clear hbe
          obtain ⟨i0, hi0, hz0, hz1, hz2'⟩ := info_parts info3
          have I3 := Lib.hid (And.intro hi0 (And.intro hz0 (And.intro hz1 hz2'))); clear hi0 hz0 hz1 hz2'
          have hsn1 : ¬ (0 : Int) < (SL.length : Int) := by have := HSLn.out; omega
          have hsn6 : ((SL.length : Int) == 0) = true := by rw [beq_iff_eq]; omega
          have hsn5 : SL.length ≤ 12 := by have := HSLn.out; omega
          go_enter Try.func12, Try.ntmps12
          go_wp2_with (first | (have h9 := hKc; clear h9; refine wpList_load_guard (P := Try.prog) (by rfl) 29 (.tmp 5) rfl w.heap.size 0 rfl C.toList _ (HLOAD.out _ (by exact (by repeat (first | with_reducible assumption | with_reducible exact Bk.new _ _ _ | with_reducible refine Bk.drew ?_ | with_reducible refine Bk.drewN ?_ _ | with_reducible refine Bk.alloc ?_ _ | (with_reducible refine Bk.far ?_ ?_ _; rotate_left; (try simp) <;> omega))))) Try.underlying29 rfl (by rw [HC28.out]; exact info29) ?_) | (go_at_call 23; refine (HSL.out _ hB0).mono ?_; rintro e w1 ⟨rfl, hb1⟩; rw [H0.out]; have hB1 : Below w.heap.size w w1 := hB0.trans (hb1.mono hB0.size); have hKn := Bk.below (by exact (by repeat (first | with_reducible assumption | with_reducible exact Bk.new _ _ _ | with_reducible refine Bk.drew ?_ | with_reducible refine Bk.drewN ?_ _ | with_reducible refine Bk.alloc ?_ _ | (with_reducible refine Bk.far ?_ ?_ _; rotate_left; (try simp) <;> omega)))) hb1 hlk; clear hKc hlk; have hKc := hKn; clear hKn; have hlk := hKc.lt; have hPn := Bk.below (by exact (by repeat (first | with_reducible assumption | with_reducible exact Bk.new _ _ _ | with_reducible refine Bk.drew ?_ | with_reducible refine Bk.drewN ?_ _ | with_reducible refine Bk.alloc ?_ _ | (with_reducible refine Bk.far ?_ ?_ _; rotate_left; (try simp) <;> omega)))) hb1 hlp; clear hPc hlp x8; have hPc := hPn; clear hPn; have hlp := hPc.lt; have x8 := hPc.cell 0 rfl; clear hb1) | (go_at_call 24; refine (HEA.out _ hB1).mono ?_; rintro e w2 ⟨v2, rfl, ho2, hb2⟩; obtain ⟨A2, c2, rfl, _, _⟩ := ownsSlice ho2; have hB2 : Below w.heap.size w w2 := hB1.trans (hb2.mono hB1.size); have hl2 := ownsRow_lies ho2; have hKn := Bk.below (by exact (by repeat (first | with_reducible assumption | with_reducible exact Bk.new _ _ _ | with_reducible refine Bk.drew ?_ | with_reducible refine Bk.drewN ?_ _ | with_reducible refine Bk.alloc ?_ _ | (with_reducible refine Bk.far ?_ ?_ _; rotate_left; (try simp) <;> omega)))) hb2 hlk; clear hKc hlk; have hKc := hKn; clear hKn; have hlk := hKc.lt; have hPn := Bk.below (by exact (by repeat (first | with_reducible assumption | with_reducible exact Bk.new _ _ _ | with_reducible refine Bk.drew ?_ | with_reducible refine Bk.drewN ?_ _ | with_reducible refine Bk.alloc ?_ _ | (with_reducible refine Bk.far ?_ ?_ _; rotate_left; (try simp) <;> omega)))) hb2 hlp; clear hPc hlp x8; have hPc := hPn; clear hPn; have hlp := hPc.lt; have x8 := hPc.cell 0 rfl; have hz2 := hB2.size; clear ho2 hb2) | (go_at_call 33; refine (HSK.out _ (by exact (by repeat (first | with_reducible exact Below.refl _ _ | with_reducible assumption | with_reducible refine Below.drew ?_ | with_reducible refine below_drewN ?_ _ | (with_reducible refine Below.alloc ?_ ?_ _; rotate_left; (try simp) <;> omega) | (with_reducible refine Below.setCell ?_ ?_ _; rotate_left; (try simp) <;> omega))) : Below w.heap.size w (w2.alloc (.cells #[.slice A2 U.length c2] 42)))).mono ?_; rintro e w3 ⟨v3, rfl, ho3, hb3⟩; obtain ⟨A3, c3, rfl, _, _⟩ := ownsSlice ho3; have hB3 : Below w.heap.size w w3 := Below.trans (by exact (by repeat (first | with_reducible exact Below.refl _ _ | with_reducible assumption | with_reducible refine Below.drew ?_ | with_reducible refine below_drewN ?_ _ | (with_reducible refine Below.alloc ?_ ?_ _; rotate_left; (try simp) <;> omega) | (with_reducible refine Below.setCell ?_ ?_ _; rotate_left; (try simp) <;> omega))) : Below w.heap.size w (w2.alloc (.cells #[.slice A2 U.length c2] 42))) (hb3.mono (by simp; omega)); have hl3 := ownsRow_lies ho3; have p3 : Bk w3 w2.heap.size 42 #[.slice A2 U.length c2] := (Bk.new w2 42 #[.slice A2 U.length c2]).below hb3 (by simp); have q3 : Lies w3 w3.heap.size A2 (turnsC U) := (((hl2.below (by exact (by repeat (first | with_reducible exact Below.refl _ _ | with_reducible assumption | with_reducible refine Below.drew ?_ | with_reducible refine below_drewN ?_ _ | (with_reducible refine Below.alloc ?_ ?_ _; rotate_left; (try simp) <;> omega) | (with_reducible refine Below.setCell ?_ ?_ _; rotate_left; (try simp) <;> omega))) : Below w2.heap.size w2 (w2.alloc (.cells #[.slice A2 U.length c2] 42))) (Nat.le_refl _)).more (by simp)).below hb3 (Nat.le_refl _)).more hb3.size; have hKn : Bk w3 w.heap.size 29 C := (hKc.alloc (.cells #[.slice A2 U.length c2] 42)).below hb3 (by simp; omega); have hPn : Bk w3 (w.heap.size + 1) 42 #[.slice T ts.length ct] := (hPc.alloc (.cells #[.slice A2 U.length c2] 42)).below hb3 (by simp; omega); clear hKc hlk hPc hlp x8; have hKc := hKn; have hPc := hPn; clear hKn hPn; have hlk := hKc.lt; have hlp := hPc.lt; have x8 := hPc.cell 0 rfl; clear ho3 hb3 hl2) | (go_at_call 41; refine (HCP.out _ hB3).mono ?_; rintro e w4 ⟨rfl, hb4⟩; have hB4 : Below w.heap.size w w4 := hB3.trans (hb4.mono hB3.size); have hKn := Bk.below (by exact (by repeat (first | with_reducible assumption | with_reducible exact Bk.new _ _ _ | with_reducible refine Bk.drew ?_ | with_reducible refine Bk.drewN ?_ _ | with_reducible refine Bk.alloc ?_ _ | (with_reducible refine Bk.far ?_ ?_ _; rotate_left; (try simp) <;> omega)))) hb4 hlk; clear hKc hlk; have hKc := hKn; clear hKn; have hlk := hKc.lt; have hPn := Bk.below (by exact (by repeat (first | with_reducible assumption | with_reducible exact Bk.new _ _ _ | with_reducible refine Bk.drew ?_ | with_reducible refine Bk.drewN ?_ _ | with_reducible refine Bk.alloc ?_ _ | (with_reducible refine Bk.far ?_ ?_ _; rotate_left; (try simp) <;> omega)))) hb4 hlp; clear hPc hlp x8; have hPc := hPn; clear hPn; have hlp := hPc.lt; have x8 := hPc.cell 0 rfl; have p4 := p3.below hb4 p3.lt; have q4 := (q3.below hb4 (Nat.le_refl _)).more hb4.size; have hl4 := (hl3.below hb4 (Nat.le_refl _)).more hb4.size; clear hb4 p3 q3 hl3))
          have HX : Hid (∀ W : World, Below w4.heap.size w4 W → W.cell? ⟨w2.heap.size, 0, none⟩ = some (.slice A2 U.length c2) ∧ W.cell? ⟨w.heap.size + 1, 0, none⟩ = some (.slice T ts.length ct)) := fun W hb => ⟨(p4.below hb p4.lt).cell 0 rfl, (hPc.below hb hlp).cell 0 rfl⟩
          have HKK : Hid (∀ W : World, Below w4.heap.size w4 W → Bk W w.heap.size 29 C) := fun W hb => hKc.below hb hlk
          have HQ := Lib.hid (fun W (hb : Below w4.heap.size w4 W) => (q4.below hb (Nat.le_refl _)).more hb.size)
          have HM := Lib.hid (fun W (hb : Below w4.heap.size w4 W) => (hl4.below hb (Nat.le_refl _)).more hb.size)
          have HB4W : Hid (∀ W : World, Below w4.heap.size w4 W → Below w.heap.size w W) := fun W hb => hB4.trans (hb.mono hB4.size)
          have HTS := Lib.hid (fun W (hb : Below w4.heap.size w4 W) => HTS0.out W (HB4W.out W hb))
          have HYW := Lib.hid (fun W (hb : Below w4.heap.size w4 W) => HYW0.out W (HB4W.out W hb))
          have HTW := Lib.hid (fun W (hb : Below w4.heap.size w4 W) => HTW0.out W (HB4W.out W hb))
          have HEP := Lib.hid (fun W (hb : Below w4.heap.size w4 W) => HEP0.out W (HB4W.out W hb))
          have HEU : Hid (∀ W : World, Below w4.heap.size w4 W → Calls Try.prog 40 #[.agg #[.slice A2 U.length c2]] W (IntEnd eU W)) := fun W hb => by
            rw [← HeU.out]; exact end_any U A2 c2 W (HQ.out W hb) (by have := HUL.out; omega)
          have hu29 := Try.underlying29
          have h28 : C.toList.length = 28 := HC28.out
          have hi29 : (Try.prog.info? 29).map (·.size) = some C.toList.length := by rw [h28]; exact info29
          clear h28 hKc hPc hlk hlp x8 p4 q4 hl4 HTS0 HYW0 HTW0 HEP0
          go_loopw [17, 18] (fun v y wr => ∃ k : Nat, k ≤ SL.length ∧ y = .int .i64 (k : Int) ∧ wr.ownsRow w4.heap.size 3 1 v k (ints (mixD Y l ds task k)) ∧ Below w4.heap.size w4 wr) (fun _ y _ => SL.length - (intOf y).toNat)
          case atStart => exact ⟨0, Nat.zero_le _, rfl, World.ownsRow_nil _ _ _ _, Below.refl _ _⟩
          case round =>
          obtain ⟨k, hk, rfl, hown, hbx⟩ := hrel
          have hbxs := hbx.size
          by_cases hlt' : k < SL.length
          · exact absurd hlt' (by have := HSLn.out; omega)
          · obtain rfl : k = SL.length := by omega
            have HM9 : Hid (mixD Y l ds task SL.length = mixD Y l ds task l.length) := by show _ = _; rw [HSLn.out]
            rw [HM9.out] at hown
            have hMl : (mixD Y l ds task l.length).length = SL.length := by rw [mixD_len]; exact HSLn.out.symm
            have HML := Lib.hid hMl
            clear hMl
            obtain ⟨A9, c9, rfl, _, _⟩ := ownsSlice hown
            have hl9 := ownsRow_lies hown
            have HL9 : Hid (∀ W : World, Below wr.heap.size wr W → Lies W W.heap.size A9 (ints (mixD Y l ds task l.length))) := fun W hb => (hl9.below hb (Nat.le_refl _)).more hb.size
            clear hown hl9
            go_wp2
            refine wp_region_held_drew (S := (fun w' => w'.rangeAt w.heap.size 0 C.toList)) (by kernel_rfl) ?_ (fun hHeld => ?_)
            · exact (HKK.out _ (by exact (by repeat (first | with_reducible exact Below.refl _ _ | with_reducible assumption | with_reducible refine Below.drew ?_ | with_reducible refine below_drewN ?_ _ | (with_reducible refine Below.alloc ?_ ?_ _; rotate_left; (try simp) <;> omega) | (with_reducible refine Below.setCell ?_ ?_ _; rotate_left; (try simp) <;> omega))))).range
            (refine held_row 0 (some 155) 29 (.tmp 5) (w.heap.size) 0 C.toList _ rfl rfl (by kernel_rfl) (by kernel_rfl) (by kernel_rfl) (by rfl) rfl (fun _ _ _ h => h) (by assumption) (fun _ hS => hS) Try.underlying29 rfl (by assumption) ?_; (try simp only [Act.put, List.setIfInBounds_toArray, List.set_cons_zero, List.set_cons_succ]))
            refine tk 1 156 ?_
            refine tk 2 157 ?_
            (refine held_row 3 (some 158) 29 (.tmp 5) (w.heap.size) 0 C.toList _ rfl rfl (by kernel_rfl) (by kernel_rfl) (by kernel_rfl) (by rfl) rfl (fun _ _ _ h => h) (by assumption) (fun _ hS => hS) Try.underlying29 rfl (by assumption) ?_; (try simp only [Act.put, List.setIfInBounds_toArray, List.set_cons_zero, List.set_cons_succ]))
            refine tk 4 159 ?_
            refine tk 5 160 ?_
            (refine held_call 6 (some 161) 46 _ rfl (by kernel_rfl) (by rfl) ?_ (HUS.out A9 c9 _ (HB4W.out _ (by exact (by repeat (first | with_reducible exact Below.refl _ _ | with_reducible assumption | with_reducible refine Below.drew ?_ | with_reducible refine below_drewN ?_ _ | (with_reducible refine Below.alloc ?_ ?_ _; rotate_left; (try simp) <;> omega) | (with_reducible refine Below.setCell ?_ ?_ _; rotate_left; (try simp) <;> omega))))) (HL9.out _ (by exact (by repeat (first | with_reducible exact Below.refl _ _ | with_reducible assumption | with_reducible refine Below.drew ?_ | with_reducible refine below_drewN ?_ _ | (with_reducible refine Below.alloc ?_ ?_ _; rotate_left; (try simp) <;> omega) | (with_reducible refine Below.setCell ?_ ?_ _; rotate_left; (try simp) <;> omega)))))) ?_; rotate_left; rotate_left; (simp only [List.getElem?_toArray, List.getElem?_cons_zero, List.getElem?_cons_succ, Option.map_some]; refine congrArg some ?_; go_simp))
            rintro e w10 ⟨v10, rfl, ho10, hb10'⟩
            obtain ⟨A10, c10, rfl, _, _⟩ := ownsSlice ho10
            have hX10 : Below w4.heap.size w4 w10 := Below.trans (by exact (by repeat (first | with_reducible exact Below.refl _ _ | with_reducible assumption | with_reducible refine Below.drew ?_ | with_reducible refine below_drewN ?_ _ | (with_reducible refine Below.alloc ?_ ?_ _; rotate_left; (try simp) <;> omega) | (with_reducible refine Below.setCell ?_ ?_ _; rotate_left; (try simp) <;> omega)))) (hb10'.mono (by first | exact hbx.size | (simp; exact hbx.size)))
            have hZ10 : Below wr.heap.size wr w10 := Below.trans (by exact (by repeat (first | with_reducible exact Below.refl _ _ | with_reducible assumption | with_reducible refine Below.drew ?_ | with_reducible refine below_drewN ?_ _ | (with_reducible refine Below.alloc ?_ ?_ _; rotate_left; (try simp) <;> omega) | (with_reducible refine Below.setCell ?_ ?_ _; rotate_left; (try simp) <;> omega)))) (hb10'.mono (by first | exact Nat.le_refl _ | simp))
            have hl10 := ownsRow_lies ho10
            refine ⟨_, rfl, (HKK.out w10 hX10).range, fun hHeld => ?_⟩
            (try simp only [Act.put, List.setIfInBounds_toArray, List.set_cons_zero, List.set_cons_succ])
            (refine held_call 7 (some 162) 41 _ rfl (by kernel_rfl) (by rfl) ?_ (HCQ.out A10 c10 _ (HB4W.out _ hX10) hl10) ?_; rotate_left; rotate_left; (simp only [List.getElem?_toArray, List.getElem?_cons_zero, List.getElem?_cons_succ, Option.map_some]; refine congrArg some ?_; go_simp))
            rintro e w11 ⟨rfl, hb11'⟩
            have hX11 : Below w4.heap.size w4 w11 := hX10.trans (hb11'.mono hX10.size)
            have hZ11 : Below wr.heap.size wr w11 := hZ10.trans (hb11'.mono hZ10.size)
            refine ⟨_, rfl, (HKK.out w11 hX11).range, fun hHeld => ?_⟩
            (try simp only [Act.put, List.setIfInBounds_toArray, List.set_cons_zero, List.set_cons_succ])
            refine tk 8 154 ?_
            refine tk 9 163 ?_
            refine tk 10 164 ?_
            refine tk 11 20 ?_
            refine tk 12 21 ?_
            refine wpAnyH_done (by kernel_rfl) ?_ _
            clear hHeld
            go_upto_region 21 with fail
            refine wp_region_held_drew (S := (fun w' => w'.cell? ⟨w2.heap.size, 0, none⟩ = some (.slice A2 U.length c2))) (by kernel_rfl) ?_ (fun hHeld => ?_)
            · exact (HX.out _ (by exact (by repeat (first | with_reducible exact Below.refl _ _ | with_reducible assumption | with_reducible refine Below.drew ?_ | with_reducible refine below_drewN ?_ _ | (with_reducible refine Below.alloc ?_ ?_ _; rotate_left; (try simp) <;> omega) | (with_reducible refine Below.setCell ?_ ?_ _; rotate_left; (try simp) <;> omega))))).1
            (refine held_call 0 (some 165) 15 _ rfl (by kernel_rfl) (by rfl) ?_ (HWO.out _) ?_; rotate_left; rotate_left; (simp only [List.getElem?_toArray, List.getElem?_cons_zero, List.getElem?_cons_succ, Option.map_some]; refine congrArg some ?_; go_simp))
            rintro e w12 ⟨rfl, hb12'⟩
            have hX12 : Below w4.heap.size w4 w12 := Below.trans (by exact (by repeat (first | with_reducible exact Below.refl _ _ | with_reducible assumption | with_reducible refine Below.drew ?_ | with_reducible refine below_drewN ?_ _ | (with_reducible refine Below.alloc ?_ ?_ _; rotate_left; (try simp) <;> omega) | (with_reducible refine Below.setCell ?_ ?_ _; rotate_left; (try simp) <;> omega)))) (hb12'.mono (by first | exact hX11.size | (simp; exact hX11.size)))
            have hZ12 : Below wr.heap.size wr w12 := Below.trans (by exact (by repeat (first | with_reducible exact Below.refl _ _ | with_reducible assumption | with_reducible refine Below.drew ?_ | with_reducible refine below_drewN ?_ _ | (with_reducible refine Below.alloc ?_ ?_ _; rotate_left; (try simp) <;> omega) | (with_reducible refine Below.setCell ?_ ?_ _; rotate_left; (try simp) <;> omega)))) (hb12'.mono (by first | exact hZ11.size | (simp; exact hZ11.size)))
            refine ⟨_, rfl, (HX.out w12 (hX12)).1, fun hHeld => ?_⟩
            (try simp only [Act.put, List.setIfInBounds_toArray, List.set_cons_zero, List.set_cons_succ])
            refine tk 1 166 ?_
            refine tk 2 167 ?_
            refine tk 3 168 ?_
            refine tk 4 169 ?_
            refine tk 5 170 ?_
            refine tk 6 171 ?_
            refine tk 7 172 ?_
            refine tk 8 173 ?_
            refine tk 9 174 ?_
            refine tk 10 175 ?_
            refine tk 11 176 ?_
            refine tk 12 177 ?_
            refine sk 13 178 ?_
            refine sk 14 179 ?_
            refine sk 15 180 ?_
            refine sk 16 181 ?_
            refine sk 17 182 ?_
            refine sk 18 183 ?_
            refine sk 19 184 ?_
            refine sk 20 185 ?_
            refine sk 21 186 ?_
            refine tk 22 187 ?_
            refine tk 23 188 ?_
            refine tk 24 10 ?_
            refine wpAnyH_done (by kernel_rfl) ?_ _
            go_wp2
            go_ret
            exact ⟨by first | rfl | simp, hB4.trans (hX12.mono hB4.size)⟩
      · have hsl := slk_bad hbe
        rw [hsl] at HSK
        clear hsl hs ht hY hT hP hgp
        generalize earP Y l f = U at *
        generalize earE Y l f = N at *
        have hne2 : (N != 0) = true := by simpa using hbe
        clear hbe
        go_enter Try.func12, Try.ntmps12
        go_wp2_with (first | (have h9 := hKc; clear h9; refine wpList_load_guard (P := Try.prog) (by rfl) 29 (.tmp 5) rfl w.heap.size 0 rfl C.toList _ (HLOAD.out _ (by exact (by repeat (first | with_reducible assumption | with_reducible exact Bk.new _ _ _ | with_reducible refine Bk.drew ?_ | with_reducible refine Bk.drewN ?_ _ | with_reducible refine Bk.alloc ?_ _ | (with_reducible refine Bk.far ?_ ?_ _; rotate_left; (try simp) <;> omega))))) Try.underlying29 rfl (by rw [HC28.out]; exact info29) ?_) | (go_at_call 23; refine (HSL.out _ hB0).mono ?_; rintro e w1 ⟨rfl, hb1⟩; rw [H0.out]; have hB1 : Below w.heap.size w w1 := hB0.trans (hb1.mono hB0.size); have hKn := Bk.below (by exact (by repeat (first | with_reducible assumption | with_reducible exact Bk.new _ _ _ | with_reducible refine Bk.drew ?_ | with_reducible refine Bk.drewN ?_ _ | with_reducible refine Bk.alloc ?_ _ | (with_reducible refine Bk.far ?_ ?_ _; rotate_left; (try simp) <;> omega)))) hb1 hlk; clear hKc hlk; have hKc := hKn; clear hKn; have hlk := hKc.lt; have hPn := Bk.below (by exact (by repeat (first | with_reducible assumption | with_reducible exact Bk.new _ _ _ | with_reducible refine Bk.drew ?_ | with_reducible refine Bk.drewN ?_ _ | with_reducible refine Bk.alloc ?_ _ | (with_reducible refine Bk.far ?_ ?_ _; rotate_left; (try simp) <;> omega)))) hb1 hlp; clear hPc hlp x8; have hPc := hPn; clear hPn; have hlp := hPc.lt; have x8 := hPc.cell 0 rfl; clear hb1) | (go_at_call 24; refine (HEA.out _ hB1).mono ?_; rintro e w2 ⟨v2, rfl, ho2, hb2⟩; obtain ⟨A2, c2, rfl, _, _⟩ := ownsSlice ho2; have hB2 : Below w.heap.size w w2 := hB1.trans (hb2.mono hB1.size); have hl2 := ownsRow_lies ho2; have hKn := Bk.below (by exact (by repeat (first | with_reducible assumption | with_reducible exact Bk.new _ _ _ | with_reducible refine Bk.drew ?_ | with_reducible refine Bk.drewN ?_ _ | with_reducible refine Bk.alloc ?_ _ | (with_reducible refine Bk.far ?_ ?_ _; rotate_left; (try simp) <;> omega)))) hb2 hlk; clear hKc hlk; have hKc := hKn; clear hKn; have hlk := hKc.lt; have hPn := Bk.below (by exact (by repeat (first | with_reducible assumption | with_reducible exact Bk.new _ _ _ | with_reducible refine Bk.drew ?_ | with_reducible refine Bk.drewN ?_ _ | with_reducible refine Bk.alloc ?_ _ | (with_reducible refine Bk.far ?_ ?_ _; rotate_left; (try simp) <;> omega)))) hb2 hlp; clear hPc hlp x8; have hPc := hPn; clear hPn; have hlp := hPc.lt; have x8 := hPc.cell 0 rfl; have hz2 := hB2.size; clear ho2 hb2) | (go_at_call 33; refine (HSK.out _ (by exact (by repeat (first | with_reducible exact Below.refl _ _ | with_reducible assumption | with_reducible refine Below.drew ?_ | with_reducible refine below_drewN ?_ _ | (with_reducible refine Below.alloc ?_ ?_ _; rotate_left; (try simp) <;> omega) | (with_reducible refine Below.setCell ?_ ?_ _; rotate_left; (try simp) <;> omega))) : Below w.heap.size w (w2.alloc (.cells #[.slice A2 U.length c2] 42)))).mono ?_; rintro e w3 ⟨v3, rfl, ho3, hb3⟩; obtain ⟨A3, c3, rfl, _, _⟩ := ownsSlice ho3; have hB3 : Below w.heap.size w w3 := Below.trans (by exact (by repeat (first | with_reducible exact Below.refl _ _ | with_reducible assumption | with_reducible refine Below.drew ?_ | with_reducible refine below_drewN ?_ _ | (with_reducible refine Below.alloc ?_ ?_ _; rotate_left; (try simp) <;> omega) | (with_reducible refine Below.setCell ?_ ?_ _; rotate_left; (try simp) <;> omega))) : Below w.heap.size w (w2.alloc (.cells #[.slice A2 U.length c2] 42))) (hb3.mono (by simp; omega)); have hl3 := ownsRow_lies ho3; have p3 : Bk w3 w2.heap.size 42 #[.slice A2 U.length c2] := (Bk.new w2 42 #[.slice A2 U.length c2]).below hb3 (by simp); have q3 : Lies w3 w3.heap.size A2 (turnsC U) := (((hl2.below (by exact (by repeat (first | with_reducible exact Below.refl _ _ | with_reducible assumption | with_reducible refine Below.drew ?_ | with_reducible refine below_drewN ?_ _ | (with_reducible refine Below.alloc ?_ ?_ _; rotate_left; (try simp) <;> omega) | (with_reducible refine Below.setCell ?_ ?_ _; rotate_left; (try simp) <;> omega))) : Below w2.heap.size w2 (w2.alloc (.cells #[.slice A2 U.length c2] 42))) (Nat.le_refl _)).more (by simp)).below hb3 (Nat.le_refl _)).more hb3.size; have hKn : Bk w3 w.heap.size 29 C := (hKc.alloc (.cells #[.slice A2 U.length c2] 42)).below hb3 (by simp; omega); have hPn : Bk w3 (w.heap.size + 1) 42 #[.slice T ts.length ct] := (hPc.alloc (.cells #[.slice A2 U.length c2] 42)).below hb3 (by simp; omega); clear hKc hlk hPc hlp x8; have hKc := hKn; have hPc := hPn; clear hKn hPn; have hlk := hKc.lt; have hlp := hPc.lt; have x8 := hPc.cell 0 rfl; clear ho3 hb3 hl2) | (go_at_call 15; refine (HWO.out _).mono ?_; rintro e w4 ⟨rfl, hb4⟩; have hB4 : Below w.heap.size w w4 := hB3.trans (hb4.mono hB3.size)))
        go_ret
        exact ⟨by first | rfl | simp, hB4⟩
end Go.Proofs.Ytjgnikmnadmheaa
