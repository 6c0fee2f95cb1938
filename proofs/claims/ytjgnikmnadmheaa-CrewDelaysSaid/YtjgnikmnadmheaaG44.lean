/- The law CrewDelays, walked. Printed by wip/gen_x9.py. -/
import Derived.Deep.CutBlock
import Derived.Test.YtjgnikmnadmheaaG02
import Derived.Test.YtjgnikmnadmheaaG11
import Derived.Test.YtjgnikmnadmheaaG43

namespace Go.Proofs.Ytjgnikmnadmheaa
open Go.RowKit

set_option maxRecDepth 100000 in
set_option maxHeartbeats 8000000 in
theorem lawDelays_any (C : Array Value) (Y : Yd) (l : List Tk) (A : Option Addr) (c : Nat) (f what which day : Int) (w : World) (hY : YardAt w w.heap.size C Y) (hT : TasksAt w w.heap.size A l) (hcp : ∀ k, k = 25 ∨ k = 26 → ∀ (D : Option Addr) (n m : Nat), C[k]? = some (.slice D n m) → n ≤ m) :
    Calls Try.prog 5 #[.agg C, .slice A l.length c, .int .i64 f, .int .i64 what, .int .i64 which, .int .i64 day] w fun e w' => e = .returned (.bool true) ∧ Below w.heap.size w w' := by
  have HWO := Lib.hid works_any
  have HSL := Lib.hid (fun W (hb : Below w.heap.size w W) => slow_any C Y l A c W ((hY.below hb (Nat.le_refl _)).more hb.size) ((hT.below hb (Nat.le_refl _)).more hb.size))
  have HLOAD : Hid (∀ W : World, Bk W w.heap.size 29 C → W.rangeAt w.heap.size 0 C.toList) := fun W hb => hb.range
  have HC28 := Lib.hid hY.len
  have hKc : Bk (w.alloc (.cells C 29)) w.heap.size 29 C := Bk.new _ _ _
  have hB0 : Below w.heap.size w (w.alloc (.cells C 29)) := by exact (by repeat (first | with_reducible exact Below.refl _ _ | with_reducible assumption | with_reducible refine Below.drew ?_ | with_reducible refine below_drewN ?_ _ | (with_reducible refine Below.alloc ?_ ?_ _; rotate_left; (try simp) <;> omega) | (with_reducible refine Below.setCell ?_ ?_ _; rotate_left; (try simp) <;> omega)))
  have hlk := hKc.lt
  cases h0 : slowB Y l with
  | true =>
    have H0 := Lib.hid h0; clear h0 hY hT hcp
    go_enter Try.func5, Try.ntmps5
    go_wp2_with (first | (have h9 := hKc; clear h9; refine wpList_load_guard (P := Try.prog) (by rfl) 29 (.tmp 6) rfl w.heap.size 0 rfl C.toList _ (HLOAD.out _ (by exact (by repeat (first | with_reducible assumption | with_reducible exact Bk.new _ _ _ | with_reducible refine Bk.drew ?_ | with_reducible refine Bk.drewN ?_ _ | with_reducible refine Bk.alloc ?_ _ | (with_reducible refine Bk.far ?_ ?_ _; rotate_left; (try simp) <;> omega))))) Try.underlying29 rfl (by rw [HC28.out]; exact info29) ?_) | (go_at_call 23; refine (HSL.out _ hB0).mono ?_; rintro e w1 ⟨rfl, hb1⟩; rw [H0.out]; have hB1 : Below w.heap.size w w1 := hB0.trans (hb1.mono hB0.size); have hKn := hKc.below hb1 hlk; clear hKc hlk; have hKc := hKn; clear hKn; have hlk := hKc.lt; clear hb1) | (go_at_call 15; refine (HWO.out _).mono ?_; rintro e w2 ⟨rfl, hb2⟩; have hB2 : Below w.heap.size w w2 := hB1.trans (hb2.mono hB1.size)))
    go_ret
    exact ⟨rfl, hB2⟩
  | false =>
    obtain ⟨hs, ht⟩ := small_l h0
    have H0 := Lib.hid h0
    have HEA := Lib.hid (fun W (hb : Below w.heap.size w W) => earliest_any C Y l A c f W ((hY.below hb (Nat.le_refl _)).more hb.size) hs ((hT.below hb (Nat.le_refl _)).more hb.size) ht)
    have HYW := Lib.hid (fun W (hb : Below w.heap.size w W) => hY.below hb (Nat.le_refl _))
    have HTW := Lib.hid (fun W (hb : Below w.heap.size w W) => hT.below hb (Nat.le_refl _))
    have HYS := Lib.hid (And.intro hY.size hY.one)
    have HTA := Lib.hid hT.at_
    have HTM := Lib.hid ht
    have HCP := Lib.hid hcp
    obtain ⟨i0, hi0, hz0, hz1, hz2⟩ := info_parts info48
    have I4 := Lib.hid (And.intro hi0 (And.intro hz0 (And.intro hz1 hz2))); clear hi0 hz0 hz1 hz2
    have hln := ht.1
    obtain ⟨iw, hiw, HI⟩ := which_i which
    obtain ⟨q, hq0, hq6, HQ⟩ := what_q what
    clear h0 hY hT ht hcp
    go_enter Try.func5, Try.ntmps5
    go_upto_block 0 with (first | (have h9 := hKc; clear h9; refine wpList_load_guard (P := Try.prog) (by rfl) 29 (.tmp 6) rfl w.heap.size 0 rfl C.toList _ (HLOAD.out _ (by exact (by repeat (first | with_reducible assumption | with_reducible exact Bk.new _ _ _ | with_reducible refine Bk.drew ?_ | with_reducible refine Bk.drewN ?_ _ | with_reducible refine Bk.alloc ?_ _ | (with_reducible refine Bk.far ?_ ?_ _; rotate_left; (try simp) <;> omega))))) Try.underlying29 rfl (by rw [HC28.out]; exact info29) ?_) | (go_at_call 23; refine (HSL.out _ hB0).mono ?_; rintro e w1 ⟨rfl, hb1⟩; rw [H0.out]; have hB1 : Below w.heap.size w w1 := hB0.trans (hb1.mono hB0.size); have hKn := hKc.below hb1 hlk; clear hKc hlk; have hKc := hKn; clear hKn; have hlk := hKc.lt; clear hb1) | (go_at_call 24; refine (HEA.out _ hB1).mono ?_; rintro e w2 ⟨v2, rfl, ho2, hb2⟩; obtain ⟨A2, c2, rfl, _, _⟩ := ownsSlice ho2; have hB2 : Below w.heap.size w w2 := hB1.trans (hb2.mono hB1.size); have hl2 := ownsRow_lies ho2; have hKn := hKc.below hb2 hlk; clear hKc hlk; have hKc := hKn; clear hKn; have hlk := hKc.lt; have hz2 := hB2.size; clear ho2 hb2) | (refine wpList_store_blk (P := Try.prog) rfl 29 (.tmp 15) (.tmp 34) rfl (w2.heap.size + 1) zero29 C rfl rfl (zero_new29 w2 _) HYS.out.1.symm (by rw [HYS.out.1]; exact info29) HYS.out.2 ?_; intro w3 hz3 hf3; have hB3 : Below w.heap.size w w3 := hf3.bel _ _ (by omega) (by exact (by repeat (first | with_reducible exact Below.refl _ _ | with_reducible assumption | with_reducible refine Below.drew ?_ | with_reducible refine below_drewN ?_ _ | (with_reducible refine Below.alloc ?_ ?_ _; rotate_left; (try simp) <;> omega) | (with_reducible refine Below.setCell ?_ ?_ _; rotate_left; (try simp) <;> omega)))); have hp3 : Bk w3 w2.heap.size 42 #[.slice A2 (earP Y l f).length c2] := hf3.bk (by omega) ((Bk.new _ _ _).alloc _); have hy3 : Bk w3 w.heap.size 29 C := hf3.bk (by omega) ((hKc.alloc _).alloc _); have hB23 : Below w2.heap.size w2 w3 := hf3.bel _ _ (by omega) (by exact (by repeat (first | with_reducible exact Below.refl _ _ | with_reducible assumption | with_reducible refine Below.drew ?_ | with_reducible refine below_drewN ?_ _ | (with_reducible refine Below.alloc ?_ ?_ _; rotate_left; (try simp) <;> omega) | (with_reducible refine Below.setCell ?_ ?_ _; rotate_left; (try simp) <;> omega))))) | (at_builtin; refine wpList_append_lies rfl (.tmp 35) (.tmp 36) 30 rfl w3.heap.size 48 i0 (.agg #[.int .i64 0, .int .i64 0, .slice none 0 0, .slice none 0 0]) 4 64 Try.underlying30 I4.out.1 I4.out.2.1 I4.out.2.2.1 I4.out.2.2.2 rfl (by decide) (.slice (some ⟨w3.heap.size, 0, none⟩) 0 0) 0 [] rfl (own_empty48 w3) w.heap.size A l.length c (tasksC l) rfl (tasks_len l) (HTA.out.below (hB3.alloc hB3.size _) (Nat.le_refl _)) (one_tasks l) ?_ ?_ ?_ ?_; (unfold maxLen; omega); (omega); (simp); intro v4 w4 ho4 hg4; have hB4 : Below w.heap.size w w4 := (hB3.alloc hB3.size _).grown hg4 (by have := hB3.size; simp; omega) (fun k e => by have := hB3.size; simp [Value.ownBlock] at e; omega); have hB34 : Below w3.heap.size w3 w4 := ((Below.refl _ _).alloc (Nat.le_refl _) _).grown hg4 (by simp) (fun k e => by simp [Value.ownBlock] at e; omega); rw [Nat.zero_add, List.nil_append] at ho4; obtain ⟨A4, c4, rfl, _, _⟩ := ownsSlice ho4))
    rw [HI.out, HQ.out]
    have hz34 := hB34.size
    have hz23 := hB23.size
    have HP4 : Hid (Bk w4 w2.heap.size 42 #[.slice A2 (earP Y l f).length c2]) := hp3.below hB34 hp3.lt
    have HZ4 : Hid (Bk w4 (w2.heap.size + 1) 29 C) := hz3.below hB34 hz3.lt
    have HK4 : Hid (Bk w4 w.heap.size 29 C) := hy3.below hB34 hy3.lt
    have hlz : w2.heap.size + 1 < w3.heap.size := hz3.lt
    have HL4 := Lib.hid (hl2.below (hB23.trans (hB34.mono hz23)) (Nat.le_refl _))
    have HO4 := Lib.hid ho4
    have hB24 : Below w2.heap.size w2 w4 := hB23.trans (hB34.mono hz23)
    have hlt4 : w2.heap.size + 1 < w4.heap.size := by omega
    have hz14 : w.heap.size + 1 ≤ w2.heap.size := hlk
    clear hp3 hz3 hy3 hl2 ho4 hf3 hg4 hKc hlk
    go_cut [17] from 19 (fun s wc => ∃ (less : Bool) (C' : Array Value) (Y' : Yd) (l' : List Tk), s = .bool less ∧ CutD less C Y l A2 c2 w w2 C' Y' l' A4 f wc)
    case first =>
      rcases (show q = 0 ∨ q = 1 ∨ q = 2 ∨ q = 3 ∨ q = 4 ∨ q = 5 by omega) with rfl | rfl | rfl | rfl | rfl | rfl
      · have hKc := HK4.out
        by_cases he : closeE Y day = 0
        · have HCK := Lib.hid (fun W (hb : Below w.heap.size w W) => close_zero C Y day W ((HYW.out W hb).more hb.size) hs he)
          have HEQ := Lib.hid he
          clear he
          go_wp2_with (first | (have h9 := hKc; clear h9; refine wpList_load_guard (P := Try.prog) (by rfl) 29 (.tmp 6) rfl w.heap.size 0 rfl C.toList _ (HLOAD.out _ (by exact (by repeat (first | with_reducible assumption | with_reducible exact Bk.new _ _ _ | with_reducible refine Bk.drew ?_ | with_reducible refine Bk.drewN ?_ _ | with_reducible refine Bk.alloc ?_ _ | (with_reducible refine Bk.far ?_ ?_ _; rotate_left; (try simp) <;> omega))))) Try.underlying29 rfl (by rw [HC28.out]; exact info29) ?_) | (go_at_call 20; refine (HCK.out _ hB4).mono ?_; rintro e w5 ⟨C5, rfl, hy5, hb5, hk5⟩; have hB5 : Below w.heap.size w w5 := hB4.trans (hb5.mono hB4.size); have H528 := Lib.hid hy5.size; have H51 := Lib.hid hy5.one; have HKEEP := Lib.hid hk5; have hz5 := hb5.size; clear hKc hy5 hk5) | (refine wpList_store_blk (P := Try.prog) rfl 29 (.tmp 19) (.tmp 67) rfl w5.heap.size zero29 C5 rfl rfl (zero_n29 w5) H528.out.symm (by rw [H528.out]; exact info29) H51.out ?_; intro w6 hz6 hf6; have hB6 : Below w.heap.size w w6 := hf6.bel _ _ hB5.size (hB5.alloc hB5.size _); have hZ6 : Bk w6 (w2.heap.size + 1) 29 C := hf6.bk (by omega) ((HZ4.out.below hb5 hlt4).alloc _)) | (have h9 := hz6; clear h9; refine wpList_load_guard (P := Try.prog) (by rfl) 29 (.tmp 19) rfl w5.heap.size 0 rfl C5.toList _ hz6.range Try.underlying29 rfl (by rw [Array.length_toList, H528.out]; exact info29) ?_) | (refine wpList_store_blk (P := Try.prog) rfl 29 (.tmp 15) (.tmp 72) rfl (w2.heap.size + 1) C C5 rfl rfl hZ6 (HYS.out.1.trans H528.out.symm) (by rw [H528.out]; exact info29) H51.out ?_; intro w7 hz7 hf7; have hB7 : Below w.heap.size w w7 := hf7.bel _ _ (by omega) hB6))
          go_meet
          case rel =>
          exact ⟨false, C5, closeY Y day, l, rfl, cutD_yard HP4 HL4 HO4 HTM HTW hlz hlt4 hB7 (((((Nb.refl w4 (w2.heap.size + 1)).step hb5).alloc _).far hf6 (.inr hz5)).far hf7 (.inl rfl)) hz7 (HKEEP.out w7 (w2.heap.size + 1) hlt4 ((((Nb.refl w5 (w2.heap.size + 1)).alloc _).far hf6 (.inr (Nat.le_refl _))).far hf7 (.inl rfl))) (small_close hs HEQ.out) (rel_close HEQ.out)⟩
        · have HCK := Lib.hid (fun W (hb : Below w.heap.size w W) => Close_any C Y day W ((HYW.out W hb).more hb.size) hs)
          generalize closeE Y day = ce at *
          have hce : (ce != 0) = true := by simpa using he
          clear he
          go_wp2_with (first | (have h9 := hKc; clear h9; refine wpList_load_guard (P := Try.prog) (by rfl) 29 (.tmp 6) rfl w.heap.size 0 rfl C.toList _ (HLOAD.out _ (by exact (by repeat (first | with_reducible assumption | with_reducible exact Bk.new _ _ _ | with_reducible refine Bk.drew ?_ | with_reducible refine Bk.drewN ?_ _ | with_reducible refine Bk.alloc ?_ _ | (with_reducible refine Bk.far ?_ ?_ _; rotate_left; (try simp) <;> omega))))) Try.underlying29 rfl (by rw [HC28.out]; exact info29) ?_) | (go_at_call 20; refine (HCK.out _ hB4).mono ?_; rintro e w5 ⟨C5, rfl, hy5, hb5⟩; have hB5 : Below w.heap.size w w5 := hB4.trans (hb5.mono hB4.size); have H528 := Lib.hid hy5.size; have H51 := Lib.hid hy5.one; clear hKc hy5) | (refine wpList_store_blk (P := Try.prog) rfl 29 (.tmp 19) (.tmp 67) rfl w5.heap.size zero29 C5 rfl rfl (zero_n29 w5) H528.out.symm (by rw [H528.out]; exact info29) H51.out ?_; intro w6 hz6 hf6; have hB6 : Below w.heap.size w w6 := hf6.bel _ _ hB5.size (hB5.alloc hB5.size _)) | (go_at_call 15; refine (HWO.out _).mono ?_; rintro e w7 ⟨rfl, hb7⟩; have hB7 : Below w.heap.size w w7 := hB6.trans (hb7.mono hB6.size)))
          go_ret
          exact ⟨rfl, hB7⟩
      · have z4 := HZ4.out
        have hy4 := HYW.out w4 hB4
        have x1 := z4.cell (iw * 2) (by rw [Nat.mul_comm]; exact hy4.se (2 * iw) (by omega))
        have f1 := z4.fro (iw * 2)
        clear z4 hy4
        generalize hse : Y.se (2 * iw) = se at *
        have HSE := Lib.hid hse; clear hse
        go_wp2
        go_meet
        case rel =>
        exact ⟨false, _, lightY Y iw, l, rfl, cutD_yard HP4 HL4 HO4 HTM HTW hlz hlt4 (by exact (by repeat (first | with_reducible exact Below.refl _ _ | with_reducible assumption | with_reducible refine Below.drew ?_ | with_reducible refine below_drewN ?_ _ | (with_reducible refine Below.alloc ?_ ?_ _; rotate_left; (try simp) <;> omega) | (with_reducible refine Below.setCell ?_ ?_ _; rotate_left; (try simp) <;> omega)))) ((Nb.refl _ _).set _ _) (HZ4.out.set _ _) (yard_light ((HYW.out _ (by exact (by repeat (first | with_reducible exact Below.refl _ _ | with_reducible assumption | with_reducible refine Below.drew ?_ | with_reducible refine below_drewN ?_ _ | (with_reducible refine Below.alloc ?_ ?_ _; rotate_left; (try simp) <;> omega) | (with_reducible refine Below.setCell ?_ ?_ _; rotate_left; (try simp) <;> omega))))).more (by simp; omega)) hiw (by rw [HSE.out])) (small_light hs iw) (rel_light hiw)⟩
      · have z4 := HZ4.out
        have hy4 := HYW.out w4 hB4
        have x1 := z4.cell 27 hy4.dry
        have f1 := z4.fro 27
        clear z4 hy4
        generalize hse : Y.dry = se at *
        have HSE := Lib.hid hse; clear hse
        go_wp2
        go_meet
        case rel =>
        exact ⟨false, _, dryY Y iw, l, rfl, cutD_yard HP4 HL4 HO4 HTM HTW hlz hlt4 (by exact (by repeat (first | with_reducible exact Below.refl _ _ | with_reducible assumption | with_reducible refine Below.drew ?_ | with_reducible refine below_drewN ?_ _ | (with_reducible refine Below.alloc ?_ ?_ _; rotate_left; (try simp) <;> omega) | (with_reducible refine Below.setCell ?_ ?_ _; rotate_left; (try simp) <;> omega)))) ((Nb.refl _ _).set _ _) (HZ4.out.set _ _) (yard_dry ((HYW.out _ (by exact (by repeat (first | with_reducible exact Below.refl _ _ | with_reducible assumption | with_reducible refine Below.drew ?_ | with_reducible refine below_drewN ?_ _ | (with_reducible refine Below.alloc ?_ ?_ _; rotate_left; (try simp) <;> omega) | (with_reducible refine Below.setCell ?_ ?_ _; rotate_left; (try simp) <;> omega))))).more (by simp; omega)) (by rw [HSE.out])) (small_dry hs iw) (rel_dry hiw)⟩
      · have hyw := HYW.out w4 hB4
        obtain ⟨A5, k5, e5, L5⟩ := hyw.pi
        have xk := HK4.out.cell 25 e5
        have hiI0 : 0 ≤ (iw : Int) := by omega
        by_cases hge : Y.pi.length ≤ iw
        · have hgI : (Y.pi.length : Int) ≤ (iw : Int) := by omega
          clear hyw L5
          go_wp2_with (go_at_call 15; refine (HWO.out _).mono ?_; rintro e w5 ⟨rfl, hb5⟩; have hB5 : Below w.heap.size w w5 := hB4.trans (hb5.mono hB4.size))
          go_ret
          exact ⟨rfl, hB5⟩
        · have hi : iw < Y.pi.length := by omega
          have hiN : ¬ (Y.pi.length : Int) ≤ (iw : Int) := by omega
          have hiI : (iw : Int) < (Y.pi.length : Int) := by omega
          have hcap := HCP.out 25 (.inl rfl) _ _ _ e5
          obtain ⟨a5, hA5, hb5a, hl5⟩ := L5 (by intro e; have := congrArg List.length e; rw [pitsC_len] at this; simp at this; omega)
          subst hA5
          have hk1 : (iw : Int) ≤ (k5 : Int) := by omega
          have hk2 : (iw : Int) + 1 ≤ (Y.pi.length : Int) := by omega
          have hw0 : 0 ≤ (iw : Int) + 1 := by omega
          have hpl := hs.pi
          obtain ⟨a6, ha6, HD6⟩ := tail_rows (f := Pit.cells) (s := 3) (by decide) (fun _ => rfl) hl5 hi hcap
          have HA6 := Lib.hid ha6
          have HD6' := Lib.hid HD6
          obtain ⟨i1, hi1, hy0, hy1, hy2⟩ := info_parts info87
          have I1 := Lib.hid (And.intro hi1 (And.intro hy0 (And.intro hy1 hy2)))
          have hb6 : a6.block < w4.heap.size := by rw [HD6.1]; have := hB4.size; omega
          have hb5 : a5.block < w4.heap.size := by have := hB4.size; omega
          have HLA : Hid ((pitsC (Y.pi.take iw)).length = iw * 3) := by show _ = _; rw [pitsC_len, List.length_take, Nat.min_eq_left (by omega)]
          have HLB : Hid ((pitsC (Y.pi.drop (iw + 1))).length = (Y.pi.length - (iw + 1)) * 3) := by show _ = _; rw [pitsC_len, List.length_drop]
          have h63a : 0 + iw ≤ maxLen := by unfold maxLen; omega
          have h63b : 0 + iw + (Y.pi.length - (iw + 1)) ≤ maxLen := by unfold maxLen; omega
          have hbya : (0 + iw) * 24 ≤ 140737488355328 := by omega
          have hbyb : (0 + iw + (Y.pi.length - (iw + 1))) * 24 ≤ 140737488355328 := by omega
          have hwl : w.heap.size < w4.heap.size := by omega
          have hne : w2.heap.size + 1 ≠ w.heap.size := by omega
          have hHZ : ∀ W : World, Below w4.heap.size w4 W → W.cell? ⟨w.heap.size, 25, none⟩ = some (.slice (some a5) Y.pi.length k5) := fun W hb => (hb.cell hwl).trans xk
          have hHY := Lib.hid hHZ
          have hown4 : ((w4.alloc (.cells #[] 87)).drew).ownsRow w4.heap.size 87 3 (.slice (some ⟨w4.heap.size, 0, none⟩) 0 0) 0 [] := (World.ownsRow_made w4 #[] 0 (Nat.le_refl _) (Nat.zero_le _) rfl).drew
          have hB4a : Below w4.heap.size w4 (w4.alloc (.cells #[] 87)).drew := ((Below.refl _ _).alloc (Nat.le_refl _) _).drew
          have hz4a : w4.heap.size ≤ (w4.alloc (.cells #[] 87)).drew.heap.size := hB4a.size
          have HNE := Lib.hid hne
          clear hHZ HD6 ha6 hi1 hy0 hy1 hy2 hwl hne
          have HL5 := Lib.hid hl5
          have HE5 := Lib.hid e5
          have hw1 : IntKind.i64.wrap ((iw : Int) + 1) = (iw : Int) + 1 := IntWalk.i64_in _ (by omega)
          clear hyw L5 hl5 e5
          go_upto_region 25 with fail
          refine wp_region_held_drew (S := (fun w' => w'.cell? ⟨w.heap.size, 25, none⟩ = some (.slice (some a5) Y.pi.length k5))) (by kernel_rfl) ?_ (fun hHeld => ?_)
          · exact xk
          refine tk 1 101 ?_
          refine tk 2 102 ?_
          refine tk 3 103 ?_
          refine tk 4 104 ?_
          refine tk 6 106 ?_
          refine tk 7 107 ?_
          refine tk 8 108 ?_
          refine tk 9 109 ?_
          refine tk 10 110 ?_
          rw [HA6.out]
          refine held_one 0 ⟨some 100, .buildSlice 26 0 #[], 26, _, _, none⟩ rfl (by kernel_rfl) (by rfl) ?_
          unfold Oper.wp
          go_simp
          refine ⟨hHY.out _ ((Below.refl _ _).alloc (Nat.le_refl _) _), ?_⟩
          (try simp only [Act.put, List.setIfInBounds_toArray, List.set_cons_zero, List.set_cons_succ])
          refine held_one 5 ⟨some 105, .call { callee := .builtin .append, args := #[.tmp 100, .tmp 104], argTypes := #[26, 26] }, 26, _, _, none⟩ rfl (by kernel_rfl) (by rfl) ?_
          refine wp_append_own _ (.tmp 100) (.tmp 104) 26 rfl w4.heap.size 87 i1 (.agg #[.int .i64 0, .int .i64 0, .int .i64 0]) 3 24 Try.underlying26 I1.out.1 I1.out.2.1 I1.out.2.2.1 I1.out.2.2.2 rfl (by decide) (.slice (some ⟨w4.heap.size, 0, none⟩) 0 0) 0 [] rfl hown4 a5 iw k5 (pitsC (Y.pi.take iw)) rfl HLA.out (fun j u hj => (hB4a.cell (by rw [add_block]; exact hb5)).trans (HL5.out j u (head_rows (f := Pit.cells) (s := 3) (fun _ => rfl) hj))) (one_pits _) h63a hbya hz4a ?_
          intro v5 w5 hown5 hg5 _
          have hB45 : Below w4.heap.size w4 w5 := below_own hB4a hown4 hg5 (Nat.le_refl _) hz4a
          refine ⟨hHY.out _ hB45, ?_⟩
          (try simp only [Act.put, List.setIfInBounds_toArray, List.set_cons_zero, List.set_cons_succ])
          have hz45 := hB45.size
          refine held_one 11 ⟨some 111, .call { callee := .builtin .append, args := #[.tmp 105, .tmp 110], argTypes := #[26, 26] }, 26, _, _, none⟩ rfl (by kernel_rfl) (by rfl) ?_
          refine wp_append_own _ (.tmp 105) (.tmp 110) 26 rfl w4.heap.size 87 i1 (.agg #[.int .i64 0, .int .i64 0, .int .i64 0]) 3 24 Try.underlying26 I1.out.1 I1.out.2.1 I1.out.2.2.1 I1.out.2.2.2 rfl (by decide) v5 (0 + iw) _ rfl hown5 a6 (Y.pi.length - (iw + 1)) (k5 - (iw + 1)) (pitsC (Y.pi.drop (iw + 1))) rfl HLB.out (fun j u hj => (hB45.cell (by rw [add_block]; exact hb6)).trans (HD6'.out.2 j u hj)) (one_pits _) h63b hbyb hz45 ?_
          intro v6 w6 hown6 hg6 _
          have hB46 : Below w4.heap.size w4 w6 := below_own hB45 hown5 hg6 (Nat.le_refl _) hz45
          refine ⟨hHY.out _ hB46, ?_⟩
          (try simp only [Act.put, List.setIfInBounds_toArray, List.set_cons_zero, List.set_cons_succ])
          have hz46 := hB46.size
          obtain ⟨A9, c9, rfl, _, _⟩ := ownsSlice hown6
          have hZ6 : Bk w6 (w2.heap.size + 1) 29 C := HZ4.out.below hB46 hlt4
          have z6 := hZ6.cell 25 HE5.out
          have f6 := hZ6.fro 25
          have hS6 := hHY.out _ hB46
          have HS6 := Lib.hid hS6
          refine tk 12 112 ?_
          clear hS6
          refine held_one 13 ⟨none, .store 26 (.tmp 112) (.tmp 111), _, _, _, none⟩ rfl (by kernel_rfl) (by rfl) ?_
          unfold Oper.wp
          go_simp
          refine ⟨by first | exact HS6.out | (rw [World.cell?_setCell_far _ _ _ _ HNE.out]; exact HS6.out), ?_⟩
          (try simp only [Act.put, List.setIfInBounds_toArray, List.set_cons_zero, List.set_cons_succ])
          refine wpAnyH_done (by kernel_rfl) ?_ _
          have hB6 : Below w.heap.size w w6 := hB4.trans (hB46.mono hB4.size)
          have hrow := ownsRow_lies hown6
          have hge6 := fun ad e => own_ge hown6 ad e
          clear hHeld hg5 hg6 hown4 hown5 hown6
          go_wp2
          go_meet
          case rel =>
          have hNb := (Nb.refl w4 (w2.heap.size + 1)).step hB46
          have hlen : iw + (Y.pi.length - (iw + 1)) = (Y.pi.take iw ++ Y.pi.drop (iw + 1)).length := by simp; omega
          refine ⟨false, _, pitY Y iw, l, rfl, cutD_yard HP4 HL4 HO4 HTM HTW hlz hlt4 (by exact (by repeat (first | with_reducible exact Below.refl _ _ | with_reducible assumption | with_reducible refine Below.drew ?_ | with_reducible refine below_drewN ?_ _ | (with_reducible refine Below.alloc ?_ ?_ _; rotate_left; (try simp) <;> omega) | (with_reducible refine Below.setCell ?_ ?_ _; rotate_left; (try simp) <;> omega)))) (hNb.set _ _) (hZ6.set _ _) (yard_pit ((HYW.out _ (by exact (by repeat (first | with_reducible exact Below.refl _ _ | with_reducible assumption | with_reducible refine Below.drew ?_ | with_reducible refine below_drewN ?_ _ | (with_reducible refine Below.alloc ?_ ?_ _; rotate_left; (try simp) <;> omega) | (with_reducible refine Below.setCell ?_ ?_ _; rotate_left; (try simp) <;> omega))))).more (by simp; omega)) ?_ hlen) (small_pit hs iw) rel_pit⟩
          rw [List.nil_append] at hrow
          have hr2 : Lies w6 w6.heap.size A9 (pitsC (Y.pi.take iw ++ Y.pi.drop (iw + 1))) := by unfold pitsC at hrow ⊢; rw [List.flatMap_append]; exact hrow
          exact (far_setCells (w2.heap.size + 1) [_] 25 w6).lies (hr2.more (by simp [World.setCells, World.setCell])) (fun ad e => by have := hge6 ad e; omega)
      · have hyw := HYW.out w4 hB4
        obtain ⟨A5, k5, e5, L5⟩ := hyw.ma
        have xk := HK4.out.cell 26 e5
        have hiI0 : 0 ≤ (iw : Int) := by omega
        by_cases hge : Y.ma.length ≤ iw
        · have hgI : (Y.ma.length : Int) ≤ (iw : Int) := by omega
          clear hyw L5
          go_wp2_with (go_at_call 15; refine (HWO.out _).mono ?_; rintro e w5 ⟨rfl, hb5⟩; have hB5 : Below w.heap.size w w5 := hB4.trans (hb5.mono hB4.size))
          go_ret
          exact ⟨rfl, hB5⟩
        · have hi : iw < Y.ma.length := by omega
          have hiN : ¬ (Y.ma.length : Int) ≤ (iw : Int) := by omega
          have hiI : (iw : Int) < (Y.ma.length : Int) := by omega
          have hcap := HCP.out 26 (.inr rfl) _ _ _ e5
          obtain ⟨a5, hA5, hb5a, hl5⟩ := L5 (by intro e; have := congrArg List.length e; rw [massC_len] at this; simp at this; omega)
          subst hA5
          have hk1 : (iw : Int) ≤ (k5 : Int) := by omega
          have hk2 : (iw : Int) + 1 ≤ (Y.ma.length : Int) := by omega
          have hw0 : 0 ≤ (iw : Int) + 1 := by omega
          have hpl := hs.ma
          obtain ⟨a6, ha6, HD6⟩ := tail_rows (f := Mas.cells) (s := 4) (by decide) (fun _ => rfl) hl5 hi hcap
          have HA6 := Lib.hid ha6
          have HD6' := Lib.hid HD6
          obtain ⟨i1, hi1, hy0, hy1, hy2⟩ := info_parts info78
          have I1 := Lib.hid (And.intro hi1 (And.intro hy0 (And.intro hy1 hy2)))
          have hb6 : a6.block < w4.heap.size := by rw [HD6.1]; have := hB4.size; omega
          have hb5 : a5.block < w4.heap.size := by have := hB4.size; omega
          have HLA : Hid ((massC (Y.ma.take iw)).length = iw * 4) := by show _ = _; rw [massC_len, List.length_take, Nat.min_eq_left (by omega)]
          have HLB : Hid ((massC (Y.ma.drop (iw + 1))).length = (Y.ma.length - (iw + 1)) * 4) := by show _ = _; rw [massC_len, List.length_drop]
          have h63a : 0 + iw ≤ maxLen := by unfold maxLen; omega
          have h63b : 0 + iw + (Y.ma.length - (iw + 1)) ≤ maxLen := by unfold maxLen; omega
          have hbya : (0 + iw) * 40 ≤ 140737488355328 := by omega
          have hbyb : (0 + iw + (Y.ma.length - (iw + 1))) * 40 ≤ 140737488355328 := by omega
          have hwl : w.heap.size < w4.heap.size := by omega
          have hne : w2.heap.size + 1 ≠ w.heap.size := by omega
          have hHZ : ∀ W : World, Below w4.heap.size w4 W → W.cell? ⟨w.heap.size, 26, none⟩ = some (.slice (some a5) Y.ma.length k5) := fun W hb => (hb.cell hwl).trans xk
          have hHY := Lib.hid hHZ
          have hown4 : ((w4.alloc (.cells #[] 78)).drew).ownsRow w4.heap.size 78 4 (.slice (some ⟨w4.heap.size, 0, none⟩) 0 0) 0 [] := (World.ownsRow_made w4 #[] 0 (Nat.le_refl _) (Nat.zero_le _) rfl).drew
          have hB4a : Below w4.heap.size w4 (w4.alloc (.cells #[] 78)).drew := ((Below.refl _ _).alloc (Nat.le_refl _) _).drew
          have hz4a : w4.heap.size ≤ (w4.alloc (.cells #[] 78)).drew.heap.size := hB4a.size
          have HNE := Lib.hid hne
          clear hHZ HD6 ha6 hi1 hy0 hy1 hy2 hwl hne
          have HL5 := Lib.hid hl5
          have HE5 := Lib.hid e5
          have hw1 : IntKind.i64.wrap ((iw : Int) + 1) = (iw : Int) + 1 := IntWalk.i64_in _ (by omega)
          clear hyw L5 hl5 e5
          go_upto_region 29 with fail
          refine wp_region_held_drew (S := (fun w' => w'.cell? ⟨w.heap.size, 26, none⟩ = some (.slice (some a5) Y.ma.length k5))) (by kernel_rfl) ?_ (fun hHeld => ?_)
          · exact xk
          refine tk 1 122 ?_
          refine tk 2 123 ?_
          refine tk 3 124 ?_
          refine tk 4 125 ?_
          refine tk 6 127 ?_
          refine tk 7 128 ?_
          refine tk 8 129 ?_
          refine tk 9 130 ?_
          refine tk 10 131 ?_
          rw [HA6.out]
          refine held_one 0 ⟨some 121, .buildSlice 27 0 #[], 27, _, _, none⟩ rfl (by kernel_rfl) (by rfl) ?_
          unfold Oper.wp
          go_simp
          refine ⟨hHY.out _ ((Below.refl _ _).alloc (Nat.le_refl _) _), ?_⟩
          (try simp only [Act.put, List.setIfInBounds_toArray, List.set_cons_zero, List.set_cons_succ])
          refine held_one 5 ⟨some 126, .call { callee := .builtin .append, args := #[.tmp 121, .tmp 125], argTypes := #[27, 27] }, 27, _, _, none⟩ rfl (by kernel_rfl) (by rfl) ?_
          refine wp_append_own _ (.tmp 121) (.tmp 125) 27 rfl w4.heap.size 78 i1 (.agg #[.string ByteArray.empty, .int .i64 0, .int .i64 0, .int .i64 0]) 4 40 Try.underlying27 I1.out.1 I1.out.2.1 I1.out.2.2.1 I1.out.2.2.2 rfl (by decide) (.slice (some ⟨w4.heap.size, 0, none⟩) 0 0) 0 [] rfl hown4 a5 iw k5 (massC (Y.ma.take iw)) rfl HLA.out (fun j u hj => (hB4a.cell (by rw [add_block]; exact hb5)).trans (HL5.out j u (head_rows (f := Mas.cells) (s := 4) (fun _ => rfl) hj))) (one_mass _) h63a hbya hz4a ?_
          intro v5 w5 hown5 hg5 _
          have hB45 : Below w4.heap.size w4 w5 := below_own hB4a hown4 hg5 (Nat.le_refl _) hz4a
          refine ⟨hHY.out _ hB45, ?_⟩
          (try simp only [Act.put, List.setIfInBounds_toArray, List.set_cons_zero, List.set_cons_succ])
          have hz45 := hB45.size
          refine held_one 11 ⟨some 132, .call { callee := .builtin .append, args := #[.tmp 126, .tmp 131], argTypes := #[27, 27] }, 27, _, _, none⟩ rfl (by kernel_rfl) (by rfl) ?_
          refine wp_append_own _ (.tmp 126) (.tmp 131) 27 rfl w4.heap.size 78 i1 (.agg #[.string ByteArray.empty, .int .i64 0, .int .i64 0, .int .i64 0]) 4 40 Try.underlying27 I1.out.1 I1.out.2.1 I1.out.2.2.1 I1.out.2.2.2 rfl (by decide) v5 (0 + iw) _ rfl hown5 a6 (Y.ma.length - (iw + 1)) (k5 - (iw + 1)) (massC (Y.ma.drop (iw + 1))) rfl HLB.out (fun j u hj => (hB45.cell (by rw [add_block]; exact hb6)).trans (HD6'.out.2 j u hj)) (one_mass _) h63b hbyb hz45 ?_
          intro v6 w6 hown6 hg6 _
          have hB46 : Below w4.heap.size w4 w6 := below_own hB45 hown5 hg6 (Nat.le_refl _) hz45
          refine ⟨hHY.out _ hB46, ?_⟩
          (try simp only [Act.put, List.setIfInBounds_toArray, List.set_cons_zero, List.set_cons_succ])
          have hz46 := hB46.size
          obtain ⟨A9, c9, rfl, _, _⟩ := ownsSlice hown6
          have hZ6 : Bk w6 (w2.heap.size + 1) 29 C := HZ4.out.below hB46 hlt4
          have z6 := hZ6.cell 26 HE5.out
          have f6 := hZ6.fro 26
          have hS6 := hHY.out _ hB46
          have HS6 := Lib.hid hS6
          refine tk 12 133 ?_
          clear hS6
          refine held_one 13 ⟨none, .store 27 (.tmp 133) (.tmp 132), _, _, _, none⟩ rfl (by kernel_rfl) (by rfl) ?_
          unfold Oper.wp
          go_simp
          refine ⟨by first | exact HS6.out | (rw [World.cell?_setCell_far _ _ _ _ HNE.out]; exact HS6.out), ?_⟩
          (try simp only [Act.put, List.setIfInBounds_toArray, List.set_cons_zero, List.set_cons_succ])
          refine wpAnyH_done (by kernel_rfl) ?_ _
          have hB6 : Below w.heap.size w w6 := hB4.trans (hB46.mono hB4.size)
          have hrow := ownsRow_lies hown6
          have hge6 := fun ad e => own_ge hown6 ad e
          clear hHeld hg5 hg6 hown4 hown5 hown6
          go_wp2
          go_meet
          case rel =>
          have hNb := (Nb.refl w4 (w2.heap.size + 1)).step hB46
          have hlen : iw + (Y.ma.length - (iw + 1)) = (Y.ma.take iw ++ Y.ma.drop (iw + 1)).length := by simp; omega
          refine ⟨false, _, masY Y iw, l, rfl, cutD_yard HP4 HL4 HO4 HTM HTW hlz hlt4 (by exact (by repeat (first | with_reducible exact Below.refl _ _ | with_reducible assumption | with_reducible refine Below.drew ?_ | with_reducible refine below_drewN ?_ _ | (with_reducible refine Below.alloc ?_ ?_ _; rotate_left; (try simp) <;> omega) | (with_reducible refine Below.setCell ?_ ?_ _; rotate_left; (try simp) <;> omega)))) (hNb.set _ _) (hZ6.set _ _) (yard_mas ((HYW.out _ (by exact (by repeat (first | with_reducible exact Below.refl _ _ | with_reducible assumption | with_reducible refine Below.drew ?_ | with_reducible refine below_drewN ?_ _ | (with_reducible refine Below.alloc ?_ ?_ _; rotate_left; (try simp) <;> omega) | (with_reducible refine Below.setCell ?_ ?_ _; rotate_left; (try simp) <;> omega))))).more (by simp; omega)) ?_ hlen) (small_mas hs iw) rel_mas⟩
          rw [List.nil_append] at hrow
          have hr2 : Lies w6 w6.heap.size A9 (massC (Y.ma.take iw ++ Y.ma.drop (iw + 1))) := by unfold massC at hrow ⊢; rw [List.flatMap_append]; exact hrow
          exact (far_setCells (w2.heap.size + 1) [_] 26 w6).lies (hr2.more (by simp [World.setCells, World.setCell])) (fun ad e => by have := hge6 ad e; omega)
      · by_cases hge : l.length ≤ iw
        · have hgI : (l.length : Int) ≤ (iw : Int) := by omega
          go_wp2_with (go_at_call 15; refine (HWO.out _).mono ?_; rintro e w5 ⟨rfl, hb5⟩; have hB5 : Below w.heap.size w w5 := hB4.trans (hb5.mono hB4.size))
          go_ret
          exact ⟨rfl, hB5⟩
        · have hi : iw < l.length := by omega
          have hiI : (iw : Int) < (l.length : Int) := by omega
          have hiN : ¬ (l.length : Int) ≤ (iw : Int) := by omega
          have hi0 : 0 ≤ (iw : Int) := by omega
          obtain ⟨g4, R4, hA4, hg4, hR4, _⟩ := own_bk HO4.out (by omega)
          obtain ⟨a4, e4, _, x1, _⟩ := task_at (ownsRow_lies HO4.out) hi
          rw [hA4] at e4
          cases e4
          subst hA4
          rw [addr0] at x1
          have f1 := hR4.fro (iw * 4)
          generalize hwk : l[iw].work = wk at *
          have HWK := Lib.hid hwk; clear hwk hR4
          go_wp2
          go_meet
          case rel =>
          refine ⟨true, _, Y, lessL l iw, rfl, cutD_less (iw := iw) HP4 HL4 HO4 HTM HTW HYW HZ4 hlz hlt4 hs hB4 (by omega) hi rfl (by rw [HWK.out]) (addr0 _ _).symm⟩
    case rest =>
      obtain ⟨less, C', Y', l', rfl, hD⟩ := hcut
      have hB5 := hD.bw
      have hz5 := hB5.size
      have HDD := Lib.hid hD
      have HEB := Lib.hid (fun W (hb : Below wc.heap.size wc W) => earliest_any C' Y' l' A4 c4 f W ((hD.yat.below hb (Nat.le_refl _)).more hb.size) hD.small ((hD.tat.below hb (Nat.le_refl _)).more hb.size) hD.tame)
      rw [hD.len] at HEB
      have HR := Lib.hid hD.rel
      have HC5 := Lib.hid hD.yat.len
      have hK5 := hD.blk
      have hP5 := hD.pln
      have hlp5 := hP5.lt
      have x5 := hP5.cell 0 rfl
      have HLW := Lib.hid (fun W (hb : Below wc.heap.size wc W) => (hD.lies.below hb (Nat.le_refl _)).more hb.size)
      have HE1 := Lib.hid (fun h : earE Y l f = 0 ∨ earE Y l f = 70 => earE_two h)
      have HE2 := Lib.hid (fun h : earE Y' l' f = 0 ∨ earE Y' l' f = 70 => earE_two h)
      have HU := Lib.hid (fun (h : Harder Y' l' Y l) h1 h2 h3 => harder_plans (f := f) h h1 h2 h3)
      have HV := Lib.hid (fun (h : Harder Y l Y' l') h1 h2 h3 => harder_plans (f := f) h h1 h2 h3)
      have HRR : Hid (begE Y l f = 0 → begE Y' l' f = 0 → if less = true then Harder Y' l' Y l else Harder Y l Y' l') := HR.out
      generalize earE Y l f = e1 at *
      generalize earE Y' l' f = e2 at *
      generalize earP Y l f = P1 at *
      generalize earP Y' l' f = P2 at *
      clear hD HR
      rcases (show e1 = 0 ∨ e1 = 70 ∨ (e1 ≠ 0 ∧ e1 ≠ 70) by omega) with rfl | rfl | hx
      · have hb1 := HE1.out (by decide)
        clear HE1
        rcases (show e2 = 0 ∨ e2 = 70 ∨ (e2 ≠ 0 ∧ e2 ≠ 70) by omega) with rfl | rfl | hy
        · have hb2 := HE2.out (by decide)
          have hrr := HRR.out hb1 hb2
          clear HE2 HRR
          cases less with
          | true =>
            rw [if_pos rfl] at hrr
            obtain ⟨hz1, _, hle1, hle3, hle⟩ := HU.out hrr hb2 hb1 (by decide)
            have HLQ : Hid (P2.length = P1.length) := hle1
            have HLE := Lib.hid hle
            clear hle hrr HU HV hz1 hle1
            have hle1 := hle3
            go_wp2_with (first | (have h9 := hK5; clear h9; refine wpList_load_guard (P := Try.prog) (by rfl) 29 (.tmp 15) rfl (w2.heap.size + 1) 0 rfl C'.toList _ hK5.range Try.underlying29 rfl (by rw [HC5.out]; exact info29) ?_) | (go_at_call 24; refine (HEB.out _ (Below.refl _ _)).mono ?_; rintro e w6 ⟨v6, rfl, ho6, hb6⟩; obtain ⟨A6, c6, rfl, _, _⟩ := ownsSlice ho6; have hB6 : Below w.heap.size w w6 := hB5.trans (hb6.mono hz5); have hz6 := hB6.size; have h56 := hb6.size; have hl6 := ownsRow_lies ho6; have p6 := hP5.below hb6 hlp5; have x6 := p6.cell 0 rfl; clear hK5 ho6 x5) | (go_at_call 15; refine (HWO.out _).mono ?_; rintro e w7 ⟨rfl, hb7⟩; have hB7 : Below w.heap.size w w7 := Below.trans (by exact (by repeat (first | with_reducible exact Below.refl _ _ | with_reducible assumption | with_reducible refine Below.drew ?_ | with_reducible refine below_drewN ?_ _ | (with_reducible refine Below.alloc ?_ ?_ _; rotate_left; (try simp) <;> omega) | (with_reducible refine Below.setCell ?_ ?_ _; rotate_left; (try simp) <;> omega)))) (hb7.mono (by simp; omega)); have hB57 : Below wc.heap.size wc w7 := Below.trans (by exact (by repeat (first | with_reducible exact Below.refl _ _ | with_reducible assumption | with_reducible refine Below.drew ?_ | with_reducible refine below_drewN ?_ _ | (with_reducible refine Below.alloc ?_ ?_ _; rotate_left; (try simp) <;> omega) | (with_reducible refine Below.setCell ?_ ?_ _; rotate_left; (try simp) <;> omega))) : Below wc.heap.size wc (w6.alloc (.cells #[.slice A6 P2.length c6] 42))) (hb7.mono (by simp; omega)); have p7 := Bk.below (by exact (by repeat (first | with_reducible assumption | with_reducible exact Bk.new _ _ _ | with_reducible refine Bk.drew ?_ | with_reducible refine Bk.drewN ?_ _ | with_reducible refine Bk.alloc ?_ _ | (with_reducible refine Bk.far ?_ ?_ _; rotate_left; (try simp) <;> omega))) : Bk (w6.alloc (.cells #[.slice A6 P2.length c6] 42)) w2.heap.size 42 #[.slice A2 P1.length c2]) hb7 (by simp; omega); have q7 := Bk.below (Bk.new w6 42 #[.slice A6 P2.length c6]) hb7 (by simp); have x7 := p7.cell 0 rfl; have y7 := q7.cell 0 rfl; have hm7 : Lies w7 w7.heap.size A6 (turnsC P2) := ((hl6.below (by exact (by repeat (first | with_reducible exact Below.refl _ _ | with_reducible assumption | with_reducible refine Below.drew ?_ | with_reducible refine below_drewN ?_ _ | (with_reducible refine Below.alloc ?_ ?_ _; rotate_left; (try simp) <;> omega) | (with_reducible refine Below.setCell ?_ ?_ _; rotate_left; (try simp) <;> omega))) : Below w6.heap.size w6 (w6.alloc (.cells #[.slice A6 P2.length c6] 42))) (Nat.le_refl _)).below (hb7.mono (by simp)) (Nat.le_refl _)).more (by have := hb7.size; simp at this; omega); have hn7 := HLW.out w7 hB57; clear hb7) | (go_at_call 25; refine (later_yes P1 P2 A2 A6 c2 c6 w7 hn7 hm7 hle1 HLQ.out (fun k a b => HLE.out k a b)).mono ?_; rintro e w8 ⟨rfl, hb8⟩; have hB8 : Below w.heap.size w w8 := hB7.trans (hb8.mono hB7.size)))
            go_ret
            exact ⟨rfl, hB8⟩
          | false =>
            rw [if_neg (by decide)] at hrr
            obtain ⟨hz1, _, hle1, hle3, hle⟩ := HV.out hrr hb1 hb2 (by decide)
            have HLQ : Hid (P1.length = P2.length) := hle1
            have HLE := Lib.hid hle
            clear hle hrr HU HV hz1 hle1
            have hle1 := hle3
            go_wp2_with (first | (have h9 := hK5; clear h9; refine wpList_load_guard (P := Try.prog) (by rfl) 29 (.tmp 15) rfl (w2.heap.size + 1) 0 rfl C'.toList _ hK5.range Try.underlying29 rfl (by rw [HC5.out]; exact info29) ?_) | (go_at_call 24; refine (HEB.out _ (Below.refl _ _)).mono ?_; rintro e w6 ⟨v6, rfl, ho6, hb6⟩; obtain ⟨A6, c6, rfl, _, _⟩ := ownsSlice ho6; have hB6 : Below w.heap.size w w6 := hB5.trans (hb6.mono hz5); have hz6 := hB6.size; have h56 := hb6.size; have hl6 := ownsRow_lies ho6; have p6 := hP5.below hb6 hlp5; have x6 := p6.cell 0 rfl; clear hK5 ho6 x5) | (go_at_call 15; refine (HWO.out _).mono ?_; rintro e w7 ⟨rfl, hb7⟩; have hB7 : Below w.heap.size w w7 := Below.trans (by exact (by repeat (first | with_reducible exact Below.refl _ _ | with_reducible assumption | with_reducible refine Below.drew ?_ | with_reducible refine below_drewN ?_ _ | (with_reducible refine Below.alloc ?_ ?_ _; rotate_left; (try simp) <;> omega) | (with_reducible refine Below.setCell ?_ ?_ _; rotate_left; (try simp) <;> omega)))) (hb7.mono (by simp; omega)); have hB57 : Below wc.heap.size wc w7 := Below.trans (by exact (by repeat (first | with_reducible exact Below.refl _ _ | with_reducible assumption | with_reducible refine Below.drew ?_ | with_reducible refine below_drewN ?_ _ | (with_reducible refine Below.alloc ?_ ?_ _; rotate_left; (try simp) <;> omega) | (with_reducible refine Below.setCell ?_ ?_ _; rotate_left; (try simp) <;> omega))) : Below wc.heap.size wc (w6.alloc (.cells #[.slice A6 P2.length c6] 42))) (hb7.mono (by simp; omega)); have p7 := Bk.below (by exact (by repeat (first | with_reducible assumption | with_reducible exact Bk.new _ _ _ | with_reducible refine Bk.drew ?_ | with_reducible refine Bk.drewN ?_ _ | with_reducible refine Bk.alloc ?_ _ | (with_reducible refine Bk.far ?_ ?_ _; rotate_left; (try simp) <;> omega))) : Bk (w6.alloc (.cells #[.slice A6 P2.length c6] 42)) w2.heap.size 42 #[.slice A2 P1.length c2]) hb7 (by simp; omega); have q7 := Bk.below (Bk.new w6 42 #[.slice A6 P2.length c6]) hb7 (by simp); have x7 := p7.cell 0 rfl; have y7 := q7.cell 0 rfl; have hm7 : Lies w7 w7.heap.size A6 (turnsC P2) := ((hl6.below (by exact (by repeat (first | with_reducible exact Below.refl _ _ | with_reducible assumption | with_reducible refine Below.drew ?_ | with_reducible refine below_drewN ?_ _ | (with_reducible refine Below.alloc ?_ ?_ _; rotate_left; (try simp) <;> omega) | (with_reducible refine Below.setCell ?_ ?_ _; rotate_left; (try simp) <;> omega))) : Below w6.heap.size w6 (w6.alloc (.cells #[.slice A6 P2.length c6] 42))) (Nat.le_refl _)).below (hb7.mono (by simp)) (Nat.le_refl _)).more (by have := hb7.size; simp at this; omega); have hn7 := HLW.out w7 hB57; clear hb7) | (go_at_call 25; refine (later_yes P2 P1 A6 A2 c6 c2 w7 hm7 hn7 hle1 HLQ.out (fun k a b => HLE.out k a b)).mono ?_; rintro e w8 ⟨rfl, hb8⟩; have hB8 : Below w.heap.size w w8 := hB7.trans (hb8.mono hB7.size)))
            go_ret
            exact ⟨rfl, hB8⟩
        · have hb2 := HE2.out (by decide)
          have hrr := HRR.out hb1 hb2
          clear HE2 HRR
          cases less with
          | true =>
            rw [if_pos rfl] at hrr
            obtain ⟨hz1, _, hle1, hle3, hle⟩ := HU.out hrr hb2 hb1 (by decide)
            cases hz1
          | false =>
            rw [if_neg (by decide)] at hrr
            clear HLW HU HV hrr
            go_wp2_with (first | (have h9 := hK5; clear h9; refine wpList_load_guard (P := Try.prog) (by rfl) 29 (.tmp 15) rfl (w2.heap.size + 1) 0 rfl C'.toList _ hK5.range Try.underlying29 rfl (by rw [HC5.out]; exact info29) ?_) | (go_at_call 24; refine (HEB.out _ (Below.refl _ _)).mono ?_; rintro e w6 ⟨v6, rfl, ho6, hb6⟩; obtain ⟨A6, c6, rfl, _, _⟩ := ownsSlice ho6; have hB6 : Below w.heap.size w w6 := hB5.trans (hb6.mono hz5); have hz6 := hB6.size; have h56 := hb6.size; have hl6 := ownsRow_lies ho6; have p6 := hP5.below hb6 hlp5; have x6 := p6.cell 0 rfl; clear hK5 ho6 x5) | (go_at_call 15; refine (HWO.out _).mono ?_; rintro e w7 ⟨rfl, hb7⟩; have hB7 : Below w.heap.size w w7 := Below.trans (by exact (by repeat (first | with_reducible exact Below.refl _ _ | with_reducible assumption | with_reducible refine Below.drew ?_ | with_reducible refine below_drewN ?_ _ | (with_reducible refine Below.alloc ?_ ?_ _; rotate_left; (try simp) <;> omega) | (with_reducible refine Below.setCell ?_ ?_ _; rotate_left; (try simp) <;> omega)))) (hb7.mono (by simp; omega))))
            go_ret
            exact ⟨rfl, hB7⟩
        · clear HLW HE2 HU HV HRR
          have ho1 : (e2 != 0) = true := by simpa using hy.1
          have ho2 : (e2 != 70) = true := by simpa using hy.2
          go_wp2_with (first | (have h9 := hK5; clear h9; refine wpList_load_guard (P := Try.prog) (by rfl) 29 (.tmp 15) rfl (w2.heap.size + 1) 0 rfl C'.toList _ hK5.range Try.underlying29 rfl (by rw [HC5.out]; exact info29) ?_) | (go_at_call 24; refine (HEB.out _ (Below.refl _ _)).mono ?_; rintro e w6 ⟨v6, rfl, ho6, hb6⟩; obtain ⟨A6, c6, rfl, _, _⟩ := ownsSlice ho6; have hB6 : Below w.heap.size w w6 := hB5.trans (hb6.mono hz5); have hz6 := hB6.size; have h56 := hb6.size; have hl6 := ownsRow_lies ho6; have p6 := hP5.below hb6 hlp5; have x6 := p6.cell 0 rfl; clear hK5 ho6 x5) | (go_at_call 15; refine (HWO.out _).mono ?_; rintro e w7 ⟨rfl, hb7⟩; have hB7 : Below w.heap.size w w7 := Below.trans (by exact (by repeat (first | with_reducible exact Below.refl _ _ | with_reducible assumption | with_reducible refine Below.drew ?_ | with_reducible refine below_drewN ?_ _ | (with_reducible refine Below.alloc ?_ ?_ _; rotate_left; (try simp) <;> omega) | (with_reducible refine Below.setCell ?_ ?_ _; rotate_left; (try simp) <;> omega)))) (hb7.mono (by simp; omega))))
          go_ret
          exact ⟨rfl, hB7⟩
      · have hb1 := HE1.out (by decide)
        clear HE1
        rcases (show e2 = 0 ∨ e2 = 70 ∨ (e2 ≠ 0 ∧ e2 ≠ 70) by omega) with rfl | rfl | hy
        · have hb2 := HE2.out (by decide)
          have hrr := HRR.out hb1 hb2
          clear HE2 HRR
          cases less with
          | true =>
            rw [if_pos rfl] at hrr
            clear HLW HU HV hrr
            go_wp2_with (first | (have h9 := hK5; clear h9; refine wpList_load_guard (P := Try.prog) (by rfl) 29 (.tmp 15) rfl (w2.heap.size + 1) 0 rfl C'.toList _ hK5.range Try.underlying29 rfl (by rw [HC5.out]; exact info29) ?_) | (go_at_call 24; refine (HEB.out _ (Below.refl _ _)).mono ?_; rintro e w6 ⟨v6, rfl, ho6, hb6⟩; obtain ⟨A6, c6, rfl, _, _⟩ := ownsSlice ho6; have hB6 : Below w.heap.size w w6 := hB5.trans (hb6.mono hz5); have hz6 := hB6.size; have h56 := hb6.size; have hl6 := ownsRow_lies ho6; have p6 := hP5.below hb6 hlp5; have x6 := p6.cell 0 rfl; clear hK5 ho6 x5) | (go_at_call 15; refine (HWO.out _).mono ?_; rintro e w7 ⟨rfl, hb7⟩; have hB7 : Below w.heap.size w w7 := Below.trans (by exact (by repeat (first | with_reducible exact Below.refl _ _ | with_reducible assumption | with_reducible refine Below.drew ?_ | with_reducible refine below_drewN ?_ _ | (with_reducible refine Below.alloc ?_ ?_ _; rotate_left; (try simp) <;> omega) | (with_reducible refine Below.setCell ?_ ?_ _; rotate_left; (try simp) <;> omega)))) (hb7.mono (by simp; omega))))
            go_ret
            exact ⟨rfl, hB7⟩
          | false =>
            rw [if_neg (by decide)] at hrr
            obtain ⟨hz1, _, hle1, hle3, hle⟩ := HV.out hrr hb1 hb2 (by decide)
            cases hz1
        · have hb2 := HE2.out (by decide)
          have hrr := HRR.out hb1 hb2
          clear HE2 HRR
          cases less with
          | true =>
            rw [if_pos rfl] at hrr
            clear HLW HU HV hrr
            go_wp2_with (first | (have h9 := hK5; clear h9; refine wpList_load_guard (P := Try.prog) (by rfl) 29 (.tmp 15) rfl (w2.heap.size + 1) 0 rfl C'.toList _ hK5.range Try.underlying29 rfl (by rw [HC5.out]; exact info29) ?_) | (go_at_call 24; refine (HEB.out _ (Below.refl _ _)).mono ?_; rintro e w6 ⟨v6, rfl, ho6, hb6⟩; obtain ⟨A6, c6, rfl, _, _⟩ := ownsSlice ho6; have hB6 : Below w.heap.size w w6 := hB5.trans (hb6.mono hz5); have hz6 := hB6.size; have h56 := hb6.size; have hl6 := ownsRow_lies ho6; have p6 := hP5.below hb6 hlp5; have x6 := p6.cell 0 rfl; clear hK5 ho6 x5) | (go_at_call 15; refine (HWO.out _).mono ?_; rintro e w7 ⟨rfl, hb7⟩; have hB7 : Below w.heap.size w w7 := Below.trans (by exact (by repeat (first | with_reducible exact Below.refl _ _ | with_reducible assumption | with_reducible refine Below.drew ?_ | with_reducible refine below_drewN ?_ _ | (with_reducible refine Below.alloc ?_ ?_ _; rotate_left; (try simp) <;> omega) | (with_reducible refine Below.setCell ?_ ?_ _; rotate_left; (try simp) <;> omega)))) (hb7.mono (by simp; omega))))
            go_ret
            exact ⟨rfl, hB7⟩
          | false =>
            rw [if_neg (by decide)] at hrr
            clear HLW HU HV hrr
            go_wp2_with (first | (have h9 := hK5; clear h9; refine wpList_load_guard (P := Try.prog) (by rfl) 29 (.tmp 15) rfl (w2.heap.size + 1) 0 rfl C'.toList _ hK5.range Try.underlying29 rfl (by rw [HC5.out]; exact info29) ?_) | (go_at_call 24; refine (HEB.out _ (Below.refl _ _)).mono ?_; rintro e w6 ⟨v6, rfl, ho6, hb6⟩; obtain ⟨A6, c6, rfl, _, _⟩ := ownsSlice ho6; have hB6 : Below w.heap.size w w6 := hB5.trans (hb6.mono hz5); have hz6 := hB6.size; have h56 := hb6.size; have hl6 := ownsRow_lies ho6; have p6 := hP5.below hb6 hlp5; have x6 := p6.cell 0 rfl; clear hK5 ho6 x5) | (go_at_call 15; refine (HWO.out _).mono ?_; rintro e w7 ⟨rfl, hb7⟩; have hB7 : Below w.heap.size w w7 := Below.trans (by exact (by repeat (first | with_reducible exact Below.refl _ _ | with_reducible assumption | with_reducible refine Below.drew ?_ | with_reducible refine below_drewN ?_ _ | (with_reducible refine Below.alloc ?_ ?_ _; rotate_left; (try simp) <;> omega) | (with_reducible refine Below.setCell ?_ ?_ _; rotate_left; (try simp) <;> omega)))) (hb7.mono (by simp; omega))))
            go_ret
            exact ⟨rfl, hB7⟩
        · clear HLW HE2 HU HV HRR
          have ho1 : (e2 != 0) = true := by simpa using hy.1
          have ho2 : (e2 != 70) = true := by simpa using hy.2
          go_wp2_with (first | (have h9 := hK5; clear h9; refine wpList_load_guard (P := Try.prog) (by rfl) 29 (.tmp 15) rfl (w2.heap.size + 1) 0 rfl C'.toList _ hK5.range Try.underlying29 rfl (by rw [HC5.out]; exact info29) ?_) | (go_at_call 24; refine (HEB.out _ (Below.refl _ _)).mono ?_; rintro e w6 ⟨v6, rfl, ho6, hb6⟩; obtain ⟨A6, c6, rfl, _, _⟩ := ownsSlice ho6; have hB6 : Below w.heap.size w w6 := hB5.trans (hb6.mono hz5); have hz6 := hB6.size; have h56 := hb6.size; have hl6 := ownsRow_lies ho6; have p6 := hP5.below hb6 hlp5; have x6 := p6.cell 0 rfl; clear hK5 ho6 x5) | (go_at_call 15; refine (HWO.out _).mono ?_; rintro e w7 ⟨rfl, hb7⟩; have hB7 : Below w.heap.size w w7 := Below.trans (by exact (by repeat (first | with_reducible exact Below.refl _ _ | with_reducible assumption | with_reducible refine Below.drew ?_ | with_reducible refine below_drewN ?_ _ | (with_reducible refine Below.alloc ?_ ?_ _; rotate_left; (try simp) <;> omega) | (with_reducible refine Below.setCell ?_ ?_ _; rotate_left; (try simp) <;> omega)))) (hb7.mono (by simp; omega))))
          go_ret
          exact ⟨rfl, hB7⟩
      · clear HLW HE1 HE2 HU HV HRR
        have ho1 : (e1 != 0) = true := by simpa using hx.1
        have ho2 : (e1 != 70) = true := by simpa using hx.2
        go_wp2_with (first | (have h9 := hK5; clear h9; refine wpList_load_guard (P := Try.prog) (by rfl) 29 (.tmp 15) rfl (w2.heap.size + 1) 0 rfl C'.toList _ hK5.range Try.underlying29 rfl (by rw [HC5.out]; exact info29) ?_) | (go_at_call 24; refine (HEB.out _ (Below.refl _ _)).mono ?_; rintro e w6 ⟨v6, rfl, ho6, hb6⟩; obtain ⟨A6, c6, rfl, _, _⟩ := ownsSlice ho6; have hB6 : Below w.heap.size w w6 := hB5.trans (hb6.mono hz5); have hz6 := hB6.size; have h56 := hb6.size; have hl6 := ownsRow_lies ho6; have p6 := hP5.below hb6 hlp5; have x6 := p6.cell 0 rfl; clear hK5 ho6 x5) | (go_at_call 15; refine (HWO.out _).mono ?_; rintro e w7 ⟨rfl, hb7⟩; have hB7 : Below w.heap.size w w7 := Below.trans (by exact (by repeat (first | with_reducible exact Below.refl _ _ | with_reducible assumption | with_reducible refine Below.drew ?_ | with_reducible refine below_drewN ?_ _ | (with_reducible refine Below.alloc ?_ ?_ _; rotate_left; (try simp) <;> omega) | (with_reducible refine Below.setCell ?_ ?_ _; rotate_left; (try simp) <;> omega)))) (hb7.mono (by simp; omega))))
        go_ret
        exact ⟨rfl, hB7⟩
end Go.Proofs.Ytjgnikmnadmheaa

namespace Go.Proofs.Ytjgnikmnadmheaa
open Go.ChangeShapes Go.WideShapes Go.ChangeAt Go.RowKit Go.Deep

section
variable {H : Type} {enc : TypeId × Value → H} {W : World} {sp : Nat → Bool} {hd : Bool}
theorem cap_slice {t e : TypeId} {n : Nat} {c : Value} {x : DataW H × List MemPlace} (ht : Try.prog.underlying t = some (.slice e)) (h : DataW.trod enc Try.prog W 0 sp hd n t [c] = some x) (A : Option Addr) (k m : Nat) (hc : c = .slice A k m) : k ≤ m := by
  rcases open_slice ht h with ⟨hc', _⟩ | ⟨a, len, cap, m', n', D, Pl, hc', hb, hl, _⟩
  · rw [hc] at hc'; cases hc'; exact Nat.le_refl _
  · rw [hc] at hc'; cases hc'; exact hl
set_option maxRecDepth 100000 in
theorem caps_yard {C : Array Value} {r : Reach} {b0 : Nat} {d : DataW H} {p : List MemPlace} (hv : Value.okWide Try.prog W r b0 29 (.agg C)) (h : DataW.Trod enc Try.prog W 0 sp hd 29 (.agg C) d p) :
    ∀ k, k = 25 ∨ k = 26 → ∀ (A : Option Addr) (n m : Nat), C[k]? = some (.slice A n m) → n ≤ m := by
  obtain ⟨cs, e, hsz⟩ := okWide_struct Try.underlying29 hv
  cases e
  obtain ⟨fuel, hf⟩ := h
  rw [cells29] at hsz
  obtain ⟨hlen, hg⟩ := struct_cells Try.underlying29 cells29 hf
  simp only [Value.cells] at hlen hg
  obtain ⟨_, _, f2⟩ := hg 2 _ rfl
  obtain ⟨_, _, f3⟩ := hg 3 _ rfl
  simp only [List.getElem_toArray, List.getElem_cons_zero, List.getElem_cons_succ] at f2 f3
  rw [cells26] at f2
  rw [cells27] at f3
  have one : ∀ k, k < 28 → ∃ c, (C.toList.drop k).take 1 = [c] ∧ C[k]? = some c := fun k hk => by
    have hk' : k < C.toList.length := by omega
    refine ⟨C.toList[k], ?_, ?_⟩
    · rw [List.drop_eq_getElem_cons hk']; rfl
    · rw [← Array.getElem?_toList, List.getElem?_eq_getElem hk']
  obtain ⟨c2, e2, g2⟩ := one 25 (by omega)
  obtain ⟨c3, e3, g3⟩ := one 26 (by omega)
  rw [e2] at f2
  rw [e3] at f3
  intro k hk A n m hc
  rcases hk with rfl | rfl
  · rw [g2] at hc
    exact cap_slice Try.underlying26 f2 A n m (Option.some.inj hc)
  · rw [g3] at hc
    exact cap_slice Try.underlying27 f3 A n m (Option.some.inj hc)
set_option maxRecDepth 100000 in
theorem caps_plan {A : Option Addr} {n m : Nat} {r : Reach} {b0 : Nat} {d : DataW H} {p : List MemPlace} (hv : Value.okWide Try.prog W r b0 42 (.agg #[.slice A n m])) (h : DataW.Trod enc Try.prog W 0 sp hd 42 (.agg #[.slice A n m]) d p) : n ≤ m := by
  obtain ⟨fuel, hf⟩ := h
  obtain ⟨_, hg⟩ := struct_cells Try.underlying42 cells42 hf
  obtain ⟨_, _, f0⟩ := hg 0 _ rfl
  simp only [List.getElem_toArray, List.getElem_cons_zero, List.getElem_cons_succ] at f0
  simp only [Value.cells] at f0
  rw [cells40] at f0
  dsimp only [List.drop, List.take] at f0
  exact cap_slice Try.underlying40 f0 A n m rfl
end
end Go.Proofs.Ytjgnikmnadmheaa
