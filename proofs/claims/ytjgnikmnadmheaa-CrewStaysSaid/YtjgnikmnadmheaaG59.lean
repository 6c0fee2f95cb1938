/- The tasks whose days differ: Changed, of the program and of the reference. Printed by wip/gen_z10.py. -/
import Derived.Test.YtjgnikmnadmheaaG02
import Derived.Test.YtjgnikmnadmheaaG13
import Derived.Test.YtjgnikmnadmheaaG54
import Derived.Test.YtjgnikmnadmheaaG55
import Derived.Test.YtjgnikmnadmheaaG57
import Derived.Test.YtjgnikmnadmheaaG58

namespace Go.Proofs.Ytjgnikmnadmheaa
open Go.RowKit

def chgAt (a b : List Tu) (i : Nat) : Bool := match a[i]?, b[i]? with
  | some x, some y => x.day != y.day
  | _, _ => true
def chgK (a b : List Tu) (k : Nat) : List Int := ((List.range k).filter (chgAt a b)).map Int.ofNat
def chgL (a b : List Tu) : List Int := chgK a b (max a.length b.length)
theorem chgK_yes {a b : List Tu} {k : Nat} (h : chgAt a b k = true) : chgK a b (k + 1) = chgK a b k ++ [(k : Int)] := by
  unfold chgK; rw [List.range_succ, List.filter_append]; simp [List.filter_cons, h]
theorem chgK_no {a b : List Tu} {k : Nat} (h : chgAt a b k = false) : chgK a b (k + 1) = chgK a b k := by
  unfold chgK; rw [List.range_succ, List.filter_append]; simp [List.filter_cons, h]
theorem chgL_same (a : List Tu) : chgL a a = [] := by
  unfold chgL chgK
  rw [List.filter_eq_nil_iff.2]
  · rfl
  · intro i hi
    unfold chgAt
    rw [List.mem_range] at hi
    have hi : i < a.length := by omega
    rw [List.getElem?_eq_getElem hi]
    simp
theorem chgK_len (a b : List Tu) (k : Nat) : (chgK a b k).length ≤ k := by
  unfold chgK
  rw [List.length_map]
  exact Nat.le_trans (List.length_filter_le _ _) (by simp)

set_option maxRecDepth 100000 in
set_option maxHeartbeats 2000000 in
theorem changed_any (a b : List Tu) (A B : Option Addr) (c d : Nat) (w : World) (hA : Lies w w.heap.size A (turnsC a)) (hB : Lies w w.heap.size B (turnsC b)) (hn : a.length ≤ 1000) (hm : b.length ≤ 1000) :
    Calls Try.prog 38 #[.agg #[.slice A a.length c], .agg #[.slice B b.length d]] w (IntsEnd (chgL a b) w) := by
  obtain ⟨i0, hi0, hz0, hz1, hz2⟩ := info_parts info3
  have I3 := Lib.hid (And.intro hi0 (And.intro hz0 (And.intro hz1 hz2))); clear hi0 hz0 hz1 hz2
  have k2 : Bk ((w.alloc (.cells #[.slice A a.length c] 42)).alloc (.cells #[.slice B b.length d] 42)) w.heap.size 42 #[.slice A a.length c] := (Bk.new _ _ _).alloc _
  have k3 : Bk ((w.alloc (.cells #[.slice A a.length c] 42)).alloc (.cells #[.slice B b.length d] 42)) (w.heap.size + 1) 42 #[.slice B b.length d] := by simpa using Bk.new (w.alloc (.cells #[.slice A a.length c] 42)) 42 #[.slice B b.length d]
  have hb0 : Below w.heap.size w ((w.alloc (.cells #[.slice A a.length c] 42)).alloc (.cells #[.slice B b.length d] 42)) := by exact (by repeat (first | with_reducible exact Below.refl _ _ | with_reducible assumption | with_reducible refine Below.drew ?_ | with_reducible refine below_drewN ?_ _ | (with_reducible refine Below.alloc ?_ ?_ _; rotate_left; (try simp) <;> omega) | (with_reducible refine Below.setCell ?_ ?_ _; rotate_left; (try simp) <;> omega)))
  have HAW := Lib.hid (fun W (hb : Below w.heap.size w W) => hA.below hb (Nat.le_refl _))
  have HBW := Lib.hid (fun W (hb : Below w.heap.size w W) => hB.below hb (Nat.le_refl _))
  obtain ⟨M, hM⟩ : ∃ M, max a.length b.length = M := ⟨_, rfl⟩
  have hMI : max (a.length : Int) (b.length : Int) = (M : Int) := by omega
  have hMa : a.length ≤ M := by omega
  have hMb : b.length ≤ M := by omega
  have hM2 : M ≤ 1000 := by omega
  have hE : chgL a b = chgK a b M := by unfold chgL; rw [hM]
  rw [hE]
  have HMI := Lib.hid hMI
  clear hE hA hB hM hMI
  go_enter Try.func38, Try.ntmps38
  go_upto_region 3 with fail
  rw [HMI.out]
  go_loopw [5, 14] (fun v y wr => ∃ k : Nat, k ≤ M ∧ y = .int .i64 (k : Int) ∧ wr.ownsRow (w.heap.size + 2) 3 1 v (chgK a b k).length (ints (chgK a b k)) ∧ Below w.heap.size w wr ∧ Bk wr w.heap.size 42 #[.slice A a.length c] ∧ Bk wr (w.heap.size + 1) 42 #[.slice B b.length d]) (fun _ y _ => M - (intOf y).toNat)
  case atStart => exact ⟨0, Nat.zero_le _, rfl, World.ownsRow_nil _ _ _ _, hb0, k2, k3⟩
  case round =>
  clear hb0 k2 k3
  obtain ⟨k, hk, rfl, hown, hbw, h2, h3⟩ := hrel
  obtain ⟨A5, c5, rfl, _, _⟩ := ownsSlice hown
  have hbs := hbw.size
  have hl2 := h2.lt
  have hl3 := h3.lt
  have hcl := chgK_len a b k
  have HNE : Hid (some w.heap.size ≠ (Value.slice A5 (chgK a b k).length c5).ownBlock ∧ some (w.heap.size + 1) ≠ (Value.slice A5 (chgK a b k).length c5).ownBlock) := ⟨own_ne hown (by omega), own_ne hown (by omega)⟩
  by_cases hlt : k < M
  · have hkI : (k : Int) < (M : Int) := by omega
    have hk0 : 0 ≤ (k : Int) := by omega
    have x2 := h2.cell 0 rfl
    have x3 := h3.cell 0 rfl
    by_cases h1 : a.length ≤ k
    · have h1b : decide ((a.length : Int) ≤ (k : Int)) = true := decide_eq_true (by omega)
      have h1c : decide (a.length ≤ k) = true := decide_eq_true h1
      have HCH : Hid (chgAt a b k = true) := by show _ = _; unfold chgAt; rw [List.getElem?_eq_none h1]
      go_upto_region 5 with fail
      refine wp_region_held_drew (S := (fun w' => w'.cell? ⟨w.heap.size, 0, none⟩ = some (.slice A a.length c) ∧ w'.cell? ⟨w.heap.size + 1, 0, none⟩ = some (.slice B b.length d))) (by kernel_rfl) ?_ (fun hHeld => ?_)
      · exact ⟨x2, x3⟩
      refine tk 0 17 ?_
      refine tk 1 18 ?_
      refine tk 2 19 ?_
      refine tk 3 20 ?_
      refine tk 4 21 ?_
      refine tk 5 22 ?_
      refine sk 6 23 ?_
      refine sk 7 24 ?_
      refine sk 8 25 ?_
      refine sk 9 26 ?_
      refine sk 10 27 ?_
      refine tk 11 28 ?_
      refine tk 12 29 ?_
      refine sk 13 30 ?_
      refine sk 14 31 ?_
      refine sk 15 32 ?_
      refine sk 16 33 ?_
      refine sk 17 34 ?_
      refine sk 18 35 ?_
      refine sk 19 36 ?_
      refine sk 20 37 ?_
      refine sk 21 38 ?_
      refine sk 22 39 ?_
      refine sk 23 40 ?_
      refine sk 24 41 ?_
      refine sk 25 42 ?_
      refine tk 26 43 ?_
      refine wpAnyH_done (by kernel_rfl) ?_ _
      clear hHeld
      go_wp2_with (at_builtin; refine wpList_append_own _ rfl (.tmp 44) (.tmp 46) 25 rfl (w.heap.size + 2) 3 i0 (.int .i64 0) 1 8 Try.underlying25 I3.out.1 I3.out.2.1 I3.out.2.2.1 I3.out.2.2.2 rfl (by decide) _ (chgK a b k).length (ints (chgK a b k)) rfl (hown.drew.alloc _) ⟨wr.heap.size, 0, none⟩ 1 1 [.int .i64 k] rfl rfl ?_ ?_ ?_ ?_ ?_ ?_; (exact cell_one_new _ _ _); (intro u hu; simp at hu; subst hu; rfl); (unfold maxLen; omega); (omega); (have := hbw.size; simp; omega); intro v5 w5 hown5 hgrow5 _; have hB5 : Below w.heap.size w w5 := below_own (by exact (by repeat (first | with_reducible exact Below.refl _ _ | with_reducible assumption | with_reducible refine Below.drew ?_ | with_reducible refine below_drewN ?_ _ | (with_reducible refine Below.alloc ?_ ?_ _; rotate_left; (try simp) <;> omega) | (with_reducible refine Below.setCell ?_ ?_ _; rotate_left; (try simp) <;> omega)))) (hown.drew.alloc _) hgrow5 (by omega) (by have := hbw.size; simp; omega); have h25 := Bk.grown (h2.drew.alloc (.cells #[.int .i64 k] 3)) hgrow5 (HNE.out.1); have h35 := Bk.grown (h3.drew.alloc (.cells #[.int .i64 k] 3)) hgrow5 (HNE.out.2); clear hgrow5)
      rw [ints_snoc, ← chgK_yes HCH.out] at hown5
      have hlen : Hid ((chgK a b k).length + 1 = (chgK a b (k + 1)).length) := by show _ = _; rw [chgK_yes HCH.out]; simp
      rw [hlen.out] at hown5
      go_wp2
      go_roundw
      case rel => exact ⟨k + 1, by omega, by go_num, hown5, hB5, h25, h35⟩
      case measure => simp [intOf] <;> omega
    · have h1b : decide ((a.length : Int) ≤ (k : Int)) = false := decide_eq_false (by omega)
      have h1c : decide (a.length ≤ k) = false := decide_eq_false h1
      have h1I : (k : Int) < (a.length : Int) := by omega
      by_cases h4 : b.length ≤ k
      · have h4b : decide ((b.length : Int) ≤ (k : Int)) = true := decide_eq_true (by omega)
        have h4c : decide (b.length ≤ k) = true := decide_eq_true h4
        have HCH : Hid (chgAt a b k = true) := by show _ = _; unfold chgAt; rw [List.getElem?_eq_none h4]; split <;> simp_all
        go_upto_region 5 with fail
        refine wp_region_held_drew (S := (fun w' => w'.cell? ⟨w.heap.size, 0, none⟩ = some (.slice A a.length c) ∧ w'.cell? ⟨w.heap.size + 1, 0, none⟩ = some (.slice B b.length d))) (by kernel_rfl) ?_ (fun hHeld => ?_)
        · exact ⟨x2, x3⟩
        refine tk 0 17 ?_
        refine tk 1 18 ?_
        refine tk 2 19 ?_
        refine tk 3 20 ?_
        refine tk 4 21 ?_
        refine tk 5 22 ?_
        refine tk 6 23 ?_
        refine tk 7 24 ?_
        refine tk 8 25 ?_
        refine tk 9 26 ?_
        refine tk 10 27 ?_
        refine tk 11 28 ?_
        refine tk 12 29 ?_
        refine sk 13 30 ?_
        refine sk 14 31 ?_
        refine sk 15 32 ?_
        refine sk 16 33 ?_
        refine sk 17 34 ?_
        refine sk 18 35 ?_
        refine sk 19 36 ?_
        refine sk 20 37 ?_
        refine sk 21 38 ?_
        refine sk 22 39 ?_
        refine sk 23 40 ?_
        refine sk 24 41 ?_
        refine sk 25 42 ?_
        refine tk 26 43 ?_
        refine wpAnyH_done (by kernel_rfl) ?_ _
        clear hHeld
        go_wp2_with (at_builtin; refine wpList_append_own _ rfl (.tmp 44) (.tmp 46) 25 rfl (w.heap.size + 2) 3 i0 (.int .i64 0) 1 8 Try.underlying25 I3.out.1 I3.out.2.1 I3.out.2.2.1 I3.out.2.2.2 rfl (by decide) _ (chgK a b k).length (ints (chgK a b k)) rfl (hown.drew.alloc _) ⟨wr.heap.size, 0, none⟩ 1 1 [.int .i64 k] rfl rfl ?_ ?_ ?_ ?_ ?_ ?_; (exact cell_one_new _ _ _); (intro u hu; simp at hu; subst hu; rfl); (unfold maxLen; omega); (omega); (have := hbw.size; simp; omega); intro v5 w5 hown5 hgrow5 _; have hB5 : Below w.heap.size w w5 := below_own (by exact (by repeat (first | with_reducible exact Below.refl _ _ | with_reducible assumption | with_reducible refine Below.drew ?_ | with_reducible refine below_drewN ?_ _ | (with_reducible refine Below.alloc ?_ ?_ _; rotate_left; (try simp) <;> omega) | (with_reducible refine Below.setCell ?_ ?_ _; rotate_left; (try simp) <;> omega)))) (hown.drew.alloc _) hgrow5 (by omega) (by have := hbw.size; simp; omega); have h25 := Bk.grown (h2.drew.alloc (.cells #[.int .i64 k] 3)) hgrow5 (HNE.out.1); have h35 := Bk.grown (h3.drew.alloc (.cells #[.int .i64 k] 3)) hgrow5 (HNE.out.2); clear hgrow5)
        rw [ints_snoc, ← chgK_yes HCH.out] at hown5
        have hlen : Hid ((chgK a b k).length + 1 = (chgK a b (k + 1)).length) := by show _ = _; rw [chgK_yes HCH.out]; simp
        rw [hlen.out] at hown5
        go_wp2
        go_roundw
        case rel => exact ⟨k + 1, by omega, by go_num, hown5, hB5, h25, h35⟩
        case measure => simp [intOf] <;> omega
      · have h4b : decide ((b.length : Int) ≤ (k : Int)) = false := decide_eq_false (by omega)
        have h4c : decide (b.length ≤ k) = false := decide_eq_false h4
        have h4I : (k : Int) < (b.length : Int) := by omega
        have hka : k < a.length := by omega
        have hkb : k < b.length := by omega
        have hch : chgAt a b k = (a[k].day != b[k].day) := by unfold chgAt; rw [List.getElem?_eq_getElem hka, List.getElem?_eq_getElem hkb]
        have HC0 := Lib.hid hch
        clear hch
        obtain ⟨a1, rfl, _, t0, _, _⟩ := turn_at (HAW.out wr hbw) hka
        obtain ⟨a2, rfl, _, s0, _, _⟩ := turn_at (HBW.out wr hbw) hkb
        generalize a[k].day = x at *
        generalize b[k].day = y at *
        by_cases hxy : x = y
        · have hxb : (x != y) = false := by simpa using hxy
          have HCH : Hid (chgAt a b k = false) := by show _ = _; rw [HC0.out]; exact hxb
          clear hxy HC0
          go_upto_region 5 with fail
          refine wp_region_held_drew (S := (fun w' => (w'.cell? ⟨w.heap.size, 0, none⟩ = some (.slice (some a1) a.length c) ∧ w'.cell? ⟨w.heap.size + 1, 0, none⟩ = some (.slice (some a2) b.length d)) ∧ w'.cell? (a1.add (k * 3)) = some (.int .i64 x) ∧ w'.cell? (a2.add (k * 3)) = some (.int .i64 y))) (by kernel_rfl) ?_ (fun hHeld => ?_)
          · exact ⟨⟨x2, x3⟩, t0, s0⟩
          refine tk 0 17 ?_
          refine tk 1 18 ?_
          refine tk 2 19 ?_
          refine tk 3 20 ?_
          refine tk 4 21 ?_
          refine tk 5 22 ?_
          refine tk 6 23 ?_
          refine tk 7 24 ?_
          refine tk 8 25 ?_
          refine tk 9 26 ?_
          refine tk 10 27 ?_
          refine tk 11 28 ?_
          refine tk 12 29 ?_
          refine tk 13 30 ?_
          refine tk 14 31 ?_
          refine tk 15 32 ?_
          refine tk 16 33 ?_
          refine tk 17 34 ?_
          refine tk 18 35 ?_
          refine tk 19 36 ?_
          refine tk 20 37 ?_
          refine tk 21 38 ?_
          refine tk 22 39 ?_
          refine tk 23 40 ?_
          refine tk 24 41 ?_
          refine tk 25 42 ?_
          refine tk 26 43 ?_
          refine wpAnyH_done (by kernel_rfl) ?_ _
          clear hHeld
          go_wp2
          go_roundw
          case rel => exact ⟨k + 1, by omega, by go_num, by rw [chgK_no HCH.out]; exact hown.drew, by exact (by repeat (first | with_reducible exact Below.refl _ _ | with_reducible assumption | with_reducible refine Below.drew ?_ | with_reducible refine below_drewN ?_ _ | (with_reducible refine Below.alloc ?_ ?_ _; rotate_left; (try simp) <;> omega) | (with_reducible refine Below.setCell ?_ ?_ _; rotate_left; (try simp) <;> omega))), h2.drew, h3.drew⟩
          case measure => simp [intOf] <;> omega
        · have hxb : (x != y) = true := by simpa using hxy
          have HCH : Hid (chgAt a b k = true) := by show _ = _; rw [HC0.out]; exact hxb
          clear hxy HC0
          go_upto_region 5 with fail
          refine wp_region_held_drew (S := (fun w' => (w'.cell? ⟨w.heap.size, 0, none⟩ = some (.slice (some a1) a.length c) ∧ w'.cell? ⟨w.heap.size + 1, 0, none⟩ = some (.slice (some a2) b.length d)) ∧ w'.cell? (a1.add (k * 3)) = some (.int .i64 x) ∧ w'.cell? (a2.add (k * 3)) = some (.int .i64 y))) (by kernel_rfl) ?_ (fun hHeld => ?_)
          · exact ⟨⟨x2, x3⟩, t0, s0⟩
          refine tk 0 17 ?_
          refine tk 1 18 ?_
          refine tk 2 19 ?_
          refine tk 3 20 ?_
          refine tk 4 21 ?_
          refine tk 5 22 ?_
          refine tk 6 23 ?_
          refine tk 7 24 ?_
          refine tk 8 25 ?_
          refine tk 9 26 ?_
          refine tk 10 27 ?_
          refine tk 11 28 ?_
          refine tk 12 29 ?_
          refine tk 13 30 ?_
          refine tk 14 31 ?_
          refine tk 15 32 ?_
          refine tk 16 33 ?_
          refine tk 17 34 ?_
          refine tk 18 35 ?_
          refine tk 19 36 ?_
          refine tk 20 37 ?_
          refine tk 21 38 ?_
          refine tk 22 39 ?_
          refine tk 23 40 ?_
          refine tk 24 41 ?_
          refine tk 25 42 ?_
          refine tk 26 43 ?_
          refine wpAnyH_done (by kernel_rfl) ?_ _
          clear hHeld
          go_wp2_with (at_builtin; refine wpList_append_own _ rfl (.tmp 44) (.tmp 46) 25 rfl (w.heap.size + 2) 3 i0 (.int .i64 0) 1 8 Try.underlying25 I3.out.1 I3.out.2.1 I3.out.2.2.1 I3.out.2.2.2 rfl (by decide) _ (chgK a b k).length (ints (chgK a b k)) rfl (hown.drew.alloc _) ⟨wr.heap.size, 0, none⟩ 1 1 [.int .i64 k] rfl rfl ?_ ?_ ?_ ?_ ?_ ?_; (exact cell_one_new _ _ _); (intro u hu; simp at hu; subst hu; rfl); (unfold maxLen; omega); (omega); (have := hbw.size; simp; omega); intro v5 w5 hown5 hgrow5 _; have hB5 : Below w.heap.size w w5 := below_own (by exact (by repeat (first | with_reducible exact Below.refl _ _ | with_reducible assumption | with_reducible refine Below.drew ?_ | with_reducible refine below_drewN ?_ _ | (with_reducible refine Below.alloc ?_ ?_ _; rotate_left; (try simp) <;> omega) | (with_reducible refine Below.setCell ?_ ?_ _; rotate_left; (try simp) <;> omega)))) (hown.drew.alloc _) hgrow5 (by omega) (by have := hbw.size; simp; omega); have h25 := Bk.grown (h2.drew.alloc (.cells #[.int .i64 k] 3)) hgrow5 (HNE.out.1); have h35 := Bk.grown (h3.drew.alloc (.cells #[.int .i64 k] 3)) hgrow5 (HNE.out.2); clear hgrow5)
          rw [ints_snoc, ← chgK_yes HCH.out] at hown5
          have hlen : Hid ((chgK a b k).length + 1 = (chgK a b (k + 1)).length) := by show _ = _; rw [chgK_yes HCH.out]; simp
          rw [hlen.out] at hown5
          go_wp2
          go_roundw
          case rel => exact ⟨k + 1, by omega, by go_num, hown5, hB5, h25, h35⟩
          case measure => simp [intOf] <;> omega
  · obtain rfl : k = M := by omega
    go_wp2
    go_ret
    exact ⟨_, rfl, ownsRow_base hown (by omega), hbw⟩
end Go.Proofs.Ytjgnikmnadmheaa

namespace Go.Proofs.Ytjgnikmnadmheaa
open Go.RowKit

set_option maxRecDepth 100000 in
set_option maxHeartbeats 4000000 in
theorem lawStays_any (C : Array Value) (Y : Yd) (l : List Tk) (A : Option Addr) (c : Nat) (ts : List Tu) (T : Option Addr) (ct : Nat) (f : Int) (w : World) (hY : YardAt w w.heap.size C Y) (hT : TasksAt w w.heap.size A l)
    (hP : Lies w w.heap.size T (turnsC ts)) (hgp : ∀ p ∈ ts, i64v p.day ∧ i64v p.pit ∧ i64v p.mas) (hcp : ts.length ≤ ct) :
    Calls Try.prog 9 #[.agg C, .slice A l.length c, .agg #[.slice T ts.length ct], .int .i64 f] w fun e w' => e = .returned (.bool true) ∧ Below w.heap.size w w' := by
  have HWO := Lib.hid works_any
  have HSL := Lib.hid (fun W (hb : Below w.heap.size w W) => slow_any C Y l A c W ((hY.below hb (Nat.le_refl _)).more hb.size) ((hT.below hb (Nat.le_refl _)).more hb.size))
  have HLOAD : Hid (∀ W : World, Bk W w.heap.size 29 C → W.rangeAt w.heap.size 0 C.toList) := fun W hb => hb.range
  have HC28 := Lib.hid hY.len
  have hKc : Bk ((w.alloc (.cells C 29)).alloc (.cells #[.slice T ts.length ct] 42)) w.heap.size 29 C := (Bk.new _ _ _).alloc _
  have hPc : Bk ((w.alloc (.cells C 29)).alloc (.cells #[.slice T ts.length ct] 42)) (w.heap.size + 1) 42 #[.slice T ts.length ct] := by simpa using Bk.new (w.alloc (.cells C 29)) 42 #[.slice T ts.length ct]
  have hB0 : Below w.heap.size w ((w.alloc (.cells C 29)).alloc (.cells #[.slice T ts.length ct] 42)) := by exact (by repeat (first | with_reducible exact Below.refl _ _ | with_reducible assumption | with_reducible refine Below.drew ?_ | with_reducible refine below_drewN ?_ _ | (with_reducible refine Below.alloc ?_ ?_ _; rotate_left; (try simp) <;> omega) | (with_reducible refine Below.setCell ?_ ?_ _; rotate_left; (try simp) <;> omega)))
  have hlk := hKc.lt
  have hlp := hPc.lt
  have x8 := hPc.cell 0 rfl
  cases h0 : slowB Y l with
  | true =>
    have H0 := Lib.hid h0; clear h0 hY hT hP hgp hcp
    go_enter Try.func9, Try.ntmps9
    go_wp2_with (first | (have h9 := hKc; clear h9; refine wpList_load_guard (P := Try.prog) (by rfl) 29 (.tmp 4) rfl w.heap.size 0 rfl C.toList _ (HLOAD.out _ (by exact (by repeat (first | with_reducible assumption | with_reducible exact Bk.new _ _ _ | with_reducible refine Bk.drew ?_ | with_reducible refine Bk.drewN ?_ _ | with_reducible refine Bk.alloc ?_ _ | (with_reducible refine Bk.far ?_ ?_ _; rotate_left; (try simp) <;> omega))))) Try.underlying29 rfl (by rw [HC28.out]; exact info29) ?_) | (go_at_call 23; refine (HSL.out _ hB0).mono ?_; rintro e w1 ⟨rfl, hb1⟩; rw [H0.out]; have hB1 : Below w.heap.size w w1 := hB0.trans (hb1.mono hB0.size); have hKn := Bk.below (by exact (by repeat (first | with_reducible assumption | with_reducible exact Bk.new _ _ _ | with_reducible refine Bk.drew ?_ | with_reducible refine Bk.drewN ?_ _ | with_reducible refine Bk.alloc ?_ _ | (with_reducible refine Bk.far ?_ ?_ _; rotate_left; (try simp) <;> omega)))) hb1 hlk; clear hKc hlk; have hKc := hKn; clear hKn; have hlk := hKc.lt; have hPn := Bk.below (by exact (by repeat (first | with_reducible assumption | with_reducible exact Bk.new _ _ _ | with_reducible refine Bk.drew ?_ | with_reducible refine Bk.drewN ?_ _ | with_reducible refine Bk.alloc ?_ _ | (with_reducible refine Bk.far ?_ ?_ _; rotate_left; (try simp) <;> omega)))) hb1 hlp; clear hPc hlp x8; have hPc := hPn; clear hPn; have hlp := hPc.lt; have x8 := hPc.cell 0 rfl; clear hb1) | (go_at_call 15; refine (HWO.out _).mono ?_; rintro e w9 ⟨rfl, hb9⟩; have hB9 : Below w.heap.size w w9 := hB1.trans (hb9.mono hB1.size)))
    go_ret
    exact ⟨rfl, hB9⟩
  | false =>
    by_cases a1 : (20 : Int) < (ts.length : Int)
    · have H0 := Lib.hid h0; clear h0 hY hT hP hgp hcp
      go_enter Try.func9, Try.ntmps9
      go_wp2_with (first | (have h9 := hKc; clear h9; refine wpList_load_guard (P := Try.prog) (by rfl) 29 (.tmp 4) rfl w.heap.size 0 rfl C.toList _ (HLOAD.out _ (by exact (by repeat (first | with_reducible assumption | with_reducible exact Bk.new _ _ _ | with_reducible refine Bk.drew ?_ | with_reducible refine Bk.drewN ?_ _ | with_reducible refine Bk.alloc ?_ _ | (with_reducible refine Bk.far ?_ ?_ _; rotate_left; (try simp) <;> omega))))) Try.underlying29 rfl (by rw [HC28.out]; exact info29) ?_) | (go_at_call 23; refine (HSL.out _ hB0).mono ?_; rintro e w1 ⟨rfl, hb1⟩; rw [H0.out]; have hB1 : Below w.heap.size w w1 := hB0.trans (hb1.mono hB0.size); have hKn := Bk.below (by exact (by repeat (first | with_reducible assumption | with_reducible exact Bk.new _ _ _ | with_reducible refine Bk.drew ?_ | with_reducible refine Bk.drewN ?_ _ | with_reducible refine Bk.alloc ?_ _ | (with_reducible refine Bk.far ?_ ?_ _; rotate_left; (try simp) <;> omega)))) hb1 hlk; clear hKc hlk; have hKc := hKn; clear hKn; have hlk := hKc.lt; have hPn := Bk.below (by exact (by repeat (first | with_reducible assumption | with_reducible exact Bk.new _ _ _ | with_reducible refine Bk.drew ?_ | with_reducible refine Bk.drewN ?_ _ | with_reducible refine Bk.alloc ?_ _ | (with_reducible refine Bk.far ?_ ?_ _; rotate_left; (try simp) <;> omega)))) hb1 hlp; clear hPc hlp x8; have hPc := hPn; clear hPn; have hlp := hPc.lt; have x8 := hPc.cell 0 rfl; clear hb1) | (go_at_call 15; refine (HWO.out _).mono ?_; rintro e w9 ⟨rfl, hb9⟩; have hB9 : Below w.heap.size w w9 := hB1.trans (hb9.mono hB1.size)))
      go_ret
      exact ⟨rfl, hB9⟩
    · obtain ⟨hs, ht⟩ := small_l h0
      have hn : ts.length ≤ 20 := by omega
      have H0 := Lib.hid h0
      clear h0
      have HEA := Lib.hid (fun W (hb : Below w.heap.size w W) => earliest_any C Y l A c f W ((hY.below hb (Nat.le_refl _)).more hb.size) hs ((hT.below hb (Nat.le_refl _)).more hb.size) ht)
      have HRA : Hid (∀ W, Below w.heap.size w W → Calls Try.prog 26 #[.agg C, .slice A l.length c, .agg #[.slice T ts.length ct], .int .i64 0, .int .i64 f] W (PlanE (replP Y l f ts 0) (earE Y l f) W)) := fun W hb => by
        have h := replan_any C Y l A c ts T ct 0 f W ((hY.below hb (Nat.le_refl _)).more hb.size) hs ((hT.below hb (Nat.le_refl _)).more hb.size) ht ((hP.below hb (Nat.le_refl _)).more hb.size) hn hcp (fun t h => ⟨(hgp t h).1, (hgp t h).2.1⟩)
        rw [repl_zero_E] at h
        exact h
      have HG1 := ear_good (Y := Y) (l := l) (f := f) hs.pi
      have HRB : Hid (∀ W (A2 : Option Addr) (c2 : Nat), Below w.heap.size w W → Lies W W.heap.size A2 (turnsC (earP Y l f)) → (earP Y l f).length ≤ c2 → Calls Try.prog 26 #[.agg C, .slice A l.length c, .agg #[.slice A2 (earP Y l f).length c2], .int .i64 0, .int .i64 f] W (PlanE (replP Y l f (earP Y l f) 0) (earE Y l f) W)) := fun W A2 c2 hb hl hc => by
        have h := replan_any C Y l A c (earP Y l f) A2 c2 0 f W ((hY.below hb (Nat.le_refl _)).more hb.size) hs ((hT.below hb (Nat.le_refl _)).more hb.size) ht hl (by have := earP_len Y l f; omega) hc HG1
        rw [repl_zero_E] at h
        exact h
      clear HG1
      by_cases hbe : earE Y l f = 0
      · obtain ⟨hbg, ds, he, hp⟩ := ear_zero hbe
        obtain ⟨P, _, hr1, hPl, hPe⟩ := repl_zero_some (old := ts) hbg he
        have hdl := earD_len he
        have HPE : Hid (endP (replP Y l f ts 0) = endP (earP Y l f)) := by show _ = _; rw [hr1, hp]; exact end_days hPl hdl hPe
        have HSM := repl_same hbg he
        have hl20 := earP_len Y l f
        have hl21 : (replP Y l f ts 0).length ≤ 20 := by
          rw [hr1, usual_len Y l [] P (Nat.zero_le _), hPl]
          have := (begE_ok hbg).2.1.n
          omega
        rw [hbe] at HEA HRA HRB
        rw [HSM] at HRB
        clear hbe hbg he hp hr1 hPl hPe hdl HSM hY hT hP hgp hcp hs ht
        generalize earP Y l f = P1 at *
        generalize replP Y l f ts 0 = P2 at *
        go_enter Try.func9, Try.ntmps9
        go_upto_region 8 with (first | (have h9 := hKc; clear h9; refine wpList_load_guard (P := Try.prog) (by rfl) 29 (.tmp 4) rfl w.heap.size 0 rfl C.toList _ (HLOAD.out _ (by exact (by repeat (first | with_reducible assumption | with_reducible exact Bk.new _ _ _ | with_reducible refine Bk.drew ?_ | with_reducible refine Bk.drewN ?_ _ | with_reducible refine Bk.alloc ?_ _ | (with_reducible refine Bk.far ?_ ?_ _; rotate_left; (try simp) <;> omega))))) Try.underlying29 rfl (by rw [HC28.out]; exact info29) ?_) | (go_at_call 23; refine (HSL.out _ hB0).mono ?_; rintro e w1 ⟨rfl, hb1⟩; rw [H0.out]; have hB1 : Below w.heap.size w w1 := hB0.trans (hb1.mono hB0.size); have hKn := Bk.below (by exact (by repeat (first | with_reducible assumption | with_reducible exact Bk.new _ _ _ | with_reducible refine Bk.drew ?_ | with_reducible refine Bk.drewN ?_ _ | with_reducible refine Bk.alloc ?_ _ | (with_reducible refine Bk.far ?_ ?_ _; rotate_left; (try simp) <;> omega)))) hb1 hlk; clear hKc hlk; have hKc := hKn; clear hKn; have hlk := hKc.lt; have hPn := Bk.below (by exact (by repeat (first | with_reducible assumption | with_reducible exact Bk.new _ _ _ | with_reducible refine Bk.drew ?_ | with_reducible refine Bk.drewN ?_ _ | with_reducible refine Bk.alloc ?_ _ | (with_reducible refine Bk.far ?_ ?_ _; rotate_left; (try simp) <;> omega)))) hb1 hlp; clear hPc hlp x8; have hPc := hPn; clear hPn; have hlp := hPc.lt; have x8 := hPc.cell 0 rfl; clear hb1) | (go_at_call 24; refine (HEA.out _ hB1).mono ?_; rintro e w2 ⟨v2, rfl, ho2, hb2⟩; obtain ⟨A2, c2, rfl, hc2, _⟩ := ownsSlice ho2; have hB2 : Below w.heap.size w w2 := hB1.trans (hb2.mono hB1.size); have hl2 := ownsRow_lies ho2; have hKn := Bk.below (by exact (by repeat (first | with_reducible assumption | with_reducible exact Bk.new _ _ _ | with_reducible refine Bk.drew ?_ | with_reducible refine Bk.drewN ?_ _ | with_reducible refine Bk.alloc ?_ _ | (with_reducible refine Bk.far ?_ ?_ _; rotate_left; (try simp) <;> omega)))) hb2 hlk; clear hKc hlk; have hKc := hKn; clear hKn; have hlk := hKc.lt; have hPn := Bk.below (by exact (by repeat (first | with_reducible assumption | with_reducible exact Bk.new _ _ _ | with_reducible refine Bk.drew ?_ | with_reducible refine Bk.drewN ?_ _ | with_reducible refine Bk.alloc ?_ _ | (with_reducible refine Bk.far ?_ ?_ _; rotate_left; (try simp) <;> omega)))) hb2 hlp; clear hPc hlp x8; have hPc := hPn; clear hPn; have hlp := hPc.lt; have x8 := hPc.cell 0 rfl; have hz2 := hB2.size; clear ho2 hb2 HEA) | (go_at_call 26; refine (HRA.out (w2.alloc (.cells #[.slice A2 P1.length c2] 42)) (hB2.alloc hz2 _)).mono ?_; rintro e w3 ⟨v3, rfl, ho3, hb3⟩; obtain ⟨A3, c3, rfl, _, _⟩ := ownsSlice ho3; have hB3 : Below w.heap.size w w3 := (hB2.alloc hz2 _).trans (hb3.mono (by simp; omega)); have hl3 := ownsRow_lies ho3; have p2 : Bk w3 w2.heap.size 42 #[.slice A2 P1.length c2] := (Bk.new w2 42 _).below hb3 (by simp); have q2 : Lies w3 w3.heap.size A2 (turnsC P1) := (((hl2.below ((Below.refl _ _).alloc (Nat.le_refl _) _) (Nat.le_refl _)).more (by simp)).below hb3 (Nat.le_refl _)).more hb3.size; have hKn : Bk w3 w.heap.size 29 C := (hKc.alloc (.cells #[.slice A2 P1.length c2] 42)).below hb3 (by simp; omega); have hPn : Bk w3 (w.heap.size + 1) 42 #[.slice T ts.length ct] := (hPc.alloc (.cells #[.slice A2 P1.length c2] 42)).below hb3 (by simp; omega); clear hKc hlk hPc hlp x8; have hKc := hKn; have hPc := hPn; clear hKn hPn; have hlk := hKc.lt; have hlp := hPc.lt; have x8 := hPc.cell 0 rfl; have hz3 := hB3.size; have y2 := p2.cell 0 rfl; have hz23 := p2.lt; clear ho3 hb3 hl2 HRA) | (go_at_call 26; refine (HRB.out (w3.alloc (.cells #[.slice A3 P2.length c3] 42)) A2 c2 (hB3.alloc hz3 _) ((q2.below ((Below.refl _ _).alloc (Nat.le_refl _) _) (Nat.le_refl _)).more (by simp)) hc2).mono ?_; rintro e w4 ⟨v4, rfl, ho4, hb4⟩; obtain ⟨A4, c4, rfl, _, _⟩ := ownsSlice ho4; have hB4 : Below w.heap.size w w4 := (hB3.alloc hz3 _).trans (hb4.mono (by simp; omega)); have hl4 := ownsRow_lies ho4; have p3 : Bk w4 w3.heap.size 42 #[.slice A3 P2.length c3] := (Bk.new w3 42 _).below hb4 (by simp); have q3 : Lies w4 w4.heap.size A3 (turnsC P2) := (((hl3.below ((Below.refl _ _).alloc (Nat.le_refl _) _) (Nat.le_refl _)).more (by simp)).below hb4 (Nat.le_refl _)).more hb4.size; have p24 : Bk w4 w2.heap.size 42 #[.slice A2 P1.length c2] := (p2.alloc (.cells #[.slice A3 P2.length c3] 42)).below hb4 (by simp; omega); have q24 : Lies w4 w4.heap.size A2 (turnsC P1) := (((q2.below ((Below.refl _ _).alloc (Nat.le_refl _) _) (Nat.le_refl _)).more (by simp)).below hb4 (Nat.le_refl _)).more hb4.size; have hz4 := hB4.size; have hz34 := p3.lt; have y3 := p3.cell 0 rfl; have y24 := p24.cell 0 rfl; clear ho4 hb4 hl3 p2 q2 y2 HRB))
        have p4 : Bk (w4.alloc (.cells #[.slice A4 P1.length c4] 42)) w4.heap.size 42 #[.slice A4 P1.length c4] := Bk.new _ _ _
        have hb44 : Below w4.heap.size w4 (w4.alloc (.cells #[.slice A4 P1.length c4] 42)) := (Below.refl _ _).alloc (Nat.le_refl _) _
        have hB44 : Below w.heap.size w (w4.alloc (.cells #[.slice A4 P1.length c4] 42)) := hB4.alloc hz4 _
        have p3' := p3.below hb44 hz34
        have p2' := p24.below hb44 (by omega)
        have q4' : Lies (w4.alloc (.cells #[.slice A4 P1.length c4] 42)) ((w4.alloc (.cells #[.slice A4 P1.length c4] 42))).heap.size A4 (turnsC P1) := (hl4.below hb44 (Nat.le_refl _)).more hb44.size
        have q3' := (q3.below hb44 (Nat.le_refl _)).more hb44.size
        have q2' := (q24.below hb44 (Nat.le_refl _)).more hb44.size
        clear p3 p24 hl4 q3 q24 hb44 hB4 x8 hKc hlk hPc hlp y3 y24
        generalize (w4.alloc (.cells #[.slice A4 P1.length c4] 42)) = w5 at *
        have HKS : Hid (∀ W, Below w5.heap.size w5 W → W.cell? ⟨w3.heap.size, 0, none⟩ = some (.slice A3 P2.length c3) ∧ W.cell? ⟨w2.heap.size, 0, none⟩ = some (.slice A2 P1.length c2) ∧ W.cell? ⟨w4.heap.size, 0, none⟩ = some (.slice A4 P1.length c4)) := fun W hb => ⟨(p3'.below hb p3'.lt).cell 0 rfl, (p2'.below hb p2'.lt).cell 0 rfl, (p4.below hb p4.lt).cell 0 rfl⟩
        have HQ4 := Lib.hid (fun W (hb : Below w5.heap.size w5 W) => (q4'.below hb (Nat.le_refl _)).more hb.size)
        have HQ3 := Lib.hid (fun W (hb : Below w5.heap.size w5 W) => (q3'.below hb (Nat.le_refl _)).more hb.size)
        have HQ2 := Lib.hid (fun W (hb : Below w5.heap.size w5 W) => (q2'.below hb (Nat.le_refl _)).more hb.size)
        have hX5 : Below w5.heap.size w5 w5 := Below.refl _ _
        have HED : Hid (∀ W, Below w5.heap.size w5 W → Calls Try.prog 40 #[.agg #[.slice A3 P2.length c3]] W (IntEnd (endP P1) W)) := fun W hb => by
          have h := end_any P2 A3 c3 W (HQ3.out W hb) (by omega)
          rw [HPE.out] at h
          exact h
        have HEE : Hid (∀ W, Below w5.heap.size w5 W → Calls Try.prog 40 #[.agg #[.slice A2 P1.length c2]] W (IntEnd (endP P1) W)) := fun W hb => end_any P1 A2 c2 W (HQ2.out W hb) (by omega)
        have HCH : Hid (∀ W, Below w5.heap.size w5 W → Calls Try.prog 38 #[.agg #[.slice A4 P1.length c4], .agg #[.slice A2 P1.length c2]] W (IntsEnd [] W)) := fun W hb => by
          have h := changed_any P1 P1 A4 A2 c4 c2 W (HQ4.out W hb) (HQ2.out W hb) (by omega) (by omega)
          rw [chgL_same] at h
          exact h
        have HSP : Hid (∀ W, Below w5.heap.size w5 W → Calls Try.prog 35 #[.agg #[.slice A4 P1.length c4], .agg #[.slice A2 P1.length c2]] W (ShEnd true W)) := fun W hb => samePlan_me P1 A4 A2 c4 c2 W (HQ4.out W hb) (HQ2.out W hb) (by omega)
        generalize endP P1 = eU at *
        refine wp_region_held_drew (S := (fun w' => w'.cell? ⟨w3.heap.size, 0, none⟩ = some (.slice A3 P2.length c3) ∧ w'.cell? ⟨w2.heap.size, 0, none⟩ = some (.slice A2 P1.length c2) ∧ w'.cell? ⟨w4.heap.size, 0, none⟩ = some (.slice A4 P1.length c4))) (by kernel_rfl) ?_ (fun hHeld => ?_)
        · exact HKS.out _ hX5.drew
        (refine held_call 0 (some 61) 15 _ rfl (by kernel_rfl) (by rfl) ?_ (HWO.out _) ?_; rotate_left; rotate_left; (simp only [List.getElem?_toArray, List.getElem?_cons_zero, List.getElem?_cons_succ, Option.map_some]; refine congrArg some ?_; go_simp))
        rintro e w6 ⟨rfl, hb6'⟩
        have hX6 : Below w5.heap.size w5 w6 := Below.trans (by exact (by repeat (first | with_reducible exact Below.refl _ _ | with_reducible assumption | with_reducible refine Below.drew ?_ | with_reducible refine below_drewN ?_ _ | (with_reducible refine Below.alloc ?_ ?_ _; rotate_left; (try simp) <;> omega) | (with_reducible refine Below.setCell ?_ ?_ _; rotate_left; (try simp) <;> omega)))) (hb6'.mono (by first | exact hX5.size | (simp; exact hX5.size)))
        refine ⟨_, rfl, HKS.out w6 hX6, fun hHeld => ?_⟩
        (try simp only [Act.put, List.setIfInBounds_toArray, List.set_cons_zero, List.set_cons_succ])
        refine tk 1 62 ?_
        refine tk 2 63 ?_
        refine tk 3 64 ?_
        refine tk 4 65 ?_
        refine tk 5 66 ?_
        refine tk 6 67 ?_
        refine tk 7 68 ?_
        refine tk 8 69 ?_
        refine tk 9 70 ?_
        refine tk 10 71 ?_
        refine tk 12 73 ?_
        (refine held_call 11 (some 72) 40 _ rfl (by kernel_rfl) (by rfl) ?_ (HED.out _ (by exact (by repeat (first | with_reducible exact Below.refl _ _ | with_reducible assumption | with_reducible refine Below.drew ?_ | with_reducible refine below_drewN ?_ _ | (with_reducible refine Below.alloc ?_ ?_ _; rotate_left; (try simp) <;> omega) | (with_reducible refine Below.setCell ?_ ?_ _; rotate_left; (try simp) <;> omega))))) ?_; rotate_left; rotate_left; (simp only [List.getElem?_toArray, List.getElem?_cons_zero, List.getElem?_cons_succ, Option.map_some]; refine congrArg some ?_; go_simp))
        rintro e w7 ⟨rfl, hb7'⟩
        have hX7 : Below w5.heap.size w5 w7 := Below.trans (by exact (by repeat (first | with_reducible exact Below.refl _ _ | with_reducible assumption | with_reducible refine Below.drew ?_ | with_reducible refine below_drewN ?_ _ | (with_reducible refine Below.alloc ?_ ?_ _; rotate_left; (try simp) <;> omega) | (with_reducible refine Below.setCell ?_ ?_ _; rotate_left; (try simp) <;> omega)))) (hb7'.mono (by first | exact hX6.size | (simp; exact hX6.size)))
        refine ⟨_, rfl, HKS.out w7 hX7, fun hHeld => ?_⟩
        (try simp only [Act.put, List.setIfInBounds_toArray, List.set_cons_zero, List.set_cons_succ])
        (refine held_call 13 (some 74) 40 _ rfl (by kernel_rfl) (by rfl) ?_ (HEE.out _ (by exact (by repeat (first | with_reducible exact Below.refl _ _ | with_reducible assumption | with_reducible refine Below.drew ?_ | with_reducible refine below_drewN ?_ _ | (with_reducible refine Below.alloc ?_ ?_ _; rotate_left; (try simp) <;> omega) | (with_reducible refine Below.setCell ?_ ?_ _; rotate_left; (try simp) <;> omega))))) ?_; rotate_left; rotate_left; (simp only [List.getElem?_toArray, List.getElem?_cons_zero, List.getElem?_cons_succ, Option.map_some]; refine congrArg some ?_; go_simp))
        rintro e w8 ⟨rfl, hb8'⟩
        have hX8 : Below w5.heap.size w5 w8 := Below.trans (by exact (by repeat (first | with_reducible exact Below.refl _ _ | with_reducible assumption | with_reducible refine Below.drew ?_ | with_reducible refine below_drewN ?_ _ | (with_reducible refine Below.alloc ?_ ?_ _; rotate_left; (try simp) <;> omega) | (with_reducible refine Below.setCell ?_ ?_ _; rotate_left; (try simp) <;> omega)))) (hb8'.mono (by first | exact hX7.size | (simp; exact hX7.size)))
        refine ⟨_, rfl, HKS.out w8 hX8, fun hHeld => ?_⟩
        (try simp only [Act.put, List.setIfInBounds_toArray, List.set_cons_zero, List.set_cons_succ])
        refine tk 14 75 ?_
        refine tk 15 76 ?_
        refine tk 16 77 ?_
        refine tk 17 78 ?_
        refine tk 18 79 ?_
        (refine held_call 19 (some 80) 35 _ rfl (by kernel_rfl) (by rfl) ?_ (HSP.out _ (by exact (by repeat (first | with_reducible exact Below.refl _ _ | with_reducible assumption | with_reducible refine Below.drew ?_ | with_reducible refine below_drewN ?_ _ | (with_reducible refine Below.alloc ?_ ?_ _; rotate_left; (try simp) <;> omega) | (with_reducible refine Below.setCell ?_ ?_ _; rotate_left; (try simp) <;> omega))))) ?_; rotate_left; rotate_left; (simp only [List.getElem?_toArray, List.getElem?_cons_zero, List.getElem?_cons_succ, Option.map_some]; refine congrArg some ?_; go_simp))
        rintro e w9 ⟨rfl, hb9'⟩
        have hX9 : Below w5.heap.size w5 w9 := Below.trans (by exact (by repeat (first | with_reducible exact Below.refl _ _ | with_reducible assumption | with_reducible refine Below.drew ?_ | with_reducible refine below_drewN ?_ _ | (with_reducible refine Below.alloc ?_ ?_ _; rotate_left; (try simp) <;> omega) | (with_reducible refine Below.setCell ?_ ?_ _; rotate_left; (try simp) <;> omega)))) (hb9'.mono (by first | exact hX8.size | (simp; exact hX8.size)))
        refine ⟨_, rfl, HKS.out w9 hX9, fun hHeld => ?_⟩
        (try simp only [Act.put, List.setIfInBounds_toArray, List.set_cons_zero, List.set_cons_succ])
        refine tk 20 81 ?_
        refine tk 21 82 ?_
        refine tk 22 83 ?_
        refine tk 23 84 ?_
        (refine held_call 24 (some 85) 38 _ rfl (by kernel_rfl) (by rfl) ?_ (HCH.out _ (by exact (by repeat (first | with_reducible exact Below.refl _ _ | with_reducible assumption | with_reducible refine Below.drew ?_ | with_reducible refine below_drewN ?_ _ | (with_reducible refine Below.alloc ?_ ?_ _; rotate_left; (try simp) <;> omega) | (with_reducible refine Below.setCell ?_ ?_ _; rotate_left; (try simp) <;> omega))))) ?_; rotate_left; rotate_left; (simp only [List.getElem?_toArray, List.getElem?_cons_zero, List.getElem?_cons_succ, Option.map_some]; refine congrArg some ?_; go_simp))
        rintro e w10 ⟨v10, rfl, ho10, hb10'⟩
        obtain ⟨A10, c10, rfl, _, _⟩ := ownsSlice ho10
        have hX10 : Below w5.heap.size w5 w10 := Below.trans (by exact (by repeat (first | with_reducible exact Below.refl _ _ | with_reducible assumption | with_reducible refine Below.drew ?_ | with_reducible refine below_drewN ?_ _ | (with_reducible refine Below.alloc ?_ ?_ _; rotate_left; (try simp) <;> omega) | (with_reducible refine Below.setCell ?_ ?_ _; rotate_left; (try simp) <;> omega)))) (hb10'.mono (by first | exact hX9.size | (simp; exact hX9.size)))
        refine ⟨_, rfl, HKS.out w10 hX10, fun hHeld => ?_⟩
        (try simp only [Act.put, List.setIfInBounds_toArray, List.set_cons_zero, List.set_cons_succ])
        refine tk 25 86 ?_
        refine tk 26 87 ?_
        refine tk 27 88 ?_
        refine tk 28 8 ?_
        refine wpAnyH_done (by kernel_rfl) ?_ _
        clear hHeld
        go_wp2
        go_ret
        exact ⟨by first | rfl | simp, hB44.trans (hX10.mono hB44.size)⟩
      · have hNe : (earE Y l f != 0) = true := by simpa using hbe
        clear hY hT hP hgp hcp hbe hs ht
        generalize earP Y l f = P1 at *
        generalize replP Y l f ts 0 = P2 at *
        generalize replP Y l f P1 0 = P3 at *
        generalize earE Y l f = N at *
        go_enter Try.func9, Try.ntmps9
        go_wp2_with (first | (have h9 := hKc; clear h9; refine wpList_load_guard (P := Try.prog) (by rfl) 29 (.tmp 4) rfl w.heap.size 0 rfl C.toList _ (HLOAD.out _ (by exact (by repeat (first | with_reducible assumption | with_reducible exact Bk.new _ _ _ | with_reducible refine Bk.drew ?_ | with_reducible refine Bk.drewN ?_ _ | with_reducible refine Bk.alloc ?_ _ | (with_reducible refine Bk.far ?_ ?_ _; rotate_left; (try simp) <;> omega))))) Try.underlying29 rfl (by rw [HC28.out]; exact info29) ?_) | (go_at_call 23; refine (HSL.out _ hB0).mono ?_; rintro e w1 ⟨rfl, hb1⟩; rw [H0.out]; have hB1 : Below w.heap.size w w1 := hB0.trans (hb1.mono hB0.size); have hKn := Bk.below (by exact (by repeat (first | with_reducible assumption | with_reducible exact Bk.new _ _ _ | with_reducible refine Bk.drew ?_ | with_reducible refine Bk.drewN ?_ _ | with_reducible refine Bk.alloc ?_ _ | (with_reducible refine Bk.far ?_ ?_ _; rotate_left; (try simp) <;> omega)))) hb1 hlk; clear hKc hlk; have hKc := hKn; clear hKn; have hlk := hKc.lt; have hPn := Bk.below (by exact (by repeat (first | with_reducible assumption | with_reducible exact Bk.new _ _ _ | with_reducible refine Bk.drew ?_ | with_reducible refine Bk.drewN ?_ _ | with_reducible refine Bk.alloc ?_ _ | (with_reducible refine Bk.far ?_ ?_ _; rotate_left; (try simp) <;> omega)))) hb1 hlp; clear hPc hlp x8; have hPc := hPn; clear hPn; have hlp := hPc.lt; have x8 := hPc.cell 0 rfl; clear hb1) | (go_at_call 24; refine (HEA.out _ hB1).mono ?_; rintro e w2 ⟨v2, rfl, ho2, hb2⟩; obtain ⟨A2, c2, rfl, hc2, _⟩ := ownsSlice ho2; have hB2 : Below w.heap.size w w2 := hB1.trans (hb2.mono hB1.size); have hl2 := ownsRow_lies ho2; have hKn := Bk.below (by exact (by repeat (first | with_reducible assumption | with_reducible exact Bk.new _ _ _ | with_reducible refine Bk.drew ?_ | with_reducible refine Bk.drewN ?_ _ | with_reducible refine Bk.alloc ?_ _ | (with_reducible refine Bk.far ?_ ?_ _; rotate_left; (try simp) <;> omega)))) hb2 hlk; clear hKc hlk; have hKc := hKn; clear hKn; have hlk := hKc.lt; have hPn := Bk.below (by exact (by repeat (first | with_reducible assumption | with_reducible exact Bk.new _ _ _ | with_reducible refine Bk.drew ?_ | with_reducible refine Bk.drewN ?_ _ | with_reducible refine Bk.alloc ?_ _ | (with_reducible refine Bk.far ?_ ?_ _; rotate_left; (try simp) <;> omega)))) hb2 hlp; clear hPc hlp x8; have hPc := hPn; clear hPn; have hlp := hPc.lt; have x8 := hPc.cell 0 rfl; have hz2 := hB2.size; clear ho2 hb2 HEA) | (go_at_call 26; refine (HRA.out (w2.alloc (.cells #[.slice A2 P1.length c2] 42)) (hB2.alloc hz2 _)).mono ?_; rintro e w3 ⟨v3, rfl, ho3, hb3⟩; obtain ⟨A3, c3, rfl, _, _⟩ := ownsSlice ho3; have hB3 : Below w.heap.size w w3 := (hB2.alloc hz2 _).trans (hb3.mono (by simp; omega)); have hl3 := ownsRow_lies ho3; have p2 : Bk w3 w2.heap.size 42 #[.slice A2 P1.length c2] := (Bk.new w2 42 _).below hb3 (by simp); have q2 : Lies w3 w3.heap.size A2 (turnsC P1) := (((hl2.below ((Below.refl _ _).alloc (Nat.le_refl _) _) (Nat.le_refl _)).more (by simp)).below hb3 (Nat.le_refl _)).more hb3.size; have hKn : Bk w3 w.heap.size 29 C := (hKc.alloc (.cells #[.slice A2 P1.length c2] 42)).below hb3 (by simp; omega); have hPn : Bk w3 (w.heap.size + 1) 42 #[.slice T ts.length ct] := (hPc.alloc (.cells #[.slice A2 P1.length c2] 42)).below hb3 (by simp; omega); clear hKc hlk hPc hlp x8; have hKc := hKn; have hPc := hPn; clear hKn hPn; have hlk := hKc.lt; have hlp := hPc.lt; have x8 := hPc.cell 0 rfl; have hz3 := hB3.size; have y2 := p2.cell 0 rfl; have hz23 := p2.lt; clear ho3 hb3 hl2 HRA) | (go_at_call 26; refine (HRB.out (w3.alloc (.cells #[.slice A3 P2.length c3] 42)) A2 c2 (hB3.alloc hz3 _) ((q2.below ((Below.refl _ _).alloc (Nat.le_refl _) _) (Nat.le_refl _)).more (by simp)) hc2).mono ?_; rintro e w4 ⟨v4, rfl, ho4, hb4⟩; obtain ⟨A4, c4, rfl, _, _⟩ := ownsSlice ho4; have hB4 : Below w.heap.size w w4 := (hB3.alloc hz3 _).trans (hb4.mono (by simp; omega)); have hl4 := ownsRow_lies ho4; have p3 : Bk w4 w3.heap.size 42 #[.slice A3 P2.length c3] := (Bk.new w3 42 _).below hb4 (by simp); have q3 : Lies w4 w4.heap.size A3 (turnsC P2) := (((hl3.below ((Below.refl _ _).alloc (Nat.le_refl _) _) (Nat.le_refl _)).more (by simp)).below hb4 (Nat.le_refl _)).more hb4.size; have p24 : Bk w4 w2.heap.size 42 #[.slice A2 P1.length c2] := (p2.alloc (.cells #[.slice A3 P2.length c3] 42)).below hb4 (by simp; omega); have q24 : Lies w4 w4.heap.size A2 (turnsC P1) := (((q2.below ((Below.refl _ _).alloc (Nat.le_refl _) _) (Nat.le_refl _)).more (by simp)).below hb4 (Nat.le_refl _)).more hb4.size; have hz4 := hB4.size; have hz34 := p3.lt; have y3 := p3.cell 0 rfl; have y24 := p24.cell 0 rfl; clear ho4 hb4 hl3 p2 q2 y2 HRB) | (go_at_call 15; refine (HWO.out _).mono ?_; rintro e w9 ⟨rfl, hb9⟩; have hB9 : Below w.heap.size w w9 := (hB4.alloc hz4 _).trans (hb9.mono (by simp; omega))))
        go_ret
        exact ⟨by simp, hB9⟩
end Go.Proofs.Ytjgnikmnadmheaa

namespace Go.Proofs.Ytjgnikmnadmheaa
open Go.ChangeShapes Go.WideShapes Go.ChangeAt Go.RowKit Go.Deep

section
variable {H : Type} {enc : TypeId × Value → H} {W : World} {sp : Nat → Bool} {hd : Bool}
theorem cap_slice {t e : TypeId} {n : Nat} {c : Value} {x : DataW H × List MemPlace} (ht : Try.prog.underlying t = some (.slice e)) (h : DataW.trod enc Try.prog W 0 sp hd n t [c] = some x) (A : Option Addr) (k m : Nat) (hc : c = .slice A k m) : k ≤ m := by
  rcases open_slice ht h with ⟨hc', _⟩ | ⟨a, len, cap, m', n', D, Pl, hc', hb, hl, _⟩
  · rw [hc] at hc'; cases hc'; exact Nat.le_refl _
  · rw [hc] at hc'; cases hc'; exact hl
set_option maxRecDepth 100000 in
theorem caps_yard {C : Array Value} {r : Reach} {b0 : Nat} {d : DataW H} {p : List MemPlace} (hv : Value.okWide Try.prog W r b0 29 (.agg C)) (h : DataW.Trod enc Try.prog W 0 sp hd 29 (.agg C) d p) :
    ∀ k, k = 25 ∨ k = 26 → ∀ (A : Option Addr) (n m : Nat), C[k]? = some (.slice A n m) → n ≤ m := by
  obtain ⟨cs, e, hsz⟩ := okWide_struct Try.underlying29 hv
  cases e
  obtain ⟨fuel, hf⟩ := h
  rw [cells29] at hsz
  obtain ⟨hlen, hg⟩ := struct_cells Try.underlying29 cells29 hf
  simp only [Value.cells] at hlen hg
  obtain ⟨_, _, f2⟩ := hg 2 _ rfl
  obtain ⟨_, _, f3⟩ := hg 3 _ rfl
  simp only [List.getElem_toArray, List.getElem_cons_zero, List.getElem_cons_succ] at f2 f3
  rw [cells26] at f2
  rw [cells27] at f3
  have one : ∀ k, k < 28 → ∃ c, (C.toList.drop k).take 1 = [c] ∧ C[k]? = some c := fun k hk => by
    have hk' : k < C.toList.length := by omega
    refine ⟨C.toList[k], ?_, ?_⟩
    · rw [List.drop_eq_getElem_cons hk']; rfl
    · rw [← Array.getElem?_toList, List.getElem?_eq_getElem hk']
  obtain ⟨c2, e2, g2⟩ := one 25 (by omega)
  obtain ⟨c3, e3, g3⟩ := one 26 (by omega)
  rw [e2] at f2
  rw [e3] at f3
  intro k hk A n m hc
  rcases hk with rfl | rfl
  · rw [g2] at hc
    exact cap_slice Try.underlying26 f2 A n m (Option.some.inj hc)
  · rw [g3] at hc
    exact cap_slice Try.underlying27 f3 A n m (Option.some.inj hc)
set_option maxRecDepth 100000 in
theorem caps_plan {A : Option Addr} {n m : Nat} {r : Reach} {b0 : Nat} {d : DataW H} {p : List MemPlace} (hv : Value.okWide Try.prog W r b0 42 (.agg #[.slice A n m])) (h : DataW.Trod enc Try.prog W 0 sp hd 42 (.agg #[.slice A n m]) d p) : n ≤ m := by
  obtain ⟨fuel, hf⟩ := h
  obtain ⟨_, hg⟩ := struct_cells Try.underlying42 cells42 hf
  obtain ⟨_, _, f0⟩ := hg 0 _ rfl
  simp only [List.getElem_toArray, List.getElem_cons_zero, List.getElem_cons_succ] at f0
  simp only [Value.cells] at f0
  rw [cells40] at f0
  dsimp only [List.drop, List.take] at f0
  exact cap_slice Try.underlying40 f0 A n m rfl
end
end Go.Proofs.Ytjgnikmnadmheaa
