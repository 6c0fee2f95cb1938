/- The tasks whose days differ: Changed, of the program and of the reference. Printed by wip/gen_z10.py. -/
import Derived.Test.YtjgnikmnadmheaaG02
import Derived.Test.YtjgnikmnadmheaaG89
import Derived.Test.YtjgnikmnadmheaaG91
import Derived.Test.YtjgnikmnadmheaaG93

namespace Go.Proofs.Ytjgnikmnadmheaa
open Go.RowKit

def chgAt (a b : List Tu) (i : Nat) : Bool := match a[i]?, b[i]? with
  | some x, some y => x.day != y.day
  | _, _ => true
def chgK (a b : List Tu) (k : Nat) : List Int := ((List.range k).filter (chgAt a b)).map Int.ofNat
def chgL (a b : List Tu) : List Int := chgK a b (max a.length b.length)
theorem chgK_yes {a b : List Tu} {k : Nat} (h : chgAt a b k = true) : chgK a b (k + 1) = chgK a b k ++ [(k : Int)] := by
  unfold chgK; rw [List.range_succ, List.filter_append]; simp [List.filter_cons, h]
theorem chgK_no {a b : List Tu} {k : Nat} (h : chgAt a b k = false) : chgK a b (k + 1) = chgK a b k := by
  unfold chgK; rw [List.range_succ, List.filter_append]; simp [List.filter_cons, h]
theorem chgL_same (a : List Tu) : chgL a a = [] := by
  unfold chgL chgK
  rw [List.filter_eq_nil_iff.2]
  · rfl
  · intro i hi
    unfold chgAt
    rw [List.mem_range] at hi
    have hi : i < a.length := by omega
    rw [List.getElem?_eq_getElem hi]
    simp
theorem chgK_len (a b : List Tu) (k : Nat) : (chgK a b k).length ≤ k := by
  unfold chgK
  rw [List.length_map]
  exact Nat.le_trans (List.length_filter_le _ _) (by simp)

set_option maxRecDepth 100000 in
set_option maxHeartbeats 2000000 in
theorem changed_any (a b : List Tu) (A B : Option Addr) (c d : Nat) (w : World) (hA : Lies w w.heap.size A (turnsC a)) (hB : Lies w w.heap.size B (turnsC b)) (hn : a.length ≤ 1000) (hm : b.length ≤ 1000) :
    Calls Try.prog 38 #[.agg #[.slice A a.length c], .agg #[.slice B b.length d]] w (IntsEnd (chgL a b) w) := by
  obtain ⟨i0, hi0, hz0, hz1, hz2⟩ := info_parts info3
  have I3 := Lib.hid (And.intro hi0 (And.intro hz0 (And.intro hz1 hz2))); clear hi0 hz0 hz1 hz2
  have k2 : Bk ((w.alloc (.cells #[.slice A a.length c] 42)).alloc (.cells #[.slice B b.length d] 42)) w.heap.size 42 #[.slice A a.length c] := (Bk.new _ _ _).alloc _
  have k3 : Bk ((w.alloc (.cells #[.slice A a.length c] 42)).alloc (.cells #[.slice B b.length d] 42)) (w.heap.size + 1) 42 #[.slice B b.length d] := by simpa using Bk.new (w.alloc (.cells #[.slice A a.length c] 42)) 42 #[.slice B b.length d]
  have hb0 : Below w.heap.size w ((w.alloc (.cells #[.slice A a.length c] 42)).alloc (.cells #[.slice B b.length d] 42)) := by exact (by repeat (first | with_reducible exact Below.refl _ _ | with_reducible assumption | with_reducible refine Below.drew ?_ | with_reducible refine below_drewN ?_ _ | (with_reducible refine Below.alloc ?_ ?_ _; rotate_left; (try simp) <;> omega) | (with_reducible refine Below.setCell ?_ ?_ _; rotate_left; (try simp) <;> omega)))
  have HAW := Lib.hid (fun W (hb : Below w.heap.size w W) => hA.below hb (Nat.le_refl _))
  have HBW := Lib.hid (fun W (hb : Below w.heap.size w W) => hB.below hb (Nat.le_refl _))
  obtain ⟨M, hM⟩ : ∃ M, max a.length b.length = M := ⟨_, rfl⟩
  have hMI : max (a.length : Int) (b.length : Int) = (M : Int) := by omega
  have hMa : a.length ≤ M := by omega
  have hMb : b.length ≤ M := by omega
  have hM2 : M ≤ 1000 := by omega
  have hE : chgL a b = chgK a b M := by unfold chgL; rw [hM]
  rw [hE]
  have HMI := Lib.hid hMI
  clear hE hA hB hM hMI
  go_enter Try.func38, Try.ntmps38
  go_upto_region 3 with fail
  rw [HMI.out]
  go_loopw [5, 14] (fun v y wr => ∃ k : Nat, k ≤ M ∧ y = .int .i64 (k : Int) ∧ wr.ownsRow (w.heap.size + 2) 3 1 v (chgK a b k).length (ints (chgK a b k)) ∧ Below w.heap.size w wr ∧ Bk wr w.heap.size 42 #[.slice A a.length c] ∧ Bk wr (w.heap.size + 1) 42 #[.slice B b.length d]) (fun _ y _ => M - (intOf y).toNat)
  case atStart => exact ⟨0, Nat.zero_le _, rfl, World.ownsRow_nil _ _ _ _, hb0, k2, k3⟩
  case round =>
  clear hb0 k2 k3
  obtain ⟨k, hk, rfl, hown, hbw, h2, h3⟩ := hrel
  obtain ⟨A5, c5, rfl, _, _⟩ := ownsSlice hown
  have hbs := hbw.size
  have hl2 := h2.lt
  have hl3 := h3.lt
  have hcl := chgK_len a b k
  have HNE : Hid (some w.heap.size ≠ (Value.slice A5 (chgK a b k).length c5).ownBlock ∧ some (w.heap.size + 1) ≠ (Value.slice A5 (chgK a b k).length c5).ownBlock) := ⟨own_ne hown (by omega), own_ne hown (by omega)⟩
  by_cases hlt : k < M
  · have hkI : (k : Int) < (M : Int) := by omega
    have hk0 : 0 ≤ (k : Int) := by omega
    have x2 := h2.cell 0 rfl
    have x3 := h3.cell 0 rfl
    by_cases h1 : a.length ≤ k
    · have h1b : decide ((a.length : Int) ≤ (k : Int)) = true := decide_eq_true (by omega)
      have h1c : decide (a.length ≤ k) = true := decide_eq_true h1
      have HCH : Hid (chgAt a b k = true) := by show _ = _; unfold chgAt; rw [List.getElem?_eq_none h1]
      go_upto_region 5 with fail
      refine wp_region_held_drew (S := (fun w' => w'.cell? ⟨w.heap.size, 0, none⟩ = some (.slice A a.length c) ∧ w'.cell? ⟨w.heap.size + 1, 0, none⟩ = some (.slice B b.length d))) (by kernel_rfl) ?_ (fun hHeld => ?_)
      · exact ⟨x2, x3⟩
      refine tk 0 17 ?_
      refine tk 1 18 ?_
      refine tk 2 19 ?_
      refine tk 3 20 ?_
      refine tk 4 21 ?_
      refine tk 5 22 ?_
      refine sk 6 23 ?_
      refine sk 7 24 ?_
      refine sk 8 25 ?_
      refine sk 9 26 ?_
      refine sk 10 27 ?_
      refine tk 11 28 ?_
      refine tk 12 29 ?_
      refine sk 13 30 ?_
      refine sk 14 31 ?_
      refine sk 15 32 ?_
      refine sk 16 33 ?_
      refine sk 17 34 ?_
      refine sk 18 35 ?_
      refine sk 19 36 ?_
      refine sk 20 37 ?_
      refine sk 21 38 ?_
      refine sk 22 39 ?_
      refine sk 23 40 ?_
      refine sk 24 41 ?_
      refine sk 25 42 ?_
      refine tk 26 43 ?_
      refine wpAnyH_done (by kernel_rfl) ?_ _
      clear hHeld
      go_wp2_with (at_builtin; refine wpList_append_own _ rfl (.tmp 44) (.tmp 46) 25 rfl (w.heap.size + 2) 3 i0 (.int .i64 0) 1 8 Try.underlying25 I3.out.1 I3.out.2.1 I3.out.2.2.1 I3.out.2.2.2 rfl (by decide) _ (chgK a b k).length (ints (chgK a b k)) rfl (hown.drew.alloc _) ⟨wr.heap.size, 0, none⟩ 1 1 [.int .i64 k] rfl rfl ?_ ?_ ?_ ?_ ?_ ?_; (exact cell_one_new _ _ _); (intro u hu; simp at hu; subst hu; rfl); (unfold maxLen; omega); (omega); (have := hbw.size; simp; omega); intro v5 w5 hown5 hgrow5 _; have hB5 : Below w.heap.size w w5 := below_own (by exact (by repeat (first | with_reducible exact Below.refl _ _ | with_reducible assumption | with_reducible refine Below.drew ?_ | with_reducible refine below_drewN ?_ _ | (with_reducible refine Below.alloc ?_ ?_ _; rotate_left; (try simp) <;> omega) | (with_reducible refine Below.setCell ?_ ?_ _; rotate_left; (try simp) <;> omega)))) (hown.drew.alloc _) hgrow5 (by omega) (by have := hbw.size; simp; omega); have h25 := Bk.grown (h2.drew.alloc (.cells #[.int .i64 k] 3)) hgrow5 (HNE.out.1); have h35 := Bk.grown (h3.drew.alloc (.cells #[.int .i64 k] 3)) hgrow5 (HNE.out.2); clear hgrow5)
      rw [ints_snoc, ← chgK_yes HCH.out] at hown5
      have hlen : Hid ((chgK a b k).length + 1 = (chgK a b (k + 1)).length) := by show _ = _; rw [chgK_yes HCH.out]; simp
      rw [hlen.out] at hown5
      go_wp2
      go_roundw
      case rel => exact ⟨k + 1, by omega, by go_num, hown5, hB5, h25, h35⟩
      case measure => simp [intOf] <;> omega
    · have h1b : decide ((a.length : Int) ≤ (k : Int)) = false := decide_eq_false (by omega)
      have h1c : decide (a.length ≤ k) = false := decide_eq_false h1
      have h1I : (k : Int) < (a.length : Int) := by omega
      by_cases h4 : b.length ≤ k
      · have h4b : decide ((b.length : Int) ≤ (k : Int)) = true := decide_eq_true (by omega)
        have h4c : decide (b.length ≤ k) = true := decide_eq_true h4
        have HCH : Hid (chgAt a b k = true) := by show _ = _; unfold chgAt; rw [List.getElem?_eq_none h4]; split <;> simp_all
        go_upto_region 5 with fail
        refine wp_region_held_drew (S := (fun w' => w'.cell? ⟨w.heap.size, 0, none⟩ = some (.slice A a.length c) ∧ w'.cell? ⟨w.heap.size + 1, 0, none⟩ = some (.slice B b.length d))) (by kernel_rfl) ?_ (fun hHeld => ?_)
        · exact ⟨x2, x3⟩
        refine tk 0 17 ?_
        refine tk 1 18 ?_
        refine tk 2 19 ?_
        refine tk 3 20 ?_
        refine tk 4 21 ?_
        refine tk 5 22 ?_
        refine tk 6 23 ?_
        refine tk 7 24 ?_
        refine tk 8 25 ?_
        refine tk 9 26 ?_
        refine tk 10 27 ?_
        refine tk 11 28 ?_
        refine tk 12 29 ?_
        refine sk 13 30 ?_
        refine sk 14 31 ?_
        refine sk 15 32 ?_
        refine sk 16 33 ?_
        refine sk 17 34 ?_
        refine sk 18 35 ?_
        refine sk 19 36 ?_
        refine sk 20 37 ?_
        refine sk 21 38 ?_
        refine sk 22 39 ?_
        refine sk 23 40 ?_
        refine sk 24 41 ?_
        refine sk 25 42 ?_
        refine tk 26 43 ?_
        refine wpAnyH_done (by kernel_rfl) ?_ _
        clear hHeld
        go_wp2_with (at_builtin; refine wpList_append_own _ rfl (.tmp 44) (.tmp 46) 25 rfl (w.heap.size + 2) 3 i0 (.int .i64 0) 1 8 Try.underlying25 I3.out.1 I3.out.2.1 I3.out.2.2.1 I3.out.2.2.2 rfl (by decide) _ (chgK a b k).length (ints (chgK a b k)) rfl (hown.drew.alloc _) ⟨wr.heap.size, 0, none⟩ 1 1 [.int .i64 k] rfl rfl ?_ ?_ ?_ ?_ ?_ ?_; (exact cell_one_new _ _ _); (intro u hu; simp at hu; subst hu; rfl); (unfold maxLen; omega); (omega); (have := hbw.size; simp; omega); intro v5 w5 hown5 hgrow5 _; have hB5 : Below w.heap.size w w5 := below_own (by exact (by repeat (first | with_reducible exact Below.refl _ _ | with_reducible assumption | with_reducible refine Below.drew ?_ | with_reducible refine below_drewN ?_ _ | (with_reducible refine Below.alloc ?_ ?_ _; rotate_left; (try simp) <;> omega) | (with_reducible refine Below.setCell ?_ ?_ _; rotate_left; (try simp) <;> omega)))) (hown.drew.alloc _) hgrow5 (by omega) (by have := hbw.size; simp; omega); have h25 := Bk.grown (h2.drew.alloc (.cells #[.int .i64 k] 3)) hgrow5 (HNE.out.1); have h35 := Bk.grown (h3.drew.alloc (.cells #[.int .i64 k] 3)) hgrow5 (HNE.out.2); clear hgrow5)
        rw [ints_snoc, ← chgK_yes HCH.out] at hown5
        have hlen : Hid ((chgK a b k).length + 1 = (chgK a b (k + 1)).length) := by show _ = _; rw [chgK_yes HCH.out]; simp
        rw [hlen.out] at hown5
        go_wp2
        go_roundw
        case rel => exact ⟨k + 1, by omega, by go_num, hown5, hB5, h25, h35⟩
        case measure => simp [intOf] <;> omega
      · have h4b : decide ((b.length : Int) ≤ (k : Int)) = false := decide_eq_false (by omega)
        have h4c : decide (b.length ≤ k) = false := decide_eq_false h4
        have h4I : (k : Int) < (b.length : Int) := by omega
        have hka : k < a.length := by omega
        have hkb : k < b.length := by omega
        have hch : chgAt a b k = (a[k].day != b[k].day) := by unfold chgAt; rw [List.getElem?_eq_getElem hka, List.getElem?_eq_getElem hkb]
        have HC0 := Lib.hid hch
        clear hch
        obtain ⟨a1, rfl, _, t0, _, _⟩ := turn_at (HAW.out wr hbw) hka
        obtain ⟨a2, rfl, _, s0, _, _⟩ := turn_at (HBW.out wr hbw) hkb
        generalize a[k].day = x at *
        generalize b[k].day = y at *
        by_cases hxy : x = y
        · have hxb : (x != y) = false := by simpa using hxy
          have HCH : Hid (chgAt a b k = false) := by show _ = _; rw [HC0.out]; exact hxb
          clear hxy HC0
          go_upto_region 5 with fail
          refine wp_region_held_drew (S := (fun w' => (w'.cell? ⟨w.heap.size, 0, none⟩ = some (.slice (some a1) a.length c) ∧ w'.cell? ⟨w.heap.size + 1, 0, none⟩ = some (.slice (some a2) b.length d)) ∧ w'.cell? (a1.add (k * 3)) = some (.int .i64 x) ∧ w'.cell? (a2.add (k * 3)) = some (.int .i64 y))) (by kernel_rfl) ?_ (fun hHeld => ?_)
          · exact ⟨⟨x2, x3⟩, t0, s0⟩
          refine tk 0 17 ?_
          refine tk 1 18 ?_
          refine tk 2 19 ?_
          refine tk 3 20 ?_
          refine tk 4 21 ?_
          refine tk 5 22 ?_
          refine tk 6 23 ?_
          refine tk 7 24 ?_
          refine tk 8 25 ?_
          refine tk 9 26 ?_
          refine tk 10 27 ?_
          refine tk 11 28 ?_
          refine tk 12 29 ?_
          refine tk 13 30 ?_
          refine tk 14 31 ?_
          refine tk 15 32 ?_
          refine tk 16 33 ?_
          refine tk 17 34 ?_
          refine tk 18 35 ?_
          refine tk 19 36 ?_
          refine tk 20 37 ?_
          refine tk 21 38 ?_
          refine tk 22 39 ?_
          refine tk 23 40 ?_
          refine tk 24 41 ?_
          refine tk 25 42 ?_
          refine tk 26 43 ?_
          refine wpAnyH_done (by kernel_rfl) ?_ _
          clear hHeld
          go_wp2
          go_roundw
          case rel => exact ⟨k + 1, by omega, by go_num, by rw [chgK_no HCH.out]; exact hown.drew, by exact (by repeat (first | with_reducible exact Below.refl _ _ | with_reducible assumption | with_reducible refine Below.drew ?_ | with_reducible refine below_drewN ?_ _ | (with_reducible refine Below.alloc ?_ ?_ _; rotate_left; (try simp) <;> omega) | (with_reducible refine Below.setCell ?_ ?_ _; rotate_left; (try simp) <;> omega))), h2.drew, h3.drew⟩
          case measure => simp [intOf] <;> omega
        · have hxb : (x != y) = true := by simpa using hxy
          have HCH : Hid (chgAt a b k = true) := by show _ = _; rw [HC0.out]; exact hxb
          clear hxy HC0
          go_upto_region 5 with fail
          refine wp_region_held_drew (S := (fun w' => (w'.cell? ⟨w.heap.size, 0, none⟩ = some (.slice (some a1) a.length c) ∧ w'.cell? ⟨w.heap.size + 1, 0, none⟩ = some (.slice (some a2) b.length d)) ∧ w'.cell? (a1.add (k * 3)) = some (.int .i64 x) ∧ w'.cell? (a2.add (k * 3)) = some (.int .i64 y))) (by kernel_rfl) ?_ (fun hHeld => ?_)
          · exact ⟨⟨x2, x3⟩, t0, s0⟩
          refine tk 0 17 ?_
          refine tk 1 18 ?_
          refine tk 2 19 ?_
          refine tk 3 20 ?_
          refine tk 4 21 ?_
          refine tk 5 22 ?_
          refine tk 6 23 ?_
          refine tk 7 24 ?_
          refine tk 8 25 ?_
          refine tk 9 26 ?_
          refine tk 10 27 ?_
          refine tk 11 28 ?_
          refine tk 12 29 ?_
          refine tk 13 30 ?_
          refine tk 14 31 ?_
          refine tk 15 32 ?_
          refine tk 16 33 ?_
          refine tk 17 34 ?_
          refine tk 18 35 ?_
          refine tk 19 36 ?_
          refine tk 20 37 ?_
          refine tk 21 38 ?_
          refine tk 22 39 ?_
          refine tk 23 40 ?_
          refine tk 24 41 ?_
          refine tk 25 42 ?_
          refine tk 26 43 ?_
          refine wpAnyH_done (by kernel_rfl) ?_ _
          clear hHeld
          go_wp2_with (at_builtin; refine wpList_append_own _ rfl (.tmp 44) (.tmp 46) 25 rfl (w.heap.size + 2) 3 i0 (.int .i64 0) 1 8 Try.underlying25 I3.out.1 I3.out.2.1 I3.out.2.2.1 I3.out.2.2.2 rfl (by decide) _ (chgK a b k).length (ints (chgK a b k)) rfl (hown.drew.alloc _) ⟨wr.heap.size, 0, none⟩ 1 1 [.int .i64 k] rfl rfl ?_ ?_ ?_ ?_ ?_ ?_; (exact cell_one_new _ _ _); (intro u hu; simp at hu; subst hu; rfl); (unfold maxLen; omega); (omega); (have := hbw.size; simp; omega); intro v5 w5 hown5 hgrow5 _; have hB5 : Below w.heap.size w w5 := below_own (by exact (by repeat (first | with_reducible exact Below.refl _ _ | with_reducible assumption | with_reducible refine Below.drew ?_ | with_reducible refine below_drewN ?_ _ | (with_reducible refine Below.alloc ?_ ?_ _; rotate_left; (try simp) <;> omega) | (with_reducible refine Below.setCell ?_ ?_ _; rotate_left; (try simp) <;> omega)))) (hown.drew.alloc _) hgrow5 (by omega) (by have := hbw.size; simp; omega); have h25 := Bk.grown (h2.drew.alloc (.cells #[.int .i64 k] 3)) hgrow5 (HNE.out.1); have h35 := Bk.grown (h3.drew.alloc (.cells #[.int .i64 k] 3)) hgrow5 (HNE.out.2); clear hgrow5)
          rw [ints_snoc, ← chgK_yes HCH.out] at hown5
          have hlen : Hid ((chgK a b k).length + 1 = (chgK a b (k + 1)).length) := by show _ = _; rw [chgK_yes HCH.out]; simp
          rw [hlen.out] at hown5
          go_wp2
          go_roundw
          case rel => exact ⟨k + 1, by omega, by go_num, hown5, hB5, h25, h35⟩
          case measure => simp [intOf] <;> omega
  · obtain rfl : k = M := by omega
    go_wp2
    go_ret
    exact ⟨_, rfl, ownsRow_base hown (by omega), hbw⟩
end Go.Proofs.Ytjgnikmnadmheaa

namespace Go.Proofs.Ytjgnikmnadmheaa
open Go.RowKit

set_option maxRecDepth 100000 in
set_option maxHeartbeats 2000000 in
theorem rchanged_any (a b : List Tu) (A B : Option Addr) (c d : Nat) (w : World) (hA : Lies w w.heap.size A (turnsC a)) (hB : Lies w w.heap.size B (turnsC b)) (hn : a.length ≤ 1000) (hm : b.length ≤ 1000) :
    Calls Try.prog 39 #[.agg #[.slice A a.length c], .agg #[.slice B b.length d]] w (IntsEnd (chgL a b) w) := by
  obtain ⟨i0, hi0, hz0, hz1, hz2⟩ := info_parts info3
  have I3 := Lib.hid (And.intro hi0 (And.intro hz0 (And.intro hz1 hz2))); clear hi0 hz0 hz1 hz2
  have k2 : Bk ((w.alloc (.cells #[.slice A a.length c] 42)).alloc (.cells #[.slice B b.length d] 42)) w.heap.size 42 #[.slice A a.length c] := (Bk.new _ _ _).alloc _
  have k3 : Bk ((w.alloc (.cells #[.slice A a.length c] 42)).alloc (.cells #[.slice B b.length d] 42)) (w.heap.size + 1) 42 #[.slice B b.length d] := by simpa using Bk.new (w.alloc (.cells #[.slice A a.length c] 42)) 42 #[.slice B b.length d]
  have hb0 : Below w.heap.size w ((w.alloc (.cells #[.slice A a.length c] 42)).alloc (.cells #[.slice B b.length d] 42)) := by exact (by repeat (first | with_reducible exact Below.refl _ _ | with_reducible assumption | with_reducible refine Below.drew ?_ | with_reducible refine below_drewN ?_ _ | (with_reducible refine Below.alloc ?_ ?_ _; rotate_left; (try simp) <;> omega) | (with_reducible refine Below.setCell ?_ ?_ _; rotate_left; (try simp) <;> omega)))
  have HAW := Lib.hid (fun W (hb : Below w.heap.size w W) => hA.below hb (Nat.le_refl _))
  have HBW := Lib.hid (fun W (hb : Below w.heap.size w W) => hB.below hb (Nat.le_refl _))
  obtain ⟨M, hM⟩ : ∃ M, max a.length b.length = M := ⟨_, rfl⟩
  have hMI : max (a.length : Int) (b.length : Int) = (M : Int) := by omega
  have hMa : a.length ≤ M := by omega
  have hMb : b.length ≤ M := by omega
  have hM2 : M ≤ 1000 := by omega
  have hE : chgL a b = chgK a b M := by unfold chgL; rw [hM]
  rw [hE]
  have HMI := Lib.hid hMI
  clear hE hA hB hM hMI
  go_enter Try.func39, Try.ntmps39
  go_wp2
  go_loopw [5, 6] (fun v y wr => ∃ k : Nat, k ≤ M ∧ y = .int .i64 (k : Int) ∧ wr.ownsRow (w.heap.size + 2) 3 1 v (chgK a b k).length (ints (chgK a b k)) ∧ Below w.heap.size w wr ∧ Bk wr w.heap.size 42 #[.slice A a.length c] ∧ Bk wr (w.heap.size + 1) 42 #[.slice B b.length d]) (fun _ y _ => M - (intOf y).toNat)
  case atStart => exact ⟨0, Nat.zero_le _, rfl, World.ownsRow_nil _ _ _ _, hb0, k2, k3⟩
  case round =>
  clear hb0 k2 k3
  obtain ⟨k, hk, rfl, hown, hbw, h2, h3⟩ := hrel
  obtain ⟨A5, c5, rfl, _, _⟩ := ownsSlice hown
  have hbs := hbw.size
  have hl2 := h2.lt
  have hl3 := h3.lt
  have hcl := chgK_len a b k
  have HNE : Hid (some w.heap.size ≠ (Value.slice A5 (chgK a b k).length c5).ownBlock ∧ some (w.heap.size + 1) ≠ (Value.slice A5 (chgK a b k).length c5).ownBlock) := ⟨own_ne hown (by omega), own_ne hown (by omega)⟩
  have hMI := HMI.out
  have x2 := h2.cell 0 rfl
  have x3 := h3.cell 0 rfl
  by_cases hlt : k < M
  · have hkI : (k : Int) < (M : Int) := by omega
    have hk0 : 0 ≤ (k : Int) := by omega
    by_cases h1 : a.length ≤ k
    · have h1b : decide ((a.length : Int) ≤ (k : Int)) = true := decide_eq_true (by omega)
      have h1c : decide (a.length ≤ k) = true := decide_eq_true h1
      have HCH : Hid (chgAt a b k = true) := by show _ = _; unfold chgAt; rw [List.getElem?_eq_none h1]
      go_upto_region 5 with fail
      refine wp_region_held_drew (S := (fun w' => w'.cell? ⟨w.heap.size, 0, none⟩ = some (.slice A a.length c) ∧ w'.cell? ⟨w.heap.size + 1, 0, none⟩ = some (.slice B b.length d))) (by kernel_rfl) ?_ (fun hHeld => ?_)
      · exact ⟨x2, x3⟩
      refine tk 0 18 ?_
      refine tk 1 19 ?_
      refine tk 2 20 ?_
      refine tk 3 21 ?_
      refine tk 4 22 ?_
      refine tk 5 23 ?_
      refine sk 6 24 ?_
      refine sk 7 25 ?_
      refine sk 8 26 ?_
      refine sk 9 27 ?_
      refine sk 10 28 ?_
      refine tk 11 29 ?_
      refine tk 12 30 ?_
      refine sk 13 31 ?_
      refine sk 14 32 ?_
      refine sk 15 33 ?_
      refine sk 16 34 ?_
      refine sk 17 35 ?_
      refine sk 18 36 ?_
      refine sk 19 37 ?_
      refine sk 20 38 ?_
      refine sk 21 39 ?_
      refine sk 22 40 ?_
      refine sk 23 41 ?_
      refine sk 24 42 ?_
      refine sk 25 43 ?_
      refine tk 26 44 ?_
      refine wpAnyH_done (by kernel_rfl) ?_ _
      clear hHeld
      go_wp2_with (at_builtin; refine wpList_append_own _ rfl (.tmp 45) (.tmp 47) 25 rfl (w.heap.size + 2) 3 i0 (.int .i64 0) 1 8 Try.underlying25 I3.out.1 I3.out.2.1 I3.out.2.2.1 I3.out.2.2.2 rfl (by decide) _ (chgK a b k).length (ints (chgK a b k)) rfl (hown.drew.alloc _) ⟨wr.heap.size, 0, none⟩ 1 1 [.int .i64 k] rfl rfl ?_ ?_ ?_ ?_ ?_ ?_; (exact cell_one_new _ _ _); (intro u hu; simp at hu; subst hu; rfl); (unfold maxLen; omega); (omega); (have := hbw.size; simp; omega); intro v5 w5 hown5 hgrow5 _; have hB5 : Below w.heap.size w w5 := below_own (by exact (by repeat (first | with_reducible exact Below.refl _ _ | with_reducible assumption | with_reducible refine Below.drew ?_ | with_reducible refine below_drewN ?_ _ | (with_reducible refine Below.alloc ?_ ?_ _; rotate_left; (try simp) <;> omega) | (with_reducible refine Below.setCell ?_ ?_ _; rotate_left; (try simp) <;> omega)))) (hown.drew.alloc _) hgrow5 (by omega) (by have := hbw.size; simp; omega); have h25 := Bk.grown (h2.drew.alloc (.cells #[.int .i64 k] 3)) hgrow5 (HNE.out.1); have h35 := Bk.grown (h3.drew.alloc (.cells #[.int .i64 k] 3)) hgrow5 (HNE.out.2); clear hgrow5)
      rw [ints_snoc, ← chgK_yes HCH.out] at hown5
      have hlen : Hid ((chgK a b k).length + 1 = (chgK a b (k + 1)).length) := by show _ = _; rw [chgK_yes HCH.out]; simp
      rw [hlen.out] at hown5
      go_wp2
      go_roundw
      case rel => exact ⟨k + 1, by omega, by go_num, hown5, hB5, h25, h35⟩
      case measure => simp [intOf] <;> omega
    · have h1b : decide ((a.length : Int) ≤ (k : Int)) = false := decide_eq_false (by omega)
      have h1c : decide (a.length ≤ k) = false := decide_eq_false h1
      have h1I : (k : Int) < (a.length : Int) := by omega
      by_cases h4 : b.length ≤ k
      · have h4b : decide ((b.length : Int) ≤ (k : Int)) = true := decide_eq_true (by omega)
        have h4c : decide (b.length ≤ k) = true := decide_eq_true h4
        have HCH : Hid (chgAt a b k = true) := by show _ = _; unfold chgAt; rw [List.getElem?_eq_none h4]; split <;> simp_all
        go_upto_region 5 with fail
        refine wp_region_held_drew (S := (fun w' => w'.cell? ⟨w.heap.size, 0, none⟩ = some (.slice A a.length c) ∧ w'.cell? ⟨w.heap.size + 1, 0, none⟩ = some (.slice B b.length d))) (by kernel_rfl) ?_ (fun hHeld => ?_)
        · exact ⟨x2, x3⟩
        refine tk 0 18 ?_
        refine tk 1 19 ?_
        refine tk 2 20 ?_
        refine tk 3 21 ?_
        refine tk 4 22 ?_
        refine tk 5 23 ?_
        refine tk 6 24 ?_
        refine tk 7 25 ?_
        refine tk 8 26 ?_
        refine tk 9 27 ?_
        refine tk 10 28 ?_
        refine tk 11 29 ?_
        refine tk 12 30 ?_
        refine sk 13 31 ?_
        refine sk 14 32 ?_
        refine sk 15 33 ?_
        refine sk 16 34 ?_
        refine sk 17 35 ?_
        refine sk 18 36 ?_
        refine sk 19 37 ?_
        refine sk 20 38 ?_
        refine sk 21 39 ?_
        refine sk 22 40 ?_
        refine sk 23 41 ?_
        refine sk 24 42 ?_
        refine sk 25 43 ?_
        refine tk 26 44 ?_
        refine wpAnyH_done (by kernel_rfl) ?_ _
        clear hHeld
        go_wp2_with (at_builtin; refine wpList_append_own _ rfl (.tmp 45) (.tmp 47) 25 rfl (w.heap.size + 2) 3 i0 (.int .i64 0) 1 8 Try.underlying25 I3.out.1 I3.out.2.1 I3.out.2.2.1 I3.out.2.2.2 rfl (by decide) _ (chgK a b k).length (ints (chgK a b k)) rfl (hown.drew.alloc _) ⟨wr.heap.size, 0, none⟩ 1 1 [.int .i64 k] rfl rfl ?_ ?_ ?_ ?_ ?_ ?_; (exact cell_one_new _ _ _); (intro u hu; simp at hu; subst hu; rfl); (unfold maxLen; omega); (omega); (have := hbw.size; simp; omega); intro v5 w5 hown5 hgrow5 _; have hB5 : Below w.heap.size w w5 := below_own (by exact (by repeat (first | with_reducible exact Below.refl _ _ | with_reducible assumption | with_reducible refine Below.drew ?_ | with_reducible refine below_drewN ?_ _ | (with_reducible refine Below.alloc ?_ ?_ _; rotate_left; (try simp) <;> omega) | (with_reducible refine Below.setCell ?_ ?_ _; rotate_left; (try simp) <;> omega)))) (hown.drew.alloc _) hgrow5 (by omega) (by have := hbw.size; simp; omega); have h25 := Bk.grown (h2.drew.alloc (.cells #[.int .i64 k] 3)) hgrow5 (HNE.out.1); have h35 := Bk.grown (h3.drew.alloc (.cells #[.int .i64 k] 3)) hgrow5 (HNE.out.2); clear hgrow5)
        rw [ints_snoc, ← chgK_yes HCH.out] at hown5
        have hlen : Hid ((chgK a b k).length + 1 = (chgK a b (k + 1)).length) := by show _ = _; rw [chgK_yes HCH.out]; simp
        rw [hlen.out] at hown5
        go_wp2
        go_roundw
        case rel => exact ⟨k + 1, by omega, by go_num, hown5, hB5, h25, h35⟩
        case measure => simp [intOf] <;> omega
      · have h4b : decide ((b.length : Int) ≤ (k : Int)) = false := decide_eq_false (by omega)
        have h4c : decide (b.length ≤ k) = false := decide_eq_false h4
        have h4I : (k : Int) < (b.length : Int) := by omega
        have hka : k < a.length := by omega
        have hkb : k < b.length := by omega
        have hch : chgAt a b k = (a[k].day != b[k].day) := by unfold chgAt; rw [List.getElem?_eq_getElem hka, List.getElem?_eq_getElem hkb]
        have HC0 := Lib.hid hch
        clear hch
        obtain ⟨a1, rfl, _, t0, _, _⟩ := turn_at (HAW.out wr hbw) hka
        obtain ⟨a2, rfl, _, s0, _, _⟩ := turn_at (HBW.out wr hbw) hkb
        generalize a[k].day = x at *
        generalize b[k].day = y at *
        by_cases hxy : x = y
        · have hxb : (x != y) = false := by simpa using hxy
          have HCH : Hid (chgAt a b k = false) := by show _ = _; rw [HC0.out]; exact hxb
          clear hxy HC0
          go_upto_region 5 with fail
          refine wp_region_held_drew (S := (fun w' => (w'.cell? ⟨w.heap.size, 0, none⟩ = some (.slice (some a1) a.length c) ∧ w'.cell? ⟨w.heap.size + 1, 0, none⟩ = some (.slice (some a2) b.length d)) ∧ w'.cell? (a1.add (k * 3)) = some (.int .i64 x) ∧ w'.cell? (a2.add (k * 3)) = some (.int .i64 y))) (by kernel_rfl) ?_ (fun hHeld => ?_)
          · exact ⟨⟨x2, x3⟩, t0, s0⟩
          refine tk 0 18 ?_
          refine tk 1 19 ?_
          refine tk 2 20 ?_
          refine tk 3 21 ?_
          refine tk 4 22 ?_
          refine tk 5 23 ?_
          refine tk 6 24 ?_
          refine tk 7 25 ?_
          refine tk 8 26 ?_
          refine tk 9 27 ?_
          refine tk 10 28 ?_
          refine tk 11 29 ?_
          refine tk 12 30 ?_
          refine tk 13 31 ?_
          refine tk 14 32 ?_
          refine tk 15 33 ?_
          refine tk 16 34 ?_
          refine tk 17 35 ?_
          refine tk 18 36 ?_
          refine tk 19 37 ?_
          refine tk 20 38 ?_
          refine tk 21 39 ?_
          refine tk 22 40 ?_
          refine tk 23 41 ?_
          refine tk 24 42 ?_
          refine tk 25 43 ?_
          refine tk 26 44 ?_
          refine wpAnyH_done (by kernel_rfl) ?_ _
          clear hHeld
          go_wp2
          go_roundw
          case rel => exact ⟨k + 1, by omega, by go_num, by rw [chgK_no HCH.out]; exact hown.drew, by exact (by repeat (first | with_reducible exact Below.refl _ _ | with_reducible assumption | with_reducible refine Below.drew ?_ | with_reducible refine below_drewN ?_ _ | (with_reducible refine Below.alloc ?_ ?_ _; rotate_left; (try simp) <;> omega) | (with_reducible refine Below.setCell ?_ ?_ _; rotate_left; (try simp) <;> omega))), h2.drew, h3.drew⟩
          case measure => simp [intOf] <;> omega
        · have hxb : (x != y) = true := by simpa using hxy
          have HCH : Hid (chgAt a b k = true) := by show _ = _; rw [HC0.out]; exact hxb
          clear hxy HC0
          go_upto_region 5 with fail
          refine wp_region_held_drew (S := (fun w' => (w'.cell? ⟨w.heap.size, 0, none⟩ = some (.slice (some a1) a.length c) ∧ w'.cell? ⟨w.heap.size + 1, 0, none⟩ = some (.slice (some a2) b.length d)) ∧ w'.cell? (a1.add (k * 3)) = some (.int .i64 x) ∧ w'.cell? (a2.add (k * 3)) = some (.int .i64 y))) (by kernel_rfl) ?_ (fun hHeld => ?_)
          · exact ⟨⟨x2, x3⟩, t0, s0⟩
          refine tk 0 18 ?_
          refine tk 1 19 ?_
          refine tk 2 20 ?_
          refine tk 3 21 ?_
          refine tk 4 22 ?_
          refine tk 5 23 ?_
          refine tk 6 24 ?_
          refine tk 7 25 ?_
          refine tk 8 26 ?_
          refine tk 9 27 ?_
          refine tk 10 28 ?_
          refine tk 11 29 ?_
          refine tk 12 30 ?_
          refine tk 13 31 ?_
          refine tk 14 32 ?_
          refine tk 15 33 ?_
          refine tk 16 34 ?_
          refine tk 17 35 ?_
          refine tk 18 36 ?_
          refine tk 19 37 ?_
          refine tk 20 38 ?_
          refine tk 21 39 ?_
          refine tk 22 40 ?_
          refine tk 23 41 ?_
          refine tk 24 42 ?_
          refine tk 25 43 ?_
          refine tk 26 44 ?_
          refine wpAnyH_done (by kernel_rfl) ?_ _
          clear hHeld
          go_wp2_with (at_builtin; refine wpList_append_own _ rfl (.tmp 45) (.tmp 47) 25 rfl (w.heap.size + 2) 3 i0 (.int .i64 0) 1 8 Try.underlying25 I3.out.1 I3.out.2.1 I3.out.2.2.1 I3.out.2.2.2 rfl (by decide) _ (chgK a b k).length (ints (chgK a b k)) rfl (hown.drew.alloc _) ⟨wr.heap.size, 0, none⟩ 1 1 [.int .i64 k] rfl rfl ?_ ?_ ?_ ?_ ?_ ?_; (exact cell_one_new _ _ _); (intro u hu; simp at hu; subst hu; rfl); (unfold maxLen; omega); (omega); (have := hbw.size; simp; omega); intro v5 w5 hown5 hgrow5 _; have hB5 : Below w.heap.size w w5 := below_own (by exact (by repeat (first | with_reducible exact Below.refl _ _ | with_reducible assumption | with_reducible refine Below.drew ?_ | with_reducible refine below_drewN ?_ _ | (with_reducible refine Below.alloc ?_ ?_ _; rotate_left; (try simp) <;> omega) | (with_reducible refine Below.setCell ?_ ?_ _; rotate_left; (try simp) <;> omega)))) (hown.drew.alloc _) hgrow5 (by omega) (by have := hbw.size; simp; omega); have h25 := Bk.grown (h2.drew.alloc (.cells #[.int .i64 k] 3)) hgrow5 (HNE.out.1); have h35 := Bk.grown (h3.drew.alloc (.cells #[.int .i64 k] 3)) hgrow5 (HNE.out.2); clear hgrow5)
          rw [ints_snoc, ← chgK_yes HCH.out] at hown5
          have hlen : Hid ((chgK a b k).length + 1 = (chgK a b (k + 1)).length) := by show _ = _; rw [chgK_yes HCH.out]; simp
          rw [hlen.out] at hown5
          go_wp2
          go_roundw
          case rel => exact ⟨k + 1, by omega, by go_num, hown5, hB5, h25, h35⟩
          case measure => simp [intOf] <;> omega
  · have hkM : k = M := by clear hMI; omega
    subst hkM
    have hirr : ¬ (k : Int) < (k : Int) := by clear hMI; omega
    go_wp2
    go_ret
    exact ⟨_, rfl, ownsRow_base hown (by omega), hbw⟩
end Go.Proofs.Ytjgnikmnadmheaa

namespace Go.Proofs.Ytjgnikmnadmheaa
open Go.RowKit

theorem cntK_succ {old : List Tu} {dn k : Nat} {D : List Int} (hd : dn ≤ k) : cntK old dn D (k + 1) = cntK old dn D k + if dayAt old k ≠ some (D.getD k 0) then 1 else 0 := by
  show cntK old dn D k + (if dn ≤ k ∧ dayAt old k ≠ some (D.getD k 0) then 1 else 0) = _
  by_cases h : dayAt old k ≠ some (D.getD k 0)
  · rw [if_pos ⟨hd, h⟩, if_pos h]
  · rw [if_neg (fun e => h e.2), if_neg h]
theorem cntK_before {old : List Tu} {dn : Nat} {D : List Int} : ∀ k, k ≤ dn → cntK old dn D k = 0
  | 0, _ => rfl
  | k + 1, h => by
    show cntK old dn D k + _ = 0
    rw [cntK_before k (by omega), if_neg (fun e => by omega)]; rfl
set_option maxRecDepth 100000 in
set_option maxHeartbeats 2000000 in
theorem count_any (D : List Int) (A : Option Addr) (c : Nat) (old : List Tu) (T : Option Addr) (ct dn : Nat) (w : World) (hA : Lies w w.heap.size A (ints D)) (hT : Lies w w.heap.size T (turnsC old)) (hn : D.length ≤ 1000) (ho : old.length ≤ 1000) (hd : dn ≤ D.length) :
    Calls Try.prog 29 #[.slice A D.length c, .agg #[.slice T old.length ct], .int .i64 dn] w (IntEnd (cntC old dn D) w) := by
  have k4 : Bk (w.alloc (.cells #[.slice T old.length ct] 42)) w.heap.size 42 #[.slice T old.length ct] := Bk.new _ _ _
  have hb0 : Below w.heap.size w (w.alloc (.cells #[.slice T old.length ct] 42)) := by exact (by repeat (first | with_reducible exact Below.refl _ _ | with_reducible assumption | with_reducible refine Below.drew ?_ | with_reducible refine below_drewN ?_ _ | (with_reducible refine Below.alloc ?_ ?_ _; rotate_left; (try simp) <;> omega) | (with_reducible refine Below.setCell ?_ ?_ _; rotate_left; (try simp) <;> omega)))
  have HAW := Lib.hid (fun W (hb : Below w.heap.size w W) => hA.below hb (Nat.le_refl _))
  have HTW := Lib.hid (fun W (hb : Below w.heap.size w W) => hT.below hb (Nat.le_refl _))
  have HC0 : Hid ((0 : Int) = cntK old dn D dn) := (cntK_before dn (Nat.le_refl _)).symm
  clear hA hT
  go_enter Try.func29, Try.ntmps29
  go_wp2
  go_loopw [7, 8] (fun v y wr => ∃ (k : Nat) (p : Int), dn ≤ k ∧ k ≤ D.length ∧ y = .int .i64 (k : Int) ∧ v = .int .i64 p ∧ Hid (p = cntK old dn D k) ∧ (0 ≤ p ∧ p ≤ (k : Int)) ∧ Below w.heap.size w wr ∧ Bk wr w.heap.size 42 #[.slice T old.length ct]) (fun _ y _ => D.length - (intOf y).toNat)
  case atStart => exact ⟨dn, 0, Nat.le_refl _, hd, rfl, rfl, HC0, ⟨Int.le_refl _, by omega⟩, hb0, k4⟩
  case round =>
  clear hb0 k4 HC0
  obtain ⟨k, p, hdk, hk, rfl, rfl, HP, ⟨hp0, hp1⟩, hbw, h4⟩ := hrel
  have hbs := hbw.size
  have x4 := h4.cell 0 rfl
  by_cases hlt : k < D.length
  · have hkI : (k : Int) < (D.length : Int) := by omega
    have hk0 : 0 ≤ (k : Int) := by omega
    have HSU := Lib.hid (cntK_succ (old := old) (D := D) hdk)
    obtain ⟨a1, rfl, _, t0⟩ := int_at (HAW.out wr hbw) hlt
    have hDg : D.getD k 0 = D[k] := by rw [List.getD_eq_getElem?_getD, List.getElem?_eq_getElem hlt]; rfl
    have HDG := Lib.hid hDg
    clear hDg
    by_cases h1 : old.length ≤ k
    · have h1b : decide ((old.length : Int) ≤ (k : Int)) = true := decide_eq_true (by omega)
      have h1c : decide (old.length ≤ k) = true := decide_eq_true h1
      have HN : Hid (p + 1 = cntK old dn D (k + 1)) := by
        show _ = _
        rw [HSU.out, if_pos (by unfold dayAt; rw [List.getElem?_eq_none h1]; simp), ← HP.out]
      clear HSU HDG
      go_upto_region 5 with fail
      refine wp_region_held_drew (S := (fun w' => w'.cell? ⟨w.heap.size, 0, none⟩ = some (.slice T old.length ct))) (by kernel_rfl) ?_ (fun hHeld => ?_)
      · exact x4
      refine tk 0 16 ?_
      refine tk 1 17 ?_
      refine tk 2 18 ?_
      refine tk 3 19 ?_
      refine tk 4 20 ?_
      refine tk 5 21 ?_
      refine sk 6 22 ?_
      refine sk 7 23 ?_
      refine sk 8 24 ?_
      refine sk 9 25 ?_
      refine sk 10 26 ?_
      refine sk 11 27 ?_
      refine sk 12 28 ?_
      refine sk 13 29 ?_
      refine sk 14 30 ?_
      refine sk 15 31 ?_
      refine sk 16 32 ?_
      refine tk 17 33 ?_
      refine wpAnyH_done (by kernel_rfl) ?_ _
      clear hHeld
      go_wp2
      go_roundw
      case rel => exact ⟨k + 1, p + 1, by omega, by omega, by go_num, by go_num, HN, ⟨by omega, by omega⟩, hbw.drew, h4.drew⟩
      case measure => simp [intOf] <;> omega
    · have h1b : decide ((old.length : Int) ≤ (k : Int)) = false := decide_eq_false (by omega)
      have h1c : decide (old.length ≤ k) = false := decide_eq_false h1
      have h1I : (k : Int) < (old.length : Int) := by omega
      have hko : k < old.length := by omega
      have hda : dayAt old k = some old[k].day := by unfold dayAt; rw [List.getElem?_eq_getElem hko]; rfl
      rw [hda] at HSU
      obtain ⟨a2, rfl, _, s0, _, _⟩ := turn_at (HTW.out wr hbw) hko
      clear hda
      generalize old[k].day = y at *
      generalize D[k] = x at *
      rw [HDG.out] at HSU
      by_cases hxy : y = x
      · have hxb : (y != x) = false := by simpa using hxy
        have HN : Hid (p = cntK old dn D (k + 1)) := by
          show _ = _
          rw [HSU.out, if_neg (by rw [hxy]; simp), ← HP.out]; omega
        clear HSU HDG hxy
        go_upto_region 5 with fail
        refine wp_region_held_drew (S := (fun w' => w'.cell? ⟨w.heap.size, 0, none⟩ = some (.slice (some a2) old.length ct) ∧ w'.cell? (a1.add k) = some (.int .i64 x) ∧ w'.cell? (a2.add (k * 3)) = some (.int .i64 y))) (by kernel_rfl) ?_ (fun hHeld => ?_)
        · exact ⟨x4, t0, s0⟩
        refine tk 0 16 ?_
        refine tk 1 17 ?_
        refine tk 2 18 ?_
        refine tk 3 19 ?_
        refine tk 4 20 ?_
        refine tk 5 21 ?_
        refine tk 6 22 ?_
        refine tk 7 23 ?_
        refine tk 8 24 ?_
        refine tk 9 25 ?_
        refine tk 10 26 ?_
        refine tk 11 27 ?_
        refine tk 12 28 ?_
        refine tk 13 29 ?_
        refine tk 14 30 ?_
        refine tk 15 31 ?_
        refine tk 16 32 ?_
        refine tk 17 33 ?_
        refine wpAnyH_done (by kernel_rfl) ?_ _
        clear hHeld
        go_wp2
        go_roundw
        case rel => exact ⟨k + 1, p, by omega, by omega, by go_num, rfl, HN, ⟨by omega, by omega⟩, hbw.drew, h4.drew⟩
        case measure => simp [intOf] <;> omega
      · have hxb : (y != x) = true := by simpa using hxy
        have HN : Hid (p + 1 = cntK old dn D (k + 1)) := by
          show _ = _
          rw [HSU.out, if_pos (by simpa using hxy), ← HP.out]
        clear HSU HDG hxy
        go_upto_region 5 with fail
        refine wp_region_held_drew (S := (fun w' => w'.cell? ⟨w.heap.size, 0, none⟩ = some (.slice (some a2) old.length ct) ∧ w'.cell? (a1.add k) = some (.int .i64 x) ∧ w'.cell? (a2.add (k * 3)) = some (.int .i64 y))) (by kernel_rfl) ?_ (fun hHeld => ?_)
        · exact ⟨x4, t0, s0⟩
        refine tk 0 16 ?_
        refine tk 1 17 ?_
        refine tk 2 18 ?_
        refine tk 3 19 ?_
        refine tk 4 20 ?_
        refine tk 5 21 ?_
        refine tk 6 22 ?_
        refine tk 7 23 ?_
        refine tk 8 24 ?_
        refine tk 9 25 ?_
        refine tk 10 26 ?_
        refine tk 11 27 ?_
        refine tk 12 28 ?_
        refine tk 13 29 ?_
        refine tk 14 30 ?_
        refine tk 15 31 ?_
        refine tk 16 32 ?_
        refine tk 17 33 ?_
        refine wpAnyH_done (by kernel_rfl) ?_ _
        clear hHeld
        go_wp2
        go_roundw
        case rel => exact ⟨k + 1, p + 1, by omega, by omega, by go_num, by go_num, HN, ⟨by omega, by omega⟩, hbw.drew, h4.drew⟩
        case measure => simp [intOf] <;> omega
  · obtain rfl : k = D.length := by omega
    go_wp2
    go_ret
    exact ⟨by rw [HP.out]; rfl, hbw⟩
end Go.Proofs.Ytjgnikmnadmheaa

namespace Go.Proofs.Ytjgnikmnadmheaa
open Go.RowKit

theorem key_lt (old : List Tu) (dn : Nat) (a b : List Int) : lexB (key3 old dn a) (key3 old dn b) = (decide (endL a < endL b) || (decide (endL a = endL b) && (decide (cntC old dn a < cntC old dn b) || (decide (cntC old dn a = cntC old dn b) && lexB a b)))) := rfl
set_option maxRecDepth 100000 in
set_option maxHeartbeats 2000000 in
theorem rbetter_any (a b : List Int) (A B : Option Addr) (c d : Nat) (old : List Tu) (T : Option Addr) (ct dn : Nat) (w : World) (hA : Lies w w.heap.size A (ints a)) (hB : Lies w w.heap.size B (ints b)) (hT : Lies w w.heap.size T (turnsC old)) (hl : a.length = b.length) (hn : a.length ≤ 1000) (ho : old.length ≤ 1000) (hd : dn ≤ a.length) :
    Calls Try.prog 123 #[.slice A a.length c, .slice B b.length d, .agg #[.slice T old.length ct], .int .i64 dn] w (ShEnd (lexB (key3 old dn a) (key3 old dn b)) w) := by
  have k6 : Bk (w.alloc (.cells #[.slice T old.length ct] 42)) w.heap.size 42 #[.slice T old.length ct] := Bk.new _ _ _
  have hb0 : Below w.heap.size w (w.alloc (.cells #[.slice T old.length ct] 42)) := by exact (by repeat (first | with_reducible exact Below.refl _ _ | with_reducible assumption | with_reducible refine Below.drew ?_ | with_reducible refine below_drewN ?_ _ | (with_reducible refine Below.alloc ?_ ?_ _; rotate_left; (try simp) <;> omega) | (with_reducible refine Below.setCell ?_ ?_ _; rotate_left; (try simp) <;> omega)))
  have x6 := k6.cell 0 rfl
  have HAW := Lib.hid (fun W (hb : Below w.heap.size w W) => hA.below hb (Nat.le_refl _))
  have HBW := Lib.hid (fun W (hb : Below w.heap.size w W) => hB.below hb (Nat.le_refl _))
  have HCA := Lib.hid (fun W (hb : Below w.heap.size w W) => count_any a A c old T ct dn W ((hA.below hb (Nat.le_refl _)).more hb.size) ((hT.below hb (Nat.le_refl _)).more hb.size) hn ho hd)
  have HCB := Lib.hid (fun W (hb : Below w.heap.size w W) => count_any b B d old T ct dn W ((hB.below hb (Nat.le_refl _)).more hb.size) ((hT.below hb (Nat.le_refl _)).more hb.size) (by omega) ho (by omega))
  by_cases h0 : a.length = 0
  · have ha : a = [] := List.length_eq_zero_iff.1 h0
    have hb : b = [] := List.length_eq_zero_iff.1 (by omega)
    have hr : Hid (lexB (key3 old dn a) (key3 old dn b) = false) := by show _ = _; rw [ha, hb]; exact lexB_irr _
    have h0b : ((a.length : Int) == 0) = true := by rw [h0]; rfl
    clear hA hB hT hl hn ho hd h0 ha hb HCA HCB HAW HBW
    go_enter Try.func123, Try.ntmps123
    go_wp2
    go_ret
    exact sh_ret hr.out.symm hb0
  · have h0b : ((a.length : Int) == 0) = false := by rw [beq_eq_false_iff_ne]; omega
    have hap : a.length - 1 < a.length := by omega
    have hbp : b.length - 1 < b.length := by omega
    have HKE := Lib.hid (key_lt old dn a b)
    obtain ⟨a1, rfl, _, t0⟩ := int_at (HAW.out _ hb0) hap
    obtain ⟨a2, rfl, _, s0⟩ := int_at (HBW.out _ hb0) hbp
    have hea : endL a = a[a.length - 1] := by unfold endL; rw [List.getD_eq_getElem?_getD, List.getElem?_eq_getElem hap]; rfl
    have heb : endL b = b[b.length - 1] := by unfold endL; rw [List.getD_eq_getElem?_getD, List.getElem?_eq_getElem hbp]; rfl
    rw [hea, heb] at HKE
    clear hea heb
    have hl1 : a.length ≤ b.length := by omega
    have hl2 : b.length ≤ a.length := by omega
    have hP0 : 1 ≤ (a.length : Int) := by omega
    have hD0 : 1 ≤ (b.length : Int) := by omega
    have hP1 : 0 ≤ (a.length : Int) - 1 := by omega
    have hD1 : 0 ≤ (b.length : Int) - 1 := by omega
    have hP2 : (a.length : Int) - 1 < (a.length : Int) := by omega
    have hD2 : (b.length : Int) - 1 < (b.length : Int) := by omega
    have hP3 : ((a.length : Int) - 1).toNat = a.length - 1 := by omega
    have hD3 : ((b.length : Int) - 1).toNat = b.length - 1 := by omega
    clear hA hB hT hl h0 ho
    generalize a[a.length - 1] = ea at *
    generalize b[b.length - 1] = eb at *
    generalize hR : lexB (key3 old dn a) (key3 old dn b) = R at *
    have HR := Lib.hid hR
    clear hR HR
    by_cases h1 : ea = eb
    · have h1b : (ea != eb) = false := by simpa using h1
      have hn1 : Hid (¬ ea < eb) := by show ¬ _; omega
      have H1 := Lib.hid h1
      clear h1
      generalize cntC old dn a = ca at *
      generalize cntC old dn b = cb at *
      by_cases h2 : ca = cb
      · have h2b : (ca != cb) = false := by simpa using h2
        have HRL : Hid (R = lexB a b) := by
          show _ = _
          rw [HKE.out, decide_eq_false hn1.out, decide_eq_true H1.out, decide_eq_false (show ¬ ca < cb by omega), decide_eq_true h2]; simp
        clear h2 HKE
        have HS : Hid (lexB (a.drop 0) (b.drop 0) = R) := HRL.out.symm
        go_enter Try.func123, Try.ntmps123
        go_wp2_with (first | (go_at_call 29; refine (HCA.out _ hb0).mono ?_; rintro e w1 ⟨rfl, hb1⟩; have hB1 : Below w.heap.size w w1 := hb0.trans (hb1.mono hb0.size); have k61 := Bk.below (by exact (by repeat (first | with_reducible assumption | with_reducible exact Bk.new _ _ _ | with_reducible refine Bk.drew ?_ | with_reducible refine Bk.drewN ?_ _ | with_reducible refine Bk.alloc ?_ _ | (with_reducible refine Bk.far ?_ ?_ _; rotate_left; (try simp) <;> omega)))) hb1 k6.lt; have x61 := k61.cell 0 rfl; clear HCA hb1) | (go_at_call 29; refine (HCB.out _ hB1).mono ?_; rintro e w2 ⟨rfl, hb2⟩; have hB2 : Below w.heap.size w w2 := hB1.trans (hb2.mono hB1.size); clear HCB hb2))
        clear t0 s0 x6 k6
        go_loopw [13] (fun y wr => ∃ k : Nat, k ≤ a.length ∧ y = .int .i64 (k : Int) ∧ Hid (lexB (a.drop k) (b.drop k) = R) ∧ Below w.heap.size w wr) (fun y _ => a.length - (intOf y).toNat)
        case atStart => exact ⟨0, Nat.zero_le _, rfl, HS, hB2⟩
        case round =>
        clear HS HRL
        obtain ⟨k, hk, rfl, HK, hbw⟩ := hrel
        by_cases hlt : k < a.length
        · have hlt2 : k < b.length := by omega
          have hkI : (k : Int) < (a.length : Int) := by omega
          have hkJ : (k : Int) < (b.length : Int) := by omega
          have hk0 : 0 ≤ (k : Int) := by omega
          obtain ⟨a1', e1, _, t0⟩ := int_at (HAW.out wr hbw) hlt
          cases e1
          obtain ⟨a2', e2, _, s0⟩ := int_at (HBW.out wr hbw) hlt2
          cases e2
          have HL := Lib.hid (lexB_at hlt hlt2)
          generalize a[k] = x at *
          generalize b[k] = y at *
          by_cases hxy : x = y
          · have hxb : (x != y) = false := by simpa using hxy
            have hr : Hid (lexB (a.drop (k + 1)) (b.drop (k + 1)) = R) := by show _ = _; rw [← HK.out, HL.out, decide_eq_false (show ¬ x < y by omega), decide_eq_true hxy]; simp
            clear hxy
            go_upto_region 14 with fail
            refine wp_region_held_drew (S := (fun w' => w'.cell? (a1.add k) = some (.int .i64 x) ∧ w'.cell? (a2.add k) = some (.int .i64 y))) (by kernel_rfl) ?_ (fun hHeld => ?_)
            · exact ⟨t0, s0⟩
            refine tk 0 55 ?_
            refine tk 1 56 ?_
            refine tk 2 57 ?_
            refine tk 3 58 ?_
            refine tk 4 59 ?_
            refine tk 5 60 ?_
            refine tk 6 61 ?_
            refine tk 7 62 ?_
            refine tk 8 63 ?_
            refine wpAnyH_done (by kernel_rfl) ?_ _
            clear hHeld
            go_wp2
            go_roundw
            case rel => exact ⟨k + 1, by omega, by go_num, hr, hbw.drew⟩
            case measure => simp [intOf] <;> omega
          · have hxb : (x != y) = true := by simpa using hxy
            have hr : Hid (decide (x < y) = R) := by show _ = _; rw [← HK.out, HL.out, decide_eq_false hxy]; simp
            clear hxy
            go_upto_region 14 with fail
            refine wp_region_held_drew (S := (fun w' => w'.cell? (a1.add k) = some (.int .i64 x) ∧ w'.cell? (a2.add k) = some (.int .i64 y))) (by kernel_rfl) ?_ (fun hHeld => ?_)
            · exact ⟨t0, s0⟩
            refine tk 0 55 ?_
            refine tk 1 56 ?_
            refine tk 2 57 ?_
            refine tk 3 58 ?_
            refine tk 4 59 ?_
            refine tk 5 60 ?_
            refine tk 6 61 ?_
            refine tk 7 62 ?_
            refine tk 8 63 ?_
            refine wpAnyH_done (by kernel_rfl) ?_ _
            go_upto_region 15 with fail
            refine wp_region_held_drew (S := (fun w' => w'.cell? (a1.add k) = some (.int .i64 x) ∧ w'.cell? (a2.add k) = some (.int .i64 y))) (by kernel_rfl) ?_ (fun hHeld => ?_)
            · exact hHeld
            refine tk 0 64 ?_
            refine tk 1 65 ?_
            refine tk 2 66 ?_
            refine tk 3 67 ?_
            refine tk 4 68 ?_
            refine tk 5 69 ?_
            refine tk 6 70 ?_
            refine tk 7 71 ?_
            refine tk 8 72 ?_
            refine tk 9 8 ?_
            refine wpAnyH_done (by kernel_rfl) ?_ _
            clear hHeld
            go_wp2
            go_ret
            exact sh_ret hr.out hbw.drew.drew
        · obtain rfl : k = a.length := by omega
          have hr : Hid (R = false) := by
            show _ = _
            rw [← HK.out, List.drop_length, List.drop_eq_nil_of_le hl2]; rfl
          have hirr : ¬ (a.length : Int) < (a.length : Int) := by omega
          go_wp2
          go_ret
          exact sh_ret hr.out.symm hbw
      · have h2b : (ca != cb) = true := by simpa using h2
        have HRL : Hid (R = decide (ca < cb)) := by
          show _ = _
          rw [HKE.out, decide_eq_false hn1.out, decide_eq_true H1.out, decide_eq_false h2]; simp
        clear h2 HKE
        go_enter Try.func123, Try.ntmps123
        go_wp2_with (first | (go_at_call 29; refine (HCA.out _ hb0).mono ?_; rintro e w1 ⟨rfl, hb1⟩; have hB1 : Below w.heap.size w w1 := hb0.trans (hb1.mono hb0.size); have k61 := Bk.below (by exact (by repeat (first | with_reducible assumption | with_reducible exact Bk.new _ _ _ | with_reducible refine Bk.drew ?_ | with_reducible refine Bk.drewN ?_ _ | with_reducible refine Bk.alloc ?_ _ | (with_reducible refine Bk.far ?_ ?_ _; rotate_left; (try simp) <;> omega)))) hb1 k6.lt; have x61 := k61.cell 0 rfl; clear HCA hb1) | (go_at_call 29; refine (HCB.out _ hB1).mono ?_; rintro e w2 ⟨rfl, hb2⟩; have hB2 : Below w.heap.size w w2 := hB1.trans (hb2.mono hB1.size); clear HCB hb2))
        go_ret
        exact sh_ret HRL.out.symm hB2
    · have h1b : (ea != eb) = true := by simpa using h1
      have HRL : Hid (R = decide (ea < eb)) := by
        show _ = _
        rw [HKE.out, decide_eq_false h1]; simp
      clear h1 HKE
      go_enter Try.func123, Try.ntmps123
      go_wp2
      go_ret
      exact sh_ret HRL.out.symm hb0
end Go.Proofs.Ytjgnikmnadmheaa
