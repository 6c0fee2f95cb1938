/- giornataref07.SameInts, for all lists. -/
import Derived.Test.YtjgnikmnadmheaaS7
import Derived.Deep.QuietTactic
import Derived.BigQuiet
namespace Go.Proofs.Ytjgnikmnadmheaa
open Go.RowKit

def sameB (l m : List Int) : Bool := decide (l = m)
theorem sameB_ne {l m : List Int} (h : l.length ≠ m.length) : sameB l m = false := by
  unfold sameB; rw [decide_eq_false_iff_not]; intro e; exact h (by rw [e])
theorem sameB_at {l m : List Int} {k : Nat} (hk : k < l.length) (hm : k < m.length) (h : l[k] ≠ m[k]) : sameB l m = false := by
  unfold sameB; rw [decide_eq_false_iff_not]; intro e; subst e; exact h rfl
theorem sameB_yes {l m : List Int} (hn : l.length = m.length) (h : ∀ k (h1 : k < l.length) (h2 : k < m.length), l[k] = m[k]) : sameB l m = true := by
  unfold sameB; rw [decide_eq_true_eq]; exact List.ext_getElem hn h

set_option maxHeartbeats 400000 in
theorem sameInts_any (l m : List Int) (A B : Option Addr) (c d : Nat) (w : World) (hl : Lies w w.heap.size A (ints l)) (hm : Lies w w.heap.size B (ints m)) (h1 : l.length ≤ 1000000) (h2 : m.length ≤ 1000000) :
    Calls Try.prog 36 #[.slice A l.length c, .slice B m.length d] w (ShEnd (sameB l m) w) := by
  by_cases hn : l.length = m.length
  · have HN := Lib.hid hn
    have HE := Lib.hid (fun k (h1 : k < l.length) (h2 : k < m.length) (h : l[k] ≠ m[k]) => show Hid (sameB l m = false) from sameB_at h1 h2 h)
    have HY := Lib.hid (fun (h : ∀ k (h1 : k < l.length) (h2 : k < m.length), l[k] = m[k]) => show Hid (sameB l m = true) from sameB_yes hn h)
    rw [← hn]
    clear hn
    go_enter Try.func36, Try.ntmps36
    go_wp2
    go_loopw [5] (fun y wr => ∃ k : Nat, k ≤ l.length ∧ y = .int .i64 k ∧ Hid (∀ j, j < k → ∀ (h1 : j < l.length) (h2 : j < m.length), l[j] = m[j]) ∧ Below w.heap.size w wr) (fun y _ => l.length - (intOf y).toNat)
    case atStart => exact ⟨0, by omega, rfl, fun j hj => absurd hj (by omega), Below.refl _ _⟩
    case round =>
      obtain ⟨k, hk, rfl, hg, hbw⟩ := hrel
      by_cases hlt : k < l.length
      · have hlt2 : k < m.length := by have := HN.out; omega
        obtain ⟨a1, rfl, _, c0⟩ := int_at (hl.below hbw (Nat.le_refl _)) hlt
        obtain ⟨a2, rfl, _, c1⟩ := int_at (hm.below hbw (Nat.le_refl _)) hlt2
        have H0 := Lib.hid (HE.out k hlt hlt2)
        have HG := Lib.hid (fun (h : l[k] = m[k]) => show Hid (∀ j, j < k + 1 → ∀ (h1 : j < l.length) (h2 : j < m.length), l[j] = m[j]) from fun j hj h1 h2 => by
          by_cases e : j = k
          · subst e; exact h
          · exact hg.out j (by omega) h1 h2)
        clear hl hm hg
        generalize l[k] = x at *
        generalize m[k] = y at *
        have hkm : (k : Int) < (m.length : Int) := by omega
        have hkl : (k : Int) < (l.length : Int) := by omega
        have hk0 : 0 ≤ (k : Int) := by omega
        by_cases hxy : x = y
        · have H := HG.out hxy
          have hx1 : (x != y) = false := by simp [hxy]
          clear hxy
          go_wp2
          go_quiet (fail)
          go_wp2
          go_roundw
          case rel => exact ⟨k + 1, by omega, by go_num, H, by exact (by repeat (first | with_reducible exact Below.refl _ _ | with_reducible assumption | with_reducible refine Below.drew ?_ | with_reducible refine below_drewN ?_ _ | (with_reducible refine Below.alloc ?_ ?_ _; rotate_left; (try simp) <;> omega) | (with_reducible refine Below.setCell ?_ ?_ _; rotate_left; (try simp) <;> omega)))⟩
          case measure => simp [intOf]; omega
        · have H := H0.out hxy
          have hx1 : (x != y) = true := by simp [hxy]
          clear hxy
          go_wp2
          go_quiet (fail)
          go_wp2
          go_ret
          exact sh_ret H.out.symm (by exact (by repeat (first | with_reducible exact Below.refl _ _ | with_reducible assumption | with_reducible refine Below.drew ?_ | with_reducible refine below_drewN ?_ _ | (with_reducible refine Below.alloc ?_ ?_ _; rotate_left; (try simp) <;> omega) | (with_reducible refine Below.setCell ?_ ?_ _; rotate_left; (try simp) <;> omega))))
      · have H := HY.out (fun j h1 h2 => hg.out j (by omega) h1 h2)
        obtain rfl : k = l.length := by omega
        clear hg hl hm
        go_wp2
        go_ret
        exact sh_ret H.out.symm (by exact (by repeat (first | with_reducible exact Below.refl _ _ | with_reducible assumption | with_reducible refine Below.drew ?_ | with_reducible refine below_drewN ?_ _ | (with_reducible refine Below.alloc ?_ ?_ _; rotate_left; (try simp) <;> omega) | (with_reducible refine Below.setCell ?_ ?_ _; rotate_left; (try simp) <;> omega))))
  · have H := Lib.hid (sameB_ne hn)
    have hx : ((l.length : Int) != (m.length : Int)) = true := by rw [bne_iff_ne]; omega
    have hx2 : (l.length != m.length) = true := by rw [bne_iff_ne]; exact hn
    clear hn
    go_enter Try.func36, Try.ntmps36
    go_wp2
    go_ret
    exact sh_ret H.out.symm (by exact (by repeat (first | with_reducible exact Below.refl _ _ | with_reducible assumption | with_reducible refine Below.drew ?_ | with_reducible refine below_drewN ?_ _ | (with_reducible refine Below.alloc ?_ ?_ _; rotate_left; (try simp) <;> omega) | (with_reducible refine Below.setCell ?_ ?_ _; rotate_left; (try simp) <;> omega))))
end Go.Proofs.Ytjgnikmnadmheaa
