/- The reference's Check (fn 50). -/
import Derived.Test.YtkfeagokmcakgaaGreatDoorG05
import Derived.Test.YtkfeagokmcakgaaGreatDoorG56

set_option linter.unusedVariables false
set_option linter.unusedSimpArgs false

namespace Go.Proofs.YtkfeagokmcakgaaGreatDoor
open Go.RowKit

theorem chkG_pre (f : List Rul → Rul → Int) (l : List Rul) : ∀ k, k ≤ l.length → (∀ i (h : i < l.length), i < k → f (l.take i) l[i] = 0) → chkG f [] l = chkG f (l.take k) (l.drop k)
  | 0, _, _ => by simp
  | k + 1, hk, h => by
    rw [chkG_pre f l k (by omega) (fun i hi hik => h i hi (by omega))]
    have e : f (l.take k) l[k] = 0 := h k (by omega) (by omega)
    rw [List.drop_eq_getElem_cons (by omega : k < l.length)]
    show (if f (l.take k) l[k] = 0 then _ else _) = _
    rw [if_pos e, List.take_append_getElem]
theorem chkR_ok {l : List Rul} (h : ∀ i (h : i < l.length), i < l.length → refR (l.take i) l[i] = 0) : chkL l = (0, 0) := by
  rw [chkL_ref, chkG_pre refR l l.length (Nat.le_refl _) h, List.drop_length]; rfl
theorem chkR_bad {l : List Rul} {k : Nat} (hk : k < l.length) (h : ∀ i (h : i < l.length), i < k → refR (l.take i) l[i] = 0) (e : refR (l.take k) l[k] ≠ 0) : chkL l = ((k : Int), refR (l.take k) l[k]) := by
  rw [chkL_ref, chkG_pre refR l k (by omega) h, List.drop_eq_getElem_cons hk]
  show (if refR (l.take k) l[k] = 0 then _ else _) = _
  rw [if_neg e, List.length_take, Nat.min_eq_left (by omega)]
set_option maxHeartbeats 1000000 in
set_option maxRecDepth 100000 in
theorem rcheck_any (l : List Rul) (A : Option Addr) (c : Nat) (w : World) (hl : Lies w w.heap.size A (rulesC l)) (hok : RulOK l) (hm : l.length ≤ 1000) (hc : l.length ≤ c) (hc2 : c ≤ maxLen) :
    Calls Tryz.prog 50 #[.agg #[.slice A l.length c]] w (Int2End (chkL l) w) := by
  have HW : Hid (Below w.heap.size w (w.alloc (.cells #[.slice A l.length c] 25))) := (Below.refl _ _).alloc (Nat.le_refl _) _
  have HK0 : Hid (Bk (w.alloc (.cells #[.slice A l.length c] 25)) w.heap.size 25 #[.slice A l.length c]) := Bk.new _ _ _
  have HL : Hid (∀ V, Below (w.alloc (.cells #[.slice A l.length c] 25)).heap.size (w.alloc (.cells #[.slice A l.length c] 25)) V → Lies V V.heap.size A (rulesC l)) := fun V hV => lies_on hl (HW.out.trans (hV.mono HW.out.size))
  go_enter Tryz.func50, Tryz.ntmps50
  go_upto_region 1 with fail
  have hBW0 : Below (w.alloc (.cells #[.slice A l.length c] 25)).heap.size (w.alloc (.cells #[.slice A l.length c] 25)) (w.alloc (.cells #[.slice A l.length c] 25)) := Below.refl _ _
  have HY : Hid (∀ V, Below (w.alloc (.cells #[.slice A l.length c] 25)).heap.size (w.alloc (.cells #[.slice A l.length c] 25)) V → V.cell? ⟨w.heap.size, 0, none⟩ = some (.slice A l.length c)) := fun V hV => (HK0.out.below hV HK0.out.lt).cell 0 rfl
  clear hl HK0
  generalize (w.alloc (.cells #[.slice A l.length c] 25)) = W0 at *
  generalize hb0 : w.heap.size = b0 at *
  have HEND : Hid (∀ V (a b : Int), Below W0.heap.size W0 V → chkL l = (a, b) → Int2End (chkL l) w (.returned (.tuple #[.int .i64 a, .int .i64 b])) V) := fun V a b hV h => by
    subst hb0
    rw [h]
    exact ⟨rfl, HW.out.trans (hV.mono (by have := HW.out.size; omega))⟩
  have HRF : Hid (∀ (k : Nat) (hk : k < l.length) V, Below W0.heap.size W0 V → Calls Tryz.prog 68 #[.slice A (k + 1) c] V (IntEnd (refR (l.take k) l[k]) V)) := fun k hk V hV => by
    have hr := hok _ (List.getElem_mem hk)
    have h := rrefused_any (l.take k) l[k] A c V (by rw [List.take_append_getElem]; exact (HL.out V hV).rtake _) hr.1 hr.2.1 (by rw [List.length_take]; omega) (by rw [List.length_take]; omega) hc2
    rwa [List.length_take, Nat.min_eq_left (Nat.le_of_lt hk)] at h
  have HGO := Lib.hid (chkR_ok (l := l))
  have HBD := Lib.hid (fun k (hk : k < l.length) => chkR_bad hk)
  generalize chkL l = R at *
  unfold maxLen at hc2
  clear hok hb0 HL
  go_wp2
  go_loopw [4] (fun z wr => ∃ k : Nat, k ≤ l.length ∧ z = .int .i64 k ∧ Hid (∀ i (h : i < l.length), i < k → refR (l.take i) l[i] = 0) ∧ Below W0.heap.size W0 wr) (fun z _ => l.length - (intOf z).toNat)
  case atStart => exact ⟨0, by omega, rfl, (fun i _ h => absurd h (by omega)), hBW0⟩
  case round =>
    obtain ⟨k, hk, rfl, hN, hbw⟩ := hrel
    clear hBW0
    have y0 := HY.out wr hbw
    by_cases hkl : k < l.length
    · have HB := Lib.hid (HBD.out k hkl hN.out)
      have HNX : Hid (refR (l.take k) l[k] = 0 → ∀ i (h : i < l.length), i < k + 1 → refR (l.take i) l[i] = 0) := fun e i hi hik => by
        by_cases e2 : i = k
        · subst e2; exact e
        · exact hN.out i hi (by omega)
      have HRK := Lib.hid (HRF.out k hkl wr hbw)
      have hw1 : IntKind.i64.wrap ((k : Int) + 1) = (k : Int) + 1 := IntWalk.i64_in _ (by omega)
      have hkc : (k : Int) + 1 ≤ (c : Int) := by omega
      have hk0 : (0 : Int) ≤ (k : Int) + 1 := by omega
      have htn : ((k : Int) + 1).toNat = k + 1 := by omega
      clear HBD HRF HGO hN
      generalize refR (l.take k) l[k] = e at *
      by_cases he : e = 0
      · have he1 : (e != 0) = false := by rw [he]; rfl
        have HNY := Lib.hid (HNX.out he)
        clear HNX HB he HY
        go_wp2_with (go_at_call 68; refine HRK.out.mono ?_; rintro e u ⟨rfl, hb⟩)
        go_roundw
        case rel => exact ⟨k + 1, by omega, by go_num, HNY, hbw.trans (hb.mono hbw.size)⟩
        case measure => simp [intOf]; omega
      · have he1 : (e != 0) = true := by rw [bne_iff_ne]; exact he
        have HR := Lib.hid (HB.out he)
        clear HNX HB he HY
        go_wp2_with (go_at_call 68; refine HRK.out.mono ?_; rintro e u ⟨rfl, hb⟩)
        go_ret2
        exact HEND.out _ _ _ (hbw.trans (hb.mono hbw.size)) HR.out
    · obtain rfl : k = l.length := by omega
      have HR := Lib.hid (HGO.out hN.out)
      clear HBD HRF HGO hN HY
      go_wp2
      go_ret2
      exact HEND.out _ _ _ hbw HR.out
end Go.Proofs.YtkfeagokmcakgaaGreatDoor
