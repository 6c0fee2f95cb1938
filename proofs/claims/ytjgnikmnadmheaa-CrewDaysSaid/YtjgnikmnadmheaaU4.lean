/- crew.Fits, giornataref07.Fits. -/
import Derived.Test.YtjgnikmnadmheaaU3
namespace Go.Proofs.Ytjgnikmnadmheaa
open Go.RowKit

def fitS (Y : Yd) (l : List Tk) (i d : Int) : Bool := match l[i.toNat]? with
  | some t => suitB Y t i.toNat d
  | none => false
def fitB (Y : Yd) (l : List Tk) (i d : Int) : Bool := decide (comE Y l = 0) && (inB i 0 ((l.length : Int) - 1) && fitS Y l i d)
theorem fitS_at {Y : Yd} {l : List Tk} {j : Nat} {d : Int} (h : j < l.length) : fitS Y l (j : Int) d = suitB Y l[j] j d := by
  unfold fitS; rw [Int.toNat_natCast, List.getElem?_eq_getElem h]

set_option maxRecDepth 100000 in
set_option maxHeartbeats 1000000 in
theorem fits_any (C : Array Value) (Y : Yd) (l : List Tk) (A : Option Addr) (c : Nat) (i d : Int) (w : World) (hY : YardAt w w.heap.size C Y) (hs : Small Y) (hT : TasksAt w w.heap.size A l) (ht : tame l) :
    Calls Try.prog 59 #[.agg C, .slice A l.length c, .int .i64 i, .int .i64 d] w (ShEnd (fitB Y l i d) w) := by
  have HCO := Lib.hid (fun W (hb : Below w.heap.size w W) => common_any C Y l A c W ((hY.below hb (Nat.le_refl _)).more hb.size) hs ((hT.below hb (Nat.le_refl _)).more hb.size) ht)
  have HYW := Lib.hid (fun W (hb : Below w.heap.size w W) => (hY.below hb (Nat.le_refl _)).more hb.size)
  have HTW := Lib.hid (fun W (hb : Below w.heap.size w W) => (hT.below hb (Nat.le_refl _)).more hb.size)
  have HC28 := Lib.hid hY.len
  have HSM := Lib.hid hs
  have b4 : Bk (w.alloc (.cells C 29)) w.heap.size 29 C := Bk.new _ _ _
  have hb0 : Below w.heap.size w (w.alloc (.cells C 29)) := by exact (by repeat (first | with_reducible exact Below.refl _ _ | with_reducible assumption | with_reducible refine Below.drew ?_ | with_reducible refine below_drewN ?_ _ | (with_reducible refine Below.alloc ?_ ?_ _; rotate_left; (try simp) <;> omega) | (with_reducible refine Below.setCell ?_ ?_ _; rotate_left; (try simp) <;> omega)))
  have HR0 := Lib.hid b4.range
  have HN : Hid (fitB Y l i d = (decide (comE Y l = 0) && (inB i 0 ((l.length : Int) - 1) && fitS Y l i d))) := rfl
  have hl12 := ht.1
  clear hY hT hs ht
  generalize fitB Y l i d = N at *
  by_cases hc : comE Y l = 0
  · obtain ⟨ho, hvt⟩ := comE_ok hc
    rw [hc, decide_eq_true rfl, Bool.true_and] at HN
    rw [hc] at HCO
    clear hc hvt
    cases hd : inB i 0 ((l.length : Int) - 1) with
    | true =>
      have hii := inB_iff.1 hd
      obtain ⟨j, hj⟩ : ∃ j : Nat, i = (j : Int) := ⟨i.toNat, by omega⟩
      subst hj
      have hjl : j < l.length := by omega
      rw [hd, Bool.true_and, fitS_at hjl] at HN
      have HD := Lib.hid hd; clear hd
      have HSU : Hid (∀ W : World, Below w.heap.size w W → Calls Try.prog 97 #[.agg C, .slice A l.length c, .int .i64 j, .int .i64 d] W (ShEnd N W)) := fun W hb => by
        rw [HN.out]; exact suits_any C Y l A c j d W (HYW.out W hb) (okY_valid ho) (HTW.out W hb) (by omega) hjl
      clear HN
      go_enter Try.func59, Try.ntmps59
      go_wp2_with (first | (go_at_call 97; refine (HSU.out _ hB1).mono ?_; rintro e w2 ⟨rfl, hb2⟩; have hB2 : Below w.heap.size w w2 := hB1.trans (hb2.mono hB1.size)) | (have h9 := HR0; clear h9; refine wpList_load_guard (P := Try.prog) (by rfl) 29 (.tmp 4) rfl w.heap.size 0 rfl C.toList _ HR0.out Try.underlying29 rfl (by rw [HC28.out]; exact info29) ?_) | (go_at_call 85; refine (HCO.out _ hb0).mono ?_; rintro e w1 ⟨rfl, hb1⟩; clear HR0; have hB1 : Below w.heap.size w w1 := hb0.trans (hb1.mono hb0.size); have k4 : Bk w1 w.heap.size 29 C := b4.below hb1 b4.lt; have HR0 := Lib.hid k4.range; clear hb1) | (go_at_call 66; refine (in_is _ _ _ true _ HD.out).mono ?_; rintro e w' ⟨rfl, rfl⟩))
      go_ret
      exact ⟨rfl, hB2⟩
    | false =>
      have HN1 : Hid (N = false) := by show _ = _; rw [HN.out, hd]; rfl
      have HD := Lib.hid hd
      clear HN hd
      go_enter Try.func59, Try.ntmps59
      go_wp2_with (first | (have h9 := HR0; clear h9; refine wpList_load_guard (P := Try.prog) (by rfl) 29 (.tmp 4) rfl w.heap.size 0 rfl C.toList _ HR0.out Try.underlying29 rfl (by rw [HC28.out]; exact info29) ?_) | (go_at_call 85; refine (HCO.out _ hb0).mono ?_; rintro e w1 ⟨rfl, hb1⟩; clear HR0; have hB1 : Below w.heap.size w w1 := hb0.trans (hb1.mono hb0.size); have k4 : Bk w1 w.heap.size 29 C := b4.below hb1 b4.lt; have HR0 := Lib.hid k4.range; clear hb1) | (go_at_call 66; refine (in_is _ _ _ false _ HD.out).mono ?_; rintro e w' ⟨rfl, rfl⟩))
      go_ret
      rw [HN1.out]
      exact ⟨rfl, hB1⟩
  · have HN1 : Hid (N = false) := by show _ = _; rw [HN.out, decide_eq_false hc]; rfl
    clear HN
    generalize comE Y l = M at *
    have hne : (M == 0) = false := by simp [hc]
    clear hc
    go_enter Try.func59, Try.ntmps59
    go_wp2_with (first | (have h9 := HR0; clear h9; refine wpList_load_guard (P := Try.prog) (by rfl) 29 (.tmp 4) rfl w.heap.size 0 rfl C.toList _ HR0.out Try.underlying29 rfl (by rw [HC28.out]; exact info29) ?_) | (go_at_call 85; refine (HCO.out _ hb0).mono ?_; rintro e w1 ⟨rfl, hb1⟩; clear HR0; have hB1 : Below w.heap.size w w1 := hb0.trans (hb1.mono hb0.size); have k4 : Bk w1 w.heap.size 29 C := b4.below hb1 b4.lt; have HR0 := Lib.hid k4.range; clear hb1))
    go_ret
    rw [HN1.out]
    exact ⟨rfl, hB1⟩

set_option maxRecDepth 100000 in
set_option maxHeartbeats 1000000 in
theorem rfits_any (C : Array Value) (Y : Yd) (l : List Tk) (A : Option Addr) (c : Nat) (i d : Int) (w : World) (hY : YardAt w w.heap.size C Y) (hs : Small Y) (hT : TasksAt w w.heap.size A l) (ht : tame l) :
    Calls Try.prog 60 #[.agg C, .slice A l.length c, .int .i64 i, .int .i64 d] w (ShEnd (fitB Y l i d) w) := by
  have HCO := Lib.hid (fun W (hb : Below w.heap.size w W) => rcommon_any C Y l A c W ((hY.below hb (Nat.le_refl _)).more hb.size) hs ((hT.below hb (Nat.le_refl _)).more hb.size) ht)
  have HYW := Lib.hid (fun W (hb : Below w.heap.size w W) => (hY.below hb (Nat.le_refl _)).more hb.size)
  have HTW := Lib.hid (fun W (hb : Below w.heap.size w W) => (hT.below hb (Nat.le_refl _)).more hb.size)
  have HC28 := Lib.hid hY.len
  have HSM := Lib.hid hs
  have b4 : Bk (w.alloc (.cells C 29)) w.heap.size 29 C := Bk.new _ _ _
  have hb0 : Below w.heap.size w (w.alloc (.cells C 29)) := by exact (by repeat (first | with_reducible exact Below.refl _ _ | with_reducible assumption | with_reducible refine Below.drew ?_ | with_reducible refine below_drewN ?_ _ | (with_reducible refine Below.alloc ?_ ?_ _; rotate_left; (try simp) <;> omega) | (with_reducible refine Below.setCell ?_ ?_ _; rotate_left; (try simp) <;> omega)))
  have HR0 := Lib.hid b4.range
  have HN : Hid (fitB Y l i d = (decide (comE Y l = 0) && (inB i 0 ((l.length : Int) - 1) && fitS Y l i d))) := rfl
  have hl12 := ht.1
  clear hY hT hs ht
  generalize fitB Y l i d = N at *
  by_cases hc : comE Y l = 0
  · obtain ⟨ho, hvt⟩ := comE_ok hc
    rw [hc, decide_eq_true rfl, Bool.true_and] at HN
    rw [hc] at HCO
    clear hc hvt
    cases hd : inB i 0 ((l.length : Int) - 1) with
    | true =>
      have hii := inB_iff.1 hd
      obtain ⟨j, hj⟩ : ∃ j : Nat, i = (j : Int) := ⟨i.toNat, by omega⟩
      subst hj
      have hjl : j < l.length := by omega
      rw [hd, Bool.true_and, fitS_at hjl] at HN
      have HD := Lib.hid hd; clear hd
      have HSU : Hid (∀ W : World, Below w.heap.size w W → Calls Try.prog 93 #[.agg C, .slice A l.length c, .int .i64 j, .int .i64 d] W (ShEnd N W)) := fun W hb => by
        rw [HN.out, ← rsuitB_ok ho]; exact rsuits_any C Y l A c j d W (HYW.out W hb) HSM.out (HTW.out W hb) (by omega) hjl
      clear HN
      go_enter Try.func60, Try.ntmps60
      go_wp2_with (first | (go_at_call 93; refine (HSU.out _ hB1).mono ?_; rintro e w2 ⟨rfl, hb2⟩; have hB2 : Below w.heap.size w w2 := hB1.trans (hb2.mono hB1.size)) | (have h9 := HR0; clear h9; refine wpList_load_guard (P := Try.prog) (by rfl) 29 (.tmp 4) rfl w.heap.size 0 rfl C.toList _ HR0.out Try.underlying29 rfl (by rw [HC28.out]; exact info29) ?_) | (go_at_call 89; refine (HCO.out _ hb0).mono ?_; rintro e w1 ⟨rfl, hb1⟩; clear HR0; have hB1 : Below w.heap.size w w1 := hb0.trans (hb1.mono hb0.size); have k4 : Bk w1 w.heap.size 29 C := b4.below hb1 b4.lt; have HR0 := Lib.hid k4.range; clear hb1) | (go_at_call 69; refine (within_is _ _ _ true _ HD.out).mono ?_; rintro e w' ⟨rfl, rfl⟩))
      go_ret
      exact ⟨rfl, hB2⟩
    | false =>
      have HN1 : Hid (N = false) := by show _ = _; rw [HN.out, hd]; rfl
      have HD := Lib.hid hd
      clear HN hd
      go_enter Try.func60, Try.ntmps60
      go_wp2_with (first | (have h9 := HR0; clear h9; refine wpList_load_guard (P := Try.prog) (by rfl) 29 (.tmp 4) rfl w.heap.size 0 rfl C.toList _ HR0.out Try.underlying29 rfl (by rw [HC28.out]; exact info29) ?_) | (go_at_call 89; refine (HCO.out _ hb0).mono ?_; rintro e w1 ⟨rfl, hb1⟩; clear HR0; have hB1 : Below w.heap.size w w1 := hb0.trans (hb1.mono hb0.size); have k4 : Bk w1 w.heap.size 29 C := b4.below hb1 b4.lt; have HR0 := Lib.hid k4.range; clear hb1) | (go_at_call 69; refine (within_is _ _ _ false _ HD.out).mono ?_; rintro e w' ⟨rfl, rfl⟩))
      go_ret
      rw [HN1.out]
      exact ⟨rfl, hB1⟩
  · have HN1 : Hid (N = false) := by show _ = _; rw [HN.out, decide_eq_false hc]; rfl
    clear HN
    generalize comE Y l = M at *
    have hne : (M == 0) = false := by simp [hc]
    clear hc
    go_enter Try.func60, Try.ntmps60
    go_wp2_with (first | (have h9 := HR0; clear h9; refine wpList_load_guard (P := Try.prog) (by rfl) 29 (.tmp 4) rfl w.heap.size 0 rfl C.toList _ HR0.out Try.underlying29 rfl (by rw [HC28.out]; exact info29) ?_) | (go_at_call 89; refine (HCO.out _ hb0).mono ?_; rintro e w1 ⟨rfl, hb1⟩; clear HR0; have hB1 : Below w.heap.size w w1 := hb0.trans (hb1.mono hb0.size); have k4 : Bk w1 w.heap.size 29 C := b4.below hb1 b4.lt; have HR0 := Lib.hid k4.range; clear hb1))
    go_ret
    rw [HN1.out]
    exact ⟨rfl, hB1⟩
end Go.Proofs.Ytjgnikmnadmheaa
