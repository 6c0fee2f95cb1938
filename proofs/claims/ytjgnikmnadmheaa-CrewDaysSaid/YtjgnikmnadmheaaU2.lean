/- giornataref07.Days. -/
import Derived.Test.YtjgnikmnadmheaaT4
import Derived.Test.YtjgnikmnadmheaaS10
namespace Go.Proofs.Ytjgnikmnadmheaa
open Go.RowKit

/-- the end of a function that returns numbers and an error -/
def NumsE (l : List Int) (n : Int) (w : World) (e : Ending) (w' : World) : Prop := ∃ v : Value, e = .returned (.tuple #[v, .int .i64 n]) ∧ w'.ownsRow w.heap.size 3 1 v l.length (ints l) ∧ Below w.heap.size w w'

def dayE (Y : Yd) (l : List Tk) (i a b : Int) : Int := if comE Y l = 0 then (if inB i 0 ((l.length : Int) - 1) = true then (if 0 ≤ a ∧ a ≤ b ∧ b ≤ 100001 then 0 else 1) else 5) else comE Y l
def dayK (Y : Yd) (l : List Tk) (i a b : Int) : List Int := match l[i.toNat]? with
  | some t => suitK Y t i.toNat a (b - a).toNat
  | none => []
def dayL (Y : Yd) (l : List Tk) (i a b : Int) : List Int := if dayE Y l i a b = 0 then dayK Y l i a b else []
theorem dayK_at {Y : Yd} {l : List Tk} {j : Nat} {a b : Int} (h : j < l.length) : dayK Y l (j : Int) a b = suitK Y l[j] j a (b - a).toNat := by
  unfold dayK; rw [Int.toNat_natCast, List.getElem?_eq_getElem h]
theorem comE_ok {Y : Yd} {l : List Tk} (h1 : comE Y l = 0) : okY Y = true ∧ ValidT l := by
  unfold comE at h1
  cases ho : okY Y with
  | true => rw [ho] at h1; exact ⟨rfl, validT_of h1⟩
  | false =>
    rw [ho] at h1
    unfold okY at ho
    simp at h1
    rw [h1] at ho; cases ho

set_option maxRecDepth 100000 in
set_option maxHeartbeats 1000000 in
theorem rdays_any (C : Array Value) (Y : Yd) (l : List Tk) (A : Option Addr) (c : Nat) (i a b : Int) (w : World) (hY : YardAt w w.heap.size C Y) (hs : Small Y) (hT : TasksAt w w.heap.size A l) (ht : tame l) :
    Calls Try.prog 48 #[.agg C, .slice A l.length c, .int .i64 i, .int .i64 a, .int .i64 b] w (NumsE (dayL Y l i a b) (dayE Y l i a b) w) := by
  obtain ⟨i0, hi0, hz0, hz1, hz2⟩ := info_parts info3
  have I3 := Lib.hid (And.intro hi0 (And.intro hz0 (And.intro hz1 hz2))); clear hi0 hz0 hz1 hz2
  have HCO := Lib.hid (fun W (hb : Below w.heap.size w W) => rcommon_any C Y l A c W ((hY.below hb (Nat.le_refl _)).more hb.size) hs ((hT.below hb (Nat.le_refl _)).more hb.size) ht)
  have HYW := Lib.hid (fun W (hb : Below w.heap.size w W) => (hY.below hb (Nat.le_refl _)).more hb.size)
  have HTW := Lib.hid (fun W (hb : Below w.heap.size w W) => (hT.below hb (Nat.le_refl _)).more hb.size)
  have HSM := Lib.hid hs
  have HTM := Lib.hid ht
  have HC28 := Lib.hid hY.len
  have b5 : Bk (w.alloc (.cells C 29)) w.heap.size 29 C := Bk.new _ _ _
  have hb0 : Below w.heap.size w (w.alloc (.cells C 29)) := by exact (by repeat (first | with_reducible exact Below.refl _ _ | with_reducible assumption | with_reducible refine Below.drew ?_ | with_reducible refine below_drewN ?_ _ | (with_reducible refine Below.alloc ?_ ?_ _; rotate_left; (try simp) <;> omega) | (with_reducible refine Below.setCell ?_ ?_ _; rotate_left; (try simp) <;> omega)))
  have HR0 := Lib.hid b5.range
  have HN : Hid (dayE Y l i a b = if comE Y l = 0 then (if inB i 0 ((l.length : Int) - 1) = true then (if 0 ≤ a ∧ a ≤ b ∧ b ≤ 100001 then 0 else 1) else 5) else comE Y l) := rfl
  have HL : Hid (dayL Y l i a b = if dayE Y l i a b = 0 then dayK Y l i a b else []) := rfl
  have hl12 := ht.1
  clear hY hT hs ht
  generalize dayL Y l i a b = L at *
  generalize dayE Y l i a b = N at *
  by_cases hc : comE Y l = 0
  · obtain ⟨ho, hvt⟩ := comE_ok hc
    rw [hc, if_pos rfl] at HN
    rw [hc] at HCO
    clear hc hvt
    cases hd : inB i 0 ((l.length : Int) - 1) with
    | true =>
      have hii := inB_iff.1 hd
      obtain ⟨j, hj⟩ : ∃ j : Nat, i = (j : Int) := ⟨i.toNat, by omega⟩
      subst hj
      have hjl : j < l.length := by omega
      rw [hd, if_pos rfl] at HN
      have HD := Lib.hid hd; clear hd
      by_cases a1 : a < 0
      · have HN1 : Hid (N = 1) := by show _ = _; rw [HN.out, if_neg (by omega)]
        have HL1 : Hid (L = []) := by show _ = _; rw [HL.out, if_neg (by rw [HN1.out]; decide)]
        clear HN HL
        go_enter Try.func48, Try.ntmps48
        go_wp2_with (first | (have h9 := HR0; clear h9; refine wpList_load_guard (P := Try.prog) (by rfl) 29 (.tmp 5) rfl w.heap.size 0 rfl C.toList _ HR0.out Try.underlying29 rfl (by rw [HC28.out]; exact info29) ?_) | (go_at_call 89; refine (HCO.out _ hb0).mono ?_; rintro e w1 ⟨rfl, hb1⟩; clear HR0; have hB1 : Below w.heap.size w w1 := hb0.trans (hb1.mono hb0.size); clear hb1) | (go_at_call 69; refine (within_is _ _ _ true _ HD.out).mono ?_; rintro e w' ⟨rfl, rfl⟩))
        go_ret2
        rw [HN1.out, HL1.out]
        exact ⟨_, rfl, World.ownsRow_nil _ _ _ _, hB1⟩
      · by_cases a2 : b < a
        · have HN1 : Hid (N = 1) := by show _ = _; rw [HN.out, if_neg (by omega)]
          have HL1 : Hid (L = []) := by show _ = _; rw [HL.out, if_neg (by rw [HN1.out]; decide)]
          clear HN HL
          go_enter Try.func48, Try.ntmps48
          go_wp2_with (first | (have h9 := HR0; clear h9; refine wpList_load_guard (P := Try.prog) (by rfl) 29 (.tmp 5) rfl w.heap.size 0 rfl C.toList _ HR0.out Try.underlying29 rfl (by rw [HC28.out]; exact info29) ?_) | (go_at_call 89; refine (HCO.out _ hb0).mono ?_; rintro e w1 ⟨rfl, hb1⟩; clear HR0; have hB1 : Below w.heap.size w w1 := hb0.trans (hb1.mono hb0.size); clear hb1) | (go_at_call 69; refine (within_is _ _ _ true _ HD.out).mono ?_; rintro e w' ⟨rfl, rfl⟩))
          go_ret2
          rw [HN1.out, HL1.out]
          exact ⟨_, rfl, World.ownsRow_nil _ _ _ _, hB1⟩
        · by_cases a3 : 100001 < b
          · have HN1 : Hid (N = 1) := by show _ = _; rw [HN.out, if_neg (by omega)]
            have HL1 : Hid (L = []) := by show _ = _; rw [HL.out, if_neg (by rw [HN1.out]; decide)]
            clear HN HL
            go_enter Try.func48, Try.ntmps48
            go_wp2_with (first | (have h9 := HR0; clear h9; refine wpList_load_guard (P := Try.prog) (by rfl) 29 (.tmp 5) rfl w.heap.size 0 rfl C.toList _ HR0.out Try.underlying29 rfl (by rw [HC28.out]; exact info29) ?_) | (go_at_call 89; refine (HCO.out _ hb0).mono ?_; rintro e w1 ⟨rfl, hb1⟩; clear HR0; have hB1 : Below w.heap.size w w1 := hb0.trans (hb1.mono hb0.size); clear hb1) | (go_at_call 69; refine (within_is _ _ _ true _ HD.out).mono ?_; rintro e w' ⟨rfl, rfl⟩))
            go_ret2
            rw [HN1.out, HL1.out]
            exact ⟨_, rfl, World.ownsRow_nil _ _ _ _, hB1⟩
          · have HN1 : Hid (N = 0) := by show _ = _; rw [HN.out, if_pos (by omega)]
            have HL1 : Hid (L = suitK Y l[j] j a (b - a).toNat) := by show _ = _; rw [HL.out, if_pos HN1.out, dayK_at hjl]
            have HRS0 : Hid (∀ (d : Int) (W : World), Below w.heap.size w W → Calls Try.prog 93 #[.agg C, .slice A l.length c, .int .i64 j, .int .i64 d] W (ShEnd (suitB Y l[j] j d) W)) := fun d W hb => by
              rw [← rsuitB_ok ho]; exact rsuits_any C Y l A c j d W (HYW.out W hb) HSM.out (HTW.out W hb) HTM.out.1 hjl
            clear HN HL
            generalize l[j] = t at *
            have HLK := Lib.hid (fun k => suitK_len Y t j a k)
            go_enter Try.func48, Try.ntmps48
            go_wp2_with (first | (have h9 := HR0; clear h9; refine wpList_load_guard (P := Try.prog) (by rfl) 29 (.tmp 5) rfl w.heap.size 0 rfl C.toList _ HR0.out Try.underlying29 rfl (by rw [HC28.out]; exact info29) ?_) | (go_at_call 89; refine (HCO.out _ hb0).mono ?_; rintro e w1 ⟨rfl, hb1⟩; clear HR0; have hB1 : Below w.heap.size w w1 := hb0.trans (hb1.mono hb0.size); have k5 : Bk w1 w.heap.size 29 C := b5.below hb1 b5.lt; clear hb1) | (go_at_call 69; refine (within_is _ _ _ true _ HD.out).mono ?_; rintro e w' ⟨rfl, rfl⟩))
            go_loopw [13, 14] (fun v y wr => ∃ k : Nat, k ≤ (b - a).toNat ∧ y = .int .i64 (a + (k : Int)) ∧ wr.ownsRow (w.heap.size + 1) 3 1 v (suitK Y t j a k).length (ints (suitK Y t j a k)) ∧ Below w.heap.size w wr ∧ Bk wr w.heap.size 29 C) (fun _ y _ => (b - intOf y).toNat)
            case atStart => exact ⟨0, by omega, by simp, World.ownsRow_nil _ _ _ _, hB1, k5⟩
            case round =>
            clear hB1 k5
            obtain ⟨k, hk, rfl, hown, hbw, hbk⟩ := hrel
            have hbs := hbk.lt
            by_cases hlt : a + (k : Int) < b
            · have HRR := Lib.hid hbk.range
              have hln := HLK.out k
              cases hq : suitB Y t j (a + (k : Int)) with
              | true =>
                have HE := Lib.hid (suitK_yes hq)
                have HRS1 := Lib.hid (HRS0.out (a + (k : Int)) wr hbw)
                rw [hq] at HRS1
                clear hq
                go_wp2_with (first | (have h9 := HRR; clear h9; refine wpList_load_guard (P := Try.prog) (by rfl) 29 (.tmp 5) rfl w.heap.size 0 rfl C.toList _ HRR.out Try.underlying29 rfl (by rw [HC28.out]; exact info29) ?_) | (go_at_call 93; refine HRS1.out.mono ?_; rintro e w4 ⟨rfl, hb4⟩; clear HRR; have hB4 : Below w.heap.size w w4 := hbw.trans (hb4.mono hbw.size); have k4 : Bk w4 w.heap.size 29 C := hbk.below hb4 hbs; have l4 := k4.lt; have hown4 := ownsRow_below hown hb4 (Nat.le_refl _); clear hb4) | (at_builtin; refine wpList_append_own _ rfl (.tmp 49) (.tmp 51) 25 rfl (w.heap.size + 1) 3 i0 (.int .i64 0) 1 8 Try.underlying25 I3.out.1 I3.out.2.1 I3.out.2.2.1 I3.out.2.2.2 rfl (by decide) _ (suitK Y t j a k).length _ rfl (hown4.alloc _) ⟨w4.heap.size, 0, none⟩ 1 1 [.int .i64 (a + (k : Int))] rfl rfl ?_ ?_ ?_ ?_ ?_ ?_; (exact cell_one_new _ _ _); (intro u hu; simp at hu; subst hu; rfl); (unfold maxLen; omega); (omega); (simp; omega); intro v5 w5 hown5 hgrow5 _; have hB5 : Below w.heap.size w w5 := below_own (by exact (by repeat (first | with_reducible exact Below.refl _ _ | with_reducible assumption | with_reducible refine Below.drew ?_ | with_reducible refine below_drewN ?_ _ | (with_reducible refine Below.alloc ?_ ?_ _; rotate_left; (try simp) <;> omega) | (with_reducible refine Below.setCell ?_ ?_ _; rotate_left; (try simp) <;> omega)))) (hown4.alloc _) hgrow5 (by omega) (by simp; omega); have hk5 : Bk w5 w.heap.size 29 C := Bk.grown (by exact (by repeat (first | with_reducible assumption | with_reducible exact Bk.new _ _ _ | with_reducible refine Bk.drew ?_ | with_reducible refine Bk.drewN ?_ _ | with_reducible refine Bk.alloc ?_ _ | (with_reducible refine Bk.far ?_ ?_ _; rotate_left; (try simp) <;> omega)))) hgrow5 (own_ne hown4 (by omega)); clear hgrow5))
                rw [ints_snoc, ← HE.out] at hown5
                have HEL : Hid ((suitK Y t j a k).length + 1 = (suitK Y t j a (k + 1)).length) := by show _ = _; rw [HE.out]; simp
                rw [HEL.out] at hown5
                go_roundw
                case rel => exact ⟨k + 1, by omega, by go_num, hown5, hB5, hk5⟩
                case measure => simp [intOf]; omega
              | false =>
                have HE := Lib.hid (suitK_no hq)
                have HRS1 := Lib.hid (HRS0.out (a + (k : Int)) wr hbw)
                rw [hq] at HRS1
                clear hq
                go_wp2_with (first | (have h9 := HRR; clear h9; refine wpList_load_guard (P := Try.prog) (by rfl) 29 (.tmp 5) rfl w.heap.size 0 rfl C.toList _ HRR.out Try.underlying29 rfl (by rw [HC28.out]; exact info29) ?_) | (go_at_call 93; refine HRS1.out.mono ?_; rintro e w4 ⟨rfl, hb4⟩; clear HRR; have hB4 : Below w.heap.size w w4 := hbw.trans (hb4.mono hbw.size); have k4 : Bk w4 w.heap.size 29 C := hbk.below hb4 hbs; have hown4 := ownsRow_below hown hb4 (Nat.le_refl _); clear hb4))
                go_roundw
                case rel => exact ⟨k + 1, by omega, by go_num, by rw [HE.out]; exact hown4, hB4, k4⟩
                case measure => simp [intOf]; omega
            · obtain rfl : k = (b - a).toNat := by omega
              rw [← HL1.out] at hown
              go_wp2
              go_ret2
              rw [HN1.out]
              exact ⟨_, rfl, ownsRow_base hown (by omega), hbw⟩
    | false =>
      have HN1 : Hid (N = 5) := by show _ = _; rw [HN.out, hd]; rfl
      have HL1 : Hid (L = []) := by show _ = _; rw [HL.out, if_neg (by rw [HN1.out]; decide)]
      have HD := Lib.hid hd
      clear HN HL hd
      go_enter Try.func48, Try.ntmps48
      go_wp2_with (first | (have h9 := HR0; clear h9; refine wpList_load_guard (P := Try.prog) (by rfl) 29 (.tmp 5) rfl w.heap.size 0 rfl C.toList _ HR0.out Try.underlying29 rfl (by rw [HC28.out]; exact info29) ?_) | (go_at_call 89; refine (HCO.out _ hb0).mono ?_; rintro e w1 ⟨rfl, hb1⟩; clear HR0; have hB1 : Below w.heap.size w w1 := hb0.trans (hb1.mono hb0.size); clear hb1) | (go_at_call 69; refine (within_is _ _ _ false _ HD.out).mono ?_; rintro e w' ⟨rfl, rfl⟩))
      go_ret2
      rw [HN1.out, HL1.out]
      exact ⟨_, rfl, World.ownsRow_nil _ _ _ _, hB1⟩
  · have HN1 : Hid (N = comE Y l) := by show _ = _; rw [HN.out, if_neg hc]
    have HL1 : Hid (L = []) := by show _ = _; rw [HL.out, if_neg (by rw [HN1.out]; exact hc)]
    clear HN HL
    generalize comE Y l = M at *
    have hne : (M != 0) = true := by simp [hc]
    clear hc
    go_enter Try.func48, Try.ntmps48
    go_wp2_with (first | (have h9 := HR0; clear h9; refine wpList_load_guard (P := Try.prog) (by rfl) 29 (.tmp 5) rfl w.heap.size 0 rfl C.toList _ HR0.out Try.underlying29 rfl (by rw [HC28.out]; exact info29) ?_) | (go_at_call 89; refine (HCO.out _ hb0).mono ?_; rintro e w1 ⟨rfl, hb1⟩; clear HR0; have hB1 : Below w.heap.size w w1 := hb0.trans (hb1.mono hb0.size); clear hb1))
    go_ret2
    rw [HN1.out, HL1.out]
    exact ⟨_, rfl, World.ownsRow_nil _ _ _ _, hB1⟩
end Go.Proofs.Ytjgnikmnadmheaa
