/- crew.Days. -/
import Derived.Test.YtjgnikmnadmheaaU1
import Derived.Test.YtjgnikmnadmheaaU2
namespace Go.Proofs.Ytjgnikmnadmheaa
open Go.RowKit

theorem in_is (x a b : Int) (r : Bool) (w : World) (h : inB x a b = r) : Calls Try.prog 66 #[.int .i64 x, .int .i64 a, .int .i64 b] w fun e w' => e = .returned (.bool r) ∧ w' = w :=
  (in_any x a b w).mono (fun e w' h' => by obtain ⟨rfl, rfl⟩ := h'; rw [h]; exact ⟨rfl, rfl⟩)
/-- five boxes: a yard, tasks and three numbers -/
structure Five (w : World) (C : Array Value) (A : Option Addr) (n c : Nat) (i a b : Int) (W : World) : Prop where
  b0 : Bk W w.heap.size 29 C
  b1 : Bk W (w.heap.size + 1) 30 #[.slice A n c]
  b2 : Bk W (w.heap.size + 2) 3 #[.int .i64 i]
  b3 : Bk W (w.heap.size + 3) 3 #[.int .i64 a]
  b4 : Bk W (w.heap.size + 4) 3 #[.int .i64 b]
  below_w : Below w.heap.size w W
theorem five_new (w : World) (C : Array Value) (A : Option Addr) (n c : Nat) (i a b : Int) : Five w C A n c i a b (((((w.alloc (.cells C 29)).alloc (.cells #[.slice A n c] 30)).alloc (.cells #[.int .i64 i] 3)).alloc (.cells #[.int .i64 a] 3)).alloc (.cells #[.int .i64 b] 3)) :=
  ⟨((((Bk.new _ _ _).alloc _).alloc _).alloc _).alloc _,
   (((by simpa using Bk.new (w.alloc (.cells C 29)) 30 #[.slice A n c] : Bk ((w.alloc (.cells C 29)).alloc (.cells #[.slice A n c] 30)) (w.heap.size + 1) 30 #[.slice A n c]).alloc _).alloc _).alloc _,
   ((by simpa using Bk.new ((w.alloc (.cells C 29)).alloc (.cells #[.slice A n c] 30)) 3 #[.int .i64 i] : Bk (((w.alloc (.cells C 29)).alloc (.cells #[.slice A n c] 30)).alloc (.cells #[.int .i64 i] 3)) (w.heap.size + 2) 3 #[.int .i64 i]).alloc _).alloc _,
   (by simpa using Bk.new (((w.alloc (.cells C 29)).alloc (.cells #[.slice A n c] 30)).alloc (.cells #[.int .i64 i] 3)) 3 #[.int .i64 a] : Bk ((((w.alloc (.cells C 29)).alloc (.cells #[.slice A n c] 30)).alloc (.cells #[.int .i64 i] 3)).alloc (.cells #[.int .i64 a] 3)) (w.heap.size + 3) 3 #[.int .i64 a]).alloc _,
   by simpa using Bk.new ((((w.alloc (.cells C 29)).alloc (.cells #[.slice A n c] 30)).alloc (.cells #[.int .i64 i] 3)).alloc (.cells #[.int .i64 a] 3)) 3 #[.int .i64 b],
   by exact (by repeat (first | with_reducible exact Below.refl _ _ | with_reducible assumption | with_reducible refine Below.drew ?_ | with_reducible refine below_drewN ?_ _ | (with_reducible refine Below.alloc ?_ ?_ _; rotate_left; (try simp) <;> omega) | (with_reducible refine Below.setCell ?_ ?_ _; rotate_left; (try simp) <;> omega)))⟩
section
variable {w W W' : World} {C : Array Value} {A : Option Addr} {n c : Nat} {i a b : Int}
theorem Five.below (h : Five w C A n c i a b W) (hb : Below W.heap.size W W') : Five w C A n c i a b W' :=
  ⟨h.b0.below hb h.b0.lt, h.b1.below hb h.b1.lt, h.b2.below hb h.b2.lt, h.b3.below hb h.b3.lt, h.b4.below hb h.b4.lt, h.below_w.trans (hb.mono h.below_w.size)⟩
theorem Five.cells (h : Five w C A n c i a b W) : W.rangeAt w.heap.size 0 C.toList ∧ W.cell? ⟨w.heap.size + 1, 0, none⟩ = some (.slice A n c) ∧ W.cell? ⟨w.heap.size + 2, 0, none⟩ = some (.int .i64 i) ∧ W.cell? ⟨w.heap.size + 3, 0, none⟩ = some (.int .i64 a) ∧ W.cell? ⟨w.heap.size + 4, 0, none⟩ = some (.int .i64 b) :=
  ⟨h.b0.range, h.b1.cell 0 rfl, h.b2.cell 0 rfl, h.b3.cell 0 rfl, h.b4.cell 0 rfl⟩
end

set_option maxHeartbeats 400000 in
theorem collect_any (B : Nat) (C : Array Value) (Y : Yd) (l : List Tk) (A : Option Addr) (c i b1 b2 b3 b4 b5 : Nat) (d0 d1 : Int) (hv : Valid Y) (hl : l.length ≤ 1000) (hi : i < l.length) (h0 : -1000000 ≤ d0) (h1 : d0 ≤ 1000000 ∧ d1 ≤ 1000000)
    (w : World) (hW : SuitW B C Y l A c i b1 b2 b3 b4 b5 d0 d1 w) :
    Calls Try.prog 103 #[.func (.func 104) #[] #[.pointer (some ⟨b3, 0, none⟩), .pointer (some ⟨b4, 0, none⟩), .pointer (some ⟨b5, 0, none⟩), .pointer (some ⟨b1, 0, none⟩), .pointer (some ⟨b2, 0, none⟩)]] w (IntsEnd (suitK Y l[i] i d0 (d1 - d0).toNat) w) := by
  have HA := Lib.hid (appendSeq_any B C Y l A c i b1 b2 b3 b4 b5 d0 d1 hv hl hi h0 h1 w hW)
  clear hv hW
  generalize suitK Y l[i] i d0 (d1 - d0).toNat = L at *
  go_enter Try.func103, Try.ntmps103
  go_wp2_with (go_at_call 128; refine HA.out.mono ?_; rintro e w2 ⟨v2, rfl, ho2, hb2⟩; obtain ⟨A2, c2, rfl, _, _⟩ := ownsSlice ho2)
  go_ret
  exact ⟨_, rfl, ho2, hb2⟩

set_option maxRecDepth 100000 in
set_option maxHeartbeats 1000000 in
theorem days_any (C : Array Value) (Y : Yd) (l : List Tk) (A : Option Addr) (c : Nat) (i a b : Int) (w : World) (hY : YardAt w w.heap.size C Y) (hs : Small Y) (hT : TasksAt w w.heap.size A l) (ht : tame l) :
    Calls Try.prog 47 #[.agg C, .slice A l.length c, .int .i64 i, .int .i64 a, .int .i64 b] w (NumsE (dayL Y l i a b) (dayE Y l i a b) w) := by
  have HCO := Lib.hid (fun W (hb : Below w.heap.size w W) => common_any C Y l A c W ((hY.below hb (Nat.le_refl _)).more hb.size) hs ((hT.below hb (Nat.le_refl _)).more hb.size) ht)
  have HYW := Lib.hid (fun W (hb : Below w.heap.size w W) => (hY.below hb (Nat.le_refl _)))
  have HTW := Lib.hid (fun W (hb : Below w.heap.size w W) => (hT.below hb (Nat.le_refl _)))
  have HC28 := Lib.hid hY.len
  have HN : Hid (dayE Y l i a b = if comE Y l = 0 then (if inB i 0 ((l.length : Int) - 1) = true then (if 0 ≤ a ∧ a ≤ b ∧ b ≤ 100001 then 0 else 1) else 5) else comE Y l) := rfl
  have HL : Hid (dayL Y l i a b = if dayE Y l i a b = 0 then dayK Y l i a b else []) := rfl
  have hl12 := ht.1
  clear hY hT hs ht
  generalize dayL Y l i a b = L at *
  generalize dayE Y l i a b = N at *
  by_cases hc : comE Y l = 0
  · obtain ⟨ho, hvt⟩ := comE_ok hc
    rw [hc, if_pos rfl] at HN
    rw [hc] at HCO
    clear hc hvt
    cases hd : inB i 0 ((l.length : Int) - 1) with
    | true =>
      have hii := inB_iff.1 hd
      obtain ⟨j, hj⟩ : ∃ j : Nat, i = (j : Int) := ⟨i.toNat, by omega⟩
      subst hj
      have hjl : j < l.length := by omega
      rw [hd, if_pos rfl] at HN
      have HD := Lib.hid hd; clear hd
      by_cases a1 : a < 0
      · have HN1 : Hid (N = 1) := by show _ = _; rw [HN.out, if_neg (by omega)]
        have HL1 : Hid (L = []) := by show _ = _; rw [HL.out, if_neg (by rw [HN1.out]; decide)]
        clear HN HL
        go_enter Try.func47, Try.ntmps47
        go_upto_region 1 with fail
        have hF := five_new w C A l.length c (j : Int) a b
        have HR0 := Lib.hid hF.b0.range
        obtain ⟨p0, p1, p2, p3, p4⟩ := hF.cells
        generalize ((((w.alloc (.cells C 29)).alloc (.cells #[.slice A l.length c] 30)).alloc (.cells #[.int .i64 (j : Int)] 3)).alloc (.cells #[.int .i64 a] 3)).alloc (.cells #[.int .i64 b] 3) = w0 at *
        go_wp2_with (first | (have h9 := HR0; clear h9; refine wpList_load_guard (P := Try.prog) (by rfl) 29 (.tmp 5) rfl w.heap.size 0 rfl C.toList _ HR0.out Try.underlying29 rfl (by rw [HC28.out]; exact info29) ?_) | (go_at_call 85; refine (HCO.out _ hF.below_w).mono ?_; rintro e w1 ⟨rfl, hb1⟩; clear HR0; have hF1 := hF.below hb1; clear hb1; obtain ⟨q0, q1, q2, q3, q4⟩ := hF1.cells) | (go_at_call 66; refine (in_is _ _ _ true _ HD.out).mono ?_; rintro e w' ⟨rfl, rfl⟩))
        go_ret2
        rw [HN1.out, HL1.out]
        exact ⟨_, rfl, World.ownsRow_nil _ _ _ _, hF1.below_w⟩
      · by_cases a2 : b < a
        · have HN1 : Hid (N = 1) := by show _ = _; rw [HN.out, if_neg (by omega)]
          have HL1 : Hid (L = []) := by show _ = _; rw [HL.out, if_neg (by rw [HN1.out]; decide)]
          clear HN HL
          go_enter Try.func47, Try.ntmps47
          go_upto_region 1 with fail
          have hF := five_new w C A l.length c (j : Int) a b
          have HR0 := Lib.hid hF.b0.range
          obtain ⟨p0, p1, p2, p3, p4⟩ := hF.cells
          generalize ((((w.alloc (.cells C 29)).alloc (.cells #[.slice A l.length c] 30)).alloc (.cells #[.int .i64 (j : Int)] 3)).alloc (.cells #[.int .i64 a] 3)).alloc (.cells #[.int .i64 b] 3) = w0 at *
          go_wp2_with (first | (have h9 := HR0; clear h9; refine wpList_load_guard (P := Try.prog) (by rfl) 29 (.tmp 5) rfl w.heap.size 0 rfl C.toList _ HR0.out Try.underlying29 rfl (by rw [HC28.out]; exact info29) ?_) | (go_at_call 85; refine (HCO.out _ hF.below_w).mono ?_; rintro e w1 ⟨rfl, hb1⟩; clear HR0; have hF1 := hF.below hb1; clear hb1; obtain ⟨q0, q1, q2, q3, q4⟩ := hF1.cells) | (go_at_call 66; refine (in_is _ _ _ true _ HD.out).mono ?_; rintro e w' ⟨rfl, rfl⟩))
          go_ret2
          rw [HN1.out, HL1.out]
          exact ⟨_, rfl, World.ownsRow_nil _ _ _ _, hF1.below_w⟩
        · by_cases a3 : 100001 < b
          · have HN1 : Hid (N = 1) := by show _ = _; rw [HN.out, if_neg (by omega)]
            have HL1 : Hid (L = []) := by show _ = _; rw [HL.out, if_neg (by rw [HN1.out]; decide)]
            clear HN HL
            go_enter Try.func47, Try.ntmps47
            go_upto_region 1 with fail
            have hF := five_new w C A l.length c (j : Int) a b
            have HR0 := Lib.hid hF.b0.range
            obtain ⟨p0, p1, p2, p3, p4⟩ := hF.cells
            generalize ((((w.alloc (.cells C 29)).alloc (.cells #[.slice A l.length c] 30)).alloc (.cells #[.int .i64 (j : Int)] 3)).alloc (.cells #[.int .i64 a] 3)).alloc (.cells #[.int .i64 b] 3) = w0 at *
            go_wp2_with (first | (have h9 := HR0; clear h9; refine wpList_load_guard (P := Try.prog) (by rfl) 29 (.tmp 5) rfl w.heap.size 0 rfl C.toList _ HR0.out Try.underlying29 rfl (by rw [HC28.out]; exact info29) ?_) | (go_at_call 85; refine (HCO.out _ hF.below_w).mono ?_; rintro e w1 ⟨rfl, hb1⟩; clear HR0; have hF1 := hF.below hb1; clear hb1; obtain ⟨q0, q1, q2, q3, q4⟩ := hF1.cells) | (go_at_call 66; refine (in_is _ _ _ true _ HD.out).mono ?_; rintro e w' ⟨rfl, rfl⟩))
            go_ret2
            rw [HN1.out, HL1.out]
            exact ⟨_, rfl, World.ownsRow_nil _ _ _ _, hF1.below_w⟩
          · have HN1 : Hid (N = 0) := by show _ = _; rw [HN.out, if_pos (by omega)]
            have HL1 : Hid (L = suitK Y l[j] j a (b - a).toNat) := by show _ = _; rw [HL.out, if_pos HN1.out, dayK_at hjl]
            have HVV := Lib.hid (okY_valid ho)
            clear HN HL
            go_enter Try.func47, Try.ntmps47
            go_upto_region 1 with fail
            have hF := five_new w C A l.length c (j : Int) a b
            have HR0 := Lib.hid hF.b0.range
            obtain ⟨p0, p1, p2, p3, p4⟩ := hF.cells
            generalize ((((w.alloc (.cells C 29)).alloc (.cells #[.slice A l.length c] 30)).alloc (.cells #[.int .i64 (j : Int)] 3)).alloc (.cells #[.int .i64 a] 3)).alloc (.cells #[.int .i64 b] 3) = w0 at *
            go_wp2_with (first | (have h9 := HR0; clear h9; refine wpList_load_guard (P := Try.prog) (by rfl) 29 (.tmp 5) rfl w.heap.size 0 rfl C.toList _ HR0.out Try.underlying29 rfl (by rw [HC28.out]; exact info29) ?_) | (go_at_call 85; refine (HCO.out _ hF.below_w).mono ?_; rintro e w1 ⟨rfl, hb1⟩; clear HR0; have hF1 := hF.below hb1; clear hb1; obtain ⟨q0, q1, q2, q3, q4⟩ := hF1.cells) | (go_at_call 66; refine (in_is _ _ _ true _ HD.out).mono ?_; rintro e w' ⟨rfl, rfl⟩) | (go_at_call 103; refine (collect_any w.heap.size C Y l A c j (w.heap.size + 3) (w.heap.size + 4) w.heap.size (w.heap.size + 1) (w.heap.size + 2) a b HVV.out (by omega) hjl (by omega) ⟨by omega, by omega⟩ _ ⟨q3, q4, hF1.b0, q1, q2, HYW.out _ hF1.below_w, HTW.out _ hF1.below_w, hF1.below_w.size⟩).mono ?_; rintro e w2 ⟨v2, rfl, ho2, hb2⟩; obtain ⟨A2, c2, rfl, _, _⟩ := ownsSlice ho2))
            go_ret2
            rw [HN1.out, HL1.out]
            have hz1 := hF1.below_w.size
            exact ⟨_, rfl, ownsRow_base ho2 hz1, hF1.below_w.trans (hb2.mono hz1)⟩
    | false =>
      have HN1 : Hid (N = 5) := by show _ = _; rw [HN.out, hd]; rfl
      have HL1 : Hid (L = []) := by show _ = _; rw [HL.out, if_neg (by rw [HN1.out]; decide)]
      have HD := Lib.hid hd
      clear HN HL hd
      go_enter Try.func47, Try.ntmps47
      go_upto_region 1 with fail
      have hF := five_new w C A l.length c i a b
      have HR0 := Lib.hid hF.b0.range
      obtain ⟨p0, p1, p2, p3, p4⟩ := hF.cells
      generalize ((((w.alloc (.cells C 29)).alloc (.cells #[.slice A l.length c] 30)).alloc (.cells #[.int .i64 i] 3)).alloc (.cells #[.int .i64 a] 3)).alloc (.cells #[.int .i64 b] 3) = w0 at *
      go_wp2_with (first | (have h9 := HR0; clear h9; refine wpList_load_guard (P := Try.prog) (by rfl) 29 (.tmp 5) rfl w.heap.size 0 rfl C.toList _ HR0.out Try.underlying29 rfl (by rw [HC28.out]; exact info29) ?_) | (go_at_call 85; refine (HCO.out _ hF.below_w).mono ?_; rintro e w1 ⟨rfl, hb1⟩; clear HR0; have hF1 := hF.below hb1; clear hb1; obtain ⟨q0, q1, q2, q3, q4⟩ := hF1.cells) | (go_at_call 66; refine (in_is _ _ _ false _ HD.out).mono ?_; rintro e w' ⟨rfl, rfl⟩))
      go_ret2
      rw [HN1.out, HL1.out]
      exact ⟨_, rfl, World.ownsRow_nil _ _ _ _, hF1.below_w⟩
  · have HN1 : Hid (N = comE Y l) := by show _ = _; rw [HN.out, if_neg hc]
    have HL1 : Hid (L = []) := by show _ = _; rw [HL.out, if_neg (by rw [HN1.out]; exact hc)]
    clear HN HL
    generalize comE Y l = M at *
    have hne : (M != 0) = true := by simp [hc]
    clear hc
    go_enter Try.func47, Try.ntmps47
    go_upto_region 1 with fail
    have hF := five_new w C A l.length c i a b
    have HR0 := Lib.hid hF.b0.range
    obtain ⟨p0, p1, p2, p3, p4⟩ := hF.cells
    generalize ((((w.alloc (.cells C 29)).alloc (.cells #[.slice A l.length c] 30)).alloc (.cells #[.int .i64 i] 3)).alloc (.cells #[.int .i64 a] 3)).alloc (.cells #[.int .i64 b] 3) = w0 at *
    go_wp2_with (first | (have h9 := HR0; clear h9; refine wpList_load_guard (P := Try.prog) (by rfl) 29 (.tmp 5) rfl w.heap.size 0 rfl C.toList _ HR0.out Try.underlying29 rfl (by rw [HC28.out]; exact info29) ?_) | (go_at_call 85; refine (HCO.out _ hF.below_w).mono ?_; rintro e w1 ⟨rfl, hb1⟩; clear HR0; have hF1 := hF.below hb1; clear hb1; obtain ⟨q0, q1, q2, q3, q4⟩ := hF1.cells))
    go_ret2
    rw [HN1.out, HL1.out]
    exact ⟨_, rfl, World.ownsRow_nil _ _ _ _, hF1.below_w⟩
end Go.Proofs.Ytjgnikmnadmheaa
