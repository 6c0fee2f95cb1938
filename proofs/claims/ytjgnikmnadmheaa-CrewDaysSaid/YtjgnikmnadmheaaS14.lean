/- crew.Close, on right yards. Printed by wip/gen_s14.py. -/
import Derived.Test.YtjgnikmnadmheaaS13
import Derived.Test.YtjgnikmnadmheaaS8
namespace Go.Proofs.Ytjgnikmnadmheaa
open Go.RowKit

set_option maxRecDepth 100000 in
set_option maxHeartbeats 1000000 in
theorem close_day (C : Array Value) (Y : Yd) (d : Int) (w : World) (hY : YardAt w w.heap.size C Y) (hs : Small Y) (h : okY Y = true) (hd : inB d 0 100000 = false) : Calls Try.prog 20 #[.agg C, .int .i64 d] w (YardEnd noYd 1 w) := by
  have HCK := Lib.hid (fun W (hb : Below w.heap.size w W) => checkYard_any C Y W ((hY.below hb (Nat.le_refl _)).more hb.size) hs.cl hs.pi hs.ma hs.nm)
  have HLOAD := load_any hY
  have HC28 := Lib.hid hY.len
  have hn : chkY Y = 0 := by unfold okY at h; exact eq_of_beq h
  have hv := okY_valid h
  obtain ⟨A1, k1, e1, L1⟩ := hY.cl
  have HBS := Lib.hid (fun W (hb : Below w.heap.size w W) => bsearch_any Y.cl d A1 k1 W ((L1.below hb (Nat.le_refl _)).more hb.size) hv.ris (by have := hv.n1; omega))
  have hln := hv.n1
  rw [hn] at HCK
  clear hn h hs
  clear hY hv L1
  have HD := Lib.hid hd; clear hd
  go_enter Try.func20, Try.ntmps20
  go_wp2_with (first | (refine wpList_load_guard (P := Try.prog) (by rfl) 29 (.tmp 2) rfl w.heap.size 0 rfl C.toList _ (HLOAD.out _ _ (by exact (by repeat (first | with_reducible assumption | with_reducible exact Bk.new _ _ _ | with_reducible refine Bk.drew ?_ | with_reducible refine Bk.drewN ?_ _ | with_reducible refine Bk.alloc ?_ _ | (with_reducible refine Bk.far ?_ ?_ _; rotate_left; (try simp) <;> omega))))) Try.underlying29 rfl (by rw [HC28.out]; exact info29) ?_) | (go_at_call 16; refine (HCK.out _ (by exact (by repeat (first | with_reducible exact Below.refl _ _ | with_reducible assumption | with_reducible refine Below.drew ?_ | with_reducible refine below_drewN ?_ _ | (with_reducible refine Below.alloc ?_ ?_ _; rotate_left; (try simp) <;> omega) | (with_reducible refine Below.setCell ?_ ?_ _; rotate_left; (try simp) <;> omega))))).mono ?_; rintro e w1 ⟨rfl, hb1⟩; have hB1 : Below w.heap.size w w1 := Below.trans (by exact (by repeat (first | with_reducible exact Below.refl _ _ | with_reducible assumption | with_reducible refine Below.drew ?_ | with_reducible refine below_drewN ?_ _ | (with_reducible refine Below.alloc ?_ ?_ _; rotate_left; (try simp) <;> omega) | (with_reducible refine Below.setCell ?_ ?_ _; rotate_left; (try simp) <;> omega)))) (hb1.mono (by first | omega | (simp; omega) | simp)); have hK1 : Bk w1 w.heap.size 29 C := Bk.below (by exact (by repeat (first | with_reducible assumption | with_reducible exact Bk.new _ _ _ | with_reducible refine Bk.drew ?_ | with_reducible refine Bk.drewN ?_ _ | with_reducible refine Bk.alloc ?_ _ | (with_reducible refine Bk.far ?_ ?_ _; rotate_left; (try simp) <;> omega)))) hb1 (by first | omega | (simp; omega) | simp); have hJ1 : Bk w1 (w.heap.size + 1) 29 zeroC.toArray := Bk.below (zero_new w C) hb1 (by first | omega | (simp; omega) | simp); have hl1 := hJ1.lt; have x1 := hK1.cell 24 e1; clear hb1) | (go_at_call 76; refine (HBS.out _ hB1).mono ?_; rintro e w2 ⟨rfl, hb2⟩; have hB2 : Below w.heap.size w w2 := Below.trans hB1 (hb2.mono hB1.size); have hK2 := hK1.below hb2 hK1.lt; have hJ2 := hJ1.below hb2 hl1; have hl2 := hJ2.lt; have x2 := hK2.cell 24 e1; clear hb2) | (go_at_call 66; refine (in_any _ _ _ _).mono ?_; rintro e w' ⟨rfl, rfl⟩; rw [HD.out]) | (refine wpList_store_blk (P := Try.prog) rfl 29 (.tmp 4) (.tmp 26) rfl (w.heap.size + 1) zeroC.toArray zeroC.toArray rfl rfl hJ2 rfl info29 zero_one ?_; intro w3 hk3 hf3))
  exact bodyPost_ret (results_row rfl _ _ (w.heap.size + 1) zeroC _ rfl hk3.range Try.underlying29 rfl info29) rfl ⟨_, rfl, zero_at _ _, hf3.bel _ _ (by omega) hB2⟩

set_option maxRecDepth 100000 in
set_option maxHeartbeats 1000000 in
theorem close_twice (C : Array Value) (Y : Yd) (d : Int) (w : World) (hY : YardAt w w.heap.size C Y) (hs : Small Y) (h : okY Y = true) (hd : inB d 0 100000 = true) (hc : Y.cl.contains d = true) : Calls Try.prog 20 #[.agg C, .int .i64 d] w (YardEnd noYd 6 w) := by
  have HCK := Lib.hid (fun W (hb : Below w.heap.size w W) => checkYard_any C Y W ((hY.below hb (Nat.le_refl _)).more hb.size) hs.cl hs.pi hs.ma hs.nm)
  have HLOAD := load_any hY
  have HC28 := Lib.hid hY.len
  have hn : chkY Y = 0 := by unfold okY at h; exact eq_of_beq h
  have hv := okY_valid h
  obtain ⟨A1, k1, e1, L1⟩ := hY.cl
  have HBS := Lib.hid (fun W (hb : Below w.heap.size w W) => bsearch_any Y.cl d A1 k1 W ((L1.below hb (Nat.le_refl _)).more hb.size) hv.ris (by have := hv.n1; omega))
  have hln := hv.n1
  rw [hn] at HCK
  clear hn h hs
  clear hY hv L1
  have HD := Lib.hid hd; clear hd
  rw [hc] at HBS
  clear hc
  go_enter Try.func20, Try.ntmps20
  go_wp2_with (first | (refine wpList_load_guard (P := Try.prog) (by rfl) 29 (.tmp 2) rfl w.heap.size 0 rfl C.toList _ (HLOAD.out _ _ (by exact (by repeat (first | with_reducible assumption | with_reducible exact Bk.new _ _ _ | with_reducible refine Bk.drew ?_ | with_reducible refine Bk.drewN ?_ _ | with_reducible refine Bk.alloc ?_ _ | (with_reducible refine Bk.far ?_ ?_ _; rotate_left; (try simp) <;> omega))))) Try.underlying29 rfl (by rw [HC28.out]; exact info29) ?_) | (go_at_call 16; refine (HCK.out _ (by exact (by repeat (first | with_reducible exact Below.refl _ _ | with_reducible assumption | with_reducible refine Below.drew ?_ | with_reducible refine below_drewN ?_ _ | (with_reducible refine Below.alloc ?_ ?_ _; rotate_left; (try simp) <;> omega) | (with_reducible refine Below.setCell ?_ ?_ _; rotate_left; (try simp) <;> omega))))).mono ?_; rintro e w1 ⟨rfl, hb1⟩; have hB1 : Below w.heap.size w w1 := Below.trans (by exact (by repeat (first | with_reducible exact Below.refl _ _ | with_reducible assumption | with_reducible refine Below.drew ?_ | with_reducible refine below_drewN ?_ _ | (with_reducible refine Below.alloc ?_ ?_ _; rotate_left; (try simp) <;> omega) | (with_reducible refine Below.setCell ?_ ?_ _; rotate_left; (try simp) <;> omega)))) (hb1.mono (by first | omega | (simp; omega) | simp)); have hK1 : Bk w1 w.heap.size 29 C := Bk.below (by exact (by repeat (first | with_reducible assumption | with_reducible exact Bk.new _ _ _ | with_reducible refine Bk.drew ?_ | with_reducible refine Bk.drewN ?_ _ | with_reducible refine Bk.alloc ?_ _ | (with_reducible refine Bk.far ?_ ?_ _; rotate_left; (try simp) <;> omega)))) hb1 (by first | omega | (simp; omega) | simp); have hJ1 : Bk w1 (w.heap.size + 1) 29 zeroC.toArray := Bk.below (zero_new w C) hb1 (by first | omega | (simp; omega) | simp); have hl1 := hJ1.lt; have x1 := hK1.cell 24 e1; clear hb1) | (go_at_call 76; refine (HBS.out _ hB1).mono ?_; rintro e w2 ⟨rfl, hb2⟩; have hB2 : Below w.heap.size w w2 := Below.trans hB1 (hb2.mono hB1.size); have hK2 := hK1.below hb2 hK1.lt; have hJ2 := hJ1.below hb2 hl1; have hl2 := hJ2.lt; have x2 := hK2.cell 24 e1; clear hb2) | (go_at_call 66; refine (in_any _ _ _ _).mono ?_; rintro e w' ⟨rfl, rfl⟩; rw [HD.out]) | (refine wpList_store_blk (P := Try.prog) rfl 29 (.tmp 4) (.tmp 29) rfl (w.heap.size + 1) zeroC.toArray zeroC.toArray rfl rfl hJ2 rfl info29 zero_one ?_; intro w3 hk3 hf3))
  exact bodyPost_ret (results_row rfl _ _ (w.heap.size + 1) zeroC _ rfl hk3.range Try.underlying29 rfl info29) rfl ⟨_, rfl, zero_at _ _, hf3.bel _ _ (by omega) hB2⟩

set_option maxRecDepth 100000 in
set_option maxHeartbeats 1000000 in
theorem close_full (C : Array Value) (Y : Yd) (d : Int) (w : World) (hY : YardAt w w.heap.size C Y) (hs : Small Y) (h : okY Y = true) (hd : inB d 0 100000 = true) (hc : Y.cl.contains d = false) (hf : 200 ≤ Y.cl.length) : Calls Try.prog 20 #[.agg C, .int .i64 d] w (YardEnd noYd 2 w) := by
  have HCK := Lib.hid (fun W (hb : Below w.heap.size w W) => checkYard_any C Y W ((hY.below hb (Nat.le_refl _)).more hb.size) hs.cl hs.pi hs.ma hs.nm)
  have HLOAD := load_any hY
  have HC28 := Lib.hid hY.len
  have hn : chkY Y = 0 := by unfold okY at h; exact eq_of_beq h
  have hv := okY_valid h
  obtain ⟨A1, k1, e1, L1⟩ := hY.cl
  have HBS := Lib.hid (fun W (hb : Below w.heap.size w W) => bsearch_any Y.cl d A1 k1 W ((L1.below hb (Nat.le_refl _)).more hb.size) hv.ris (by have := hv.n1; omega))
  have hln := hv.n1
  rw [hn] at HCK
  clear hn h hs
  clear hY hv L1
  have HD := Lib.hid hd; clear hd
  rw [hc] at HBS
  clear hc
  go_enter Try.func20, Try.ntmps20
  go_wp2_with (first | (refine wpList_load_guard (P := Try.prog) (by rfl) 29 (.tmp 2) rfl w.heap.size 0 rfl C.toList _ (HLOAD.out _ _ (by exact (by repeat (first | with_reducible assumption | with_reducible exact Bk.new _ _ _ | with_reducible refine Bk.drew ?_ | with_reducible refine Bk.drewN ?_ _ | with_reducible refine Bk.alloc ?_ _ | (with_reducible refine Bk.far ?_ ?_ _; rotate_left; (try simp) <;> omega))))) Try.underlying29 rfl (by rw [HC28.out]; exact info29) ?_) | (go_at_call 16; refine (HCK.out _ (by exact (by repeat (first | with_reducible exact Below.refl _ _ | with_reducible assumption | with_reducible refine Below.drew ?_ | with_reducible refine below_drewN ?_ _ | (with_reducible refine Below.alloc ?_ ?_ _; rotate_left; (try simp) <;> omega) | (with_reducible refine Below.setCell ?_ ?_ _; rotate_left; (try simp) <;> omega))))).mono ?_; rintro e w1 ⟨rfl, hb1⟩; have hB1 : Below w.heap.size w w1 := Below.trans (by exact (by repeat (first | with_reducible exact Below.refl _ _ | with_reducible assumption | with_reducible refine Below.drew ?_ | with_reducible refine below_drewN ?_ _ | (with_reducible refine Below.alloc ?_ ?_ _; rotate_left; (try simp) <;> omega) | (with_reducible refine Below.setCell ?_ ?_ _; rotate_left; (try simp) <;> omega)))) (hb1.mono (by first | omega | (simp; omega) | simp)); have hK1 : Bk w1 w.heap.size 29 C := Bk.below (by exact (by repeat (first | with_reducible assumption | with_reducible exact Bk.new _ _ _ | with_reducible refine Bk.drew ?_ | with_reducible refine Bk.drewN ?_ _ | with_reducible refine Bk.alloc ?_ _ | (with_reducible refine Bk.far ?_ ?_ _; rotate_left; (try simp) <;> omega)))) hb1 (by first | omega | (simp; omega) | simp); have hJ1 : Bk w1 (w.heap.size + 1) 29 zeroC.toArray := Bk.below (zero_new w C) hb1 (by first | omega | (simp; omega) | simp); have hl1 := hJ1.lt; have x1 := hK1.cell 24 e1; clear hb1) | (go_at_call 76; refine (HBS.out _ hB1).mono ?_; rintro e w2 ⟨rfl, hb2⟩; have hB2 : Below w.heap.size w w2 := Below.trans hB1 (hb2.mono hB1.size); have hK2 := hK1.below hb2 hK1.lt; have hJ2 := hJ1.below hb2 hl1; have hl2 := hJ2.lt; have x2 := hK2.cell 24 e1; clear hb2) | (go_at_call 66; refine (in_any _ _ _ _).mono ?_; rintro e w' ⟨rfl, rfl⟩; rw [HD.out]) | (refine wpList_store_blk (P := Try.prog) rfl 29 (.tmp 4) (.tmp 35) rfl (w.heap.size + 1) zeroC.toArray zeroC.toArray rfl rfl hJ2 rfl info29 zero_one ?_; intro w3 hk3 hf3))
  exact bodyPost_ret (results_row rfl _ _ (w.heap.size + 1) zeroC _ rfl hk3.range Try.underlying29 rfl info29) rfl ⟨_, rfl, zero_at _ _, hf3.bel _ _ (by omega) hB2⟩

theorem own_bk {w : World} {base e size n c : Nat} {A : Option Addr} {xs : List Value} (h : w.ownsRow base e size (.slice A n c) n xs) (hn : n ≠ 0) : ∃ g R, A = some ⟨g, 0, none⟩ ∧ base ≤ g ∧ Bk w g e R ∧ n ≤ c := by
  rcases h.2 with ⟨_, h1⟩ | ⟨g', cap, cur, h1, h2, h3, h4, _⟩
  · exact absurd h1 hn
  · cases h1
    exact ⟨g', cur, rfl, h2, h3, h4⟩
structure YardNew (w w' : World) (C : Array Value) (Y : Yd) : Prop where
  out : ∃ g4 g6 g7 c4 c6 c7 R4 R6 R7, w.heap.size ≤ g4 ∧ g4 < g6 ∧ g6 < g7 ∧ C[24]? = some (.slice (some ⟨g4, 0, none⟩) Y.cl.length c4) ∧ C[25]? = some (.slice (some ⟨g6, 0, none⟩) Y.pi.length c6) ∧ C[26]? = some (.slice (some ⟨g7, 0, none⟩) Y.ma.length c7)
    ∧ Bk w' g4 3 R4 ∧ Bk w' g6 87 R6 ∧ Bk w' g7 78 R7 ∧ Y.cl.length ≤ c4 ∧ Y.pi.length ≤ c6 ∧ Y.ma.length ≤ c7
def CloseEnd (Y Y' : Yd) (w : World) (e : Ending) (w' : World) : Prop := ∃ C, e = .returned (.tuple #[.agg C, .int .i64 0]) ∧ YardAt w' w'.heap.size C Y' ∧ Below w.heap.size w w' ∧ (Y.pi ≠ [] → Y.ma ≠ [] → YardNew w w' C Y')
theorem own_lt {w : World} {base e size n : Nat} {v : Value} {xs : List Value} (h : w.ownsRow base e size v n xs) (g : Nat) (hg : v.ownBlock = some g) : g < w.heap.size := by
  rcases h.2 with ⟨rfl, _⟩ | ⟨g', cap, cur, rfl, _, h3, _⟩
  · simp [Value.ownBlock] at hg
  · simp [Value.ownBlock] at hg
    subst hg
    exact (Array.getElem?_eq_some_iff.1 h3).1
set_option maxRecDepth 100000 in
set_option maxHeartbeats 1000000 in
theorem close_ok (C : Array Value) (Y : Yd) (d : Int) (w : World) (hY : YardAt w w.heap.size C Y) (hs : Small Y) (h : okY Y = true) (hd : inB d 0 100000 = true) (hc : Y.cl.contains d = false) (hf : ¬ 200 ≤ Y.cl.length) : Calls Try.prog 20 #[.agg C, .int .i64 d] w (CloseEnd Y { Y with cl := insL Y.cl (cntLt Y.cl d) d } w) := by
  have HCK := Lib.hid (fun W (hb : Below w.heap.size w W) => checkYard_any C Y W ((hY.below hb (Nat.le_refl _)).more hb.size) hs.cl hs.pi hs.ma hs.nm)
  have HLOAD := load_any hY
  have HC28 := Lib.hid hY.len
  have hn : chkY Y = 0 := by unfold okY at h; exact eq_of_beq h
  have hv := okY_valid h
  obtain ⟨A1, k1, e1, L1⟩ := hY.cl
  have HBS := Lib.hid (fun W (hb : Below w.heap.size w W) => bsearch_any Y.cl d A1 k1 W ((L1.below hb (Nat.le_refl _)).more hb.size) hv.ris (by have := hv.n1; omega))
  have hln := hv.n1
  rw [hn] at HCK
  clear hn h hs
  obtain ⟨A2, k2, e2, L2⟩ := hY.pi
  obtain ⟨A3, k3, e3, L3⟩ := hY.ma
  have HCL := Lib.hid (fun W (hb : Below w.heap.size w W) => clone_ints Y.cl A1 k1 W ((L1.below hb (Nat.le_refl _)).more hb.size) (by omega))
  have HCP := Lib.hid (fun W (hb : Below w.heap.size w W) => clone_pits Y.pi A2 k2 W ((L2.below hb (Nat.le_refl _)).more hb.size) (by have := hv.n2; omega))
  have HCM := Lib.hid (fun W (hb : Below w.heap.size w W) => clone_mass Y.ma A3 k3 W ((L3.below hb (Nat.le_refl _)).more hb.size) (by have := hv.n3; omega))
  have hcnt : cntLt Y.cl d ≤ Y.cl.length := List.countP_le_length
  have HIL := Lib.hid (insL_len Y.cl (cntLt Y.cl d) d hcnt)
  have HYS := Lib.hid hY.se
  have HYD := Lib.hid hY.dry
  have hsz := hY.size
  have HD := Lib.hid hd; clear hd
  rw [hc] at HBS
  clear hY hv L1 L2 L3 hc
  generalize hn : cntLt Y.cl d = n at *
  have HNN := Lib.hid hn; clear hn
  go_enter Try.func20, Try.ntmps20
  go_upto_region 12 with (first | (refine wpList_load_guard (P := Try.prog) (by rfl) 29 (.tmp 2) rfl w.heap.size 0 rfl C.toList _ (HLOAD.out _ _ (by exact (by repeat (first | with_reducible assumption | with_reducible exact Bk.new _ _ _ | with_reducible refine Bk.drew ?_ | with_reducible refine Bk.drewN ?_ _ | with_reducible refine Bk.alloc ?_ _ | (with_reducible refine Bk.far ?_ ?_ _; rotate_left; (try simp) <;> omega))))) Try.underlying29 rfl (by rw [HC28.out]; exact info29) ?_) | (go_at_call 16; refine (HCK.out _ (by exact (by repeat (first | with_reducible exact Below.refl _ _ | with_reducible assumption | with_reducible refine Below.drew ?_ | with_reducible refine below_drewN ?_ _ | (with_reducible refine Below.alloc ?_ ?_ _; rotate_left; (try simp) <;> omega) | (with_reducible refine Below.setCell ?_ ?_ _; rotate_left; (try simp) <;> omega))))).mono ?_; rintro e w1 ⟨rfl, hb1⟩; have hB1 : Below w.heap.size w w1 := Below.trans (by exact (by repeat (first | with_reducible exact Below.refl _ _ | with_reducible assumption | with_reducible refine Below.drew ?_ | with_reducible refine below_drewN ?_ _ | (with_reducible refine Below.alloc ?_ ?_ _; rotate_left; (try simp) <;> omega) | (with_reducible refine Below.setCell ?_ ?_ _; rotate_left; (try simp) <;> omega)))) (hb1.mono (by first | omega | (simp; omega) | simp)); have hK1 : Bk w1 w.heap.size 29 C := Bk.below (by exact (by repeat (first | with_reducible assumption | with_reducible exact Bk.new _ _ _ | with_reducible refine Bk.drew ?_ | with_reducible refine Bk.drewN ?_ _ | with_reducible refine Bk.alloc ?_ _ | (with_reducible refine Bk.far ?_ ?_ _; rotate_left; (try simp) <;> omega)))) hb1 (by first | omega | (simp; omega) | simp); have hJ1 : Bk w1 (w.heap.size + 1) 29 zeroC.toArray := Bk.below (zero_new w C) hb1 (by first | omega | (simp; omega) | simp); have hl1 := hJ1.lt; have x1 := hK1.cell 24 e1; clear hb1) | (go_at_call 76; refine (HBS.out _ hB1).mono ?_; rintro e w2 ⟨rfl, hb2⟩; have hB2 : Below w.heap.size w w2 := Below.trans hB1 (hb2.mono hB1.size); have hK2 := hK1.below hb2 hK1.lt; have hJ2 := hJ1.below hb2 hl1; have hl2 := hJ2.lt; have x2 := hK2.cell 24 e1; clear hb2) | (go_at_call 66; refine (in_any _ _ _ _).mono ?_; rintro e w' ⟨rfl, rfl⟩; rw [HD.out]) | (go_at_call 78; refine (HCL.out _ hB2).mono ?_; rintro e w3 ⟨v3, rfl, ho3, hb3⟩; have hB3 : Below w.heap.size w w3 := Below.trans hB2 (hb3.mono hB2.size); have hK3 := hK2.below hb3 hK2.lt; have hJ3 := hJ2.below hb3 hl2; have hl3 := hJ3.lt; have hz3 := hb3.size; clear hb3) | (go_at_call 77; refine (insert_any Y.cl n d v3 w2.heap.size w3.heap.size (w3.alloc (.cells #[.int .i64 d] 3)) (ho3.alloc _) (Bk.new _ _ _) (.inr (fun e => by have := own_lt ho3 _ e.symm; omega)) (by omega) (by omega) (by simp; omega)).mono ?_; rintro e w4 ⟨g4, c4, R4, rfl, hl4, hg4, hG4, hc4, hb4⟩; rw [HIL.out]; have hB4 : Below w.heap.size w w4 := Below.trans (by exact (by repeat (first | with_reducible exact Below.refl _ _ | with_reducible assumption | with_reducible refine Below.drew ?_ | with_reducible refine below_drewN ?_ _ | (with_reducible refine Below.alloc ?_ ?_ _; rotate_left; (try simp) <;> omega) | (with_reducible refine Below.setCell ?_ ?_ _; rotate_left; (try simp) <;> omega)))) (hb4.mono hB2.size); have hK4 : Bk w4 w.heap.size 29 C := Bk.below (by exact (by repeat (first | with_reducible assumption | with_reducible exact Bk.new _ _ _ | with_reducible refine Bk.drew ?_ | with_reducible refine Bk.drewN ?_ _ | with_reducible refine Bk.alloc ?_ _ | (with_reducible refine Bk.far ?_ ?_ _; rotate_left; (try simp) <;> omega)))) hb4 hK2.lt; have hJ4 : Bk w4 (w.heap.size + 1) 29 zeroC.toArray := Bk.below (by exact (by repeat (first | with_reducible assumption | with_reducible exact Bk.new _ _ _ | with_reducible refine Bk.drew ?_ | with_reducible refine Bk.drewN ?_ _ | with_reducible refine Bk.alloc ?_ _ | (with_reducible refine Bk.far ?_ ?_ _; rotate_left; (try simp) <;> omega)))) hb4 hl2; have hl5 := hJ4.lt; have hk4 := hK4.lt; have x4 := hK4.cell 24 e1; have f4 := hK4.fro 24; clear hb4))
  obtain ⟨A4, hAe⟩ : ∃ A4 : Option Addr, A4 = some ⟨g4, 0, none⟩ := ⟨_, rfl⟩
  rw [← hAe] at hl4 ⊢
  have hA4 : ∀ ad, A4 = some ad → w2.heap.size ≤ ad.block := fun ad e => by rw [hAe] at e; cases e; exact hg4
  have hG5 : Bk (w4.setCell ⟨w.heap.size, 24, none⟩ (Value.slice A4 (Y.cl.length + 1) c4)) g4 3 R4 := hG4.far (by have := hB2.size; have := hK2.lt; show g4 ≠ w.heap.size; omega) _
  have hlt4 := hG4.lt
  obtain ⟨V, hV⟩ : ∃ V, V = Value.slice A4 (Y.cl.length + 1) c4 := ⟨_, rfl⟩
  rw [← hV] at hG5 ⊢
  have hK5 : Bk (w4.setCell ⟨w.heap.size, 24, none⟩ V) w.heap.size 29 (C.setIfInBounds 24 V) := hK4.set 24 V
  have hJ5 : Bk (w4.setCell ⟨w.heap.size, 24, none⟩ V) (w.heap.size + 1) 29 zeroC.toArray := hJ4.far (by simp) V
  have hB5 : Below w.heap.size w (w4.setCell ⟨w.heap.size, 24, none⟩ V) := hB4.setCell (Nat.le_refl _) _
  have hl6 : Lies (w4.setCell ⟨w.heap.size, 24, none⟩ V) w4.heap.size A4 (ints (insL Y.cl n d)) := (far_setCells w.heap.size [V] 24 w4).lies hl4 (fun ad e => by have := hA4 ad e; have := hB2.size; have := hK2.lt; omega)
  have HV := Lib.hid hV
  clear hV hl4 hK4 hJ4 hB4 x4 f4
  have HSZ : Hid (w4.heap.size ≤ (w4.setCell ⟨w.heap.size, 24, none⟩ V).heap.size) := by show _ ≤ _; simp
  generalize w4.setCell ⟨w.heap.size, 24, none⟩ V = w5 at *
  have y2 : w5.cell? ⟨w.heap.size, 25, none⟩ = some (.slice A2 Y.pi.length k2) := hK5.cell 25 (by rw [Array.getElem?_setIfInBounds_ne (by omega)]; exact e2)
  have y3 : w5.cell? ⟨w.heap.size, 26, none⟩ = some (.slice A3 Y.ma.length k3) := hK5.cell 26 (by rw [Array.getElem?_setIfInBounds_ne (by omega)]; exact e3)
  have Y2 : Hid ((C.setIfInBounds 24 V)[25]? = some (.slice A2 Y.pi.length k2)) := by show _ = _; rw [Array.getElem?_setIfInBounds_ne (by omega)]; exact e2
  have Y3 : Hid ((C.setIfInBounds 24 V)[26]? = some (.slice A3 Y.ma.length k3)) := by show _ = _; rw [Array.getElem?_setIfInBounds_ne (by omega)]; exact e3
  have hlk := hK5.lt
  have hlj := hJ5.lt
  have hlg := hG5.lt
  have HAE := Lib.hid hAe
  clear hAe hG4
  go_region_with (first | (go_at_call 79; refine (HCP.out _ (by exact (by repeat (first | with_reducible exact Below.refl _ _ | with_reducible assumption | with_reducible refine Below.drew ?_ | with_reducible refine below_drewN ?_ _ | (with_reducible refine Below.alloc ?_ ?_ _; rotate_left; (try simp) <;> omega) | (with_reducible refine Below.setCell ?_ ?_ _; rotate_left; (try simp) <;> omega))))).mono ?_; rintro e w6 ⟨v6, rfl, ho6, hb6⟩; obtain ⟨A6, c6, rfl, _, _⟩ := ownsSlice ho6; have hB6 : Below w.heap.size w w6 := Below.trans (by exact (by repeat (first | with_reducible exact Below.refl _ _ | with_reducible assumption | with_reducible refine Below.drew ?_ | with_reducible refine below_drewN ?_ _ | (with_reducible refine Below.alloc ?_ ?_ _; rotate_left; (try simp) <;> omega) | (with_reducible refine Below.setCell ?_ ?_ _; rotate_left; (try simp) <;> omega)))) (hb6.mono (by first | exact hB5.size | (simp; exact hB5.size))); have hK6 : Bk w6 w.heap.size 29 (C.setIfInBounds 24 V) := Bk.below (by exact (by repeat (first | with_reducible assumption | with_reducible exact Bk.new _ _ _ | with_reducible refine Bk.drew ?_ | with_reducible refine Bk.drewN ?_ _ | with_reducible refine Bk.alloc ?_ _ | (with_reducible refine Bk.far ?_ ?_ _; rotate_left; (try simp) <;> omega)))) hb6 (by first | exact hlk | (simp; exact hlk)); have hJ6 : Bk w6 (w.heap.size + 1) 29 zeroC.toArray := Bk.below (by exact (by repeat (first | with_reducible assumption | with_reducible exact Bk.new _ _ _ | with_reducible refine Bk.drew ?_ | with_reducible refine Bk.drewN ?_ _ | with_reducible refine Bk.alloc ?_ _ | (with_reducible refine Bk.far ?_ ?_ _; rotate_left; (try simp) <;> omega)))) hb6 (by first | exact hlj | (simp; exact hlj)); have hG6 : Bk w6 g4 3 R4 := Bk.below (by exact (by repeat (first | with_reducible assumption | with_reducible exact Bk.new _ _ _ | with_reducible refine Bk.drew ?_ | with_reducible refine Bk.drewN ?_ _ | with_reducible refine Bk.alloc ?_ _ | (with_reducible refine Bk.far ?_ ?_ _; rotate_left; (try simp) <;> omega)))) hb6 (by first | exact hlg | (simp; exact hlg)); have hlt6 := Lib.hid (own_lt ho6); have hC6 : Below w5.heap.size w5 w6 := Below.trans (by exact (by repeat (first | with_reducible exact Below.refl _ _ | with_reducible assumption | with_reducible refine Below.drew ?_ | with_reducible refine below_drewN ?_ _ | (with_reducible refine Below.alloc ?_ ?_ _; rotate_left; (try simp) <;> omega) | (with_reducible refine Below.setCell ?_ ?_ _; rotate_left; (try simp) <;> omega)))) (hb6.mono (by first | exact Nat.le_refl _ | simp)); have hl7 : Lies w6 w4.heap.size A4 (ints (insL Y.cl n d)) := hl6.below hC6 HSZ.out; have y6 := hK6.cell 26 Y3.out; clear hb6) | (go_at_call 80; refine (HCM.out _ (by exact (by repeat (first | with_reducible exact Below.refl _ _ | with_reducible assumption | with_reducible refine Below.drew ?_ | with_reducible refine below_drewN ?_ _ | (with_reducible refine Below.alloc ?_ ?_ _; rotate_left; (try simp) <;> omega) | (with_reducible refine Below.setCell ?_ ?_ _; rotate_left; (try simp) <;> omega))))).mono ?_; rintro e w7 ⟨v7, rfl, ho7, hb7⟩; obtain ⟨A7, c7, rfl, _, _⟩ := ownsSlice ho7; have hB7 : Below w.heap.size w w7 := Below.trans (by exact (by repeat (first | with_reducible exact Below.refl _ _ | with_reducible assumption | with_reducible refine Below.drew ?_ | with_reducible refine below_drewN ?_ _ | (with_reducible refine Below.alloc ?_ ?_ _; rotate_left; (try simp) <;> omega) | (with_reducible refine Below.setCell ?_ ?_ _; rotate_left; (try simp) <;> omega)))) (hb7.mono (by first | exact hB6.size | (simp; exact hB6.size))); have hK7 : Bk w7 w.heap.size 29 (C.setIfInBounds 24 V) := Bk.below (by exact (by repeat (first | with_reducible assumption | with_reducible exact Bk.new _ _ _ | with_reducible refine Bk.drew ?_ | with_reducible refine Bk.drewN ?_ _ | with_reducible refine Bk.alloc ?_ _ | (with_reducible refine Bk.far ?_ ?_ _; rotate_left; (try simp) <;> omega)))) hb7 (by first | exact hK6.lt | (simp; exact hK6.lt)); have hJ7 : Bk w7 (w.heap.size + 1) 29 zeroC.toArray := Bk.below (by exact (by repeat (first | with_reducible assumption | with_reducible exact Bk.new _ _ _ | with_reducible refine Bk.drew ?_ | with_reducible refine Bk.drewN ?_ _ | with_reducible refine Bk.alloc ?_ _ | (with_reducible refine Bk.far ?_ ?_ _; rotate_left; (try simp) <;> omega)))) hb7 (by first | exact hJ6.lt | (simp; exact hJ6.lt)); have hlk7 := hK7.lt; have hG7 : Bk w7 g4 3 R4 := Bk.below (by exact (by repeat (first | with_reducible assumption | with_reducible exact Bk.new _ _ _ | with_reducible refine Bk.drew ?_ | with_reducible refine Bk.drewN ?_ _ | with_reducible refine Bk.alloc ?_ _ | (with_reducible refine Bk.far ?_ ?_ _; rotate_left; (try simp) <;> omega)))) hb7 (by first | exact hG6.lt | (simp; exact hG6.lt)); have q2 := hK7.cell 25 Y2.out; have q3 := hK7.cell 26 Y3.out; have r2 := hK7.fro 25; have r3 := hK7.fro 26; have hC7 : Below w6.heap.size w6 w7 := Below.trans (by exact (by repeat (first | with_reducible exact Below.refl _ _ | with_reducible assumption | with_reducible refine Below.drew ?_ | with_reducible refine below_drewN ?_ _ | (with_reducible refine Below.alloc ?_ ?_ _; rotate_left; (try simp) <;> omega) | (with_reducible refine Below.setCell ?_ ?_ _; rotate_left; (try simp) <;> omega)))) (hb7.mono (by first | exact Nat.le_refl _ | simp)); have ho8 := ownsRow_below ho6 hC7 (Nat.le_refl _); have hl8 : Lies w7 w4.heap.size A4 (ints (insL Y.cl n d)) := hl7.below hC7 (by have := hC6.size; have := HSZ.out; omega); have hs7 := hC7.size; clear hb7))
  all_goals
    have hF1 : Far w7 (w7.setCell ⟨w.heap.size, 25, none⟩ (.slice A6 Y.pi.length c6)) w.heap.size := far_setCells w.heap.size [_] 25 w7
    have hF2 : Far (w7.setCell ⟨w.heap.size, 25, none⟩ (.slice A6 Y.pi.length c6)) ((w7.setCell ⟨w.heap.size, 25, none⟩ (.slice A6 Y.pi.length c6)).setCell ⟨w.heap.size, 26, none⟩ (.slice A7 Y.ma.length c7)) w.heap.size := far_setCells w.heap.size [_] 26 _
    have hK8 := (hK7.set 25 (.slice A6 Y.pi.length c6)).set 26 (.slice A7 Y.ma.length c7)
    have hJ8 := hF2.bk (by omega) (hF1.bk (by omega) hJ7)
    have hB8 := hF2.bel _ _ (Nat.le_refl _) (hF1.bel _ _ (Nat.le_refl _) hB7)
    have hA6 := own_ne' (b := w.heap.size) ho8 (by first | exact hlk | (simp; exact hlk))
    have hA7 := own_ne' (b := w.heap.size) ho7 (by first | exact hK6.lt | (simp; exact hK6.lt))
    have hA4' : ∀ ad, A4 = some ad → ad.block ≠ w.heap.size := fun ad e => by have := hA4 ad e; have := hB2.size; have := hK2.lt; omega
    have hG8 := hF2.bk (by omega) (hF1.bk (by omega) hG7)
    have hO6 := hF2.own (hF1.own ho8 hlk) hlk
    have hO7 := hF2.own (hF1.own ho7 (by first | exact hK6.lt | (simp; exact hK6.lt))) (by first | exact hK6.lt | (simp; exact hK6.lt))
    have hj6 := hJ6.lt
    have hsz6 := hC6.size
    have hL4 := hF2.lies (hF1.lies hl8 hA4') hA4'
    have hL6 := hF2.lies (hF1.lies (ownsRow_lies ho8) hA6) hA6
    have hL7 := hF2.lies (hF1.lies (ownsRow_lies ho7) hA7) hA7
    have hsz8 : w4.heap.size ≤ ((w7.setCell ⟨w.heap.size, 25, none⟩ (.slice A6 Y.pi.length c6)).setCell ⟨w.heap.size, 26, none⟩ (.slice A7 Y.ma.length c7)).heap.size := by rw [hF2.size, hF1.size]; have := hC6.size; have := HSZ.out; omega
    have hsz9 : w7.heap.size ≤ ((w7.setCell ⟨w.heap.size, 25, none⟩ (.slice A6 Y.pi.length c6)).setCell ⟨w.heap.size, 26, none⟩ (.slice A7 Y.ma.length c7)).heap.size := by rw [hF2.size, hF1.size]; exact Nat.le_refl _
    have hC8 : ∃ C8, C8 = ((C.setIfInBounds 24 V).setIfInBounds 25 (.slice A6 Y.pi.length c6)).setIfInBounds 26 (.slice A7 Y.ma.length c7) := ⟨_, rfl⟩
    obtain ⟨C8, hC8⟩ := hC8
    rw [← hC8] at hK8
    have h28 : C8.size = 28 := by rw [hC8]; simp [hsz]
    have hY8 := yard_new (L := insL Y.cl n d) (c4 := c4) (c6 := c6) (c7 := c7) hsz HYS.out HYD.out (hL4.more hsz8) (hL6.more (Nat.le_trans (by first | exact hC7.size | exact Nat.le_refl _) hsz9)) (hL7.more hsz9)
    rw [HIL.out, ← HV.out, ← hC8] at hY8
    have h1c := hY8.one
    have gA4 : ∀ ad, A4 = some ad → ad.block ≠ w.heap.size + 1 := fun ad e => by have := hA4 ad e; have := hl2; omega
    have gA6 := own_ne' (b := w.heap.size + 1) ho8 (by first | exact hlj | (simp; exact hlj))
    have gA7 := own_ne' (b := w.heap.size + 1) ho7 (by first | exact hJ6.lt | (simp; exact hJ6.lt))
    have HH8 := Lib.hid hC8
    have hi8 : (Try.prog.info? 29).map (·.size) = some C8.toList.length := by rw [Array.length_toList, h28]; exact info29
    have HSZ6 := Lib.hid hsz6
    clear hC8 hF1 hF2 hG5 hG6 hG7 hsz6 hK7 hJ7 hB7 q2 q3 r2 r3 hK6 hJ6 y6 hK5 hJ5 y2 y3 ho8 hl8 hl7 hl6
    generalize ((w7.setCell ⟨w.heap.size, 25, none⟩ (Value.slice A6 Y.pi.length c6)).setCell ⟨w.heap.size, 26, none⟩ (Value.slice A7 Y.ma.length c7)) = w8 at *
    have hI8 := Lib.hid hi8
    have h288 := Lib.hid h28
    clear hi8 h28
    go_wp2_with (first | (refine wpList_load_guard (P := Try.prog) (by rfl) 29 (.tmp 2) rfl w.heap.size 0 rfl C8.toList _ hK8.range Try.underlying29 rfl hI8.out ?_) | (refine wpList_store_blk (P := Try.prog) rfl 29 (.tmp 4) (.tmp 52) rfl (w.heap.size + 1) zeroC.toArray C8 rfl rfl hJ8 h288.out.symm (by rw [h288.out]; exact info29) h1c ?_; intro w9 hk9 hf9))
    refine bodyPost_ret (results_row rfl _ _ (w.heap.size + 1) C8.toList _ rfl hk9.range Try.underlying29 rfl hI8.out) rfl ⟨C8, rfl, ?_, hf9.bel _ _ (by omega) hB8, fun hp hm => ?_⟩
    · rw [HH8.out, HV.out, ← HIL.out]
      exact yard_new (L := insL Y.cl n d) hsz HYS.out HYD.out ((hf9.lies hL4 gA4).more (by rw [hf9.size]; omega)) ((hf9.lies hL6 gA6).more (by rw [hf9.size]; omega)) ((hf9.lies hL7 gA7).more (by rw [hf9.size]; omega))
    · obtain ⟨g6, R6, rfl, k1, k2, k3⟩ := own_bk (hf9.own hO6 hlj) (fun e => hp (List.length_eq_zero_iff.1 e))
      obtain ⟨g7, R7, rfl, k4, k5, k6⟩ := own_bk (hf9.own hO7 hj6) (fun e => hm (List.length_eq_zero_iff.1 e))
      have k7 := hlt6.out g6 rfl
      have k8 := HSZ.out
      have k9 : w5.heap.size ≤ g6 := k1
      refine ⟨⟨g4, g6, g7, c4, c6, c7, R4, R6, R7, by omega, by omega, by omega, ?_, ?_, ?_, hf9.bk (by omega) hG8, k2, k5, by first | exact hc4 | (rw [HIL.out]; exact hc4), k3, k6⟩⟩
      · rw [HH8.out, HV.out, HAE.out, HIL.out, Array.getElem?_setIfInBounds_ne (by omega), Array.getElem?_setIfInBounds_ne (by omega)]; simp [hsz]
      · rw [HH8.out, Array.getElem?_setIfInBounds_ne (by omega)]; simp [hsz]
      · rw [HH8.out]; simp [hsz]

end Go.Proofs.Ytjgnikmnadmheaa