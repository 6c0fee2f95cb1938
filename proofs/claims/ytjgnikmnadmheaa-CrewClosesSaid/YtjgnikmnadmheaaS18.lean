/- giornataref07.Close, on small yards. Printed by wip/gen_s18.py. -/
import Derived.Test.YtjgnikmnadmheaaS17
import Derived.Outline
namespace Go.Proofs.Ytjgnikmnadmheaa
open Go.RowKit

set_option maxRecDepth 100000 in
set_option maxHeartbeats 1000000 in
theorem rclose_bad (C : Array Value) (Y : Yd) (d : Int) (w : World) (hY : YardAt w w.heap.size C Y) (hs : Small Y) (h : okY Y = false) : Calls Try.prog 21 #[.agg C, .int .i64 d] w (YardEnd noYd (chkY Y) w) := by
  have HCK := Lib.hid (fun W (hb : Below w.heap.size w W) => rCheckYard_any C Y W ((hY.below hb (Nat.le_refl _)).more hb.size) hs.cl hs.pi hs.ma hs.nm)
  have HLOAD := load_any hY
  have HC28 := Lib.hid hY.len
  have HN := Lib.hid (chk_of Y)
  clear hY hs
  generalize chkY Y = n at *
  have hn : (n != 0) = true := HN.out.nff.trans (by rw [h]; rfl)
  clear HN h
  go_enter Try.func21, Try.ntmps21
  go_wp2_with (first | (refine wpList_load_guard (P := Try.prog) (by rfl) 29 (.tmp 2) rfl w.heap.size 0 rfl C.toList _ (HLOAD.out _ _ (by exact (by repeat (first | with_reducible assumption | with_reducible exact Bk.new _ _ _ | with_reducible refine Bk.drew ?_ | with_reducible refine Bk.drewN ?_ _ | with_reducible refine Bk.alloc ?_ _ | (with_reducible refine Bk.far ?_ ?_ _; rotate_left; (try simp) <;> omega))))) Try.underlying29 rfl (by rw [HC28.out]; exact info29) ?_) | (go_at_call 17; refine (HCK.out _ (by exact (by repeat (first | with_reducible exact Below.refl _ _ | with_reducible assumption | with_reducible refine Below.drew ?_ | with_reducible refine below_drewN ?_ _ | (with_reducible refine Below.alloc ?_ ?_ _; rotate_left; (try simp) <;> omega) | (with_reducible refine Below.setCell ?_ ?_ _; rotate_left; (try simp) <;> omega))))).mono ?_; rintro e w1 ⟨rfl, hb1⟩; have hB1 : Below w.heap.size w w1 := Below.trans (by exact (by repeat (first | with_reducible exact Below.refl _ _ | with_reducible assumption | with_reducible refine Below.drew ?_ | with_reducible refine below_drewN ?_ _ | (with_reducible refine Below.alloc ?_ ?_ _; rotate_left; (try simp) <;> omega) | (with_reducible refine Below.setCell ?_ ?_ _; rotate_left; (try simp) <;> omega)))) (hb1.mono (by first | omega | (simp; omega) | simp)); have hK1 : Bk w1 w.heap.size 29 C := Bk.below (by exact (by repeat (first | with_reducible assumption | with_reducible exact Bk.new _ _ _ | with_reducible refine Bk.drew ?_ | with_reducible refine Bk.drewN ?_ _ | with_reducible refine Bk.alloc ?_ _ | (with_reducible refine Bk.far ?_ ?_ _; rotate_left; (try simp) <;> omega)))) hb1 (by first | omega | (simp; omega) | simp); have hJ1 : Bk w1 (w.heap.size + 1) 29 zeroC.toArray := Bk.below (zero_new w C) hb1 (by first | omega | (simp; omega) | simp); have hl1 := hJ1.lt; clear hb1) | (refine wpList_store_blk (P := Try.prog) rfl 29 (.tmp 4) (.tmp 14) rfl (w.heap.size + 1) zeroC.toArray zeroC.toArray rfl rfl hJ1 rfl info29 zero_one ?_; intro w2 hk2 hf2))
  exact bodyPost_ret (results_row rfl _ _ (w.heap.size + 1) zeroC _ rfl hk2.range Try.underlying29 rfl info29) rfl ⟨_, rfl, zero_at _ _, hf2.bel _ _ (by omega) hB1⟩

set_option maxRecDepth 100000 in
set_option maxHeartbeats 1000000 in
theorem rclose_day (C : Array Value) (Y : Yd) (d : Int) (w : World) (hY : YardAt w w.heap.size C Y) (hs : Small Y) (h : okY Y = true) (hd : inB d 0 100000 = false) : Calls Try.prog 21 #[.agg C, .int .i64 d] w (YardEnd noYd 1 w) := by
  have HCK := Lib.hid (fun W (hb : Below w.heap.size w W) => rCheckYard_any C Y W ((hY.below hb (Nat.le_refl _)).more hb.size) hs.cl hs.pi hs.ma hs.nm)
  have HLOAD := load_any hY
  have HC28 := Lib.hid hY.len
  have hn : chkY Y = 0 := by unfold okY at h; exact eq_of_beq h
  rw [hn] at HCK
  clear hn h hs hY
  have HD := Lib.hid hd; clear hd
  go_enter Try.func21, Try.ntmps21
  go_wp2_with (first | (refine wpList_load_guard (P := Try.prog) (by rfl) 29 (.tmp 2) rfl w.heap.size 0 rfl C.toList _ (HLOAD.out _ _ (by exact (by repeat (first | with_reducible assumption | with_reducible exact Bk.new _ _ _ | with_reducible refine Bk.drew ?_ | with_reducible refine Bk.drewN ?_ _ | with_reducible refine Bk.alloc ?_ _ | (with_reducible refine Bk.far ?_ ?_ _; rotate_left; (try simp) <;> omega))))) Try.underlying29 rfl (by rw [HC28.out]; exact info29) ?_) | (go_at_call 17; refine (HCK.out _ (by exact (by repeat (first | with_reducible exact Below.refl _ _ | with_reducible assumption | with_reducible refine Below.drew ?_ | with_reducible refine below_drewN ?_ _ | (with_reducible refine Below.alloc ?_ ?_ _; rotate_left; (try simp) <;> omega) | (with_reducible refine Below.setCell ?_ ?_ _; rotate_left; (try simp) <;> omega))))).mono ?_; rintro e w1 ⟨rfl, hb1⟩; have hB1 : Below w.heap.size w w1 := Below.trans (by exact (by repeat (first | with_reducible exact Below.refl _ _ | with_reducible assumption | with_reducible refine Below.drew ?_ | with_reducible refine below_drewN ?_ _ | (with_reducible refine Below.alloc ?_ ?_ _; rotate_left; (try simp) <;> omega) | (with_reducible refine Below.setCell ?_ ?_ _; rotate_left; (try simp) <;> omega)))) (hb1.mono (by first | omega | (simp; omega) | simp)); have hK1 : Bk w1 w.heap.size 29 C := Bk.below (by exact (by repeat (first | with_reducible assumption | with_reducible exact Bk.new _ _ _ | with_reducible refine Bk.drew ?_ | with_reducible refine Bk.drewN ?_ _ | with_reducible refine Bk.alloc ?_ _ | (with_reducible refine Bk.far ?_ ?_ _; rotate_left; (try simp) <;> omega)))) hb1 (by first | omega | (simp; omega) | simp); have hJ1 : Bk w1 (w.heap.size + 1) 29 zeroC.toArray := Bk.below (zero_new w C) hb1 (by first | omega | (simp; omega) | simp); have hl1 := hJ1.lt; clear hb1) | (go_at_call 81; refine (isDay_any _ _).mono ?_; rintro e w' ⟨rfl, rfl⟩; rw [HD.out]) | (refine wpList_store_blk (P := Try.prog) rfl 29 (.tmp 4) (.tmp 19) rfl (w.heap.size + 1) zeroC.toArray zeroC.toArray rfl rfl hJ1 rfl info29 zero_one ?_; intro w2 hk2 hf2))
  exact bodyPost_ret (results_row rfl _ _ (w.heap.size + 1) zeroC _ rfl hk2.range Try.underlying29 rfl info29) rfl ⟨_, rfl, zero_at _ _, hf2.bel _ _ (by omega) hB1⟩

set_option maxRecDepth 100000 in
set_option maxHeartbeats 1000000 in
theorem rclose_in (C : Array Value) (Y : Yd) (d : Int) (w : World) (hY : YardAt w w.heap.size C Y) (hs : Small Y) (h : okY Y = true) (hd : inB d 0 100000 = true) : Calls Try.prog 21 #[.agg C, .int .i64 d] w (YardEnd (closeY Y d) (closeE Y d) w) := by
  have HCK := Lib.hid (fun W (hb : Below w.heap.size w W) => rCheckYard_any C Y W ((hY.below hb (Nat.le_refl _)).more hb.size) hs.cl hs.pi hs.ma hs.nm)
  have HLOAD := load_any hY
  have HC28 := Lib.hid hY.len
  have hn : chkY Y = 0 := by unfold okY at h; exact eq_of_beq h
  rw [hn] at HCK
  have hv := okY_valid h
  have hln := hv.n1
  have hl2 := hv.n2
  have hl3 := hv.n3
  obtain ⟨A1, k1, e1, L1⟩ := hY.cl
  obtain ⟨A2, k2, e2, L2⟩ := hY.pi
  obtain ⟨A3, k3, e3, L3⟩ := hY.ma
  have HYS := Lib.hid hY.se
  have HYD := Lib.hid hY.dry
  have hsz := hY.size
  have h1c := Lib.hid hY.one
  have HPA := Lib.hid (cntLt_at d (rising_sorted hv.ris))
  have hp := cntLt_le Y.cl d
  have HTW : Hid (∀ j (hj : j < Y.cl.length), Y.cl[j] = d → Hid (closeE Y d = 6 ∧ closeY Y d = noYd)) := fun j hj e => by
    have hc : Y.cl.contains d = true := by rw [List.contains_iff_mem]; rw [← e]; exact List.getElem_mem hj
    have e1 : closeE Y d = 6 := by unfold closeE; rw [if_pos h, if_pos hd, if_pos hc]
    exact ⟨e1, by unfold closeY; rw [e1]; rfl⟩
  have HNO : Hid ((∀ j (hj : j < Y.cl.length), Y.cl[j] ≠ d) → Hid ((200 ≤ Y.cl.length → closeE Y d = 2 ∧ closeY Y d = noYd) ∧ (¬ 200 ≤ Y.cl.length → closeE Y d = 0 ∧ closeY Y d = { Y with cl := insL Y.cl (cntLt Y.cl d) d }))) := fun hj => by
    have hc : ¬ Y.cl.contains d = true := by
      rw [List.contains_iff_mem]; intro hm
      obtain ⟨j, h1, h2⟩ := List.getElem_of_mem hm
      exact hj j h1 h2
    refine ⟨fun h2 => ?_, fun h2 => ?_⟩
    · have e1 : closeE Y d = 2 := by unfold closeE; rw [if_pos h, if_pos hd, if_neg hc, if_pos h2]
      exact ⟨e1, by unfold closeY; rw [e1]; rfl⟩
    · have e1 : closeE Y d = 0 := by unfold closeE; rw [if_pos h, if_pos hd, if_neg hc, if_neg h2]
      exact ⟨e1, by unfold closeY; rw [if_pos e1]⟩
  obtain ⟨i0, hi0, hz0, hz1, hz2⟩ := info_parts info3
  have I3 := Lib.hid (And.intro hi0 (And.intro hz0 (And.intro hz1 hz2))); clear hi0 hz0 hz1 hz2
  have HIL := Lib.hid (insL_len Y.cl (cntLt Y.cl d) d hp)
  clear hn h hs hY hv
  have HD := Lib.hid hd; clear hd
  generalize cntLt Y.cl d = p at *
  generalize closeE Y d = E at *
  generalize closeY Y d = Z at *
  go_enter Try.func21, Try.ntmps21
  go_wp2_with (first | (refine wpList_load_guard (P := Try.prog) (by rfl) 29 (.tmp 2) rfl w.heap.size 0 rfl C.toList _ (HLOAD.out _ _ (by exact (by repeat (first | with_reducible assumption | with_reducible exact Bk.new _ _ _ | with_reducible refine Bk.drew ?_ | with_reducible refine Bk.drewN ?_ _ | with_reducible refine Bk.alloc ?_ _ | (with_reducible refine Bk.far ?_ ?_ _; rotate_left; (try simp) <;> omega))))) Try.underlying29 rfl (by rw [HC28.out]; exact info29) ?_) | (go_at_call 17; refine (HCK.out _ (by exact (by repeat (first | with_reducible exact Below.refl _ _ | with_reducible assumption | with_reducible refine Below.drew ?_ | with_reducible refine below_drewN ?_ _ | (with_reducible refine Below.alloc ?_ ?_ _; rotate_left; (try simp) <;> omega) | (with_reducible refine Below.setCell ?_ ?_ _; rotate_left; (try simp) <;> omega))))).mono ?_; rintro e w1 ⟨rfl, hb1⟩; have hB1 : Below w.heap.size w w1 := Below.trans (by exact (by repeat (first | with_reducible exact Below.refl _ _ | with_reducible assumption | with_reducible refine Below.drew ?_ | with_reducible refine below_drewN ?_ _ | (with_reducible refine Below.alloc ?_ ?_ _; rotate_left; (try simp) <;> omega) | (with_reducible refine Below.setCell ?_ ?_ _; rotate_left; (try simp) <;> omega)))) (hb1.mono (by first | omega | (simp; omega) | simp)); have hK1 : Bk w1 w.heap.size 29 C := Bk.below (by exact (by repeat (first | with_reducible assumption | with_reducible exact Bk.new _ _ _ | with_reducible refine Bk.drew ?_ | with_reducible refine Bk.drewN ?_ _ | with_reducible refine Bk.alloc ?_ _ | (with_reducible refine Bk.far ?_ ?_ _; rotate_left; (try simp) <;> omega)))) hb1 (by first | omega | (simp; omega) | simp); have hJ1 : Bk w1 (w.heap.size + 1) 29 zeroC.toArray := Bk.below (zero_new w C) hb1 (by first | omega | (simp; omega) | simp); have hl1 := hJ1.lt; clear hb1) | (go_at_call 81; refine (isDay_any _ _).mono ?_; rintro e w' ⟨rfl, rfl⟩; rw [HD.out]))
  go_loopw [7, 8, 9] (fun v b y wr => ∃ (k : Nat) (q : Bool), k ≤ Y.cl.length ∧ y = .int .i64 k ∧ b = .bool q ∧ Hid (q = decide (p < k)) ∧ wr.ownsRow (w.heap.size + 2) 3 1 v (clK Y.cl p k d).length (ints (clK Y.cl p k d)) ∧ Hid (∀ j (hj : j < Y.cl.length), j < k → Y.cl[j] ≠ d) ∧ Below w.heap.size w wr ∧ (Bk wr w.heap.size 29 C ∧ Bk wr (w.heap.size + 1) 29 zeroC.toArray)) (fun _ _ y _ => Y.cl.length - (intOf y).toNat)
  case atStart => exact ⟨0, false, by omega, rfl, rfl, by show _ = _; simp, by have : clK Y.cl p 0 d = [] := (by unfold clK; rw [if_pos (by omega)]; rfl); rw [this]; exact World.ownsRow_nil _ _ _ _, fun j hj h0 => absurd h0 (by omega), hB1, hK1, hJ1⟩
  case round =>
  clear hK1 hJ1 hB1 hl1
  obtain ⟨k, q, hk, rfl, rfl, hq, hown, hg, hbw, hbk, hbj⟩ := hrel
  have hbs := hbj.lt
  have x1 := hbk.cell 24 e1
  by_cases hlt : k < Y.cl.length
  · obtain ⟨a1, rfl, ha1, c0⟩ := int_at (L1.below hbw (Nat.le_refl _)) hlt
    have hpk := HPA.out k hlt
    have HT := Lib.hid (HTW.out k hlt)
    have HG := Lib.hid (fun (h : Y.cl[k] ≠ d) => show Hid (∀ j (hj : j < Y.cl.length), j < k + 1 → Y.cl[j] ≠ d) from fun j hj h' => by
      by_cases e : j = k
      · subst e; exact h
      · exact hg.out j hj (by omega))
    have HLO := Lib.hid (fun (h : k < p) => clK_lo (x := d) hlt h)
    have HAT := Lib.hid (fun (h : k = p) => show clK Y.cl p (k + 1) d = (clK Y.cl p k d ++ [d]) ++ [Y.cl[k]] from by subst h; exact clK_at hlt)
    have HHI := Lib.hid (fun (h : p < k) => clK_hi (x := d) hlt h)
    have hcl := clK_len (l := Y.cl) (p := p) d hk
    clear hg
    generalize clK Y.cl p k d = S at *
    generalize hxe : Y.cl[k] = x at *
    have HX0 := Lib.hid hxe; clear hxe
    have hkl : (k : Int) < (Y.cl.length : Int) := by omega
    have hk0 : 0 ≤ (k : Int) := by omega
    have ha1' : (a1.add k).block < wr.heap.size := by rw [add_block]; omega
    by_cases hx : x = d
    · obtain ⟨HE, HZ⟩ := (HT.out hx).out
      have HE := Lib.hid HE; have HZ := Lib.hid HZ
      have hx1 : (x == d) = true := by simp [hx]
      clear hx HT HG HLO HAT HHI hpk
      go_wp2_with ((refine wpList_store_blk (P := Try.prog) rfl 29 (.tmp 4) (.tmp 34) rfl (w.heap.size + 1) zeroC.toArray zeroC.toArray rfl rfl hbj rfl info29 zero_one ?_; intro w2 hk2 hf2))
      exact bodyPost_ret (results_row rfl _ _ (w.heap.size + 1) zeroC _ rfl hk2.range Try.underlying29 rfl info29) rfl (by rw [HE.out, HZ.out]; exact ⟨_, rfl, zero_at _ _, hf2.bel _ _ (by omega) hbw⟩)
    have H := HG.out hx
    have hx1 : (x == d) = false := by simp [hx]
    rcases (by omega : k < p ∨ k = p ∨ p < k) with hc | hc | hc
    · have hxd : ¬ d < x := by have := hpk.1 hc; omega
      have HE := Lib.hid (HLO.out hc)
      obtain rfl : q = false := by rw [hq.out]; simp; omega
      have HQ : Hid (false = decide (p < k + 1)) := by show _ = _; simp; omega
      clear hx HT HG HLO HAT HHI hpk hc hq
      go_wp2_with (at_builtin; refine wpList_append_own _ rfl (.tmp 50) (.tmp 56) 25 rfl (w.heap.size + 2) 3 i0 (.int .i64 0) 1 8 Try.underlying25 I3.out.1 I3.out.2.1 I3.out.2.2.1 I3.out.2.2.2 rfl (by decide) _ S.length (ints S) rfl (hown.alloc _) ⟨wr.heap.size, 0, none⟩ 1 1 [.int .i64 x] rfl rfl ?_ ?_ ?_ ?_ ?_ ?_; (exact cell_one_new _ _ _); (intro u hu; simp at hu; subst hu; rfl); (unfold maxLen; omega); (omega); (simp; omega); intro v5 w5 hown5 hgrow5 _; have hB5 : Below w.heap.size w w5 := below_own (by exact (by repeat (first | with_reducible exact Below.refl _ _ | with_reducible assumption | with_reducible refine Below.drew ?_ | with_reducible refine below_drewN ?_ _ | (with_reducible refine Below.alloc ?_ ?_ _; rotate_left; (try simp) <;> omega) | (with_reducible refine Below.setCell ?_ ?_ _; rotate_left; (try simp) <;> omega)))) (hown.alloc _) hgrow5 (by omega) (by simp; omega); have hK5 : Bk w5 w.heap.size 29 C := Bk.grown (by exact (by repeat (first | with_reducible assumption | with_reducible exact Bk.new _ _ _ | with_reducible refine Bk.drew ?_ | with_reducible refine Bk.drewN ?_ _ | with_reducible refine Bk.alloc ?_ _ | (with_reducible refine Bk.far ?_ ?_ _; rotate_left; (try simp) <;> omega)))) hgrow5 (own_ne hown (by omega)); have hJ5 : Bk w5 (w.heap.size + 1) 29 zeroC.toArray := Bk.grown (by exact (by repeat (first | with_reducible assumption | with_reducible exact Bk.new _ _ _ | with_reducible refine Bk.drew ?_ | with_reducible refine Bk.drewN ?_ _ | with_reducible refine Bk.alloc ?_ _ | (with_reducible refine Bk.far ?_ ?_ _; rotate_left; (try simp) <;> omega)))) hgrow5 (own_ne hown (by omega)); have hz5 := hJ5.lt; clear hgrow5)
      rw [ints_snoc, ← HE.out] at hown5
      have hlen : Hid (S.length + 1 = (clK Y.cl p (k + 1) d).length) := by show _ = _; rw [HE.out]; simp
      rw [hlen.out] at hown5
      clear hown
      go_wp2
      go_roundw
      case rel => exact ⟨k + 1, false, by omega, by go_num, rfl, HQ, hown5, H, hB5, hK5, hJ5⟩
      case measure => simp [intOf]; omega
    · have hxd : d < x := by have := mt hpk.2 (by omega); omega
      have HE := Lib.hid (HAT.out hc)
      obtain rfl : q = false := by rw [hq.out]; simp; omega
      have HQ : Hid (true = decide (p < k + 1)) := by show _ = _; simp; omega
      clear hx HT HG HLO HAT HHI hpk hc hq
      go_upto_region 16 with (at_builtin; refine wpList_append_own _ rfl (.tmp 46) (.tmp 48) 25 rfl (w.heap.size + 2) 3 i0 (.int .i64 0) 1 8 Try.underlying25 I3.out.1 I3.out.2.1 I3.out.2.2.1 I3.out.2.2.2 rfl (by decide) _ S.length (ints S) rfl (hown.alloc _) ⟨wr.heap.size, 0, none⟩ 1 1 [.int .i64 d] rfl rfl ?_ ?_ ?_ ?_ ?_ ?_; (exact cell_one_new _ _ _); (intro u hu; simp at hu; subst hu; rfl); (unfold maxLen; omega); (omega); (simp; omega); intro v5 w5 hown5 hgrow5 _; have hB5 : Below w.heap.size w w5 := below_own (by exact (by repeat (first | with_reducible exact Below.refl _ _ | with_reducible assumption | with_reducible refine Below.drew ?_ | with_reducible refine below_drewN ?_ _ | (with_reducible refine Below.alloc ?_ ?_ _; rotate_left; (try simp) <;> omega) | (with_reducible refine Below.setCell ?_ ?_ _; rotate_left; (try simp) <;> omega)))) (hown.alloc _) hgrow5 (by omega) (by simp; omega); have hK5 : Bk w5 w.heap.size 29 C := Bk.grown (by exact (by repeat (first | with_reducible assumption | with_reducible exact Bk.new _ _ _ | with_reducible refine Bk.drew ?_ | with_reducible refine Bk.drewN ?_ _ | with_reducible refine Bk.alloc ?_ _ | (with_reducible refine Bk.far ?_ ?_ _; rotate_left; (try simp) <;> omega)))) hgrow5 (own_ne hown (by omega)); have hJ5 : Bk w5 (w.heap.size + 1) 29 zeroC.toArray := Bk.grown (by exact (by repeat (first | with_reducible assumption | with_reducible exact Bk.new _ _ _ | with_reducible refine Bk.drew ?_ | with_reducible refine Bk.drewN ?_ _ | with_reducible refine Bk.alloc ?_ _ | (with_reducible refine Bk.far ?_ ?_ _; rotate_left; (try simp) <;> omega)))) hgrow5 (own_ne hown (by omega)); have hz5 := hJ5.lt; clear hgrow5)
      have y1 := hK5.cell 24 e1
      obtain ⟨a9, e9, _, c1⟩ := int_at (L1.below hB5 (Nat.le_refl _)) hlt
      cases e9
      have hb5 : (a1.add k).block < w5.heap.size := by rw [add_block]; omega
      have c2 : w5.cell? (a1.add k) = some (.int .i64 x) := by rw [← HX0.out]; exact c1
      clear c1 hown
      rw [ints_snoc] at hown5
      have hS5 : Hid (S.length + 1 = (S ++ [d]).length) := by show _ = _; simp
      rw [hS5.out] at hown5
      have hcl5 : (S ++ [d]).length ≤ k + 2 := by simp; omega
      generalize S ++ [d] = S5 at *
      go_wp2_with (at_builtin; refine wpList_append_own _ rfl (.tmp 50) (.tmp 56) 25 rfl (w.heap.size + 2) 3 i0 (.int .i64 0) 1 8 Try.underlying25 I3.out.1 I3.out.2.1 I3.out.2.2.1 I3.out.2.2.2 rfl (by decide) _ S5.length (ints S5) rfl (hown5.alloc _) ⟨w5.heap.size, 0, none⟩ 1 1 [.int .i64 x] rfl rfl ?_ ?_ ?_ ?_ ?_ ?_; (exact cell_one_new _ _ _); (intro u hu; simp at hu; subst hu; rfl); (unfold maxLen; omega); (omega); (simp; omega); intro v6 w6 hown6 hgrow6 _; have hB6 : Below w.heap.size w w6 := below_own (by exact (by repeat (first | with_reducible exact Below.refl _ _ | with_reducible assumption | with_reducible refine Below.drew ?_ | with_reducible refine below_drewN ?_ _ | (with_reducible refine Below.alloc ?_ ?_ _; rotate_left; (try simp) <;> omega) | (with_reducible refine Below.setCell ?_ ?_ _; rotate_left; (try simp) <;> omega)))) (hown5.alloc _) hgrow6 (by omega) (by simp; omega); have hK6 : Bk w6 w.heap.size 29 C := Bk.grown (by exact (by repeat (first | with_reducible assumption | with_reducible exact Bk.new _ _ _ | with_reducible refine Bk.drew ?_ | with_reducible refine Bk.drewN ?_ _ | with_reducible refine Bk.alloc ?_ _ | (with_reducible refine Bk.far ?_ ?_ _; rotate_left; (try simp) <;> omega)))) hgrow6 (own_ne hown5 (by omega)); have hJ6 : Bk w6 (w.heap.size + 1) 29 zeroC.toArray := Bk.grown (by exact (by repeat (first | with_reducible assumption | with_reducible exact Bk.new _ _ _ | with_reducible refine Bk.drew ?_ | with_reducible refine Bk.drewN ?_ _ | with_reducible refine Bk.alloc ?_ _ | (with_reducible refine Bk.far ?_ ?_ _; rotate_left; (try simp) <;> omega)))) hgrow6 (own_ne hown5 (by omega)); have hz6 := hJ6.lt; clear hgrow6)
      rw [ints_snoc, ← HE.out] at hown6
      have hlen : Hid (S5.length + 1 = (clK Y.cl p (k + 1) d).length) := by show _ = _; rw [HE.out]; simp
      rw [hlen.out] at hown6
      go_wp2
      go_roundw
      case rel => exact ⟨k + 1, true, by omega, by go_num, rfl, HQ, hown6, H, hB6, hK6, hJ6⟩
      case measure => simp [intOf]; omega
    · have hxd : d < x := by have := mt hpk.2 (by omega); omega
      have HE := Lib.hid (HHI.out hc)
      obtain rfl : q = true := by rw [hq.out]; simp; omega
      have HQ : Hid (true = decide (p < k + 1)) := by show _ = _; simp; omega
      clear hx HT HG HLO HAT HHI hpk hc hq
      go_wp2_with (at_builtin; refine wpList_append_own _ rfl (.tmp 50) (.tmp 56) 25 rfl (w.heap.size + 2) 3 i0 (.int .i64 0) 1 8 Try.underlying25 I3.out.1 I3.out.2.1 I3.out.2.2.1 I3.out.2.2.2 rfl (by decide) _ S.length (ints S) rfl (hown.alloc _) ⟨wr.heap.size, 0, none⟩ 1 1 [.int .i64 x] rfl rfl ?_ ?_ ?_ ?_ ?_ ?_; (exact cell_one_new _ _ _); (intro u hu; simp at hu; subst hu; rfl); (unfold maxLen; omega); (omega); (simp; omega); intro v5 w5 hown5 hgrow5 _; have hB5 : Below w.heap.size w w5 := below_own (by exact (by repeat (first | with_reducible exact Below.refl _ _ | with_reducible assumption | with_reducible refine Below.drew ?_ | with_reducible refine below_drewN ?_ _ | (with_reducible refine Below.alloc ?_ ?_ _; rotate_left; (try simp) <;> omega) | (with_reducible refine Below.setCell ?_ ?_ _; rotate_left; (try simp) <;> omega)))) (hown.alloc _) hgrow5 (by omega) (by simp; omega); have hK5 : Bk w5 w.heap.size 29 C := Bk.grown (by exact (by repeat (first | with_reducible assumption | with_reducible exact Bk.new _ _ _ | with_reducible refine Bk.drew ?_ | with_reducible refine Bk.drewN ?_ _ | with_reducible refine Bk.alloc ?_ _ | (with_reducible refine Bk.far ?_ ?_ _; rotate_left; (try simp) <;> omega)))) hgrow5 (own_ne hown (by omega)); have hJ5 : Bk w5 (w.heap.size + 1) 29 zeroC.toArray := Bk.grown (by exact (by repeat (first | with_reducible assumption | with_reducible exact Bk.new _ _ _ | with_reducible refine Bk.drew ?_ | with_reducible refine Bk.drewN ?_ _ | with_reducible refine Bk.alloc ?_ _ | (with_reducible refine Bk.far ?_ ?_ _; rotate_left; (try simp) <;> omega)))) hgrow5 (own_ne hown (by omega)); have hz5 := hJ5.lt; clear hgrow5)
      rw [ints_snoc, ← HE.out] at hown5
      have hlen : Hid (S.length + 1 = (clK Y.cl p (k + 1) d).length) := by show _ = _; rw [HE.out]; simp
      rw [hlen.out] at hown5
      clear hown
      go_wp2
      go_roundw
      case rel => exact ⟨k + 1, true, by omega, by go_num, rfl, HQ, hown5, H, hB5, hK5, hJ5⟩
      case measure => simp [intOf]; omega
  · have HN := HNO.out (fun j hj => hg.out j hj (by omega))
    obtain rfl : k = Y.cl.length := by omega
    have hcl := clK_len (l := Y.cl) (p := p) d (Nat.le_refl Y.cl.length)
    have HC1 := Lib.hid (fun (h : p < Y.cl.length) => clK_end (l := Y.cl) d h)
    have HC2 : Hid (¬ p < Y.cl.length → clK Y.cl p Y.cl.length d ++ [d] = insL Y.cl p d) := fun h => by
      have : p = Y.cl.length := by omega
      rw [this]; exact clK_end0 Y.cl d
    have c24 := x1
    clear x1 hg HTW HPA hlt hk L1
    generalize clK Y.cl p Y.cl.length d = S at *
    have HJOIN : Hid (∀ (v : Value) (W : World), W.ownsRow (w.heap.size + 2) 3 1 v (insL Y.cl p d).length (ints (insL Y.cl p d)) → ∃ A c, v = .slice A (Y.cl.length + 1) c) := fun v W ho => by
      obtain ⟨A, c, e, _⟩ := ownsSlice ho
      rw [HIL.out] at e
      exact ⟨A, c, e⟩
    cases hq' : decide (p < Y.cl.length) with
    | true =>
      have hpl : p < Y.cl.length := of_decide_eq_true hq'
      rw [HC1.out hpl] at hown
      obtain rfl : q = true := by rw [hq.out]; exact hq'
      clear hq hq' hpl HC1 HC2 hcl
      obtain ⟨A4, c4, rfl⟩ := HJOIN.out _ _ hown
      clear HJOIN
      generalize wr = w8 at *
      have c24 := hbk.cell 24 e1
      by_cases hf : 200 ≤ Y.cl.length
      · obtain ⟨HE, HZ⟩ := HN.out.1 hf
        have HE := Lib.hid HE; have HZ := Lib.hid HZ
        go_wp2_with ((refine wpList_store_blk (P := Try.prog) rfl 29 (.tmp 4) (.tmp 67) rfl (w.heap.size + 1) zeroC.toArray zeroC.toArray rfl rfl hbj rfl info29 zero_one ?_; intro w2 hk2 hf2))
        exact bodyPost_ret (results_row rfl _ _ (w.heap.size + 1) zeroC _ rfl hk2.range Try.underlying29 rfl info29) rfl (by rw [HE.out, HZ.out]; exact ⟨_, rfl, zero_at _ _, hf2.bel _ _ (by omega) hbw⟩)
      · obtain ⟨HE, HZ⟩ := HN.out.2 hf
        have HE := Lib.hid HE; have HZ := Lib.hid HZ
        clear HN
        have f4 := hbk.fro 24
        go_upto_region 22 with fail
        rw [HIL.out] at hown
        have hl4 := ownsRow_lies hown
        have ha4 := own_ne' (b := w.heap.size) hown (by omega)
        have ga4 := own_ne' (b := w.heap.size + 1) hown (by omega)
        have hK5 : Bk (w8.setCell ⟨w.heap.size, 24, none⟩ (.slice A4 (Y.cl.length + 1) c4)) w.heap.size 29 (C.setIfInBounds 24 (.slice A4 (Y.cl.length + 1) c4)) := hbk.set 24 _
        have hJ5 : Bk (w8.setCell ⟨w.heap.size, 24, none⟩ (.slice A4 (Y.cl.length + 1) c4)) (w.heap.size + 1) 29 zeroC.toArray := hbj.far (by simp) _
        have hB5 : Below w.heap.size w (w8.setCell ⟨w.heap.size, 24, none⟩ (.slice A4 (Y.cl.length + 1) c4)) := hbw.setCell (Nat.le_refl _) _
        have hl5 : Lies (w8.setCell ⟨w.heap.size, 24, none⟩ (.slice A4 (Y.cl.length + 1) c4)) w8.heap.size A4 (ints (insL Y.cl p d)) := (far_setCells w.heap.size [_] 24 w8).lies hl4 ha4
        have hs5 : w8.heap.size ≤ (w8.setCell ⟨w.heap.size, 24, none⟩ (.slice A4 (Y.cl.length + 1) c4)).heap.size := by simp
        clear hl4 hown hbk hbj hbw c24 f4
        generalize w8.setCell ⟨w.heap.size, 24, none⟩ (.slice A4 (Y.cl.length + 1) c4) = w9 at *
        have hl9 := (hl5.more hs5); clear hl5 hs5
        obtain ⟨V, hV⟩ : ∃ V, V = Value.slice A4 (Y.cl.length + 1) c4 := ⟨_, rfl⟩
        rw [← hV] at hK5 ⊢
        have HV := Lib.hid hV; clear hV
        have y2 : w9.cell? ⟨w.heap.size, 25, none⟩ = some (.slice A2 Y.pi.length k2) := hK5.cell 25 (by rw [Array.getElem?_setIfInBounds_ne (by omega)]; exact e2)
        have f2 := hK5.fro 25
        have hj5 := hJ5.lt
        have hk5l := hK5.lt
        obtain ⟨i1, hi1, hu0, hu1, hu2⟩ := info_parts info87
        have I1 := Lib.hid (And.intro hi1 (And.intro hu0 (And.intro hu1 hu2))); clear hi1 hu0 hu1 hu2
        have HP3 := Lib.hid (pits_len Y.pi)
        go_upto_region 23 with (at_builtin; refine wpList_append_lies rfl (.tmp 70) (.tmp 72) 26 rfl w9.heap.size 87 i1 (.agg #[.int .i64 0, .int .i64 0, .int .i64 0]) 3 24 Try.underlying26 I1.out.1 I1.out.2.1 I1.out.2.2.1 I1.out.2.2.2 rfl (by decide) (.slice (some ⟨w9.heap.size, 0, none⟩) 0 0) 0 [] rfl (World.ownsRow_made w9 #[] 0 (Nat.le_refl _) (Nat.zero_le _) rfl) w.heap.size A2 Y.pi.length k2 (pitsC Y.pi) rfl ?_ ?_ ?_ ?_ ?_ ?_ ?_; (exact HP3.out); (exact L2.below (by exact (by repeat (first | with_reducible exact Below.refl _ _ | with_reducible assumption | with_reducible refine Below.drew ?_ | with_reducible refine below_drewN ?_ _ | (with_reducible refine Below.alloc ?_ ?_ _; rotate_left; (try simp) <;> omega) | (with_reducible refine Below.setCell ?_ ?_ _; rotate_left; (try simp) <;> omega)))) (Nat.le_refl _)); (exact one_pits _); (unfold maxLen; omega); (omega); (simp); intro v6 w6 ho6 hg6; rw [Nat.zero_add, List.nil_append] at ho6; obtain ⟨A6, c6, rfl, _, _⟩ := ownsSlice ho6; have hB6 : Below w.heap.size w w6 := Below.grown (by exact (by repeat (first | with_reducible exact Below.refl _ _ | with_reducible assumption | with_reducible refine Below.drew ?_ | with_reducible refine below_drewN ?_ _ | (with_reducible refine Below.alloc ?_ ?_ _; rotate_left; (try simp) <;> omega) | (with_reducible refine Below.setCell ?_ ?_ _; rotate_left; (try simp) <;> omega)))) hg6 (by have := hB5.size; simp; omega) (by intro g hg; simp [Value.ownBlock] at hg; omega); have hK6 : Bk w6 w.heap.size 29 (C.setIfInBounds 24 V) := Bk.grown (by exact (by repeat (first | with_reducible assumption | with_reducible exact Bk.new _ _ _ | with_reducible refine Bk.drew ?_ | with_reducible refine Bk.drewN ?_ _ | with_reducible refine Bk.alloc ?_ _ | (with_reducible refine Bk.far ?_ ?_ _; rotate_left; (try simp) <;> omega)))) hg6 (by simp [Value.ownBlock]; omega); have hJ6 : Bk w6 (w.heap.size + 1) 29 zeroC.toArray := Bk.grown (by exact (by repeat (first | with_reducible assumption | with_reducible exact Bk.new _ _ _ | with_reducible refine Bk.drew ?_ | with_reducible refine Bk.drewN ?_ _ | with_reducible refine Bk.alloc ?_ _ | (with_reducible refine Bk.far ?_ ?_ _; rotate_left; (try simp) <;> omega)))) hg6 (by simp [Value.ownBlock]; omega); have hB96 : Below w9.heap.size w9 w6 := Below.grown (by exact (by repeat (first | with_reducible exact Below.refl _ _ | with_reducible assumption | with_reducible refine Below.drew ?_ | with_reducible refine below_drewN ?_ _ | (with_reducible refine Below.alloc ?_ ?_ _; rotate_left; (try simp) <;> omega) | (with_reducible refine Below.setCell ?_ ?_ _; rotate_left; (try simp) <;> omega)))) hg6 (by simp) (by intro g hg; simp [Value.ownBlock] at hg; omega); have hc6 := hK6.cell 25 (v := .slice A2 Y.pi.length k2) (by rw [Array.getElem?_setIfInBounds_ne (by omega)]; exact e2); have hf6 := hK6.fro 25; clear hg6)
        have hl10 := hl9.below hB96 (Nat.le_refl _)
        have hs10 := hB96.size
        have hA6 := own_ne' (b := w.heap.size) ho6 (by omega)
        have gA6 := own_ne' (b := w.heap.size + 1) ho6 (by omega)
        have hL6 := ownsRow_lies ho6
        have hK7 : Bk (w6.setCell ⟨w.heap.size, 25, none⟩ (.slice A6 Y.pi.length c6)) w.heap.size 29 ((C.setIfInBounds 24 V).setIfInBounds 25 (.slice A6 Y.pi.length c6)) := hK6.set 25 _
        have hJ7 : Bk (w6.setCell ⟨w.heap.size, 25, none⟩ (.slice A6 Y.pi.length c6)) (w.heap.size + 1) 29 zeroC.toArray := hJ6.far (by simp) _
        have hB7 : Below w.heap.size w (w6.setCell ⟨w.heap.size, 25, none⟩ (.slice A6 Y.pi.length c6)) := hB6.setCell (Nat.le_refl _) _
        have hl11 : Lies (w6.setCell ⟨w.heap.size, 25, none⟩ (.slice A6 Y.pi.length c6)) w9.heap.size A4 (ints (insL Y.cl p d)) := (far_setCells w.heap.size [_] 25 w6).lies hl10 ha4
        have hL7 : Lies (w6.setCell ⟨w.heap.size, 25, none⟩ (.slice A6 Y.pi.length c6)) w6.heap.size A6 (pitsC Y.pi) := (far_setCells w.heap.size [_] 25 w6).lies hL6 hA6
        have hs7 : w6.heap.size ≤ (w6.setCell ⟨w.heap.size, 25, none⟩ (.slice A6 Y.pi.length c6)).heap.size := by simp
        clear hl10 hL6 hK6 hJ6 hB6 hB96 ho6 hc6 hf6 hK5 hJ5 hB5 y2 f2 hl9
        generalize w6.setCell ⟨w.heap.size, 25, none⟩ (.slice A6 Y.pi.length c6) = wa at *
        have hl12 := hl11.more (Nat.le_trans hs10 hs7)
        have hL8 := hL7.more hs7
        clear hl11 hL7
        obtain ⟨U, hU⟩ : ∃ U, U = Value.slice A6 Y.pi.length c6 := ⟨_, rfl⟩
        rw [← hU] at hK7
        have HU := Lib.hid hU; clear hU
        have y3 : wa.cell? ⟨w.heap.size, 26, none⟩ = some (.slice A3 Y.ma.length k3) := hK7.cell 26 (by rw [Array.getElem?_setIfInBounds_ne (by omega), Array.getElem?_setIfInBounds_ne (by omega)]; exact e3)
        have f3 := hK7.fro 26
        have hj7 := hJ7.lt
        have hk7l := hK7.lt
        obtain ⟨i2, hi2, hu0, hu1, hu2⟩ := info_parts info78
        have I2 := Lib.hid (And.intro hi2 (And.intro hu0 (And.intro hu1 hu2))); clear hi2 hu0 hu1 hu2
        have HM4 := Lib.hid (mass_len Y.ma)
        go_upto_region 24 with (at_builtin; refine wpList_append_lies rfl (.tmp 75) (.tmp 77) 27 rfl wa.heap.size 78 i2 (.agg #[.string ByteArray.empty, .int .i64 0, .int .i64 0, .int .i64 0]) 4 40 Try.underlying27 I2.out.1 I2.out.2.1 I2.out.2.2.1 I2.out.2.2.2 rfl (by decide) (.slice (some ⟨wa.heap.size, 0, none⟩) 0 0) 0 [] rfl (World.ownsRow_made wa #[] 0 (Nat.le_refl _) (Nat.zero_le _) rfl) w.heap.size A3 Y.ma.length k3 (massC Y.ma) rfl ?_ ?_ ?_ ?_ ?_ ?_ ?_; (exact HM4.out); (exact L3.below (by exact (by repeat (first | with_reducible exact Below.refl _ _ | with_reducible assumption | with_reducible refine Below.drew ?_ | with_reducible refine below_drewN ?_ _ | (with_reducible refine Below.alloc ?_ ?_ _; rotate_left; (try simp) <;> omega) | (with_reducible refine Below.setCell ?_ ?_ _; rotate_left; (try simp) <;> omega)))) (Nat.le_refl _)); (exact one_mass _); (unfold maxLen; omega); (omega); (simp); intro wv wb hob hgb; rw [Nat.zero_add, List.nil_append] at hob; obtain ⟨A7, c7, rfl, _, _⟩ := ownsSlice hob; have hBb : Below w.heap.size w wb := Below.grown (by exact (by repeat (first | with_reducible exact Below.refl _ _ | with_reducible assumption | with_reducible refine Below.drew ?_ | with_reducible refine below_drewN ?_ _ | (with_reducible refine Below.alloc ?_ ?_ _; rotate_left; (try simp) <;> omega) | (with_reducible refine Below.setCell ?_ ?_ _; rotate_left; (try simp) <;> omega)))) hgb (by have := hB7.size; simp; omega) (by intro g hg; simp [Value.ownBlock] at hg; omega); have hKb : Bk wb w.heap.size 29 ((C.setIfInBounds 24 V).setIfInBounds 25 U) := Bk.grown (by exact (by repeat (first | with_reducible assumption | with_reducible exact Bk.new _ _ _ | with_reducible refine Bk.drew ?_ | with_reducible refine Bk.drewN ?_ _ | with_reducible refine Bk.alloc ?_ _ | (with_reducible refine Bk.far ?_ ?_ _; rotate_left; (try simp) <;> omega)))) hgb (by simp [Value.ownBlock]; omega); have hJb : Bk wb (w.heap.size + 1) 29 zeroC.toArray := Bk.grown (by exact (by repeat (first | with_reducible assumption | with_reducible exact Bk.new _ _ _ | with_reducible refine Bk.drew ?_ | with_reducible refine Bk.drewN ?_ _ | with_reducible refine Bk.alloc ?_ _ | (with_reducible refine Bk.far ?_ ?_ _; rotate_left; (try simp) <;> omega)))) hgb (by simp [Value.ownBlock]; omega); have hBab : Below wa.heap.size wa wb := Below.grown (by exact (by repeat (first | with_reducible exact Below.refl _ _ | with_reducible assumption | with_reducible refine Below.drew ?_ | with_reducible refine below_drewN ?_ _ | (with_reducible refine Below.alloc ?_ ?_ _; rotate_left; (try simp) <;> omega) | (with_reducible refine Below.setCell ?_ ?_ _; rotate_left; (try simp) <;> omega)))) hgb (by simp) (by intro g hg; simp [Value.ownBlock] at hg; omega); have hcb := hKb.cell 26 (v := .slice A3 Y.ma.length k3) (by rw [Array.getElem?_setIfInBounds_ne (by omega), Array.getElem?_setIfInBounds_ne (by omega)]; exact e3); have hfb := hKb.fro 26; clear hgb)
        have hl13 := hl12.below hBab (Nat.le_refl _)
        have hL9 := hL8.below hBab (Nat.le_refl _)
        have hs11 := hBab.size
        have hA7 := own_ne' (b := w.heap.size) hob (by omega)
        have gA7 := own_ne' (b := w.heap.size + 1) hob (by omega)
        have hM7 := ownsRow_lies hob
        have hF := far_setCells w.heap.size [.slice A7 Y.ma.length c7] 26 wb
        have hK8 := hKb.set 26 (.slice A7 Y.ma.length c7)
        have hJ8 := hF.bk (by omega) hJb
        have hB8 := hF.bel _ _ (Nat.le_refl _) hBb
        have hl14 := (hF.lies hl13 ha4).more (B' := (wb.setCells w.heap.size 26 [.slice A7 Y.ma.length c7]).heap.size) (by rw [hF.size]; exact hs11)
        have hL10 := (hF.lies hL9 hA6).more (B' := (wb.setCells w.heap.size 26 [.slice A7 Y.ma.length c7]).heap.size) (by rw [hF.size]; exact hs11)
        have hM8 := (hF.lies hM7 hA7).more (B' := (wb.setCells w.heap.size 26 [.slice A7 Y.ma.length c7]).heap.size) (by rw [hF.size]; exact Nat.le_refl _)
        have hwc : wb.setCell ⟨w.heap.size, 26, none⟩ (.slice A7 Y.ma.length c7) = wb.setCells w.heap.size 26 [.slice A7 Y.ma.length c7] := rfl
        rw [hwc] at hK8 ⊢
        clear hwc hF hob hKb hJb hBb hBab hcb hfb y3 f3 hK7 hJ7 hB7 hl12 hL8 hl13 hL9 hM7
        generalize wb.setCells w.heap.size 26 [.slice A7 Y.ma.length c7] = wc at *
        obtain ⟨C8, hC8⟩ : ∃ C8, C8 = ((C.setIfInBounds 24 V).setIfInBounds 25 U).setIfInBounds 26 (.slice A7 Y.ma.length c7) := ⟨_, rfl⟩
        rw [← hC8] at hK8
        have h28 : C8.size = 28 := by rw [hC8]; simp [hsz]
        have hY8 := yard_new (L := insL Y.cl p d) (c4 := c4) (c6 := c6) (c7 := c7) hsz HYS.out HYD.out hl14 hL10 hM8
        rw [HIL.out, ← HV.out, ← HU.out, ← hC8] at hY8
        have h1c8 := hY8.one
        have HH8 := Lib.hid hC8
        have hI8 : Hid ((Try.prog.info? 29).map (·.size) = some C8.toList.length) := by show _ = _; rw [Array.length_toList, h28]; exact info29
        have h288 := Lib.hid h28
        clear hC8 h28 hY8
        go_wp2_with (first | (refine wpList_load_guard (P := Try.prog) (by rfl) 29 (.tmp 2) rfl w.heap.size 0 rfl C8.toList _ hK8.range Try.underlying29 rfl hI8.out ?_) | (refine wpList_store_blk (P := Try.prog) rfl 29 (.tmp 4) (.tmp 80) rfl (w.heap.size + 1) zeroC.toArray C8 rfl rfl hJ8 h288.out.symm (by rw [h288.out]; exact info29) h1c8 ?_; intro wd hkd hfd))
        refine bodyPost_ret (results_row rfl _ _ (w.heap.size + 1) C8.toList _ rfl hkd.range Try.underlying29 rfl hI8.out) rfl (by
          rw [HE.out, HZ.out]
          refine ⟨C8, rfl, ?_, hfd.bel _ _ (by omega) hB8⟩
          rw [HH8.out, HV.out, HU.out, ← HIL.out]
          exact yard_new (L := insL Y.cl p d) hsz HYS.out HYD.out ((hfd.lies hl14 ga4).more (by rw [hfd.size]; exact Nat.le_refl _)) ((hfd.lies hL10 gA6).more (by rw [hfd.size]; exact Nat.le_refl _)) ((hfd.lies hM8 gA7).more (by rw [hfd.size]; exact Nat.le_refl _)))
    | false =>
      have hpl : ¬ p < Y.cl.length := of_decide_eq_false hq'
      have HE := Lib.hid (HC2.out hpl)
      obtain rfl : q = false := by rw [hq.out]; exact hq'
      clear hq hq' hpl HC1 HC2
      go_upto_region 19 with (at_builtin; refine wpList_append_own _ rfl (.tmp 60) (.tmp 62) 25 rfl (w.heap.size + 2) 3 i0 (.int .i64 0) 1 8 Try.underlying25 I3.out.1 I3.out.2.1 I3.out.2.2.1 I3.out.2.2.2 rfl (by decide) _ S.length (ints S) rfl (hown.alloc _) ⟨wr.heap.size, 0, none⟩ 1 1 [.int .i64 d] rfl rfl ?_ ?_ ?_ ?_ ?_ ?_; (exact cell_one_new _ _ _); (intro u hu; simp at hu; subst hu; rfl); (unfold maxLen; omega); (omega); (simp; omega); intro v5 w5 hown5 hgrow5 _; have hB5 : Below w.heap.size w w5 := below_own (by exact (by repeat (first | with_reducible exact Below.refl _ _ | with_reducible assumption | with_reducible refine Below.drew ?_ | with_reducible refine below_drewN ?_ _ | (with_reducible refine Below.alloc ?_ ?_ _; rotate_left; (try simp) <;> omega) | (with_reducible refine Below.setCell ?_ ?_ _; rotate_left; (try simp) <;> omega)))) (hown.alloc _) hgrow5 (by omega) (by simp; omega); have hK5 : Bk w5 w.heap.size 29 C := Bk.grown (by exact (by repeat (first | with_reducible assumption | with_reducible exact Bk.new _ _ _ | with_reducible refine Bk.drew ?_ | with_reducible refine Bk.drewN ?_ _ | with_reducible refine Bk.alloc ?_ _ | (with_reducible refine Bk.far ?_ ?_ _; rotate_left; (try simp) <;> omega)))) hgrow5 (own_ne hown (by omega)); have hJ5 : Bk w5 (w.heap.size + 1) 29 zeroC.toArray := Bk.grown (by exact (by repeat (first | with_reducible assumption | with_reducible exact Bk.new _ _ _ | with_reducible refine Bk.drew ?_ | with_reducible refine Bk.drewN ?_ _ | with_reducible refine Bk.alloc ?_ _ | (with_reducible refine Bk.far ?_ ?_ _; rotate_left; (try simp) <;> omega)))) hgrow5 (own_ne hown (by omega)); have hz5 := hJ5.lt; clear hgrow5)
      rw [ints_snoc, HE.out] at hown5
      have hlen : Hid (S.length + 1 = (insL Y.cl p d).length) := by show _ = _; rw [← HE.out]; simp
      rw [hlen.out] at hown5
      clear hown hbw hbk hbj c24 hbs hcl hlen HE
      obtain ⟨A4, c4, rfl⟩ := HJOIN.out _ _ hown5
      clear HJOIN
      have hown := hown5; have hbw := hB5; have hbk := hK5; have hbj := hJ5; have hbs := hz5
      clear hown5 hB5 hK5 hJ5 hz5
      generalize w5 = w8 at *
      have c24 := hbk.cell 24 e1
      by_cases hf : 200 ≤ Y.cl.length
      · obtain ⟨HE, HZ⟩ := HN.out.1 hf
        have HE := Lib.hid HE; have HZ := Lib.hid HZ
        go_wp2_with ((refine wpList_store_blk (P := Try.prog) rfl 29 (.tmp 4) (.tmp 67) rfl (w.heap.size + 1) zeroC.toArray zeroC.toArray rfl rfl hbj rfl info29 zero_one ?_; intro w2 hk2 hf2))
        exact bodyPost_ret (results_row rfl _ _ (w.heap.size + 1) zeroC _ rfl hk2.range Try.underlying29 rfl info29) rfl (by rw [HE.out, HZ.out]; exact ⟨_, rfl, zero_at _ _, hf2.bel _ _ (by omega) hbw⟩)
      · obtain ⟨HE, HZ⟩ := HN.out.2 hf
        have HE := Lib.hid HE; have HZ := Lib.hid HZ
        clear HN
        have f4 := hbk.fro 24
        go_upto_region 22 with fail
        rw [HIL.out] at hown
        have hl4 := ownsRow_lies hown
        have ha4 := own_ne' (b := w.heap.size) hown (by omega)
        have ga4 := own_ne' (b := w.heap.size + 1) hown (by omega)
        have hK5 : Bk (w8.setCell ⟨w.heap.size, 24, none⟩ (.slice A4 (Y.cl.length + 1) c4)) w.heap.size 29 (C.setIfInBounds 24 (.slice A4 (Y.cl.length + 1) c4)) := hbk.set 24 _
        have hJ5 : Bk (w8.setCell ⟨w.heap.size, 24, none⟩ (.slice A4 (Y.cl.length + 1) c4)) (w.heap.size + 1) 29 zeroC.toArray := hbj.far (by simp) _
        have hB5 : Below w.heap.size w (w8.setCell ⟨w.heap.size, 24, none⟩ (.slice A4 (Y.cl.length + 1) c4)) := hbw.setCell (Nat.le_refl _) _
        have hl5 : Lies (w8.setCell ⟨w.heap.size, 24, none⟩ (.slice A4 (Y.cl.length + 1) c4)) w8.heap.size A4 (ints (insL Y.cl p d)) := (far_setCells w.heap.size [_] 24 w8).lies hl4 ha4
        have hs5 : w8.heap.size ≤ (w8.setCell ⟨w.heap.size, 24, none⟩ (.slice A4 (Y.cl.length + 1) c4)).heap.size := by simp
        clear hl4 hown hbk hbj hbw c24 f4
        generalize w8.setCell ⟨w.heap.size, 24, none⟩ (.slice A4 (Y.cl.length + 1) c4) = w9 at *
        have hl9 := (hl5.more hs5); clear hl5 hs5
        obtain ⟨V, hV⟩ : ∃ V, V = Value.slice A4 (Y.cl.length + 1) c4 := ⟨_, rfl⟩
        rw [← hV] at hK5 ⊢
        have HV := Lib.hid hV; clear hV
        have y2 : w9.cell? ⟨w.heap.size, 25, none⟩ = some (.slice A2 Y.pi.length k2) := hK5.cell 25 (by rw [Array.getElem?_setIfInBounds_ne (by omega)]; exact e2)
        have f2 := hK5.fro 25
        have hj5 := hJ5.lt
        have hk5l := hK5.lt
        obtain ⟨i1, hi1, hu0, hu1, hu2⟩ := info_parts info87
        have I1 := Lib.hid (And.intro hi1 (And.intro hu0 (And.intro hu1 hu2))); clear hi1 hu0 hu1 hu2
        have HP3 := Lib.hid (pits_len Y.pi)
        go_upto_region 23 with (at_builtin; refine wpList_append_lies rfl (.tmp 70) (.tmp 72) 26 rfl w9.heap.size 87 i1 (.agg #[.int .i64 0, .int .i64 0, .int .i64 0]) 3 24 Try.underlying26 I1.out.1 I1.out.2.1 I1.out.2.2.1 I1.out.2.2.2 rfl (by decide) (.slice (some ⟨w9.heap.size, 0, none⟩) 0 0) 0 [] rfl (World.ownsRow_made w9 #[] 0 (Nat.le_refl _) (Nat.zero_le _) rfl) w.heap.size A2 Y.pi.length k2 (pitsC Y.pi) rfl ?_ ?_ ?_ ?_ ?_ ?_ ?_; (exact HP3.out); (exact L2.below (by exact (by repeat (first | with_reducible exact Below.refl _ _ | with_reducible assumption | with_reducible refine Below.drew ?_ | with_reducible refine below_drewN ?_ _ | (with_reducible refine Below.alloc ?_ ?_ _; rotate_left; (try simp) <;> omega) | (with_reducible refine Below.setCell ?_ ?_ _; rotate_left; (try simp) <;> omega)))) (Nat.le_refl _)); (exact one_pits _); (unfold maxLen; omega); (omega); (simp); intro v6 w6 ho6 hg6; rw [Nat.zero_add, List.nil_append] at ho6; obtain ⟨A6, c6, rfl, _, _⟩ := ownsSlice ho6; have hB6 : Below w.heap.size w w6 := Below.grown (by exact (by repeat (first | with_reducible exact Below.refl _ _ | with_reducible assumption | with_reducible refine Below.drew ?_ | with_reducible refine below_drewN ?_ _ | (with_reducible refine Below.alloc ?_ ?_ _; rotate_left; (try simp) <;> omega) | (with_reducible refine Below.setCell ?_ ?_ _; rotate_left; (try simp) <;> omega)))) hg6 (by have := hB5.size; simp; omega) (by intro g hg; simp [Value.ownBlock] at hg; omega); have hK6 : Bk w6 w.heap.size 29 (C.setIfInBounds 24 V) := Bk.grown (by exact (by repeat (first | with_reducible assumption | with_reducible exact Bk.new _ _ _ | with_reducible refine Bk.drew ?_ | with_reducible refine Bk.drewN ?_ _ | with_reducible refine Bk.alloc ?_ _ | (with_reducible refine Bk.far ?_ ?_ _; rotate_left; (try simp) <;> omega)))) hg6 (by simp [Value.ownBlock]; omega); have hJ6 : Bk w6 (w.heap.size + 1) 29 zeroC.toArray := Bk.grown (by exact (by repeat (first | with_reducible assumption | with_reducible exact Bk.new _ _ _ | with_reducible refine Bk.drew ?_ | with_reducible refine Bk.drewN ?_ _ | with_reducible refine Bk.alloc ?_ _ | (with_reducible refine Bk.far ?_ ?_ _; rotate_left; (try simp) <;> omega)))) hg6 (by simp [Value.ownBlock]; omega); have hB96 : Below w9.heap.size w9 w6 := Below.grown (by exact (by repeat (first | with_reducible exact Below.refl _ _ | with_reducible assumption | with_reducible refine Below.drew ?_ | with_reducible refine below_drewN ?_ _ | (with_reducible refine Below.alloc ?_ ?_ _; rotate_left; (try simp) <;> omega) | (with_reducible refine Below.setCell ?_ ?_ _; rotate_left; (try simp) <;> omega)))) hg6 (by simp) (by intro g hg; simp [Value.ownBlock] at hg; omega); have hc6 := hK6.cell 25 (v := .slice A2 Y.pi.length k2) (by rw [Array.getElem?_setIfInBounds_ne (by omega)]; exact e2); have hf6 := hK6.fro 25; clear hg6)
        have hl10 := hl9.below hB96 (Nat.le_refl _)
        have hs10 := hB96.size
        have hA6 := own_ne' (b := w.heap.size) ho6 (by omega)
        have gA6 := own_ne' (b := w.heap.size + 1) ho6 (by omega)
        have hL6 := ownsRow_lies ho6
        have hK7 : Bk (w6.setCell ⟨w.heap.size, 25, none⟩ (.slice A6 Y.pi.length c6)) w.heap.size 29 ((C.setIfInBounds 24 V).setIfInBounds 25 (.slice A6 Y.pi.length c6)) := hK6.set 25 _
        have hJ7 : Bk (w6.setCell ⟨w.heap.size, 25, none⟩ (.slice A6 Y.pi.length c6)) (w.heap.size + 1) 29 zeroC.toArray := hJ6.far (by simp) _
        have hB7 : Below w.heap.size w (w6.setCell ⟨w.heap.size, 25, none⟩ (.slice A6 Y.pi.length c6)) := hB6.setCell (Nat.le_refl _) _
        have hl11 : Lies (w6.setCell ⟨w.heap.size, 25, none⟩ (.slice A6 Y.pi.length c6)) w9.heap.size A4 (ints (insL Y.cl p d)) := (far_setCells w.heap.size [_] 25 w6).lies hl10 ha4
        have hL7 : Lies (w6.setCell ⟨w.heap.size, 25, none⟩ (.slice A6 Y.pi.length c6)) w6.heap.size A6 (pitsC Y.pi) := (far_setCells w.heap.size [_] 25 w6).lies hL6 hA6
        have hs7 : w6.heap.size ≤ (w6.setCell ⟨w.heap.size, 25, none⟩ (.slice A6 Y.pi.length c6)).heap.size := by simp
        clear hl10 hL6 hK6 hJ6 hB6 hB96 ho6 hc6 hf6 hK5 hJ5 hB5 y2 f2 hl9
        generalize w6.setCell ⟨w.heap.size, 25, none⟩ (.slice A6 Y.pi.length c6) = wa at *
        have hl12 := hl11.more (Nat.le_trans hs10 hs7)
        have hL8 := hL7.more hs7
        clear hl11 hL7
        obtain ⟨U, hU⟩ : ∃ U, U = Value.slice A6 Y.pi.length c6 := ⟨_, rfl⟩
        rw [← hU] at hK7
        have HU := Lib.hid hU; clear hU
        have y3 : wa.cell? ⟨w.heap.size, 26, none⟩ = some (.slice A3 Y.ma.length k3) := hK7.cell 26 (by rw [Array.getElem?_setIfInBounds_ne (by omega), Array.getElem?_setIfInBounds_ne (by omega)]; exact e3)
        have f3 := hK7.fro 26
        have hj7 := hJ7.lt
        have hk7l := hK7.lt
        obtain ⟨i2, hi2, hu0, hu1, hu2⟩ := info_parts info78
        have I2 := Lib.hid (And.intro hi2 (And.intro hu0 (And.intro hu1 hu2))); clear hi2 hu0 hu1 hu2
        have HM4 := Lib.hid (mass_len Y.ma)
        go_upto_region 24 with (at_builtin; refine wpList_append_lies rfl (.tmp 75) (.tmp 77) 27 rfl wa.heap.size 78 i2 (.agg #[.string ByteArray.empty, .int .i64 0, .int .i64 0, .int .i64 0]) 4 40 Try.underlying27 I2.out.1 I2.out.2.1 I2.out.2.2.1 I2.out.2.2.2 rfl (by decide) (.slice (some ⟨wa.heap.size, 0, none⟩) 0 0) 0 [] rfl (World.ownsRow_made wa #[] 0 (Nat.le_refl _) (Nat.zero_le _) rfl) w.heap.size A3 Y.ma.length k3 (massC Y.ma) rfl ?_ ?_ ?_ ?_ ?_ ?_ ?_; (exact HM4.out); (exact L3.below (by exact (by repeat (first | with_reducible exact Below.refl _ _ | with_reducible assumption | with_reducible refine Below.drew ?_ | with_reducible refine below_drewN ?_ _ | (with_reducible refine Below.alloc ?_ ?_ _; rotate_left; (try simp) <;> omega) | (with_reducible refine Below.setCell ?_ ?_ _; rotate_left; (try simp) <;> omega)))) (Nat.le_refl _)); (exact one_mass _); (unfold maxLen; omega); (omega); (simp); intro wv wb hob hgb; rw [Nat.zero_add, List.nil_append] at hob; obtain ⟨A7, c7, rfl, _, _⟩ := ownsSlice hob; have hBb : Below w.heap.size w wb := Below.grown (by exact (by repeat (first | with_reducible exact Below.refl _ _ | with_reducible assumption | with_reducible refine Below.drew ?_ | with_reducible refine below_drewN ?_ _ | (with_reducible refine Below.alloc ?_ ?_ _; rotate_left; (try simp) <;> omega) | (with_reducible refine Below.setCell ?_ ?_ _; rotate_left; (try simp) <;> omega)))) hgb (by have := hB7.size; simp; omega) (by intro g hg; simp [Value.ownBlock] at hg; omega); have hKb : Bk wb w.heap.size 29 ((C.setIfInBounds 24 V).setIfInBounds 25 U) := Bk.grown (by exact (by repeat (first | with_reducible assumption | with_reducible exact Bk.new _ _ _ | with_reducible refine Bk.drew ?_ | with_reducible refine Bk.drewN ?_ _ | with_reducible refine Bk.alloc ?_ _ | (with_reducible refine Bk.far ?_ ?_ _; rotate_left; (try simp) <;> omega)))) hgb (by simp [Value.ownBlock]; omega); have hJb : Bk wb (w.heap.size + 1) 29 zeroC.toArray := Bk.grown (by exact (by repeat (first | with_reducible assumption | with_reducible exact Bk.new _ _ _ | with_reducible refine Bk.drew ?_ | with_reducible refine Bk.drewN ?_ _ | with_reducible refine Bk.alloc ?_ _ | (with_reducible refine Bk.far ?_ ?_ _; rotate_left; (try simp) <;> omega)))) hgb (by simp [Value.ownBlock]; omega); have hBab : Below wa.heap.size wa wb := Below.grown (by exact (by repeat (first | with_reducible exact Below.refl _ _ | with_reducible assumption | with_reducible refine Below.drew ?_ | with_reducible refine below_drewN ?_ _ | (with_reducible refine Below.alloc ?_ ?_ _; rotate_left; (try simp) <;> omega) | (with_reducible refine Below.setCell ?_ ?_ _; rotate_left; (try simp) <;> omega)))) hgb (by simp) (by intro g hg; simp [Value.ownBlock] at hg; omega); have hcb := hKb.cell 26 (v := .slice A3 Y.ma.length k3) (by rw [Array.getElem?_setIfInBounds_ne (by omega), Array.getElem?_setIfInBounds_ne (by omega)]; exact e3); have hfb := hKb.fro 26; clear hgb)
        have hl13 := hl12.below hBab (Nat.le_refl _)
        have hL9 := hL8.below hBab (Nat.le_refl _)
        have hs11 := hBab.size
        have hA7 := own_ne' (b := w.heap.size) hob (by omega)
        have gA7 := own_ne' (b := w.heap.size + 1) hob (by omega)
        have hM7 := ownsRow_lies hob
        have hF := far_setCells w.heap.size [.slice A7 Y.ma.length c7] 26 wb
        have hK8 := hKb.set 26 (.slice A7 Y.ma.length c7)
        have hJ8 := hF.bk (by omega) hJb
        have hB8 := hF.bel _ _ (Nat.le_refl _) hBb
        have hl14 := (hF.lies hl13 ha4).more (B' := (wb.setCells w.heap.size 26 [.slice A7 Y.ma.length c7]).heap.size) (by rw [hF.size]; exact hs11)
        have hL10 := (hF.lies hL9 hA6).more (B' := (wb.setCells w.heap.size 26 [.slice A7 Y.ma.length c7]).heap.size) (by rw [hF.size]; exact hs11)
        have hM8 := (hF.lies hM7 hA7).more (B' := (wb.setCells w.heap.size 26 [.slice A7 Y.ma.length c7]).heap.size) (by rw [hF.size]; exact Nat.le_refl _)
        have hwc : wb.setCell ⟨w.heap.size, 26, none⟩ (.slice A7 Y.ma.length c7) = wb.setCells w.heap.size 26 [.slice A7 Y.ma.length c7] := rfl
        rw [hwc] at hK8 ⊢
        clear hwc hF hob hKb hJb hBb hBab hcb hfb y3 f3 hK7 hJ7 hB7 hl12 hL8 hl13 hL9 hM7
        generalize wb.setCells w.heap.size 26 [.slice A7 Y.ma.length c7] = wc at *
        obtain ⟨C8, hC8⟩ : ∃ C8, C8 = ((C.setIfInBounds 24 V).setIfInBounds 25 U).setIfInBounds 26 (.slice A7 Y.ma.length c7) := ⟨_, rfl⟩
        rw [← hC8] at hK8
        have h28 : C8.size = 28 := by rw [hC8]; simp [hsz]
        have hY8 := yard_new (L := insL Y.cl p d) (c4 := c4) (c6 := c6) (c7 := c7) hsz HYS.out HYD.out hl14 hL10 hM8
        rw [HIL.out, ← HV.out, ← HU.out, ← hC8] at hY8
        have h1c8 := hY8.one
        have HH8 := Lib.hid hC8
        have hI8 : Hid ((Try.prog.info? 29).map (·.size) = some C8.toList.length) := by show _ = _; rw [Array.length_toList, h28]; exact info29
        have h288 := Lib.hid h28
        clear hC8 h28 hY8
        go_wp2_with (first | (refine wpList_load_guard (P := Try.prog) (by rfl) 29 (.tmp 2) rfl w.heap.size 0 rfl C8.toList _ hK8.range Try.underlying29 rfl hI8.out ?_) | (refine wpList_store_blk (P := Try.prog) rfl 29 (.tmp 4) (.tmp 80) rfl (w.heap.size + 1) zeroC.toArray C8 rfl rfl hJ8 h288.out.symm (by rw [h288.out]; exact info29) h1c8 ?_; intro wd hkd hfd))
        refine bodyPost_ret (results_row rfl _ _ (w.heap.size + 1) C8.toList _ rfl hkd.range Try.underlying29 rfl hI8.out) rfl (by
          rw [HE.out, HZ.out]
          refine ⟨C8, rfl, ?_, hfd.bel _ _ (by omega) hB8⟩
          rw [HH8.out, HV.out, HU.out, ← HIL.out]
          exact yard_new (L := insL Y.cl p d) hsz HYS.out HYD.out ((hfd.lies hl14 ga4).more (by rw [hfd.size]; exact Nat.le_refl _)) ((hfd.lies hL10 gA6).more (by rw [hfd.size]; exact Nat.le_refl _)) ((hfd.lies hM8 gA7).more (by rw [hfd.size]; exact Nat.le_refl _)))
end Go.Proofs.Ytjgnikmnadmheaa
