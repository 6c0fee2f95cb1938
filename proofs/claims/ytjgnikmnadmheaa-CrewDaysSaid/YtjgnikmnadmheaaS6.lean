/- The reference's SeasonOf, Open, Minutes, Batches, Skilled, for all yards. Printed by wip/gen_s6.py. -/
import Derived.Test.YtjgnikmnadmheaaS5
import Derived.Deep.QuietTactic
import Derived.BigQuiet
namespace Go.Proofs.Ytjgnikmnadmheaa
open Go.RowKit

set_option maxHeartbeats 1000000 in
theorem rSeasonOf_any (C : Array Value) (Y : Yd) (d : Int) (w : World) (hY : YardAt w w.heap.size C Y) (hs : Small Y) : Calls Try.prog 52 #[.agg C, .int .i64 d] w (PairEnd (seaA Y d) (seaB' Y d) w) := by
  have HCK := Lib.hid (fun W (hb : Below w.heap.size w W) => rCheckYard_any C Y W ((hY.below hb (Nat.le_refl _)).more hb.size) hs.cl hs.pi hs.ma hs.nm)
  have HLOAD := load_any hY
  have HC28 := Lib.hid hY.len
  have HE : Hid (seaA Y d = if (okY Y && inB d 0 100000) = true then Y.se (2 * seaI d) else 0) := rfl
  have HF : Hid (seaB' Y d = if (okY Y && inB d 0 100000) = true then Y.se (2 * seaI d + 1) else 0) := rfl
  have HN := Lib.hid (chk_of Y)
  have hi := seaI_lt d
  have he := seaI_eq d
  have C0 : Hid (C[seaI d * 2]? = some (.int .i64 (Y.se (2 * seaI d)))) := by show _ = _; rw [Nat.mul_comm]; exact hY.se _ (by omega)
  have C1 : Hid (C[seaI d * 2 + 1]? = some (.int .i64 (Y.se (2 * seaI d + 1)))) := by show _ = _; rw [Nat.mul_comm]; exact hY.se _ (by omega)
  clear hY hs
  generalize chkY Y = n at *
  generalize Y.se (2 * seaI d) = s1 at *
  generalize Y.se (2 * seaI d + 1) = s2 at *
  generalize seaA Y d = r1 at *
  generalize seaB' Y d = r2 at *
  generalize seaI d = i at *
  have HI := Lib.hid he
  clear he
  obtain ⟨g1, g2⟩ := HN.out
  cases h : okY Y with
  | false =>
    have hn : (n != 0) = true := g2.trans (by rw [h]; rfl)
    have HR1 : Hid (r1 = 0) := by show _ = _; rw [HE.out, h]; rfl
    have HR2 : Hid (r2 = 0) := by show _ = _; rw [HF.out, h]; rfl
    clear HE HF h g1 g2
    go_enter Try.func52, Try.ntmps52
    go_wp2_with (first | (refine wpList_load_guard (P := Try.prog) (by rfl) 29 (.tmp 2) rfl w.heap.size 0 rfl C.toList _ (HLOAD.out _ _ (by exact (by repeat (first | with_reducible assumption | with_reducible exact Bk.new _ _ _ | with_reducible refine Bk.drew ?_ | with_reducible refine Bk.drewN ?_ _ | with_reducible refine Bk.alloc ?_ _ | (with_reducible refine Bk.far ?_ ?_ _; rotate_left; (try simp) <;> omega))))) Try.underlying29 rfl (by rw [HC28.out]; exact info29) ?_) | (go_at_call 17; refine (HCK.out _ (by exact (by repeat (first | with_reducible exact Below.refl _ _ | with_reducible assumption | with_reducible refine Below.drew ?_ | with_reducible refine below_drewN ?_ _ | (with_reducible refine Below.alloc ?_ ?_ _; rotate_left; (try simp) <;> omega) | (with_reducible refine Below.setCell ?_ ?_ _; rotate_left; (try simp) <;> omega))))).mono ?_; rintro e w1 ⟨rfl, hb1⟩; have hB1 : Below w.heap.size w w1 := Below.trans (by exact (by repeat (first | with_reducible exact Below.refl _ _ | with_reducible assumption | with_reducible refine Below.drew ?_ | with_reducible refine below_drewN ?_ _ | (with_reducible refine Below.alloc ?_ ?_ _; rotate_left; (try simp) <;> omega) | (with_reducible refine Below.setCell ?_ ?_ _; rotate_left; (try simp) <;> omega)))) (hb1.mono (by first | omega | (simp; omega) | simp)); have hK1 : Bk w1 w.heap.size 29 C := Bk.below (by exact (by repeat (first | with_reducible assumption | with_reducible exact Bk.new _ _ _ | with_reducible refine Bk.drew ?_ | with_reducible refine Bk.drewN ?_ _ | with_reducible refine Bk.alloc ?_ _ | (with_reducible refine Bk.far ?_ ?_ _; rotate_left; (try simp) <;> omega)))) hb1 (by first | omega | (simp; omega) | simp); have hJ1 : Bk w1 (w.heap.size + 1) 23 #[.int .i64 0, .int .i64 0] := Bk.below (by simpa using Bk.new (w.alloc (.cells C 29)) 23 #[.int .i64 0, .int .i64 0]) hb1 (by first | omega | (simp; omega) | simp); have hz1 := hb1.size; (try simp at hz1); have j0 := hJ1.cell 0 rfl; have j1 := hJ1.cell 1 rfl; have f0 := hJ1.fro 0; have f1 := hJ1.fro 1; clear hb1))
    exact bodyPost_ret (v := .agg #[.int .i64 0, .int .i64 0]) (by simp [results, Try.results52, go_sem, j0, j1]) rfl ⟨by rw [HR1.out, HR2.out], by exact (by repeat (first | with_reducible exact Below.refl _ _ | with_reducible assumption | with_reducible refine Below.drew ?_ | with_reducible refine below_drewN ?_ _ | (with_reducible refine Below.alloc ?_ ?_ _; rotate_left; (try simp) <;> omega) | (with_reducible refine Below.setCell ?_ ?_ _; rotate_left; (try simp) <;> omega)))⟩
  | true =>
    have hn : (n != 0) = false := g2.trans (by rw [h]; rfl)
    cases hd : inB d 0 100000 with
    | false =>
      have HR1 : Hid (r1 = 0) := by show _ = _; rw [HE.out, h, hd]; rfl
      have HR2 : Hid (r2 = 0) := by show _ = _; rw [HF.out, h, hd]; rfl
      have HD := Lib.hid hd
      clear HE HF h g1 g2 hd
      go_enter Try.func52, Try.ntmps52
      go_wp2_with (first | (refine wpList_load_guard (P := Try.prog) (by rfl) 29 (.tmp 2) rfl w.heap.size 0 rfl C.toList _ (HLOAD.out _ _ (by exact (by repeat (first | with_reducible assumption | with_reducible exact Bk.new _ _ _ | with_reducible refine Bk.drew ?_ | with_reducible refine Bk.drewN ?_ _ | with_reducible refine Bk.alloc ?_ _ | (with_reducible refine Bk.far ?_ ?_ _; rotate_left; (try simp) <;> omega))))) Try.underlying29 rfl (by rw [HC28.out]; exact info29) ?_) | (go_at_call 17; refine (HCK.out _ (by exact (by repeat (first | with_reducible exact Below.refl _ _ | with_reducible assumption | with_reducible refine Below.drew ?_ | with_reducible refine below_drewN ?_ _ | (with_reducible refine Below.alloc ?_ ?_ _; rotate_left; (try simp) <;> omega) | (with_reducible refine Below.setCell ?_ ?_ _; rotate_left; (try simp) <;> omega))))).mono ?_; rintro e w1 ⟨rfl, hb1⟩; have hB1 : Below w.heap.size w w1 := Below.trans (by exact (by repeat (first | with_reducible exact Below.refl _ _ | with_reducible assumption | with_reducible refine Below.drew ?_ | with_reducible refine below_drewN ?_ _ | (with_reducible refine Below.alloc ?_ ?_ _; rotate_left; (try simp) <;> omega) | (with_reducible refine Below.setCell ?_ ?_ _; rotate_left; (try simp) <;> omega)))) (hb1.mono (by first | omega | (simp; omega) | simp)); have hK1 : Bk w1 w.heap.size 29 C := Bk.below (by exact (by repeat (first | with_reducible assumption | with_reducible exact Bk.new _ _ _ | with_reducible refine Bk.drew ?_ | with_reducible refine Bk.drewN ?_ _ | with_reducible refine Bk.alloc ?_ _ | (with_reducible refine Bk.far ?_ ?_ _; rotate_left; (try simp) <;> omega)))) hb1 (by first | omega | (simp; omega) | simp); have hJ1 : Bk w1 (w.heap.size + 1) 23 #[.int .i64 0, .int .i64 0] := Bk.below (by simpa using Bk.new (w.alloc (.cells C 29)) 23 #[.int .i64 0, .int .i64 0]) hb1 (by first | omega | (simp; omega) | simp); have hz1 := hb1.size; (try simp at hz1); have j0 := hJ1.cell 0 rfl; have j1 := hJ1.cell 1 rfl; have f0 := hJ1.fro 0; have f1 := hJ1.fro 1; clear hb1) | (go_at_call 81; refine (isDay_any _ _).mono ?_; rintro e w' ⟨rfl, rfl⟩; rw [HD.out]))
      exact bodyPost_ret (v := .agg #[.int .i64 0, .int .i64 0]) (by simp [results, Try.results52, go_sem, j0, j1]) rfl ⟨by rw [HR1.out, HR2.out], by exact (by repeat (first | with_reducible exact Below.refl _ _ | with_reducible assumption | with_reducible refine Below.drew ?_ | with_reducible refine below_drewN ?_ _ | (with_reducible refine Below.alloc ?_ ?_ _; rotate_left; (try simp) <;> omega) | (with_reducible refine Below.setCell ?_ ?_ _; rotate_left; (try simp) <;> omega)))⟩
    | true =>
      have HR1 : Hid (s1 = r1) := by show _ = _; rw [HE.out, h, hd]; rfl
      have HR2 : Hid (s2 = r2) := by show _ = _; rw [HF.out, h, hd]; rfl
      obtain ⟨d0, d1⟩ := inB_iff.1 hd
      have HD := Lib.hid hd
      have he := HI.out
      have hnn : (0 : Int) ≤ (i : Int) := by omega
      have hll : (i : Int) < 12 := by omega
      clear HE HF h g1 g2 hd HI
      go_enter Try.func52, Try.ntmps52
      go_wp2_with (first | (refine wpList_load_guard (P := Try.prog) (by rfl) 29 (.tmp 2) rfl w.heap.size 0 rfl C.toList _ (HLOAD.out _ _ (by exact (by repeat (first | with_reducible assumption | with_reducible exact Bk.new _ _ _ | with_reducible refine Bk.drew ?_ | with_reducible refine Bk.drewN ?_ _ | with_reducible refine Bk.alloc ?_ _ | (with_reducible refine Bk.far ?_ ?_ _; rotate_left; (try simp) <;> omega))))) Try.underlying29 rfl (by rw [HC28.out]; exact info29) ?_) | ((go_at_call 17; refine (HCK.out _ (by exact (by repeat (first | with_reducible exact Below.refl _ _ | with_reducible assumption | with_reducible refine Below.drew ?_ | with_reducible refine below_drewN ?_ _ | (with_reducible refine Below.alloc ?_ ?_ _; rotate_left; (try simp) <;> omega) | (with_reducible refine Below.setCell ?_ ?_ _; rotate_left; (try simp) <;> omega))))).mono ?_; rintro e w1 ⟨rfl, hb1⟩; have hB1 : Below w.heap.size w w1 := Below.trans (by exact (by repeat (first | with_reducible exact Below.refl _ _ | with_reducible assumption | with_reducible refine Below.drew ?_ | with_reducible refine below_drewN ?_ _ | (with_reducible refine Below.alloc ?_ ?_ _; rotate_left; (try simp) <;> omega) | (with_reducible refine Below.setCell ?_ ?_ _; rotate_left; (try simp) <;> omega)))) (hb1.mono (by first | omega | (simp; omega) | simp)); have hK1 : Bk w1 w.heap.size 29 C := Bk.below (by exact (by repeat (first | with_reducible assumption | with_reducible exact Bk.new _ _ _ | with_reducible refine Bk.drew ?_ | with_reducible refine Bk.drewN ?_ _ | with_reducible refine Bk.alloc ?_ _ | (with_reducible refine Bk.far ?_ ?_ _; rotate_left; (try simp) <;> omega)))) hb1 (by first | omega | (simp; omega) | simp); have hJ1 : Bk w1 (w.heap.size + 1) 23 #[.int .i64 0, .int .i64 0] := Bk.below (by simpa using Bk.new (w.alloc (.cells C 29)) 23 #[.int .i64 0, .int .i64 0]) hb1 (by first | omega | (simp; omega) | simp); have hz1 := hb1.size; (try simp at hz1); have j0 := hJ1.cell 0 rfl; have j1 := hJ1.cell 1 rfl; have f0 := hJ1.fro 0; have f1 := hJ1.fro 1; clear hb1); have z0 := hK1.cell _ C0.out; have z1 := hK1.cell _ C1.out) | (go_at_call 81; refine (isDay_any _ _).mono ?_; rintro e w' ⟨rfl, rfl⟩; rw [HD.out]))
      exact bodyPost_ret (v := .agg #[.int .i64 s1, .int .i64 s2]) (by simp [results, Try.results52, go_sem, j0, j1, f0, f1]) rfl ⟨by rw [HR1.out, HR2.out], by exact (by repeat (first | with_reducible exact Below.refl _ _ | with_reducible assumption | with_reducible refine Below.drew ?_ | with_reducible refine below_drewN ?_ _ | (with_reducible refine Below.alloc ?_ ?_ _; rotate_left; (try simp) <;> omega) | (with_reducible refine Below.setCell ?_ ?_ _; rotate_left; (try simp) <;> omega)))⟩

set_option maxRecDepth 100000 in
set_option maxHeartbeats 1000000 in
theorem rOpen_any (C : Array Value) (Y : Yd) (d : Int) (w : World) (hY : YardAt w w.heap.size C Y) (hs : Small Y) : Calls Try.prog 54 #[.agg C, .int .i64 d] w (ShEnd (opnB Y d) w) := by
  have HCK := Lib.hid (fun W (hb : Below w.heap.size w W) => rCheckYard_any C Y W ((hY.below hb (Nat.le_refl _)).more hb.size) hs.cl hs.pi hs.ma hs.nm)
  have HLOAD := load_any hY
  have HC28 := Lib.hid hY.len
  have HE : Hid (opnB Y d = (okY Y && (inB d 0 100000 && !Y.cl.contains d))) := rfl
  have HN := Lib.hid (chk_of Y)
  have hm := hs.cl
  obtain ⟨A1, k1, e1, L1⟩ := hY.cl
  clear hY hs
  generalize chkY Y = n at *
  generalize opnB Y d = r at *
  obtain ⟨g1, g2⟩ := HN.out
  cases h : okY Y with
  | false =>
    have hn : (n != 0) = true := g2.trans (by rw [h]; rfl)
    have HR : Hid (r = false) := by show _ = _; rw [HE.out, h]; rfl
    clear HE h g1 g2
    go_enter Try.func54, Try.ntmps54
    go_wp2_with (first | (refine wpList_load_guard (P := Try.prog) (by rfl) 29 (.tmp 2) rfl w.heap.size 0 rfl C.toList _ (HLOAD.out _ _ (by exact (by repeat (first | with_reducible assumption | with_reducible exact Bk.new _ _ _ | with_reducible refine Bk.drew ?_ | with_reducible refine Bk.drewN ?_ _ | with_reducible refine Bk.alloc ?_ _ | (with_reducible refine Bk.far ?_ ?_ _; rotate_left; (try simp) <;> omega))))) Try.underlying29 rfl (by rw [HC28.out]; exact info29) ?_) | (go_at_call 17; refine (HCK.out _ (by exact (by repeat (first | with_reducible exact Below.refl _ _ | with_reducible assumption | with_reducible refine Below.drew ?_ | with_reducible refine below_drewN ?_ _ | (with_reducible refine Below.alloc ?_ ?_ _; rotate_left; (try simp) <;> omega) | (with_reducible refine Below.setCell ?_ ?_ _; rotate_left; (try simp) <;> omega))))).mono ?_; rintro e w1 ⟨rfl, hb1⟩; have hB1 : Below w.heap.size w w1 := Below.trans (by exact (by repeat (first | with_reducible exact Below.refl _ _ | with_reducible assumption | with_reducible refine Below.drew ?_ | with_reducible refine below_drewN ?_ _ | (with_reducible refine Below.alloc ?_ ?_ _; rotate_left; (try simp) <;> omega) | (with_reducible refine Below.setCell ?_ ?_ _; rotate_left; (try simp) <;> omega)))) (hb1.mono (by first | omega | (simp; omega) | simp)); have hK1 : Bk w1 w.heap.size 29 C := Bk.below (by exact (by repeat (first | with_reducible assumption | with_reducible exact Bk.new _ _ _ | with_reducible refine Bk.drew ?_ | with_reducible refine Bk.drewN ?_ _ | with_reducible refine Bk.alloc ?_ _ | (with_reducible refine Bk.far ?_ ?_ _; rotate_left; (try simp) <;> omega)))) hb1 (by first | omega | (simp; omega) | simp); have hz1 := hb1.size; (try simp at hz1); clear hb1))
    go_ret
    exact sh_ret HR.out.symm hB1
  | true =>
    have hn : (n != 0) = false := g2.trans (by rw [h]; rfl)
    cases hd : inB d 0 100000 with
    | false =>
      have HR : Hid (r = false) := by show _ = _; rw [HE.out, h, hd]; rfl
      have HD := Lib.hid hd
      clear HE h g1 g2 hd
      go_enter Try.func54, Try.ntmps54
      go_wp2_with (first | (refine wpList_load_guard (P := Try.prog) (by rfl) 29 (.tmp 2) rfl w.heap.size 0 rfl C.toList _ (HLOAD.out _ _ (by exact (by repeat (first | with_reducible assumption | with_reducible exact Bk.new _ _ _ | with_reducible refine Bk.drew ?_ | with_reducible refine Bk.drewN ?_ _ | with_reducible refine Bk.alloc ?_ _ | (with_reducible refine Bk.far ?_ ?_ _; rotate_left; (try simp) <;> omega))))) Try.underlying29 rfl (by rw [HC28.out]; exact info29) ?_) | (go_at_call 17; refine (HCK.out _ (by exact (by repeat (first | with_reducible exact Below.refl _ _ | with_reducible assumption | with_reducible refine Below.drew ?_ | with_reducible refine below_drewN ?_ _ | (with_reducible refine Below.alloc ?_ ?_ _; rotate_left; (try simp) <;> omega) | (with_reducible refine Below.setCell ?_ ?_ _; rotate_left; (try simp) <;> omega))))).mono ?_; rintro e w1 ⟨rfl, hb1⟩; have hB1 : Below w.heap.size w w1 := Below.trans (by exact (by repeat (first | with_reducible exact Below.refl _ _ | with_reducible assumption | with_reducible refine Below.drew ?_ | with_reducible refine below_drewN ?_ _ | (with_reducible refine Below.alloc ?_ ?_ _; rotate_left; (try simp) <;> omega) | (with_reducible refine Below.setCell ?_ ?_ _; rotate_left; (try simp) <;> omega)))) (hb1.mono (by first | omega | (simp; omega) | simp)); have hK1 : Bk w1 w.heap.size 29 C := Bk.below (by exact (by repeat (first | with_reducible assumption | with_reducible exact Bk.new _ _ _ | with_reducible refine Bk.drew ?_ | with_reducible refine Bk.drewN ?_ _ | with_reducible refine Bk.alloc ?_ _ | (with_reducible refine Bk.far ?_ ?_ _; rotate_left; (try simp) <;> omega)))) hb1 (by first | omega | (simp; omega) | simp); have hz1 := hb1.size; (try simp at hz1); clear hb1) | (go_at_call 81; refine (isDay_any _ _).mono ?_; rintro e w' ⟨rfl, rfl⟩; rw [HD.out]))
      go_ret
      exact sh_ret HR.out.symm hB1
    | true =>
      have HR : Hid (r = !Y.cl.contains d) := by show _ = _; rw [HE.out, h, hd]; rfl
      have HD := Lib.hid hd
      clear HE h g1 g2 hd
      go_enter Try.func54, Try.ntmps54
      go_upto_region 4 with (first | (refine wpList_load_guard (P := Try.prog) (by rfl) 29 (.tmp 2) rfl w.heap.size 0 rfl C.toList _ (HLOAD.out _ _ (by exact (by repeat (first | with_reducible assumption | with_reducible exact Bk.new _ _ _ | with_reducible refine Bk.drew ?_ | with_reducible refine Bk.drewN ?_ _ | with_reducible refine Bk.alloc ?_ _ | (with_reducible refine Bk.far ?_ ?_ _; rotate_left; (try simp) <;> omega))))) Try.underlying29 rfl (by rw [HC28.out]; exact info29) ?_) | (go_at_call 17; refine (HCK.out _ (by exact (by repeat (first | with_reducible exact Below.refl _ _ | with_reducible assumption | with_reducible refine Below.drew ?_ | with_reducible refine below_drewN ?_ _ | (with_reducible refine Below.alloc ?_ ?_ _; rotate_left; (try simp) <;> omega) | (with_reducible refine Below.setCell ?_ ?_ _; rotate_left; (try simp) <;> omega))))).mono ?_; rintro e w1 ⟨rfl, hb1⟩; have hB1 : Below w.heap.size w w1 := Below.trans (by exact (by repeat (first | with_reducible exact Below.refl _ _ | with_reducible assumption | with_reducible refine Below.drew ?_ | with_reducible refine below_drewN ?_ _ | (with_reducible refine Below.alloc ?_ ?_ _; rotate_left; (try simp) <;> omega) | (with_reducible refine Below.setCell ?_ ?_ _; rotate_left; (try simp) <;> omega)))) (hb1.mono (by first | omega | (simp; omega) | simp)); have hK1 : Bk w1 w.heap.size 29 C := Bk.below (by exact (by repeat (first | with_reducible assumption | with_reducible exact Bk.new _ _ _ | with_reducible refine Bk.drew ?_ | with_reducible refine Bk.drewN ?_ _ | with_reducible refine Bk.alloc ?_ _ | (with_reducible refine Bk.far ?_ ?_ _; rotate_left; (try simp) <;> omega)))) hb1 (by first | omega | (simp; omega) | simp); have hz1 := hb1.size; (try simp at hz1); clear hb1) | (go_at_call 81; refine (isDay_any _ _).mono ?_; rintro e w' ⟨rfl, rfl⟩; rw [HD.out]))
      have x1 := hK1.cell 24 e1
      have hBL := L1.below hB1 (Nat.le_refl _)
      go_loop [5] (fun y => ∃ k : Nat, k ≤ Y.cl.length ∧ y = .int .i64 k ∧ Hid (∀ j (hj : j < k) (h' : j < Y.cl.length), Y.cl[j] ≠ d)) (fun y => Y.cl.length - (intOf y).toNat)
      case atStart => exact ⟨0, by omega, rfl, fun j hj => absurd hj (by omega)⟩
      case round =>
      obtain ⟨k, hk, rfl, hg⟩ := hrel
      by_cases hlt : k < Y.cl.length
      · obtain ⟨ad, hA, hadb, c0⟩ := int_at hBL hlt
        subst hA
        have hmem : Y.cl[k] ∈ Y.cl := List.getElem_mem hlt
        have HY := Lib.hid (fun (h : Y.cl[k] = d) => show Hid (r = false) from HR.out.trans (by rw [h] at hmem; simp [hmem]))
        clear hmem
        have HG := Lib.hid (fun (h : Y.cl[k] ≠ d) => show Hid (∀ j (hj : j < k + 1) (h' : j < Y.cl.length), Y.cl[j] ≠ d) from fun j hj h' => by
          by_cases e : j = k
          · subst e; exact h
          · exact hg.out j (by omega) h')
        clear hg L1 hBL
        generalize Y.cl[k] = x at *
        by_cases hx : x = d
        · have H := HY.out hx
          have hx' : (x == d) = true := by rw [beq_iff_eq]; exact hx
          have HX := Lib.hid hx; clear hx HG HY
          go_wp2
          go_ret
          exact sh_ret H.out.symm hB1
        · have H := HG.out hx
          have hx' : (x == d) = false := by rw [beq_eq_false_iff_ne]; exact hx
          have HX := Lib.hid hx; clear hx HG HY
          go_wp2
          go_round
          case rel => exact ⟨k + 1, by omega, by go_num, H⟩
          case measure => simp [intOf]; omega
      · obtain rfl : k = Y.cl.length := by omega
        have H : Hid (r = true) := by
          show _ = _
          rw [HR.out, Bool.not_eq_true', ← Bool.not_eq_true]
          intro hc
          obtain ⟨j, hj, e⟩ := List.getElem_of_mem (List.contains_iff_mem.1 hc)
          exact hg.out j hj hj e
        clear hg
        go_wp2
        go_ret
        exact sh_ret H.out.symm hB1

set_option maxRecDepth 100000 in
set_option maxHeartbeats 1000000 in
theorem rMinutes_any (C : Array Value) (Y : Yd) (d : Int) (w : World) (hY : YardAt w w.heap.size C Y) (hs : Small Y) : Calls Try.prog 56 #[.agg C, .int .i64 d] w (IntEnd (minO Y d) w) := by
  have HO := Lib.hid (fun W (hb : Below w.heap.size w W) => rOpen_any C Y d W ((hY.below hb (Nat.le_refl _)).more hb.size) hs)
  have HS := Lib.hid (fun W (hb : Below w.heap.size w W) => rSeasonOf_any C Y d W ((hY.below hb (Nat.le_refl _)).more hb.size) hs)
  have HLOAD := load_any hY
  have HC28 := Lib.hid hY.len
  have HM : Hid (opnB Y d = true → minO Y d = min (seaA Y d) (seaB' Y d)) := fun h => by
    unfold opnB at h
    rw [Bool.and_eq_true] at h
    have h2 := h.2
    unfold openB at h2
    rw [Bool.and_eq_true] at h2
    unfold minO minOf seaA seaB' dayR
    rw [if_pos h.1, if_pos h.2, h.1, h2.1]; rfl
  have HZ : Hid (opnB Y d = false → minO Y d = 0) := fun h => by
    unfold opnB at h
    unfold minO minOf
    cases h1 : okY Y with
    | false => rfl
    | true => rw [h1] at h; rw [if_pos rfl, show openB Y d = false from h]; rfl
  clear hY hs
  generalize opnB Y d = q at *
  generalize seaA Y d = s1 at *
  generalize seaB' Y d = s2 at *
  generalize minO Y d = m at *
  cases q with
  | false =>
    have HE := Lib.hid (HZ.out rfl)
    clear HM HZ HS
    go_enter Try.func56, Try.ntmps56
    go_wp2_with (first | (refine wpList_load_guard (P := Try.prog) (by rfl) 29 (.tmp 2) rfl w.heap.size 0 rfl C.toList _ (HLOAD.out _ _ (by exact (by repeat (first | with_reducible assumption | with_reducible exact Bk.new _ _ _ | with_reducible refine Bk.drew ?_ | with_reducible refine Bk.drewN ?_ _ | with_reducible refine Bk.alloc ?_ _ | (with_reducible refine Bk.far ?_ ?_ _; rotate_left; (try simp) <;> omega))))) Try.underlying29 rfl (by rw [HC28.out]; exact info29) ?_) | (go_at_call 54; refine (HO.out _ (by exact (by repeat (first | with_reducible exact Below.refl _ _ | with_reducible assumption | with_reducible refine Below.drew ?_ | with_reducible refine below_drewN ?_ _ | (with_reducible refine Below.alloc ?_ ?_ _; rotate_left; (try simp) <;> omega) | (with_reducible refine Below.setCell ?_ ?_ _; rotate_left; (try simp) <;> omega))))).mono ?_; rintro e w1 ⟨rfl, hb⟩; have hB1 : Below w.heap.size w w1 := Below.trans (by exact (by repeat (first | with_reducible exact Below.refl _ _ | with_reducible assumption | with_reducible refine Below.drew ?_ | with_reducible refine below_drewN ?_ _ | (with_reducible refine Below.alloc ?_ ?_ _; rotate_left; (try simp) <;> omega) | (with_reducible refine Below.setCell ?_ ?_ _; rotate_left; (try simp) <;> omega)))) (hb.mono (by simp))))
    go_ret
    exact int_end HE.out.symm hB1
  | true =>
    have HE := Lib.hid (HM.out rfl)
    clear HM HZ
    go_enter Try.func56, Try.ntmps56
    go_upto_region 3 with (first | (refine wpList_load_guard (P := Try.prog) (by rfl) 29 (.tmp 2) rfl w.heap.size 0 rfl C.toList _ (HLOAD.out _ _ (by exact (by repeat (first | with_reducible assumption | with_reducible exact Bk.new _ _ _ | with_reducible refine Bk.drew ?_ | with_reducible refine Bk.drewN ?_ _ | with_reducible refine Bk.alloc ?_ _ | (with_reducible refine Bk.far ?_ ?_ _; rotate_left; (try simp) <;> omega))))) Try.underlying29 rfl (by rw [HC28.out]; exact info29) ?_) | (go_at_call 54; refine (HO.out _ (by exact (by repeat (first | with_reducible exact Below.refl _ _ | with_reducible assumption | with_reducible refine Below.drew ?_ | with_reducible refine below_drewN ?_ _ | (with_reducible refine Below.alloc ?_ ?_ _; rotate_left; (try simp) <;> omega) | (with_reducible refine Below.setCell ?_ ?_ _; rotate_left; (try simp) <;> omega))))).mono ?_; rintro e w1 ⟨rfl, hb⟩; have hB1 : Below w.heap.size w w1 := Below.trans (by exact (by repeat (first | with_reducible exact Below.refl _ _ | with_reducible assumption | with_reducible refine Below.drew ?_ | with_reducible refine below_drewN ?_ _ | (with_reducible refine Below.alloc ?_ ?_ _; rotate_left; (try simp) <;> omega) | (with_reducible refine Below.setCell ?_ ?_ _; rotate_left; (try simp) <;> omega)))) (hb.mono (by simp)); have hK1 : Bk w1 w.heap.size 29 C := (Bk.new w 29 C).below hb (by simp); clear hb))
    have hz := hB1.size
    go_wp2_with (first | (refine wpList_load_guard (P := Try.prog) (by rfl) 29 (.tmp 2) rfl w.heap.size 0 rfl C.toList _ (HLOAD.out _ _ hK1) Try.underlying29 rfl (by rw [HC28.out]; exact info29) ?_) | (go_at_call 52; refine (HS.out _ hB1).mono ?_; rintro e w2 ⟨rfl, hb2⟩; have hB2 : Below w.heap.size w w2 := Below.trans hB1 (hb2.mono hB1.size); have hz2 := hB2.size))
    all_goals
      go_ret
      exact int_end (by rw [HE.out]) (by exact (by repeat (first | with_reducible exact Below.refl _ _ | with_reducible assumption | with_reducible refine Below.drew ?_ | with_reducible refine below_drewN ?_ _ | (with_reducible refine Below.alloc ?_ ?_ _; rotate_left; (try simp) <;> omega) | (with_reducible refine Below.setCell ?_ ?_ _; rotate_left; (try simp) <;> omega))))

set_option maxRecDepth 100000 in
set_option maxHeartbeats 1000000 in
theorem rBatches_any (C : Array Value) (Y : Yd) (d : Int) (w : World) (hY : YardAt w w.heap.size C Y) (hs : Small Y) : Calls Try.prog 58 #[.agg C, .int .i64 d] w (IntEnd (batO Y d) w) := by
  have HCK := Lib.hid (fun W (hb : Below w.heap.size w W) => rCheckYard_any C Y W ((hY.below hb (Nat.le_refl _)).more hb.size) hs.cl hs.pi hs.ma hs.nm)
  have HLOAD := load_any hY
  have HC28 := Lib.hid hY.len
  have HE : Hid (batO Y d = if (okY Y && inB d 0 100000) = true then batOf Y.pi d else 0) := rfl
  have HN := Lib.hid (chk_of Y)
  have HV := Lib.hid (fun (h : okY Y = true) => (okY_valid h).pi)
  have hm := hs.pi
  obtain ⟨A2, k2, e2, L2⟩ := hY.pi
  clear hY hs
  generalize chkY Y = n at *
  generalize batO Y d = r at *
  obtain ⟨g1, g2⟩ := HN.out
  cases h : okY Y with
  | false =>
    have hn : (n != 0) = true := g2.trans (by rw [h]; rfl)
    have HR : Hid (r = 0) := by show _ = _; rw [HE.out, h]; rfl
    clear HE h g1 g2
    go_enter Try.func58, Try.ntmps58
    go_wp2_with (first | (refine wpList_load_guard (P := Try.prog) (by rfl) 29 (.tmp 2) rfl w.heap.size 0 rfl C.toList _ (HLOAD.out _ _ (by exact (by repeat (first | with_reducible assumption | with_reducible exact Bk.new _ _ _ | with_reducible refine Bk.drew ?_ | with_reducible refine Bk.drewN ?_ _ | with_reducible refine Bk.alloc ?_ _ | (with_reducible refine Bk.far ?_ ?_ _; rotate_left; (try simp) <;> omega))))) Try.underlying29 rfl (by rw [HC28.out]; exact info29) ?_) | (go_at_call 17; refine (HCK.out _ (by exact (by repeat (first | with_reducible exact Below.refl _ _ | with_reducible assumption | with_reducible refine Below.drew ?_ | with_reducible refine below_drewN ?_ _ | (with_reducible refine Below.alloc ?_ ?_ _; rotate_left; (try simp) <;> omega) | (with_reducible refine Below.setCell ?_ ?_ _; rotate_left; (try simp) <;> omega))))).mono ?_; rintro e w1 ⟨rfl, hb1⟩; have hB1 : Below w.heap.size w w1 := Below.trans (by exact (by repeat (first | with_reducible exact Below.refl _ _ | with_reducible assumption | with_reducible refine Below.drew ?_ | with_reducible refine below_drewN ?_ _ | (with_reducible refine Below.alloc ?_ ?_ _; rotate_left; (try simp) <;> omega) | (with_reducible refine Below.setCell ?_ ?_ _; rotate_left; (try simp) <;> omega)))) (hb1.mono (by first | omega | (simp; omega) | simp)); have hK1 : Bk w1 w.heap.size 29 C := Bk.below (by exact (by repeat (first | with_reducible assumption | with_reducible exact Bk.new _ _ _ | with_reducible refine Bk.drew ?_ | with_reducible refine Bk.drewN ?_ _ | with_reducible refine Bk.alloc ?_ _ | (with_reducible refine Bk.far ?_ ?_ _; rotate_left; (try simp) <;> omega)))) hb1 (by first | omega | (simp; omega) | simp); have hz1 := hb1.size; (try simp at hz1); clear hb1))
    go_ret
    exact int_end HR.out.symm hB1
  | true =>
    have hn : (n != 0) = false := g2.trans (by rw [h]; rfl)
    cases hd : inB d 0 100000 with
    | false =>
      have HR : Hid (r = 0) := by show _ = _; rw [HE.out, h, hd]; rfl
      have HD := Lib.hid hd
      clear HE h g1 g2 hd
      go_enter Try.func58, Try.ntmps58
      go_wp2_with (first | (refine wpList_load_guard (P := Try.prog) (by rfl) 29 (.tmp 2) rfl w.heap.size 0 rfl C.toList _ (HLOAD.out _ _ (by exact (by repeat (first | with_reducible assumption | with_reducible exact Bk.new _ _ _ | with_reducible refine Bk.drew ?_ | with_reducible refine Bk.drewN ?_ _ | with_reducible refine Bk.alloc ?_ _ | (with_reducible refine Bk.far ?_ ?_ _; rotate_left; (try simp) <;> omega))))) Try.underlying29 rfl (by rw [HC28.out]; exact info29) ?_) | (go_at_call 17; refine (HCK.out _ (by exact (by repeat (first | with_reducible exact Below.refl _ _ | with_reducible assumption | with_reducible refine Below.drew ?_ | with_reducible refine below_drewN ?_ _ | (with_reducible refine Below.alloc ?_ ?_ _; rotate_left; (try simp) <;> omega) | (with_reducible refine Below.setCell ?_ ?_ _; rotate_left; (try simp) <;> omega))))).mono ?_; rintro e w1 ⟨rfl, hb1⟩; have hB1 : Below w.heap.size w w1 := Below.trans (by exact (by repeat (first | with_reducible exact Below.refl _ _ | with_reducible assumption | with_reducible refine Below.drew ?_ | with_reducible refine below_drewN ?_ _ | (with_reducible refine Below.alloc ?_ ?_ _; rotate_left; (try simp) <;> omega) | (with_reducible refine Below.setCell ?_ ?_ _; rotate_left; (try simp) <;> omega)))) (hb1.mono (by first | omega | (simp; omega) | simp)); have hK1 : Bk w1 w.heap.size 29 C := Bk.below (by exact (by repeat (first | with_reducible assumption | with_reducible exact Bk.new _ _ _ | with_reducible refine Bk.drew ?_ | with_reducible refine Bk.drewN ?_ _ | with_reducible refine Bk.alloc ?_ _ | (with_reducible refine Bk.far ?_ ?_ _; rotate_left; (try simp) <;> omega)))) hb1 (by first | omega | (simp; omega) | simp); have hz1 := hb1.size; (try simp at hz1); clear hb1) | (go_at_call 81; refine (isDay_any _ _).mono ?_; rintro e w' ⟨rfl, rfl⟩; rw [HD.out]))
      go_ret
      exact int_end HR.out.symm hB1
    | true =>
      have HR : Hid (r = batOf Y.pi d) := by show _ = _; rw [HE.out, h, hd]; rfl
      have HP := Lib.hid (HV.out h)
      have HD := Lib.hid hd
      clear HE h g1 g2 hd HV
      go_enter Try.func58, Try.ntmps58
      go_upto_region 5 with (first | (refine wpList_load_guard (P := Try.prog) (by rfl) 29 (.tmp 2) rfl w.heap.size 0 rfl C.toList _ (HLOAD.out _ _ (by exact (by repeat (first | with_reducible assumption | with_reducible exact Bk.new _ _ _ | with_reducible refine Bk.drew ?_ | with_reducible refine Bk.drewN ?_ _ | with_reducible refine Bk.alloc ?_ _ | (with_reducible refine Bk.far ?_ ?_ _; rotate_left; (try simp) <;> omega))))) Try.underlying29 rfl (by rw [HC28.out]; exact info29) ?_) | (go_at_call 17; refine (HCK.out _ (by exact (by repeat (first | with_reducible exact Below.refl _ _ | with_reducible assumption | with_reducible refine Below.drew ?_ | with_reducible refine below_drewN ?_ _ | (with_reducible refine Below.alloc ?_ ?_ _; rotate_left; (try simp) <;> omega) | (with_reducible refine Below.setCell ?_ ?_ _; rotate_left; (try simp) <;> omega))))).mono ?_; rintro e w1 ⟨rfl, hb1⟩; have hB1 : Below w.heap.size w w1 := Below.trans (by exact (by repeat (first | with_reducible exact Below.refl _ _ | with_reducible assumption | with_reducible refine Below.drew ?_ | with_reducible refine below_drewN ?_ _ | (with_reducible refine Below.alloc ?_ ?_ _; rotate_left; (try simp) <;> omega) | (with_reducible refine Below.setCell ?_ ?_ _; rotate_left; (try simp) <;> omega)))) (hb1.mono (by first | omega | (simp; omega) | simp)); have hK1 : Bk w1 w.heap.size 29 C := Bk.below (by exact (by repeat (first | with_reducible assumption | with_reducible exact Bk.new _ _ _ | with_reducible refine Bk.drew ?_ | with_reducible refine Bk.drewN ?_ _ | with_reducible refine Bk.alloc ?_ _ | (with_reducible refine Bk.far ?_ ?_ _; rotate_left; (try simp) <;> omega)))) hb1 (by first | omega | (simp; omega) | simp); have hz1 := hb1.size; (try simp at hz1); clear hb1) | (go_at_call 81; refine (isDay_any _ _).mono ?_; rintro e w' ⟨rfl, rfl⟩; rw [HD.out]))
      go_loopw [5, 6] (fun s y wr => ∃ (k : Nat) (n : Int), k ≤ Y.pi.length ∧ y = .int .i64 k ∧ s = .int .i64 n ∧ Hid (n = batOf (Y.pi.take k) d) ∧ (0 ≤ n ∧ n ≤ 100 * k) ∧ Below w.heap.size w wr ∧ Bk wr w.heap.size 29 C) (fun _ y _ => Y.pi.length - (intOf y).toNat)
      case atStart => exact ⟨0, 0, by omega, rfl, rfl, rfl, by omega, hB1, hK1⟩
      case round =>
      clear hB1 hK1 hz1
      obtain ⟨k, n, hk, rfl, rfl, hn', ⟨n0, n1⟩, hbw, hbk⟩ := hrel
      have hbs := hbw.size
      have hbl := hbk.lt
      have x2 := hbk.cell 25 e2
      by_cases hlt : k < Y.pi.length
      · obtain ⟨ad, hA, hadb, c0, c1, c2⟩ := pit_at (L2.below hbw (Nat.le_refl _)) hlt
        subst hA
        obtain ⟨⟨p1, p2⟩, ⟨p3, p4⟩, p5, p6⟩ := HP.out _ (List.getElem_mem hlt)
        have HX : Hid (batOf (Y.pi.take (k + 1)) d = n + batAt d Y.pi[k]) := by show _ = _; rw [batOf_take _ _ _ hlt, hn'.out]
        have HB : Hid (batAt d Y.pi[k] = if decide (Y.pi[k].s + Y.pi[k].a ≤ d) = true then Y.pi[k].b else 0) := rfl
        clear hn' L2
        generalize batAt d Y.pi[k] = x at *
        generalize Y.pi[k] = p at *
        obtain ⟨s, a, b⟩ := p
        dsimp only at *
        have hadb' : (ad.add (k * 3)).block < wr.heap.size := by rw [add_block]; omega
        have WW : Hid (IntKind.i64.wrap (s + a) = s + a) := IntWalk.i64_in _ (by omega)
        by_cases hq : s + a ≤ d
        · have HX' : Hid (batOf (Y.pi.take (k + 1)) d = n + b) := by show _ = _; rw [HX.out, HB.out, decide_eq_true hq]; rfl
          clear HX HB
          go_wp2
          go_quiet (fail)
          (try rw [WW.out])
          go_wp2
          go_roundw
          case rel => exact ⟨k + 1, n + b, by omega, by go_num, by go_num, HX'.out.symm, by omega, by exact (by repeat (first | with_reducible exact Below.refl _ _ | with_reducible assumption | with_reducible refine Below.drew ?_ | with_reducible refine below_drewN ?_ _ | (with_reducible refine Below.alloc ?_ ?_ _; rotate_left; (try simp) <;> omega) | (with_reducible refine Below.setCell ?_ ?_ _; rotate_left; (try simp) <;> omega))), by exact (by repeat (first | with_reducible assumption | with_reducible exact Bk.new _ _ _ | with_reducible refine Bk.drew ?_ | with_reducible refine Bk.drewN ?_ _ | with_reducible refine Bk.alloc ?_ _ | (with_reducible refine Bk.far ?_ ?_ _; rotate_left; (try simp) <;> omega)))⟩
          case measure => simp [intOf]; omega
        · have HX' : Hid (batOf (Y.pi.take (k + 1)) d = n) := by show _ = _; rw [HX.out, HB.out, decide_eq_false hq]; simp
          have hq' : decide (s + a ≤ d) = false := decide_eq_false hq
          have HQ := Lib.hid hq; clear hq
          clear HX HB
          go_wp2
          go_quiet (fail)
          (try rw [WW.out])
          go_wp2
          go_roundw
          case rel => exact ⟨k + 1, n, by omega, by go_num, by go_num, HX'.out.symm, by omega, by exact (by repeat (first | with_reducible exact Below.refl _ _ | with_reducible assumption | with_reducible refine Below.drew ?_ | with_reducible refine below_drewN ?_ _ | (with_reducible refine Below.alloc ?_ ?_ _; rotate_left; (try simp) <;> omega) | (with_reducible refine Below.setCell ?_ ?_ _; rotate_left; (try simp) <;> omega))), by exact (by repeat (first | with_reducible assumption | with_reducible exact Bk.new _ _ _ | with_reducible refine Bk.drew ?_ | with_reducible refine Bk.drewN ?_ _ | with_reducible refine Bk.alloc ?_ _ | (with_reducible refine Bk.far ?_ ?_ _; rotate_left; (try simp) <;> omega)))⟩
          case measure => simp [intOf]; omega
      · obtain rfl : k = Y.pi.length := by omega
        rw [List.take_length] at hn'
        clear hlt hk
        go_wp2
        go_ret
        exact int_end (hn'.out.trans HR.out.symm) hbw

end Go.Proofs.Ytjgnikmnadmheaa