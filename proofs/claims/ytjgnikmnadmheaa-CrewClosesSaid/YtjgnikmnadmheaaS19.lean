/- giornataref07.Close; giornataref07.SameYard of a yard and itself. -/
import Derived.Test.YtjgnikmnadmheaaS18
import Derived.Test.YtjgnikmnadmheaaS16
import Derived.ChangeKeysEq
import Derived.Outline
namespace Go.Proofs.Ytjgnikmnadmheaa
open Go.RowKit

theorem rClose_any (C : Array Value) (Y : Yd) (d : Int) (w : World) (hY : YardAt w w.heap.size C Y) (hs : Small Y) : Calls Try.prog 21 #[.agg C, .int .i64 d] w (YardEnd (closeY Y d) (closeE Y d) w) := by
  cases h : okY Y with
  | false =>
    have hn : chkY Y ≠ 0 := fun e => by unfold okY at h; rw [e] at h; cases h
    unfold closeY closeE
    simp only [h, Bool.false_eq_true, if_false, hn]
    exact rclose_bad C Y d w hY hs h
  | true =>
    cases hd : inB d 0 100000 with
    | false => unfold closeY closeE; simp [h, hd]; exact rclose_day C Y d w hY hs h hd
    | true => exact rclose_in C Y d w hY hs h hd

theorem info23z : (Try.prog.info? 23).map (fun i => (i.zero, i.size, i.bytes)) = some (some (.agg #[.int .i64 0, .int .i64 0]), 2, 16) := by kernel_rfl
theorem cells23' : Try.prog.cellsOf 23 = 2 := by kernel_rfl
theorem eq23s (d : Nat) (a b : Int) (w : World) : (Op.equalIn (d + 2) 23 (.agg #[.int .i64 a, .int .i64 b]) (.agg #[.int .i64 a, .int .i64 b])).run Try.prog w = .ok true w := by
  rw [run_equalIn_agg w (d + 1) 23 _ _ (by kernel_rfl) (by kernel_rfl)]
  simp [go_sem, Program.fieldsOf, Try.underlying23, Op.eqFields, part, Try.underlying3]
set_option maxRecDepth 100000 in
theorem eq24s (se : Nat → Int) (w : World) : (Op.equalIn 10000 24 (.agg (seC se).toArray) (.agg (seC se).toArray)).run Try.prog w = .ok true w := by
  obtain ⟨i0, hi0, hz0, hz1, hz2⟩ := info_parts info23z
  rw [run_equalIn_array w 9999 _ _ Try.underlying24 hi0, cells23']
  have e0 := fun a b w => eq23s 9997 a b w
  simp [seC, Op.eqItems, part, List.range_succ, go_sem, e0]
set_option maxRecDepth 100000 in
theorem eq87s (a b c : Int) (w : World) : (Op.equalIn 10000 87 (.agg #[.int .i64 a, .int .i64 b, .int .i64 c]) (.agg #[.int .i64 a, .int .i64 b, .int .i64 c])).run Try.prog w = .ok true w := by
  rw [run_equalIn_agg w 9999 87 _ _ (by kernel_rfl) (by kernel_rfl)]
  simp [go_sem, Program.fieldsOf, Try.underlying87, Op.eqFields, part, Try.underlying3]
set_option maxRecDepth 100000 in
theorem eq78s (s : ByteArray) (a b c : Int) (w : World) : (Op.equalIn 10000 78 (.agg #[.string s, .int .i64 a, .int .i64 b, .int .i64 c]) (.agg #[.string s, .int .i64 a, .int .i64 b, .int .i64 c])).run Try.prog w = .ok true w := by
  rw [run_equalIn_agg w 9999 78 _ _ (by kernel_rfl) (by kernel_rfl)]
  simp [go_sem, Program.fieldsOf, Try.underlying78, Op.eqFields, part, Try.underlying3, Try.underlying9]

theorem sameB_self (l : List Int) : sameB l l = true := by unfold sameB; simp

set_option maxRecDepth 100000 in
set_option maxHeartbeats 1000000 in
theorem sameYard_any (C D : Array Value) (Y : Yd) (w : World) (hC : YardAt w w.heap.size C Y) (hD : YardAt w w.heap.size D Y) (hm1 : Y.cl.length ≤ 1000) (hm2 : Y.pi.length ≤ 1000) (hm3 : Y.ma.length ≤ 1000) :
    Calls Try.prog 22 #[.agg C, .agg D] w (ShEnd true w) := by
  obtain ⟨A1, k1, e1, L1⟩ := hC.cl
  obtain ⟨A2, k2, e2, L2⟩ := hC.pi
  obtain ⟨A3, k3, e3, L3⟩ := hC.ma
  obtain ⟨B1, j1, f1, M1⟩ := hD.cl
  obtain ⟨B2, j2, f2, M2⟩ := hD.pi
  obtain ⟨B3, j3, f3, M3⟩ := hD.ma
  have HSI := Lib.hid (fun W (hb : Below w.heap.size w W) => sameInts_any Y.cl Y.cl A1 B1 k1 j1 W ((L1.below hb (Nat.le_refl _)).more hb.size) ((M1.below hb (Nat.le_refl _)).more hb.size) (by omega) (by omega))
  rw [sameB_self] at HSI
  have b0 : Bk ((w.alloc (.cells C 29)).alloc (.cells D 29)) w.heap.size 29 C := (Bk.new w 29 C).alloc _
  have b1 : Bk ((w.alloc (.cells C 29)).alloc (.cells D 29)) (w.heap.size + 1) 29 D := by simpa using Bk.new (w.alloc (.cells C 29)) 29 D
  have x1 := b0.cell 24 e1
  have x2 := b0.cell 25 e2
  have x3 := b0.cell 26 e3
  have x4 := b0.cell 27 hC.dry
  have y1 := b1.cell 24 f1
  have y2 := b1.cell 25 f2
  have y3 := b1.cell 26 f3
  have y4 := b1.cell 27 hD.dry
  have HS0 := Lib.hid (hC.seas b0)
  have HS1 := Lib.hid (hD.seas b1)
  have HI24 : Hid ((Try.prog.info? 24).map (·.size) = some (seC Y.se).length) := by show _ = _; rw [seC_len]; exact info24
  have E24 := eq24s Y.se
  have E87 := eq87s
  have E78 := eq78s
  have hB0 : Below w.heap.size w ((w.alloc (.cells C 29)).alloc (.cells D 29)) := by exact (by repeat (first | with_reducible exact Below.refl _ _ | with_reducible assumption | with_reducible refine Below.drew ?_ | with_reducible refine below_drewN ?_ _ | (with_reducible refine Below.alloc ?_ ?_ _; rotate_left; (try simp) <;> omega) | (with_reducible refine Below.setCell ?_ ?_ _; rotate_left; (try simp) <;> omega)))
  clear hC hD
  go_enter Try.func22, Try.ntmps22
  go_wp2_with (first | (refine wpList_load_guard (P := Try.prog) (by rfl) 24 (.tmp 7) rfl w.heap.size 0 rfl (seC Y.se) _ HS0.out Try.underlying24 rfl HI24.out ?_) | (refine wpList_load_guard (P := Try.prog) (by rfl) 24 (.tmp 9) rfl (w.heap.size + 1) 0 rfl (seC Y.se) _ HS1.out Try.underlying24 rfl HI24.out ?_) | (go_at_call 36; refine (HSI.out _ (by exact (by repeat (first | with_reducible exact Below.refl _ _ | with_reducible assumption | with_reducible refine Below.drew ?_ | with_reducible refine below_drewN ?_ _ | (with_reducible refine Below.alloc ?_ ?_ _; rotate_left; (try simp) <;> omega) | (with_reducible refine Below.setCell ?_ ?_ _; rotate_left; (try simp) <;> omega))))).mono ?_; rintro e w1 ⟨rfl, hb1⟩; have hB1 : Below w.heap.size w w1 := Below.trans (by exact (by repeat (first | with_reducible exact Below.refl _ _ | with_reducible assumption | with_reducible refine Below.drew ?_ | with_reducible refine below_drewN ?_ _ | (with_reducible refine Below.alloc ?_ ?_ _; rotate_left; (try simp) <;> omega) | (with_reducible refine Below.setCell ?_ ?_ _; rotate_left; (try simp) <;> omega)))) (hb1.mono (by simp; omega)); have g0 : Bk w1 w.heap.size 29 C := Bk.below (by exact b0) hb1 (by simp; omega); have g1 : Bk w1 (w.heap.size + 1) 29 D := Bk.below (by exact b1) hb1 (by simp); clear hb1; have z2 := g0.cell 25 e2; have z3 := g0.cell 26 e3; have t2 := g1.cell 25 f2; have t3 := g1.cell 26 f3))
  go_loopw [5] (fun y wr => ∃ k : Nat, k ≤ Y.pi.length ∧ y = .int .i64 k ∧ Below w.heap.size w wr ∧ (Bk wr w.heap.size 29 C ∧ Bk wr (w.heap.size + 1) 29 D)) (fun y _ => Y.pi.length - (intOf y).toNat)
  case atStart => exact ⟨0, by omega, rfl, hB1, g0, g1⟩
  case round =>
  clear hB1 g0 g1 z2 z3 t2 t3
  obtain ⟨k, hk, rfl, hbw, g0, g1⟩ := hrel
  have hbs := hbw.size
  have z2 := g0.cell 25 e2
  have z3 := g0.cell 26 e3
  have t2 := g1.cell 25 f2
  have t3 := g1.cell 26 f3
  by_cases hlt : k < Y.pi.length
  · obtain ⟨a1, rfl, ha1, c0, c1, c2⟩ := pit_at (L2.below hbw (Nat.le_refl _)) hlt
    obtain ⟨a2, rfl, ha2, d0, d1, d2⟩ := pit_at (M2.below hbw (Nat.le_refl _)) hlt
    generalize Y.pi[k] = p at *
    obtain ⟨s, a, b⟩ := p
    dsimp only at *
    have hkl : (k : Int) < (Y.pi.length : Int) := by omega
    have hk0 : 0 ≤ (k : Int) := by omega
    go_wp2
    go_quiet (fail)
    go_wp2
    go_roundw
    case rel => exact ⟨k + 1, by omega, by go_num, by exact (by repeat (first | with_reducible exact Below.refl _ _ | with_reducible assumption | with_reducible refine Below.drew ?_ | with_reducible refine below_drewN ?_ _ | (with_reducible refine Below.alloc ?_ ?_ _; rotate_left; (try simp) <;> omega) | (with_reducible refine Below.setCell ?_ ?_ _; rotate_left; (try simp) <;> omega))), by exact (by repeat (first | with_reducible assumption | with_reducible exact Bk.new _ _ _ | with_reducible refine Bk.drew ?_ | with_reducible refine Bk.drewN ?_ _ | with_reducible refine Bk.alloc ?_ _ | (with_reducible refine Bk.far ?_ ?_ _; rotate_left; (try simp) <;> omega))), by exact (by repeat (first | with_reducible assumption | with_reducible exact Bk.new _ _ _ | with_reducible refine Bk.drew ?_ | with_reducible refine Bk.drewN ?_ _ | with_reducible refine Bk.alloc ?_ _ | (with_reducible refine Bk.far ?_ ?_ _; rotate_left; (try simp) <;> omega)))⟩
    case measure => simp [intOf]; omega
  obtain rfl : k = Y.pi.length := by omega
  clear hlt hk
  have hB1 := hbw
  clear L2 M2
  go_wp2
  go_loopw [6] (fun y wr => ∃ k : Nat, k ≤ Y.ma.length ∧ y = .int .i64 k ∧ Below w.heap.size w wr ∧ (Bk wr w.heap.size 29 C ∧ Bk wr (w.heap.size + 1) 29 D)) (fun y _ => Y.ma.length - (intOf y).toNat)
  case atStart => exact ⟨0, by omega, rfl, hB1, g0, g1⟩
  case round =>
  clear hB1 g0 g1 z2 z3 t2 t3 hbs hbw
  obtain ⟨k, hk, rfl, hbw, g0, g1⟩ := hrel
  have hbs := hbw.size
  have z2 := g0.cell 25 e2
  have z3 := g0.cell 26 e3
  have t2 := g1.cell 25 f2
  have t3 := g1.cell 26 f3
  by_cases hlt : k < Y.ma.length
  · obtain ⟨a1, rfl, ha1, c0, c1, c2, c3⟩ := mas_at (L3.below hbw (Nat.le_refl _)) hlt
    obtain ⟨a2, rfl, ha2, d0, d1, d2, d3⟩ := mas_at (M3.below hbw (Nat.le_refl _)) hlt
    generalize Y.ma[k] = p at *
    obtain ⟨s, a, b, c⟩ := p
    dsimp only at *
    have hkl : (k : Int) < (Y.ma.length : Int) := by omega
    have hk0 : 0 ≤ (k : Int) := by omega
    go_wp2
    go_quiet (fail)
    go_wp2
    go_roundw
    case rel => exact ⟨k + 1, by omega, by go_num, by exact (by repeat (first | with_reducible exact Below.refl _ _ | with_reducible assumption | with_reducible refine Below.drew ?_ | with_reducible refine below_drewN ?_ _ | (with_reducible refine Below.alloc ?_ ?_ _; rotate_left; (try simp) <;> omega) | (with_reducible refine Below.setCell ?_ ?_ _; rotate_left; (try simp) <;> omega))), by exact (by repeat (first | with_reducible assumption | with_reducible exact Bk.new _ _ _ | with_reducible refine Bk.drew ?_ | with_reducible refine Bk.drewN ?_ _ | with_reducible refine Bk.alloc ?_ _ | (with_reducible refine Bk.far ?_ ?_ _; rotate_left; (try simp) <;> omega))), by exact (by repeat (first | with_reducible assumption | with_reducible exact Bk.new _ _ _ | with_reducible refine Bk.drew ?_ | with_reducible refine Bk.drewN ?_ _ | with_reducible refine Bk.alloc ?_ _ | (with_reducible refine Bk.far ?_ ?_ _; rotate_left; (try simp) <;> omega)))⟩
    case measure => simp [intOf]; omega
  obtain rfl : k = Y.ma.length := by omega
  clear hlt hk
  go_wp2
  go_ret
  exact sh_ret rfl hbw
end Go.Proofs.Ytjgnikmnadmheaa
