import Derived.Test.YtkjceegmmhnajaaA3d
import Derived.BigRegion
namespace Go.Proofs.Ytkjceegmmhnajaa
open Go.RowKit

def arr3 (P Q : Nat → Int) (k : Nat) : Array Value := if k = 0 then #[.int .i64 (P 0), .int .i64 (P 1), .int .i64 (P 2)] else if k = 1 then #[.int .i64 (Q 0), .int .i64 (P 1), .int .i64 (P 2)] else if k = 2 then #[.int .i64 (Q 0), .int .i64 (Q 1), .int .i64 (P 2)] else #[.int .i64 (Q 0), .int .i64 (Q 1), .int .i64 (Q 2)]
def SumsEnd (n : Int) (S : Nat → Int) (p : Int) (w : World) (e : Ending) (w' : World) : Prop := e = .returned (.tuple #[.int .i64 n, .agg #[.int .i64 (S 0), .int .i64 (S 1), .int .i64 (S 2)], .int .i64 p]) ∧ Below w.heap.size w w'
theorem sums_end {n m p q : Int} {S T : Nat → Int} {w w' : World} (h1 : n = m) (h2 : ∀ j, S j = T j) (h3 : p = q) (hb : Below w.heap.size w w') :
    SumsEnd n S p w (.returned (.tuple #[.int .i64 m, .agg #[.int .i64 (T 0), .int .i64 (T 1), .int .i64 (T 2)], .int .i64 q])) w' := by
  subst h1; subst h3; exact ⟨by rw [h2, h2, h2], hb⟩

set_option maxRecDepth 100000 in
set_option maxHeartbeats 4000000 in
theorem sums_any (l : List Tn) (ps : List Pt) (At A : Option Addr) (ct c : Nat) (w : World) (hlt : Lies w w.heap.size At (tintsC l)) (hl : Lies w w.heap.size A (partsC ps)) (hm : ps.length ≤ 4) (hm2 : l.length ≤ 1000)
    (hps : goodP l.length ps) (hf : ∀ j, ∀ t ∈ l, 0 ≤ sel j t ∧ sel j t ≤ 10000) (hpr : ∀ t ∈ l, 0 ≤ t.price ∧ t.price ≤ 10000) :
    Calls Try.prog 33 #[.slice At l.length ct, .agg #[.slice A ps.length c]] w (SumsEnd (wall ps) (fun j => wsum (sel j) l ps) (wsum Tn.price l ps) w) := by
  have HF := Lib.hid hf; clear hf
  have HPR := Lib.hid hpr; clear hpr
  have HP := Lib.hid hps; clear hps
  go_enter Try.func33, Try.ntmps33
  go_wp2
  go_loopw [7, 9, 10, 12] (fun n pr y z wr => ∃ (k : Nat) (q p : Int) (S : Nat → Int), k ≤ ps.length ∧ n = .int .i64 q ∧ pr = .int .i64 p ∧ y = .int .i64 k ∧ Hid (p = wsum Tn.price l (ps.take k)) ∧ Hid (q = wall (ps.take k)) ∧ Hid (∀ j, S j = wsum (sel j) l (ps.take k)) ∧ (0 ≤ p ∧ p ≤ 10000000000000000 * k) ∧ (k ≤ q ∧ q ≤ 1000000000000 * k) ∧ Hid (∀ j, 0 ≤ S j ∧ S j ≤ 10000000000000000 * k)
     ∧ Below w.heap.size w wr ∧ (Bk wr w.heap.size 25 #[.slice A ps.length c] ∧ Bk wr (w.heap.size + 1) 37 #[.int .i64 0, .int .i64 0, .int .i64 0] ∧ Bk wr (w.heap.size + 1 + 1) 37 (arr3 S S 0))) (fun _ _ y _ _ => ps.length - (intOf y).toNat)
  case atStart =>
    refine ⟨0, 0, 0, fun _ => 0, by omega, rfl, rfl, rfl, rfl, rfl, fun _ => rfl, by omega, by omega, fun _ => by simp, (by repeat (first | with_reducible exact Below.refl _ _ | with_reducible assumption | with_reducible refine Below.drew ?_ | with_reducible refine below_drewN ?_ _ | (with_reducible refine Below.alloc ?_ ?_ _; rotate_left; (try simp) <;> omega) | (with_reducible refine Below.setCell ?_ ?_ _; rotate_left; (try simp) <;> omega))), ((Bk.new _ _ _).alloc _).alloc _, ?_, ?_⟩
    · simpa using (Bk.new (w.alloc (.cells #[.slice A ps.length c] 25)) 37 #[.int .i64 0, .int .i64 0, .int .i64 0]).alloc (.cells #[.int .i64 0, .int .i64 0, .int .i64 0] 37)
    · simpa [arr3] using Bk.new ((w.alloc (.cells #[.slice A ps.length c] 25)).alloc (.cells #[.int .i64 0, .int .i64 0, .int .i64 0] 37)) 37 #[.int .i64 0, .int .i64 0, .int .i64 0]
  case round =>
    obtain ⟨k, q, p, S, hk, rfl, rfl, rfl, hp1, hq1, hS1, ⟨hpb, hpb2⟩, ⟨hqb, hqb2⟩, hSb, hbw, hb0, hb1, hb2⟩ := hrel
    have hbs := hbw.size
    have l0 := hb0.lt
    have l1 := hb1.lt
    have l2 := hb2.lt
    have x0 := hb0.cell 0 rfl
    by_cases hlk : k < ps.length
    · obtain ⟨ad, rfl, hadb, c0, c1⟩ := part_at (hl.below hbw (Nat.le_refl _)) hlk
      obtain ⟨⟨ht0, htn⟩, hw1, hw2⟩ := HP.out k hlk
      obtain ⟨at_, rfl, hatb, d0, d1, d2, d3, d4⟩ := tint_at (hlt.below hbw (Nat.le_refl _)) htn
      have htI : ps[k].t < (l.length : Int) := by omega
      have hfb := HPR.out _ (List.getElem_mem htn)
      have hsb := HF.out 0 _ (List.getElem_mem htn)
      have hsb1 := HF.out 1 _ (List.getElem_mem htn)
      have hsb2 := HF.out 2 _ (List.getElem_mem htn)
      have hmb := mul_bound _ _ hw1 hw2 hfb.1 hfb.2
      have hmb0 : 0 ≤ ps[k].w * l[ps[k].t.toNat].a ∧ ps[k].w * l[ps[k].t.toNat].a ≤ 10000000000000000 := mul_bound _ _ hw1 hw2 hsb.1 hsb.2
      have hmb1 : 0 ≤ ps[k].w * l[ps[k].t.toNat].b ∧ ps[k].w * l[ps[k].t.toNat].b ≤ 10000000000000000 := mul_bound _ _ hw1 hw2 hsb1.1 hsb1.2
      have hmb2 : 0 ≤ ps[k].w * l[ps[k].t.toNat].c ∧ ps[k].w * l[ps[k].t.toNat].c ≤ 10000000000000000 := mul_bound _ _ hw1 hw2 hsb2.1 hsb2.2
      have H1 : Hid (p + ps[k].w * l[ps[k].t.toNat].price = wsum Tn.price l (ps.take (k + 1))) := by
        show _ = _
        rw [wsum_take _ l ps k hlk, tv_in _ l _ htn, hp1.out]
      have H2 : Hid (q + ps[k].w = wall (ps.take (k + 1))) := by
        show _ = _
        rw [wall_take ps k hlk, hq1.out]
      obtain ⟨T, hT⟩ : ∃ T : Nat → Int, ∀ j, T j = S j + ps[k].w * sel j l[ps[k].t.toNat] := ⟨_, fun _ => rfl⟩
      have H3 : Hid (∀ j, T j = wsum (sel j) l (ps.take (k + 1))) := fun j => by
        rw [wsum_take _ l ps k hlk, tv_in _ l _ htn, ← hS1.out j]; exact hT j
      have hadb' : (ad.add (k * 2)).block < wr.heap.size := by rw [add_block]; omega
      have hatb' : (at_.add (ps[k].t.toNat * 5)).block < wr.heap.size := by rw [add_block]; omega
      have HLT := Lib.hid hlt
      have HFk := Lib.hid (fun j => mul_bound ps[k].w (sel j l[ps[k].t.toNat]) hw1 hw2 (HF.out j _ (List.getElem_mem htn)).1 (HF.out j _ (List.getElem_mem htn)).2)
      clear hl hlt HF HP HPR hp1 hq1
      have W1 : Hid (IntKind.i64.wrap (ps[k].w * l[ps[k].t.toNat].price) = ps[k].w * l[ps[k].t.toNat].price) := IntWalk.i64_in _ (by omega)
      have W2 : Hid (IntKind.i64.wrap (p + ps[k].w * l[ps[k].t.toNat].price) = p + ps[k].w * l[ps[k].t.toNat].price) := IntWalk.i64_in _ (by omega)
      have hT0 := hT 0
      have hT1 := hT 1
      have hT2 := hT 2
      have hTb : Hid (∀ j, 0 ≤ T j ∧ T j ≤ 10000000000000000 * ((k + 1 : Nat) : Int)) := fun j => by
        have a := HFk.out j
        have b := hSb.out j
        rw [hT j]; omega
      clear HFk
      go_wp2
      go_quiet (fail)
      go_wp2
      have hTE := Lib.hid hT; clear hT hT0 hT1 hT2
      have hSE := hSb
      obtain ⟨wo, rfl⟩ : ∃ wo : World, wo = wr := ⟨_, rfl⟩
      go_loopw [12] (fun z W2 => ∃ i : Nat, i ≤ 3 ∧ z = .int .i64 i ∧ Below w.heap.size w W2 ∧ (Bk W2 w.heap.size 25 #[.slice (some ad) ps.length c] ∧ Bk W2 (w.heap.size + 1) 37 #[.int .i64 0, .int .i64 0, .int .i64 0] ∧ Bk W2 (w.heap.size + 1 + 1) 37 (arr3 S T i) ∧ Bk W2 wo.heap.size 64 #[.int .i64 ps[k].t, .int .i64 ps[k].w])) (fun z _ => 3 - (intOf z).toNat)
      case atStart => exact ⟨0, by omega, rfl, (by repeat (first | with_reducible exact Below.refl _ _ | with_reducible assumption | with_reducible refine Below.drew ?_ | with_reducible refine below_drewN ?_ _ | (with_reducible refine Below.alloc ?_ ?_ _; rotate_left; (try simp) <;> omega) | (with_reducible refine Below.setCell ?_ ?_ _; rotate_left; (try simp) <;> omega))), ((hb0.alloc _).drewN _), ((hb1.alloc _).drewN _), ((hb2.alloc _).drewN _), (Bk.new _ _ _).drewN _⟩
      case round =>
        clear c0 c1 d0 d1 d2 d3 d4 x0
        obtain ⟨i, hi, rfl, hbw2, k0, k1, k2, kp⟩ := hrel
        have p0 := kp.cell 0 rfl
        have p1 := kp.cell 1 rfl
        have x0 := k0.cell 0 rfl
        by_cases hlt3 : i < 3
        · obtain ⟨at2, e2, _, d0, d1, d2, d3, d4⟩ := tint_at (HLT.out.below hbw2 (Nat.le_refl _)) htn
          cases e2
          match i, hlt3 with
        | 0, _ =>
          have y0 : wr.cell? ⟨w.heap.size + 1 + 1, 0, none⟩ = some (.int .i64 (S 0)) := k2.cell 0 rfl
          have f0 := k2.fro 0
          obtain ⟨s0, s1⟩ := hSE.out 0
          have n1 : w.heap.size ≠ w.heap.size + 1 + 1 := by omega
          have n2 : w.heap.size + 1 ≠ w.heap.size + 1 + 1 := by omega
          have n3 : wo.heap.size ≠ w.heap.size + 1 + 1 := by omega
          have N := Lib.hid (And.intro n1 (And.intro n2 n3)); clear n1 n2 n3
          go_wp2
          go_region
          all_goals
            go_wp2
            go_roundw
            case rel => exact ⟨1, by omega, by go_num, (by repeat (first | with_reducible exact Below.refl _ _ | with_reducible assumption | with_reducible refine Below.drew ?_ | with_reducible refine below_drewN ?_ _ | (with_reducible refine Below.alloc ?_ ?_ _; rotate_left; (try simp) <;> omega) | (with_reducible refine Below.setCell ?_ ?_ _; rotate_left; (try simp) <;> omega))), (k0.far (p := ⟨_, 0, none⟩) N.out.1 _).drew, (k1.far (p := ⟨_, 0, none⟩) N.out.2.1 _).drew, by rw [← show T 0 = S 0 + ps[k].w * l[ps[k].t.toNat].a from hTE.out 0]; exact (k2.set 0 _).drew, (kp.far (p := ⟨_, 0, none⟩) N.out.2.2 _).drew⟩
            case measure => simp [intOf]
        | 1, _ =>
          have y0 : wr.cell? ⟨w.heap.size + 1 + 1, 1, none⟩ = some (.int .i64 (S 1)) := k2.cell 1 rfl
          have f0 := k2.fro 1
          obtain ⟨s0, s1⟩ := hSE.out 1
          have n1 : w.heap.size ≠ w.heap.size + 1 + 1 := by omega
          have n2 : w.heap.size + 1 ≠ w.heap.size + 1 + 1 := by omega
          have n3 : wo.heap.size ≠ w.heap.size + 1 + 1 := by omega
          have N := Lib.hid (And.intro n1 (And.intro n2 n3)); clear n1 n2 n3
          go_wp2
          go_region
          all_goals
            go_wp2
            go_roundw
            case rel => exact ⟨2, by omega, by go_num, (by repeat (first | with_reducible exact Below.refl _ _ | with_reducible assumption | with_reducible refine Below.drew ?_ | with_reducible refine below_drewN ?_ _ | (with_reducible refine Below.alloc ?_ ?_ _; rotate_left; (try simp) <;> omega) | (with_reducible refine Below.setCell ?_ ?_ _; rotate_left; (try simp) <;> omega))), (k0.far (p := ⟨_, 1, none⟩) N.out.1 _).drew, (k1.far (p := ⟨_, 1, none⟩) N.out.2.1 _).drew, by rw [← show T 1 = S 1 + ps[k].w * l[ps[k].t.toNat].b from hTE.out 1]; exact (k2.set 1 _).drew, (kp.far (p := ⟨_, 1, none⟩) N.out.2.2 _).drew⟩
            case measure => simp [intOf]
        | 2, _ =>
          have y0 : wr.cell? ⟨w.heap.size + 1 + 1, 2, none⟩ = some (.int .i64 (S 2)) := k2.cell 2 rfl
          have f0 := k2.fro 2
          obtain ⟨s0, s1⟩ := hSE.out 2
          have n1 : w.heap.size ≠ w.heap.size + 1 + 1 := by omega
          have n2 : w.heap.size + 1 ≠ w.heap.size + 1 + 1 := by omega
          have n3 : wo.heap.size ≠ w.heap.size + 1 + 1 := by omega
          have N := Lib.hid (And.intro n1 (And.intro n2 n3)); clear n1 n2 n3
          go_wp2
          go_region
          all_goals
            go_wp2
            go_roundw
            case rel => exact ⟨3, by omega, by go_num, (by repeat (first | with_reducible exact Below.refl _ _ | with_reducible assumption | with_reducible refine Below.drew ?_ | with_reducible refine below_drewN ?_ _ | (with_reducible refine Below.alloc ?_ ?_ _; rotate_left; (try simp) <;> omega) | (with_reducible refine Below.setCell ?_ ?_ _; rotate_left; (try simp) <;> omega))), (k0.far (p := ⟨_, 2, none⟩) N.out.1 _).drew, (k1.far (p := ⟨_, 2, none⟩) N.out.2.1 _).drew, by rw [← show T 2 = S 2 + ps[k].w * l[ps[k].t.toNat].c from hTE.out 2]; exact (k2.set 2 _).drew, (kp.far (p := ⟨_, 2, none⟩) N.out.2.2 _).drew⟩
            case measure => simp [intOf]
        · obtain rfl : i = 3 := by omega
          go_wp2
          go_roundw
          case rel => exact ⟨k + 1, _, _, T, by omega, rfl, rfl, by go_num, H1, H2, H3, by omega, by omega, hTb, hbw2, k0, k1, k2⟩
          case measure => simp [intOf]; omega
    · obtain rfl : k = ps.length := by omega
      rw [List.take_length] at hp1 hq1
      have H3 : Hid (∀ j, wsum (sel j) l ps = S j) := fun j => by have := hS1.out j; rw [List.take_length] at this; exact this.symm
      have y0 : wr.cell? ⟨w.heap.size + 1 + 1, 0, none⟩ = some (.int .i64 (S 0)) := hb2.cell 0 rfl
      have y1 : wr.cell? ⟨w.heap.size + 1 + 1, 1, none⟩ = some (.int .i64 (S 1)) := hb2.cell 1 rfl
      have y2 : wr.cell? ⟨w.heap.size + 1 + 1, 2, none⟩ = some (.int .i64 (S 2)) := hb2.cell 2 rfl
      have z0 := hb1.cell 0 rfl
      have z1 := hb1.cell 1 rfl
      have z2 := hb1.cell 2 rfl
      have f0 := hb1.fro 0
      have f1 := hb1.fro 1
      have f2 := hb1.fro 2
      have q : Bk _ _ _ #[.int .i64 (S 0), .int .i64 (S 1), .int .i64 (S 2)] := (((hb1.set 0 (.int .i64 (S 0))).set 1 (.int .i64 (S 1))).set 2 (.int .i64 (S 2)))
      have q0 := q.cell 0 rfl
      have q1 := q.cell 1 rfl
      have q2 := q.cell 2 rfl
      have Q := Lib.hid (And.intro q0 (And.intro q1 q2)); clear q0 q1 q2 q
      go_wp2
      go_region
      all_goals
        go_wp2
        obtain ⟨q0, q1, q2⟩ := Q.out
        refine bodyPost_ret (v := .tuple #[.int .i64 q, .agg #[.int .i64 (S 0), .int .i64 (S 1), .int .i64 (S 2)], .int .i64 p]) ?_ rfl (sums_end hq1.out.symm H3.out hp1.out.symm ?_)
        · simp [results, Try.results33, go_sem, q0, q1, q2]
        · exact (by repeat (first | with_reducible exact Below.refl _ _ | with_reducible assumption | with_reducible refine Below.drew ?_ | with_reducible refine below_drewN ?_ _ | (with_reducible refine Below.alloc ?_ ?_ _; rotate_left; (try simp) <;> omega) | (with_reducible refine Below.setCell ?_ ?_ _; rotate_left; (try simp) <;> omega)))
end Go.Proofs.Ytkjceegmmhnajaa
