/- Duals: the value of one at a shade, and whether it stays at or below all prices. -/
import Derived.Test.YtkjceegmmhnajaaA3h
import Derived.Test.YtkjceegmmhnajaaA4a
import Derived.IntWalk
namespace Go.Proofs.Ytkjceegmmhnajaa
open Go.RowKit

structure Du where
  n0 : Int
  n1 : Int
  n2 : Int
  n3 : Int
  den : Int
abbrev Du.arr (d : Du) : Array Value := #[.int .i64 d.n0, .int .i64 d.n1, .int .i64 d.n2, .int .i64 d.n3, .int .i64 d.den]
abbrev Du.agg (d : Du) : Value := .agg d.arr
def atD (d : Du) (a b c : Int) : Int := d.n0 + (d.n1 * a + d.n2 * b + d.n3 * c)
def numOk (n : Int) : Prop := -1000000000000000 ≤ n ∧ n ≤ 1000000000000000
def okDu (d : Du) : Prop := numOk d.n0 ∧ numOk d.n1 ∧ numOk d.n2 ∧ numOk d.n3 ∧ 1 ≤ d.den ∧ d.den ≤ 1000000000000
def shIn (a b c : Int) : Prop := (0 ≤ a ∧ a ≤ 1000) ∧ (0 ≤ b ∧ b ≤ 1000) ∧ 0 ≤ c ∧ c ≤ 1000
theorem num_mul {n a : Int} (h : numOk n) (k : 0 ≤ a ∧ a ≤ 1000) : -1000000000000000000 ≤ n * a ∧ n * a ≤ 1000000000000000000 := by
  have h1 : ab 1000000000000000 n := ⟨by have := h.1; omega, by have := h.2; omega⟩
  have h2 : ab 1000 a := ⟨by omega, by omega⟩
  have := ab_mul h1 h2
  unfold ab at this
  omega
theorem atD_bound {d : Du} {a b c : Int} (h : okDu d) (k : shIn a b c) : -3001000000000000000 ≤ atD d a b c ∧ atD d a b c ≤ 3001000000000000000 := by
  have h1 := num_mul h.2.1 k.1
  have h2 := num_mul h.2.2.1 k.2.1
  have h3 := num_mul h.2.2.2.1 k.2.2
  have h0 := h.1
  unfold numOk at h0
  unfold atD
  omega
theorem den_mul {d : Du} {p : Int} (h : okDu d) (k : 0 ≤ p ∧ p ≤ 10000) : 0 ≤ d.den * p ∧ d.den * p ≤ 10000000000000000 := mul_bound _ _ h.2.2.2.2.1 h.2.2.2.2.2 k.1 k.2

set_option maxHeartbeats 1000000 in
theorem at_any (d : Du) (a b c : Int) (w : World) (h : okDu d) (k : shIn a b c) :
    Calls Try.prog 43 #[d.agg, .agg #[.int .i64 a, .int .i64 b, .int .i64 c]] w (IntEnd (atD d a b c) w) := by
  have h1 := num_mul h.2.1 k.1
  have h2 := num_mul h.2.2.1 k.2.1
  have h3 := num_mul h.2.2.2.1 k.2.2
  have h0 := h.1
  unfold numOk at h0
  obtain ⟨n0, n1, n2, n3, den⟩ := d
  dsimp only at *
  have HT := Lib.hid (fun W => times_any n1 n2 n3 a b c W (by unfold bigP; omega) (by unfold bigP; omega) (by unfold bigP; omega))
  have HV : Hid (n0 + (n1 * a + n2 * b + n3 * c) = atD ⟨n0, n1, n2, n3, den⟩ a b c) := rfl
  obtain ⟨v, hv⟩ : ∃ v, v = n1 * a + n2 * b + n3 * c := ⟨_, rfl⟩
  have hvb : -3000000000000000000 ≤ v ∧ v ≤ 3000000000000000000 := by omega
  rw [← hv] at HT HV
  have HK : Hid (∀ W, Below (w.heap.size + 1 + 1) ((w.alloc (.cells #[.int .i64 n0, .int .i64 n1, .int .i64 n2, .int .i64 n3, .int .i64 den] 44)).alloc (.cells #[.int .i64 a, .int .i64 b, .int .i64 c] 84)) W → W.cell? ⟨w.heap.size, 0, none⟩ = some (.int .i64 n0) ∧ W.cell? ⟨w.heap.size, 1, none⟩ = some (.int .i64 n1) ∧ W.cell? ⟨w.heap.size, 2, none⟩ = some (.int .i64 n2) ∧ W.cell? ⟨w.heap.size, 3, none⟩ = some (.int .i64 n3) ∧ W.cell? ⟨w.heap.size + 1, 0, none⟩ = some (.int .i64 a) ∧ W.cell? ⟨w.heap.size + 1, 1, none⟩ = some (.int .i64 b) ∧ W.cell? ⟨w.heap.size + 1, 2, none⟩ = some (.int .i64 c)) := fun W hW => by
    have k0 := ((Bk.new w 44 #[.int .i64 n0, .int .i64 n1, .int .i64 n2, .int .i64 n3, .int .i64 den]).alloc (.cells #[.int .i64 a, .int .i64 b, .int .i64 c] 84)).below hW (by omega)
    have k1 := (Bk.new (w.alloc (.cells #[.int .i64 n0, .int .i64 n1, .int .i64 n2, .int .i64 n3, .int .i64 den] 44)) 84 #[.int .i64 a, .int .i64 b, .int .i64 c]).below hW (by simp)
    rw [World.size_alloc] at k1
    exact ⟨k0.cell 0 rfl, k0.cell 1 rfl, k0.cell 2 rfl, k0.cell 3 rfl, k1.cell 0 rfl, k1.cell 1 rfl, k1.cell 2 rfl⟩
  have W1 : Hid (IntKind.i64.wrap (n0 + v) = n0 + v) := IntWalk.i64_in _ (by omega)
  clear h k h1 h2 h3 hv
  go_enter Try.func43, Try.ntmps43
  go_wp2
  go_region_held3 (fun w' => w'.cell? ⟨w.heap.size, 0, none⟩ = some (.int .i64 n0) ∧ w'.cell? ⟨w.heap.size, 1, none⟩ = some (.int .i64 n1) ∧ w'.cell? ⟨w.heap.size, 2, none⟩ = some (.int .i64 n2) ∧ w'.cell? ⟨w.heap.size, 3, none⟩ = some (.int .i64 n3) ∧ w'.cell? ⟨w.heap.size + 1, 0, none⟩ = some (.int .i64 a) ∧ w'.cell? ⟨w.heap.size + 1, 1, none⟩ = some (.int .i64 b) ∧ w'.cell? ⟨w.heap.size + 1, 2, none⟩ = some (.int .i64 c))
    (first | go_keep | (refine ⟨?_, ?_, ?_, ?_, ?_, ?_, ?_⟩ <;> first | assumption | go_keep))
    (first | (go_at_call 46; refine (HT.out _).mono ?_; rintro e w1 ⟨rfl, hb⟩; obtain ⟨q0, q1, q2, q3, q4, q5, q6⟩ := HK.out w1 (Below.trans (by repeat (first | with_reducible exact Below.refl _ _ | with_reducible assumption | with_reducible refine Below.drew ?_ | with_reducible refine below_drewN ?_ _ | (with_reducible refine Below.alloc ?_ ?_ _; rotate_left; (try simp) <;> omega) | (with_reducible refine Below.setCell ?_ ?_ _; rotate_left; (try simp) <;> omega))) (hb.mono (by first | omega | (simp; omega) | simp)))))
  all_goals
    (try rw [W1.out])
    go_wp2
    go_ret
    exact int_end HV.out (Below.trans (by repeat (first | with_reducible exact Below.refl _ _ | with_reducible assumption | with_reducible refine Below.drew ?_ | with_reducible refine below_drewN ?_ _ | (with_reducible refine Below.alloc ?_ ?_ _; rotate_left; (try simp) <;> omega) | (with_reducible refine Below.setCell ?_ ?_ _; rotate_left; (try simp) <;> omega))) (hb.mono (by first | omega | (simp; omega) | simp)))

def over (d : Du) (t : Tn) : Bool := decide (d.den * t.price < atD d t.a t.b t.c)
set_option maxHeartbeats 1000000 in
theorem below1_any (t : Tn) (d : Du) (g : Nat) (w : World) (hg : Bk w g 44 d.arr) (h : okDu d) (ht : shIn t.a t.b t.c) (hp : 0 ≤ t.price ∧ t.price ≤ 10000) :
    Calls Try.prog 78 #[t.agg, .pointer (some ⟨g, 0, none⟩)] w (ShEnd (over d t) w) := by
  have HA := Lib.hid (fun W => at_any d t.a t.b t.c W h ht)
  have hm := den_mul h hp
  have HO : Hid (over d t = decide (d.den * t.price < atD d t.a t.b t.c)) := rfl
  have hv := atD_bound h ht
  generalize atD d t.a t.b t.c = v at *
  obtain ⟨n0, n1, n2, n3, den⟩ := d
  obtain ⟨nm, a, b, c, p⟩ := t
  dsimp only at *
  have l0 := hg.lt
  have c0 := hg.cell 0 rfl
  have c1 := hg.cell 1 rfl
  have c2 := hg.cell 2 rfl
  have c3 := hg.cell 3 rfl
  have c4 := hg.cell 4 rfl
  generalize over ⟨n0, n1, n2, n3, den⟩ ⟨nm, a, b, c, p⟩ = r at *
  have HK : Hid (∀ W, Below (w.heap.size + 1) (w.alloc (.cells #[.string nm, .int .i64 a, .int .i64 b, .int .i64 c, .int .i64 p] 39)) W → W.cell? ⟨g, 0, none⟩ = some (.int .i64 n0) ∧ W.cell? ⟨g, 1, none⟩ = some (.int .i64 n1) ∧ W.cell? ⟨g, 2, none⟩ = some (.int .i64 n2) ∧ W.cell? ⟨g, 3, none⟩ = some (.int .i64 n3) ∧ W.cell? ⟨g, 4, none⟩ = some (.int .i64 den) ∧ W.cell? ⟨w.heap.size, 1, none⟩ = some (.int .i64 a) ∧ W.cell? ⟨w.heap.size, 2, none⟩ = some (.int .i64 b) ∧ W.cell? ⟨w.heap.size, 3, none⟩ = some (.int .i64 c) ∧ W.cell? ⟨w.heap.size, 4, none⟩ = some (.int .i64 p)) := fun W hW => by
    have k0 := (hg.alloc (.cells #[.string nm, .int .i64 a, .int .i64 b, .int .i64 c, .int .i64 p] 39)).below hW (by omega)
    have k1 := (Bk.new w 39 #[.string nm, .int .i64 a, .int .i64 b, .int .i64 c, .int .i64 p]).below hW (by omega)
    exact ⟨k0.cell 0 rfl, k0.cell 1 rfl, k0.cell 2 rfl, k0.cell 3 rfl, k0.cell 4 rfl, k1.cell 1 rfl, k1.cell 2 rfl, k1.cell 3 rfl, k1.cell 4 rfl⟩
  have W1 : Hid (IntKind.i64.wrap (den * p) = den * p) := IntWalk.i64_in _ (by omega)
  clear hg h ht
  go_enter Try.func78, Try.ntmps78
  go_wp2
  go_region_held3 (fun w' => w'.cell? ⟨g, 0, none⟩ = some (.int .i64 n0) ∧ w'.cell? ⟨g, 1, none⟩ = some (.int .i64 n1) ∧ w'.cell? ⟨g, 2, none⟩ = some (.int .i64 n2) ∧ w'.cell? ⟨g, 3, none⟩ = some (.int .i64 n3) ∧ w'.cell? ⟨g, 4, none⟩ = some (.int .i64 den) ∧ w'.cell? ⟨w.heap.size, 1, none⟩ = some (.int .i64 a) ∧ w'.cell? ⟨w.heap.size, 2, none⟩ = some (.int .i64 b) ∧ w'.cell? ⟨w.heap.size, 3, none⟩ = some (.int .i64 c) ∧ w'.cell? ⟨w.heap.size, 4, none⟩ = some (.int .i64 p))
    (first | go_keep | (refine ⟨?_, ?_, ?_, ?_, ?_, ?_, ?_, ?_, ?_⟩ <;> first | assumption | go_keep))
    (first | (go_at_call 43; refine (HA.out _).mono ?_; rintro e w1 ⟨rfl, hb⟩; obtain ⟨q0, q1, q2, q3, q4, q5, q6, q7, q8⟩ := HK.out w1 (Below.trans (by repeat (first | with_reducible exact Below.refl _ _ | with_reducible assumption | with_reducible refine Below.drew ?_ | with_reducible refine below_drewN ?_ _ | (with_reducible refine Below.alloc ?_ ?_ _; rotate_left; (try simp) <;> omega) | (with_reducible refine Below.setCell ?_ ?_ _; rotate_left; (try simp) <;> omega))) (hb.mono (by first | omega | (simp; omega) | simp)))))
  all_goals
    (try rw [W1.out])
    go_wp2
    go_ret
    exact sh_ret (by rw [HO.out]) (Below.trans (by repeat (first | with_reducible exact Below.refl _ _ | with_reducible assumption | with_reducible refine Below.drew ?_ | with_reducible refine below_drewN ?_ _ | (with_reducible refine Below.alloc ?_ ?_ _; rotate_left; (try simp) <;> omega) | (with_reducible refine Below.setCell ?_ ?_ _; rotate_left; (try simp) <;> omega))) (hb.mono (by first | omega | (simp; omega) | simp)))

set_option maxHeartbeats 400000 in
theorem idxT78 (p : Tn → Bool) (l : List Tn) (A : Option Addr) (c : Nat) (w : World) (g : Nat) (hl : Lies w w.heap.size A (tintsC l)) (hm : l.length ≤ 1000)
    (hp : Hid (∀ t ∈ l, ∀ W : World, Below w.heap.size w W → Calls Try.prog 78 (#[t.agg] ++ #[.pointer (some ⟨g, 0, none⟩)]) W (ShEnd (p t) W))) :
    Calls Try.prog 79 #[.slice A l.length c, .func (.func 78) #[] #[.pointer (some ⟨g, 0, none⟩)]] w fun e w' => e = .returned (.int .i64 (idxL p l)) ∧ Below w.heap.size w w' := by
  go_enter Try.func79, Try.ntmps79
  go_wp2
  go_loopw [8] (fun y wr => ∃ k : Nat, k ≤ l.length ∧ y = .int .i64 k ∧ Hid (∀ j (hj : j < k) (h' : j < l.length), p l[j] = false) ∧ Below w.heap.size w wr) (fun y _ => l.length - (intOf y).toNat)
  case atStart => exact ⟨0, by omega, rfl, fun j hj => absurd hj (by omega), Below.refl _ _⟩
  case round =>
    obtain ⟨k, hk, rfl, hg, hbw⟩ := hrel
    have hbs := hbw.size
    by_cases hlt : k < l.length
    · obtain ⟨ad, rfl, _, c0, c1, c2, c3, c4⟩ := tint_at (hl.below hbw (Nat.le_refl _)) hlt
      have HC := Lib.hid (hp.out l[k] (List.getElem_mem hlt))
      clear hl
      by_cases h0 : p l[k] = true
      · have H : Hid (idxL p l = (k : Int)) := by
          have := idxL_drop p l k hk hg.out (.inr ⟨hlt, h0⟩)
          rw [if_pos hlt] at this; exact this
        have H0 := Lib.hid h0; clear h0
        go_wp2_with (go_at_call 78; refine (HC.out _ (by exact (by repeat (first | with_reducible exact Below.refl _ _ | with_reducible assumption | with_reducible refine Below.drew ?_ | with_reducible refine below_drewN ?_ _ | (with_reducible refine Below.alloc ?_ ?_ _; rotate_left; (try simp) <;> omega) | (with_reducible refine Below.setCell ?_ ?_ _; rotate_left; (try simp) <;> omega))))).mono ?_; rintro e w1 ⟨rfl, hb⟩; rw [H0.out])
        go_ret
        exact ⟨ret_int H.out.symm, hbw.trans (hb.mono (by omega))⟩
      · have h0' : p l[k] = false := by simpa using h0
        have H : Hid (∀ j (hj : j < k + 1) (h' : j < l.length), p l[j] = false) := fun j hj h' => by
          by_cases e : j = k
          · subst e; exact h0'
          · exact hg.out j (by omega) h'
        have H0 := Lib.hid h0'; clear h0 h0'
        go_wp2_with (go_at_call 78; refine (HC.out _ (by exact (by repeat (first | with_reducible exact Below.refl _ _ | with_reducible assumption | with_reducible refine Below.drew ?_ | with_reducible refine below_drewN ?_ _ | (with_reducible refine Below.alloc ?_ ?_ _; rotate_left; (try simp) <;> omega) | (with_reducible refine Below.setCell ?_ ?_ _; rotate_left; (try simp) <;> omega))))).mono ?_; rintro e w1 ⟨rfl, hb⟩; rw [H0.out])
        go_roundw
        case rel => exact ⟨k + 1, by omega, by go_num, H, hbw.trans (hb.mono (by omega))⟩
        case measure => simp [intOf]; omega
    · obtain rfl : k = l.length := by omega
      have H : Hid (idxL p l = -1) := by
        have := idxL_drop p l _ hk hg.out (.inl rfl)
        rw [if_neg (by omega)] at this; exact this
      go_wp2
      go_ret
      exact ⟨ret_int H.out.symm, hbw⟩
set_option maxHeartbeats 400000 in
theorem anyT78 (p : Tn → Bool) (l : List Tn) (A : Option Addr) (c : Nat) (w : World) (g : Nat) (hl : Lies w w.heap.size A (tintsC l)) (hm : l.length ≤ 1000)
    (hp : Hid (∀ t ∈ l, ∀ W : World, Below w.heap.size w W → Calls Try.prog 78 (#[t.agg] ++ #[.pointer (some ⟨g, 0, none⟩)]) W (ShEnd (p t) W))) :
    Calls Try.prog 47 #[.slice A l.length c, .func (.func 78) #[] #[.pointer (some ⟨g, 0, none⟩)]] w (ShEnd (l.any p) w) := by
  have HE := Lib.hid (idxL_dec p l)
  go_enter Try.func47, Try.ntmps47
  go_wp2_with (go_at_call 79; refine (idxT78 p l _ _ _ g  hl hm hp).mono ?_; rintro e w1 ⟨rfl, hb⟩)
  go_ret
  exact sh_ret HE.out hb


def belowB (d : Du) (l : List Tn) : Bool := !(l.any (over d))
set_option maxHeartbeats 400000 in
theorem below_any (d : Du) (l : List Tn) (A : Option Addr) (c : Nat) (w : World) (hl : Lies w w.heap.size A (tintsC l)) (hm : l.length ≤ 1000) (h : okDu d) (ht : ∀ t ∈ l, offTint t = false) :
    Calls Try.prog 41 #[.slice A l.length c, d.agg] w (ShEnd (belowB d l) w) := by
  have HX := Lib.hid (fun (W : World) (hb : Below w.heap.size w W) (hk : Bk W w.heap.size 44 d.arr) => anyT78 (over d) l A c W w.heap.size ((hl.below hb (Nat.le_refl _)).more hb.size) hm (show Hid _ from fun t hmem W' hb' => by
    obtain ⟨_, ha, hb2, hc, hp⟩ := offTint_no (ht t hmem)
    exact below1_any t d w.heap.size W' (hk.below hb' hk.lt) h ⟨ha, hb2, hc⟩ hp))
  have HB : Hid (belowB d l = !(l.any (over d))) := rfl
  generalize belowB d l = r at *
  generalize l.any (over d) = q at *
  obtain ⟨n0, n1, n2, n3, den⟩ := d
  clear hl h ht
  go_enter Try.func41, Try.ntmps41
  go_wp2_with (go_at_call 47; refine (HX.out _ (by repeat (first | with_reducible exact Below.refl _ _ | with_reducible assumption | with_reducible refine Below.drew ?_ | with_reducible refine below_drewN ?_ _ | (with_reducible refine Below.alloc ?_ ?_ _; rotate_left; (try simp) <;> omega) | (with_reducible refine Below.setCell ?_ ?_ _; rotate_left; (try simp) <;> omega))) (Bk.new _ _ _)).mono ?_; rintro e w1 ⟨rfl, hb⟩)
  go_ret
  exact sh_ret HB.out.symm (Below.trans (by repeat (first | with_reducible exact Below.refl _ _ | with_reducible assumption | with_reducible refine Below.drew ?_ | with_reducible refine below_drewN ?_ _ | (with_reducible refine Below.alloc ?_ ?_ _; rotate_left; (try simp) <;> omega) | (with_reducible refine Below.setCell ?_ ?_ _; rotate_left; (try simp) <;> omega))) (hb.mono (by simp)))

/-! the shade of a recipe is a wanted one -/
def giveB (l : List Tn) (ps : List Pt) (x y z : Int) : Bool := ((shF l ps 0).1 == x && (shF l ps 0).2 == 1) && (((shF l ps 1).1 == y && (shF l ps 1).2 == 1) && ((shF l ps 2).1 == z && (shF l ps 2).2 == 1))
set_option maxHeartbeats 1000000 in
theorem gives_any (l : List Tn) (ps : List Pt) (x y z : Int) (At A : Option Addr) (ct c : Nat) (w : World) (hlt : Lies w w.heap.size At (tintsC l)) (hl : Lies w w.heap.size A (partsC ps)) (hm : ps.length ≤ 4) (hm2 : l.length ≤ 1000) (hn : 1 ≤ ps.length)
    (hps : goodP l.length ps) (hf : ∀ j, ∀ t ∈ l, 0 ≤ sel j t ∧ sel j t ≤ 10000) :
    Calls Try.prog 53 #[.slice At l.length ct, .agg #[.slice A ps.length c], .agg #[.int .i64 x, .int .i64 y, .int .i64 z]] w (ShEnd (giveB l ps x y z) w) := by
  have HS := Lib.hid (fun W (hb : Below w.heap.size w W) => shade_any l ps At A ct c W ((hlt.below hb (Nat.le_refl _)).more hb.size) ((hl.below hb (Nat.le_refl _)).more hb.size) hm hm2 hn hps hf)
  have HG : Hid (giveB l ps x y z = (((shF l ps 0).1 == x && (shF l ps 0).2 == 1) && (((shF l ps 1).1 == y && (shF l ps 1).2 == 1) && ((shF l ps 2).1 == z && (shF l ps 2).2 == 1)))) := rfl
  generalize giveB l ps x y z = r at *
  generalize shF l ps = F at *
  clear hlt hl hps hf
  have HK : Hid (∀ W, Below (w.heap.size + 1 + 1) ((w.alloc (.cells #[.slice A ps.length c] 25)).alloc (.cells #[.int .i64 x, .int .i64 y, .int .i64 z] 37)) W → W.cell? ⟨w.heap.size, 0, none⟩ = some (.slice A ps.length c) ∧ W.cell? ⟨w.heap.size + 1, 0, none⟩ = some (.int .i64 x) ∧ W.cell? ⟨w.heap.size + 1, 1, none⟩ = some (.int .i64 y) ∧ W.cell? ⟨w.heap.size + 1, 2, none⟩ = some (.int .i64 z)) := fun W hW => by
    have k0 := ((Bk.new w 25 #[.slice A ps.length c]).alloc (.cells #[.int .i64 x, .int .i64 y, .int .i64 z] 37)).below hW (by omega)
    have k1 := (Bk.new (w.alloc (.cells #[.slice A ps.length c] 25)) 37 #[.int .i64 x, .int .i64 y, .int .i64 z]).below hW (by simp)
    rw [World.size_alloc] at k1
    exact ⟨k0.cell 0 rfl, k1.cell 0 rfl, k1.cell 1 rfl, k1.cell 2 rfl⟩
  have E30 := fun w => eq30 (F 0).1 (F 0).2 (F 1).1 (F 1).2 (F 2).1 (F 2).2 x 1 y 1 z 1 w
  go_enter Try.func53, Try.ntmps53
  go_wp2
  go_region_held3 (fun w' => w'.cell? ⟨w.heap.size, 0, none⟩ = some (.slice A ps.length c) ∧ w'.cell? ⟨w.heap.size + 1, 0, none⟩ = some (.int .i64 x) ∧ w'.cell? ⟨w.heap.size + 1, 1, none⟩ = some (.int .i64 y) ∧ w'.cell? ⟨w.heap.size + 1, 2, none⟩ = some (.int .i64 z))
    (first | go_keep | (refine ⟨?_, ?_, ?_, ?_⟩ <;> first | assumption | go_keep))
    (first | (go_at_call 30; refine (HS.out _ (by repeat (first | with_reducible exact Below.refl _ _ | with_reducible assumption | with_reducible refine Below.drew ?_ | with_reducible refine below_drewN ?_ _ | (with_reducible refine Below.alloc ?_ ?_ _; rotate_left; (try simp) <;> omega) | (with_reducible refine Below.setCell ?_ ?_ _; rotate_left; (try simp) <;> omega)))).mono ?_; rintro e w1 ⟨rfl, hb⟩; obtain ⟨q0, q1, q2, q3⟩ := HK.out w1 (Below.trans (by repeat (first | with_reducible exact Below.refl _ _ | with_reducible assumption | with_reducible refine Below.drew ?_ | with_reducible refine below_drewN ?_ _ | (with_reducible refine Below.alloc ?_ ?_ _; rotate_left; (try simp) <;> omega) | (with_reducible refine Below.setCell ?_ ?_ _; rotate_left; (try simp) <;> omega))) (hb.mono (by first | omega | (simp; omega) | simp)))))
  all_goals
    go_wp2
    go_ret
    exact sh_ret HG.out.symm (Below.trans (by repeat (first | with_reducible exact Below.refl _ _ | with_reducible assumption | with_reducible refine Below.drew ?_ | with_reducible refine below_drewN ?_ _ | (with_reducible refine Below.alloc ?_ ?_ _; rotate_left; (try simp) <;> omega) | (with_reducible refine Below.setCell ?_ ?_ _; rotate_left; (try simp) <;> omega))) (hb.mono (by first | omega | (simp; omega) | simp)))

/-! the reference's test -/
def rgiveB (l : List Tn) (ps : List Pt) (x y z : Int) : Bool := decide (wsum (sel 0) l ps = x * wall ps) && (decide (wsum (sel 1) l ps = y * wall ps) && decide (wsum (sel 2) l ps = z * wall ps))
theorem lowest_one (s n x : Int) (hn : 1 ≤ n) : ((lowest s n).1 == x && (lowest s n).2 == 1) = decide (s = x * n) := by
  rw [Bool.eq_iff_iff, Bool.and_eq_true, beq_iff_eq, beq_iff_eq, decide_eq_true_iff]
  unfold lowest
  dsimp only
  have hg1 : ((Int.gcd s n : Nat) : Int) ∣ s := Int.gcd_dvd_left ..
  have hg2 : ((Int.gcd s n : Nat) : Int) ∣ n := Int.gcd_dvd_right ..
  have hgp : 1 ≤ ((Int.gcd s n : Nat) : Int) := gcd_pos_right s n hn
  have hrev : s = x * n → ((Int.gcd s n : Nat) : Int) = n := fun h =>
    Int.le_antisymm (Int.le_of_dvd (by omega) hg2) (Int.le_of_dvd (by omega) (Int.dvd_coe_gcd ⟨x, by rw [h, Int.mul_comm]⟩ (Int.dvd_refl n)))
  generalize ((Int.gcd s n : Nat) : Int) = g at *
  constructor
  · rintro ⟨h1, h2⟩
    obtain ⟨u, hu⟩ := hg1
    obtain ⟨v, hv⟩ := hg2
    rw [hu, Int.mul_tdiv_cancel_left _ (by omega)] at h1
    rw [hv, Int.mul_tdiv_cancel_left _ (by omega)] at h2
    rw [hu, hv, h1, h2, Int.mul_one, Int.mul_comm]
  · intro h
    rw [hrev h, h, Int.mul_tdiv_cancel _ (by omega), Int.tdiv_self (by omega)]
    exact ⟨rfl, rfl⟩
theorem give_same {l : List Tn} {ps : List Pt} {x y z : Int} (hn : 1 ≤ wall ps) : giveB l ps x y z = rgiveB l ps x y z := by
  unfold giveB rgiveB shF
  rw [lowest_one _ _ _ hn, lowest_one _ _ _ hn, lowest_one _ _ _ hn]
theorem shIn_of {x y z : Int} (h : shadeB x y z = true) : shIn x y z := by
  unfold shadeB inShade at h
  simp only [Bool.and_eq_true, decide_eq_true_iff] at h
  exact ⟨h.1.1, h.1.2, h.2⟩
end Go.Proofs.Ytkjceegmmhnajaa
