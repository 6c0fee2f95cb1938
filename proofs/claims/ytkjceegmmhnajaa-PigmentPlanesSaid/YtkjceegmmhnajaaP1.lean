/- A plane: whether a tint lies beyond it, and whether one of them does. -/
import Derived.Test.YtkjceegmmhnajaaD1
namespace Go.Proofs.Ytkjceegmmhnajaa
open Go.RowKit

structure Pl where
  n1 : Int
  n2 : Int
  n3 : Int
  c : Int
abbrev Pl.arr (p : Pl) : Array Value := #[.int .i64 p.n1, .int .i64 p.n2, .int .i64 p.n3, .int .i64 p.c]
abbrev Pl.agg (p : Pl) : Value := .agg p.arr
def onP (p : Pl) (a b c : Int) : Int := p.n1 * a + p.n2 * b + p.n3 * c
def norP (n : Int) : Prop := -1000000000000 ≤ n ∧ n ≤ 1000000000000
def okPl (p : Pl) : Prop := norP p.n1 ∧ norP p.n2 ∧ norP p.n3 ∧ -10000000000000000 ≤ p.c ∧ p.c ≤ 10000000000000000
theorem nor_mul {n a : Int} (h : norP n) (k : 0 ≤ a ∧ a ≤ 1000) : bigP (n * a) := by
  have h1 : ab 1000000000000 n := ⟨by have := h.1; omega, by have := h.2; omega⟩
  have h2 : ab 1000 a := ⟨by omega, by omega⟩
  exact ab_big (ab_mul h1 h2) (by omega)
theorem onP_any {p : Pl} {a b c : Int} (h : okPl p) (k : shIn a b c) (w : World) : Calls Try.prog 46 #[.agg #[.int .i64 p.n1, .int .i64 p.n2, .int .i64 p.n3], .agg #[.int .i64 a, .int .i64 b, .int .i64 c]] w (IntEnd (onP p a b c) w) :=
  times_any p.n1 p.n2 p.n3 a b c w (nor_mul h.1 k.1) (nor_mul h.2.1 k.2.1) (nor_mul h.2.2.1 k.2.2)
theorem ronP_any {p : Pl} {a b c : Int} (h : okPl p) (k : shIn a b c) (w : World) : Calls Try.prog 50 #[.agg #[.int .i64 p.n1, .int .i64 p.n2, .int .i64 p.n3], .agg #[.int .i64 a, .int .i64 b, .int .i64 c]] w (IntEnd (onP p a b c) w) :=
  dot_any p.n1 p.n2 p.n3 a b c w (nor_mul h.1 k.1) (nor_mul h.2.1 k.2.1) (nor_mul h.2.2.1 k.2.2)
def beyP (p : Pl) (t : Tn) : Bool := decide (p.c < onP p t.a t.b t.c)

set_option maxHeartbeats 1000000 in
theorem bey1_any (t : Tn) (p : Pl) (g h : Nat) (w : World) (hg : Bk w g 84 #[.int .i64 p.n1, .int .i64 p.n2, .int .i64 p.n3]) (hh : Bk w h 51 p.arr) (ho : okPl p) (ht : shIn t.a t.b t.c) :
    Calls Try.prog 48 #[t.agg, .pointer (some ⟨g, 0, none⟩), .pointer (some ⟨h, 0, none⟩)] w (ShEnd (beyP p t) w) := by
  have HA := Lib.hid (fun W => onP_any (a := t.a) (b := t.b) (c := t.c) ho ht W)
  have HO : Hid (beyP p t = decide (p.c < onP p t.a t.b t.c)) := rfl
  generalize onP p t.a t.b t.c = v at *
  obtain ⟨n1, n2, n3, pc⟩ := p
  obtain ⟨nm, a, b, c, pr⟩ := t
  dsimp only at *
  have l0 := hg.lt
  have c0 := hg.cell 0 rfl
  have c1 := hg.cell 1 rfl
  have c2 := hg.cell 2 rfl
  have l1 := hh.lt
  have c3 := hh.cell 3 rfl
  generalize beyP ⟨n1, n2, n3, pc⟩ ⟨nm, a, b, c, pr⟩ = r at *
  have HK : Hid (∀ W, Below (w.heap.size + 1) (w.alloc (.cells #[.string nm, .int .i64 a, .int .i64 b, .int .i64 c, .int .i64 pr] 39)) W → W.cell? ⟨g, 0, none⟩ = some (.int .i64 n1) ∧ W.cell? ⟨g, 1, none⟩ = some (.int .i64 n2) ∧ W.cell? ⟨g, 2, none⟩ = some (.int .i64 n3) ∧ W.cell? ⟨h, 3, none⟩ = some (.int .i64 pc) ∧ W.cell? ⟨w.heap.size, 1, none⟩ = some (.int .i64 a) ∧ W.cell? ⟨w.heap.size, 2, none⟩ = some (.int .i64 b) ∧ W.cell? ⟨w.heap.size, 3, none⟩ = some (.int .i64 c)) := fun W hW => by
    have k0 := (hg.alloc (.cells #[.string nm, .int .i64 a, .int .i64 b, .int .i64 c, .int .i64 pr] 39)).below hW (by omega)
    have k2 := (hh.alloc (.cells #[.string nm, .int .i64 a, .int .i64 b, .int .i64 c, .int .i64 pr] 39)).below hW (by omega)
    have k1 := (Bk.new w 39 #[.string nm, .int .i64 a, .int .i64 b, .int .i64 c, .int .i64 pr]).below hW (by omega)
    exact ⟨k0.cell 0 rfl, k0.cell 1 rfl, k0.cell 2 rfl, k2.cell 3 rfl, k1.cell 1 rfl, k1.cell 2 rfl, k1.cell 3 rfl⟩
  clear hg hh ho ht
  go_enter Try.func48, Try.ntmps48
  go_wp2
  go_region_held3 (fun w' => w'.cell? ⟨g, 0, none⟩ = some (.int .i64 n1) ∧ w'.cell? ⟨g, 1, none⟩ = some (.int .i64 n2) ∧ w'.cell? ⟨g, 2, none⟩ = some (.int .i64 n3) ∧ w'.cell? ⟨h, 3, none⟩ = some (.int .i64 pc) ∧ w'.cell? ⟨w.heap.size, 1, none⟩ = some (.int .i64 a) ∧ w'.cell? ⟨w.heap.size, 2, none⟩ = some (.int .i64 b) ∧ w'.cell? ⟨w.heap.size, 3, none⟩ = some (.int .i64 c))
    (first | go_keep | (refine ⟨?_, ?_, ?_, ?_, ?_, ?_, ?_⟩ <;> first | assumption | go_keep))
    (first | (go_at_call 46; refine (HA.out _).mono ?_; rintro e w1 ⟨rfl, hb⟩; obtain ⟨q0, q1, q2, q3, q4, q5, q6⟩ := HK.out w1 (Below.trans (by repeat (first | with_reducible exact Below.refl _ _ | with_reducible assumption | with_reducible refine Below.drew ?_ | with_reducible refine below_drewN ?_ _ | (with_reducible refine Below.alloc ?_ ?_ _; rotate_left; (try simp) <;> omega) | (with_reducible refine Below.setCell ?_ ?_ _; rotate_left; (try simp) <;> omega))) (hb.mono (by first | omega | (simp; omega) | simp)))))
  all_goals
    go_wp2
    go_ret
    exact sh_ret (by rw [HO.out]) (Below.trans (by repeat (first | with_reducible exact Below.refl _ _ | with_reducible assumption | with_reducible refine Below.drew ?_ | with_reducible refine below_drewN ?_ _ | (with_reducible refine Below.alloc ?_ ?_ _; rotate_left; (try simp) <;> omega) | (with_reducible refine Below.setCell ?_ ?_ _; rotate_left; (try simp) <;> omega))) (hb.mono (by first | omega | (simp; omega) | simp)))

set_option maxHeartbeats 400000 in
theorem idxT48 (p : Tn → Bool) (l : List Tn) (A : Option Addr) (c : Nat) (w : World) (g h : Nat) (hl : Lies w w.heap.size A (tintsC l)) (hm : l.length ≤ 1000)
    (hp : Hid (∀ t ∈ l, ∀ W : World, Below w.heap.size w W → Calls Try.prog 48 (#[t.agg] ++ #[.pointer (some ⟨g, 0, none⟩), .pointer (some ⟨h, 0, none⟩)]) W (ShEnd (p t) W))) :
    Calls Try.prog 79 #[.slice A l.length c, .func (.func 48) #[] #[.pointer (some ⟨g, 0, none⟩), .pointer (some ⟨h, 0, none⟩)]] w fun e w' => e = .returned (.int .i64 (idxL p l)) ∧ Below w.heap.size w w' := by
  go_enter Try.func79, Try.ntmps79
  go_wp2
  go_loopw [8] (fun y wr => ∃ k : Nat, k ≤ l.length ∧ y = .int .i64 k ∧ Hid (∀ j (hj : j < k) (h' : j < l.length), p l[j] = false) ∧ Below w.heap.size w wr) (fun y _ => l.length - (intOf y).toNat)
  case atStart => exact ⟨0, by omega, rfl, fun j hj => absurd hj (by omega), Below.refl _ _⟩
  case round =>
    obtain ⟨k, hk, rfl, hg, hbw⟩ := hrel
    have hbs := hbw.size
    by_cases hlt : k < l.length
    · obtain ⟨ad, rfl, _, c0, c1, c2, c3, c4⟩ := tint_at (hl.below hbw (Nat.le_refl _)) hlt
      have HC := Lib.hid (hp.out l[k] (List.getElem_mem hlt))
      clear hl
      by_cases h0 : p l[k] = true
      · have H : Hid (idxL p l = (k : Int)) := by
          have := idxL_drop p l k hk hg.out (.inr ⟨hlt, h0⟩)
          rw [if_pos hlt] at this; exact this
        have H0 := Lib.hid h0; clear h0
        go_wp2_with (go_at_call 48; refine (HC.out _ (by exact (by repeat (first | with_reducible exact Below.refl _ _ | with_reducible assumption | with_reducible refine Below.drew ?_ | with_reducible refine below_drewN ?_ _ | (with_reducible refine Below.alloc ?_ ?_ _; rotate_left; (try simp) <;> omega) | (with_reducible refine Below.setCell ?_ ?_ _; rotate_left; (try simp) <;> omega))))).mono ?_; rintro e w1 ⟨rfl, hb⟩; rw [H0.out])
        go_ret
        exact ⟨ret_int H.out.symm, hbw.trans (hb.mono (by omega))⟩
      · have h0' : p l[k] = false := by simpa using h0
        have H : Hid (∀ j (hj : j < k + 1) (h' : j < l.length), p l[j] = false) := fun j hj h' => by
          by_cases e : j = k
          · subst e; exact h0'
          · exact hg.out j (by omega) h'
        have H0 := Lib.hid h0'; clear h0 h0'
        go_wp2_with (go_at_call 48; refine (HC.out _ (by exact (by repeat (first | with_reducible exact Below.refl _ _ | with_reducible assumption | with_reducible refine Below.drew ?_ | with_reducible refine below_drewN ?_ _ | (with_reducible refine Below.alloc ?_ ?_ _; rotate_left; (try simp) <;> omega) | (with_reducible refine Below.setCell ?_ ?_ _; rotate_left; (try simp) <;> omega))))).mono ?_; rintro e w1 ⟨rfl, hb⟩; rw [H0.out])
        go_roundw
        case rel => exact ⟨k + 1, by omega, by go_num, H, hbw.trans (hb.mono (by omega))⟩
        case measure => simp [intOf]; omega
    · obtain rfl : k = l.length := by omega
      have H : Hid (idxL p l = -1) := by
        have := idxL_drop p l _ hk hg.out (.inl rfl)
        rw [if_neg (by omega)] at this; exact this
      go_wp2
      go_ret
      exact ⟨ret_int H.out.symm, hbw⟩
set_option maxHeartbeats 400000 in
theorem anyT48 (p : Tn → Bool) (l : List Tn) (A : Option Addr) (c : Nat) (w : World) (g h : Nat) (hl : Lies w w.heap.size A (tintsC l)) (hm : l.length ≤ 1000)
    (hp : Hid (∀ t ∈ l, ∀ W : World, Below w.heap.size w W → Calls Try.prog 48 (#[t.agg] ++ #[.pointer (some ⟨g, 0, none⟩), .pointer (some ⟨h, 0, none⟩)]) W (ShEnd (p t) W))) :
    Calls Try.prog 47 #[.slice A l.length c, .func (.func 48) #[] #[.pointer (some ⟨g, 0, none⟩), .pointer (some ⟨h, 0, none⟩)]] w (ShEnd (l.any p) w) := by
  have HE := Lib.hid (idxL_dec p l)
  go_enter Try.func47, Try.ntmps47
  go_wp2_with (go_at_call 79; refine (idxT48 p l _ _ _ g h  hl hm hp).mono ?_; rintro e w1 ⟨rfl, hb⟩)
  go_ret
  exact sh_ret HE.out hb


/-- what CheckPlane answers -/
def norB (n : Int) : Bool := decide (-1000000000000 ≤ n) && decide (n ≤ 1000000000000)
def asideB (c : Int) : Bool := decide (-10000000000000000 ≤ c) && decide (c ≤ 10000000000000000)
theorem norB_iff {n : Int} : norB n = true ↔ norP n := by unfold norB norP; rw [Bool.and_eq_true, decide_eq_true_iff, decide_eq_true_iff]
theorem asideB_iff {n : Int} : asideB n = true ↔ -10000000000000000 ≤ n ∧ n ≤ 10000000000000000 := by unfold asideB; rw [Bool.and_eq_true, decide_eq_true_iff, decide_eq_true_iff]
def planeB (p : Pl) : Bool := asideB p.c && (norB p.n1 && (norB p.n2 && norB p.n3))
theorem planeB_ok {p : Pl} (h : planeB p = true) : okPl p := by
  unfold planeB at h
  simp only [Bool.and_eq_true, norB_iff, asideB_iff] at h
  exact ⟨h.2.1, h.2.2.1, h.2.2.2, h.1.1, h.1.2⟩
def cpB (l : List Tn) (x y z : Int) (p : Pl) : Bool := decide (chkW l x y z = 0) && (planeB p && (decide (p.c < onP p x y z) && !(l.any (beyP p))))

/-- the two boxes of the arguments -/
def B2 (w : World) (b : Nat) (x y z : Int) (p : Pl) : Prop := Bk w b 37 #[.int .i64 x, .int .i64 y, .int .i64 z] ∧ Bk w (b + 1) 51 p.arr
section
variable {w w' : World} {b : Nat} {x y z : Int} {p : Pl}
theorem B2.new (w : World) : B2 ((w.alloc (.cells #[.int .i64 x, .int .i64 y, .int .i64 z] 37)).alloc (.cells p.arr 51)) w.heap.size x y z p := by
  have h2 := Bk.new (w.alloc (.cells #[.int .i64 x, .int .i64 y, .int .i64 z] 37)) 51 p.arr
  rw [World.size_alloc] at h2
  exact ⟨(Bk.new w 37 _).alloc _, h2⟩
theorem B2.lt (h : B2 w b x y z p) : b + 1 < w.heap.size := h.2.lt
theorem B2.below {B : Nat} (h : B2 w b x y z p) (hb : Below B w w') (hB : b + 1 < B) : B2 w' b x y z p := ⟨h.1.below hb (by omega), h.2.below hb hB⟩
theorem B2.alloc (h : B2 w b x y z p) (o : Obj) : B2 (w.alloc o) b x y z p := ⟨h.1.alloc o, h.2.alloc o⟩
theorem B2.facts (h : B2 w b x y z p) : (b < w.heap.size ∧ b + 1 < w.heap.size) ∧ (w.cell? ⟨b, 0, none⟩ = some (.int .i64 x) ∧ w.cell? ⟨b, 1, none⟩ = some (.int .i64 y) ∧ w.cell? ⟨b, 2, none⟩ = some (.int .i64 z)) ∧
    w.cell? ⟨b + 1, 0, none⟩ = some (.int .i64 p.n1) ∧ w.cell? ⟨b + 1, 1, none⟩ = some (.int .i64 p.n2) ∧ w.cell? ⟨b + 1, 2, none⟩ = some (.int .i64 p.n3) ∧ w.cell? ⟨b + 1, 3, none⟩ = some (.int .i64 p.c) := by
  have := h.lt
  exact ⟨⟨by omega, by omega⟩, ⟨h.1.cell 0 rfl, h.1.cell 1 rfl, h.1.cell 2 rfl⟩, h.2.cell 0 rfl, h.2.cell 1 rfl, h.2.cell 2 rfl, h.2.cell 3 rfl⟩
end
end Go.Proofs.Ytkjceegmmhnajaa
