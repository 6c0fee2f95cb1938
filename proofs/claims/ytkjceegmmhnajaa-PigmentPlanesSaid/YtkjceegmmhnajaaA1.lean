import Derived.Test.YtkjceegmmhnajaaRows
import Derived.Test.YtkjceegmmhnajaaA0
import Derived.WalkKit
import Derived.WalkSpells
import Derived.WalkLawsBesides
import Derived.Lib.Hide
import Derived.Deep.QuietTactic
import Derived.BigQuiet
namespace Go.Proofs.Ytkjceegmmhnajaa
open Go.RowKit

def bigP (n : Int) : Prop := -3050000000000000000 ≤ n ∧ n ≤ 3050000000000000000

set_option maxHeartbeats 400000 in
theorem among_any (n a b : Int) (w : World) :
    Calls Try.prog 45 #[.int .i64 n, .int .i64 a, .int .i64 b] w fun e w' => e = .returned (.bool (decide (a ≤ n) && decide (n ≤ b))) ∧ w = w' := by
  by_cases h1 : a ≤ n <;> by_cases h2 : n ≤ b
  all_goals
    go_enter Try.func45, Try.ntmps45
    go_wp2
    go_ret
    simp [h1, h2]

set_option maxHeartbeats 400000 in
theorem minus_any (a b c x y z : Int) (w : World) (h1 : bigP (a - x)) (h2 : bigP (b - y)) (h3 : bigP (c - z)) :
    Calls Try.prog 75 #[.agg #[.int .i64 a, .int .i64 b, .int .i64 c], .agg #[.int .i64 x, .int .i64 y, .int .i64 z]] w fun e w' => 
      e = .returned (.agg #[.int .i64 (a - x), .int .i64 (b - y), .int .i64 (c - z)]) ∧ Below w.heap.size w w' := by
  unfold bigP at h1 h2 h3
  go_enter Try.func75, Try.ntmps75
  go_wp2
  refine bodyPost_ret (v := .agg #[.int .i64 (a - x), .int .i64 (b - y), .int .i64 (c - z)]) (by simp [results, Try.results75, go_sem]) rfl ⟨rfl, ?_⟩
  exact ((((Below.refl _ _).alloc (Nat.le_refl _) _).alloc (by simp) _).alloc (by simp; omega) _)

set_option maxHeartbeats 400000 in
theorem rminus_any (a b c x y z : Int) (w : World) (h1 : bigP (a - x)) (h2 : bigP (b - y)) (h3 : bigP (c - z)) :
    Calls Try.prog 91 #[.agg #[.int .i64 a, .int .i64 b, .int .i64 c], .agg #[.int .i64 x, .int .i64 y, .int .i64 z]] w fun e w' => 
      e = .returned (.agg #[.int .i64 (a - x), .int .i64 (b - y), .int .i64 (c - z)]) ∧ Below w.heap.size w w' := by
  unfold bigP at h1 h2 h3
  go_enter Try.func91, Try.ntmps91
  go_wp2
  refine bodyPost_ret (v := .agg #[.int .i64 (a - x), .int .i64 (b - y), .int .i64 (c - z)]) (by simp [results, Try.results91, go_sem]) rfl ⟨rfl, ?_⟩
  exact ((((Below.refl _ _).alloc (Nat.le_refl _) _).alloc (by simp) _).alloc (by simp; omega) _)

set_option maxHeartbeats 400000 in
theorem times_any (a b c x y z : Int) (w : World) (h1 : bigP (a * x)) (h2 : bigP (b * y)) (h3 : bigP (c * z)) :
    Calls Try.prog 46 #[.agg #[.int .i64 a, .int .i64 b, .int .i64 c], .agg #[.int .i64 x, .int .i64 y, .int .i64 z]] w fun e w' => 
      e = .returned (.int .i64 (a * x + b * y + c * z)) ∧ Below w.heap.size w w' := by
  unfold bigP at h1 h2 h3
  go_enter Try.func46, Try.ntmps46
  go_wp2
  go_ret
  exact ⟨rfl, ((Below.refl _ _).alloc (Nat.le_refl _) _).alloc (by simp) _⟩

set_option maxHeartbeats 400000 in
theorem dot_any (a b c x y z : Int) (w : World) (h1 : bigP (a * x)) (h2 : bigP (b * y)) (h3 : bigP (c * z)) :
    Calls Try.prog 50 #[.agg #[.int .i64 a, .int .i64 b, .int .i64 c], .agg #[.int .i64 x, .int .i64 y, .int .i64 z]] w fun e w' => 
      e = .returned (.int .i64 (a * x + b * y + c * z)) ∧ Below w.heap.size w w' := by
  unfold bigP at h1 h2 h3
  go_enter Try.func50, Try.ntmps50
  go_wp2
  go_ret
  exact ⟨rfl, ((Below.refl _ _).alloc (Nat.le_refl _) _).alloc (by simp) _⟩

set_option maxHeartbeats 400000 in
theorem cross_any (a b c x y z : Int) (w : World) (h1 : bigP (b * z)) (h2 : bigP (c * y)) (h3 : bigP (c * x)) (h4 : bigP (a * z)) (h5 : bigP (a * y)) (h6 : bigP (b * x)) :
    Calls Try.prog 82 #[.agg #[.int .i64 a, .int .i64 b, .int .i64 c], .agg #[.int .i64 x, .int .i64 y, .int .i64 z]] w fun e w' => 
      e = .returned (.agg #[.int .i64 (b * z - c * y), .int .i64 (c * x - a * z), .int .i64 (a * y - b * x)]) ∧ Below w.heap.size w w' := by
  unfold bigP at h1 h2 h3 h4 h5 h6
  go_enter Try.func82, Try.ntmps82
  go_wp2
  refine bodyPost_ret (v := .agg #[.int .i64 (b * z - c * y), .int .i64 (c * x - a * z), .int .i64 (a * y - b * x)]) (by simp [results, Try.results82, go_sem]) rfl ⟨rfl, ?_⟩
  exact ((((Below.refl _ _).alloc (Nat.le_refl _) _).alloc (by simp) _).alloc (by simp; omega) _)

set_option maxHeartbeats 400000 in
theorem rcross_any (a b c x y z : Int) (w : World) (h1 : bigP (b * z)) (h2 : bigP (c * y)) (h3 : bigP (c * x)) (h4 : bigP (a * z)) (h5 : bigP (a * y)) (h6 : bigP (b * x)) :
    Calls Try.prog 92 #[.agg #[.int .i64 a, .int .i64 b, .int .i64 c], .agg #[.int .i64 x, .int .i64 y, .int .i64 z]] w fun e w' => 
      e = .returned (.agg #[.int .i64 (b * z - c * y), .int .i64 (c * x - a * z), .int .i64 (a * y - b * x)]) ∧ Below w.heap.size w w' := by
  unfold bigP at h1 h2 h3 h4 h5 h6
  go_enter Try.func92, Try.ntmps92
  go_wp2
  refine bodyPost_ret (v := .agg #[.int .i64 (b * z - c * y), .int .i64 (c * x - a * z), .int .i64 (a * y - b * x)]) (by simp [results, Try.results92, go_sem]) rfl ⟨rfl, ?_⟩
  exact ((((Below.refl _ _).alloc (Nat.le_refl _) _).alloc (by simp) _).alloc (by simp; omega) _)

set_option maxHeartbeats 400000 in
theorem scaled_any (a b c n : Int) (w : World) (h1 : bigP (a * n)) (h2 : bigP (b * n)) (h3 : bigP (c * n)) :
    Calls Try.prog 77 #[.agg #[.int .i64 a, .int .i64 b, .int .i64 c], .int .i64 n] w fun e w' => 
      e = .returned (.agg #[.int .i64 (a * n), .int .i64 (b * n), .int .i64 (c * n)]) ∧ Below w.heap.size w w' := by
  unfold bigP at h1 h2 h3
  go_enter Try.func77, Try.ntmps77
  go_wp2
  refine bodyPost_ret (v := .agg #[.int .i64 (a * n), .int .i64 (b * n), .int .i64 (c * n)]) (by simp [results, Try.results77, go_sem]) rfl ⟨rfl, ?_⟩
  exact ((Below.refl _ _).alloc (Nat.le_refl _) _).alloc (by simp) _

set_option maxHeartbeats 400000 in
theorem isNaN_any (n : Int) (w : World) :
    Calls Try.prog 88 #[.int .i64 n] w fun e w' => e = .returned (.bool false) ∧ w = w' := by
  go_enter Try.func88, Try.ntmps88
  go_wp2
  go_ret
  simp

def cmpI (x y : Int) : Int := if x < y then -1 else if y < x then 1 else 0
set_option maxHeartbeats 400000 in
theorem compare_any (x y : Int) (w : World) :
    Calls Try.prog 71 #[.int .i64 x, .int .i64 y] w fun e w' => e = .returned (.int .i64 (cmpI x y)) ∧ w = w' := by
  by_cases h : x < y
  · go_enter Try.func71, Try.ntmps71
    go_wp2_with (go_at_call 88; refine (isNaN_any _ _).mono ?_; rintro e w' ⟨rfl, rfl⟩)
    go_ret
    simp [cmpI, h]
  · by_cases h' : y < x
    · go_enter Try.func71, Try.ntmps71
      go_wp2_with (go_at_call 88; refine (isNaN_any _ _).mono ?_; rintro e w' ⟨rfl, rfl⟩)
      go_ret
      simp [cmpI, h, h']
    · go_enter Try.func71, Try.ntmps71
      go_wp2_with (go_at_call 88; refine (isNaN_any _ _).mono ?_; rintro e w' ⟨rfl, rfl⟩)
      go_ret
      exact ⟨ret_int (by unfold cmpI; rw [if_neg (by omega), if_neg (by omega)]), rfl⟩

theorem tdiv_floor (a b : Int) (h : ¬ 0 ≤ a) (hb : 1 ≤ b) (h' : a.tmod b < 0) : a.tdiv b - 1 = a / b := by
  have h1 := Int.mul_tdiv_add_tmod a b
  have h2 := Int.lt_tmod_of_pos a (show 0 < b by omega)
  refine ((Int.ediv_emod_unique (a := a) (b := b) (r := a.tmod b + b) (q := a.tdiv b - 1) (by omega)).2 ⟨?_, by omega, by omega⟩).1.symm
  have : b * (a.tdiv b - 1) = b * a.tdiv b - b := by rw [Int.mul_sub]; omega
  omega
theorem tdiv_zero (a b : Int) (h : ¬ 0 ≤ a) (hb : 1 ≤ b) (h' : ¬ a.tmod b < 0) : a.tdiv b = a / b := by
  have h1 := Int.mul_tdiv_add_tmod a b
  have h2 := Int.tmod_nonneg b (show 0 ≤ -a by omega)
  rw [Int.neg_tmod] at h2
  refine ((Int.ediv_emod_unique (a := a) (b := b) (r := 0) (q := a.tdiv b) (by omega)).2 ⟨?_, by omega, by omega⟩).1.symm
  omega
theorem tdiv_range (a b : Int) (ha : bigP a) (hb : 1 ≤ b) : -3050000000000000000 ≤ a.tdiv b ∧ a.tdiv b ≤ 3050000000000000000 := by
  unfold bigP at ha
  have h1 := Int.natAbs_tdiv_le_natAbs a b
  omega

set_option maxHeartbeats 400000 in
theorem floor_any (a b : Int) (w : World) (ha : bigP a) (hb : 1 ≤ b) (hb2 : b ≤ 3050000000000000000) :
    Calls Try.prog 44 #[.int .i64 a, .int .i64 b] w fun e w' => e = .returned (.int .i64 (a / b)) ∧ w = w' := by
  have hr := tdiv_range a b ha hb
  unfold bigP at ha
  by_cases h : 0 ≤ a
  · have hm : 0 ≤ a % b := Int.emod_nonneg _ (by omega)
    go_enter Try.func44, Try.ntmps44
    go_wp2
    go_ret
    exact ⟨ret_int (Int.tdiv_eq_ediv_of_nonneg h), rfl⟩
  · by_cases h' : a.tmod b < 0
    · have e := tdiv_floor a b h hb h'
      obtain ⟨hr1, hr2⟩ := hr
      rw [← e]; clear e
      go_enter Try.func44, Try.ntmps44
      go_wp2
      go_ret
      exact ⟨rfl, rfl⟩
    · have e := tdiv_zero a b h hb h'
      rw [← e]; clear e
      go_enter Try.func44, Try.ntmps44
      go_wp2
      go_ret
      exact ⟨rfl, rfl⟩

theorem gcd_step (x y : Int) : Int.gcd y (x.tmod y) = Int.gcd x y := by
  unfold Int.gcd
  rw [Int.natAbs_tmod, Nat.gcd_comm, ← Nat.gcd_rec, Nat.gcd_comm]
theorem tmod_lt (x y : Int) (h : y ≠ 0) : (x.tmod y).natAbs < y.natAbs := by
  rw [Int.natAbs_tmod]; exact Nat.mod_lt _ (by omega)
theorem tmod_in (x y : Int) (h : y ≠ 0) (h1 : -3050000000000000000 ≤ y) (h2 : y ≤ 3050000000000000000) : -3050000000000000000 ≤ x.tmod y ∧ x.tmod y ≤ 3050000000000000000 := by
  have := tmod_lt x y h
  generalize x.tmod y = m at *
  omega

set_option maxHeartbeats 400000 in
theorem rgcd_any (a b : Int) (w : World) (ha : bigP a) (hb : bigP b) :
    Calls Try.prog 66 #[.int .i64 a, .int .i64 b] w fun e w' => e = .returned (.int .i64 (Int.gcd a b)) ∧ w = w' := by
  unfold bigP at ha hb
  go_enter Try.func66, Try.ntmps66
  go_wp2
  go_loop [0, 1] (fun x y => ∃ p q : Int, x = .int .i64 p ∧ y = .int .i64 q ∧ Hid (Int.gcd p q = Int.gcd a b) ∧ (-3050000000000000000 ≤ p ∧ p ≤ 3050000000000000000) ∧ (-3050000000000000000 ≤ q ∧ q ≤ 3050000000000000000)) (fun _ y => (intOf y).natAbs)
  case atStart => exact ⟨a, b, rfl, rfl, rfl, ha, hb⟩
  case round =>
    obtain ⟨p, q, rfl, rfl, hg, ⟨hp1, hp2⟩, hq1, hq2⟩ := hrel
    by_cases h : q = 0
    · subst h
      by_cases hn : p < 0
      all_goals
        go_wp2
        go_ret
        have := hg.out
        exact ⟨ret_int (by rw [← this]; simp [Int.gcd]; omega), rfl⟩
    · have hl := tmod_lt p q h
      have hs := gcd_step p q
      have hi := tmod_in p q h hq1 hq2
      have H : Hid (Int.gcd q (p.tmod q) = Int.gcd a b) := by rw [hs]; exact hg
      clear hs
      have hb : (q != 0) = true := by rw [bne_iff_ne]; exact h
      go_wp2
      go_round
      case rel => exact ⟨q, p.tmod q, rfl, rfl, H, ⟨hq1, hq2⟩, hi⟩
      case measure => exact hl

theorem gcd_pos_right (a b : Int) (hb : 1 ≤ b) : 1 ≤ (Int.gcd a b : Int) := by
  have := Int.gcd_pos_iff (a := a) (b := b)
  have h : 0 < Int.gcd a b := this.2 (.inr (by omega))
  omega
theorem ediv_gcd_le (a g : Int) (ha : bigP a) (hg : 1 ≤ g) : bigP (a.tdiv g) := tdiv_range a g ha hg

set_option maxHeartbeats 400000 in
theorem ratio_aux (a b g : Int) (w : World) (ha : bigP a) (hb : bigP b) (Hg : Hid (g = Int.gcd a b)) (hg : 1 ≤ g) :
    Calls Try.prog 34 #[.int .i64 a, .int .i64 b] w fun e w' => e = .returned (.agg #[.int .i64 (a.tdiv g), .int .i64 (b.tdiv g)]) ∧ Below w.heap.size w w' := by
  have h1 := tdiv_range a g ha hg
  have h2 := tdiv_range b g hb hg
  have hne : (g == 0) = false := by rw [beq_eq_false_iff_ne]; omega
  go_enter Try.func34, Try.ntmps34
  go_wp2_with (go_at_call 66; refine (rgcd_any _ _ _ ha hb).mono ?_; rintro e w' ⟨rfl, rfl⟩; rw [← Hg.out])
  go_region
  all_goals
    go_wp2
    refine bodyPost_ret (v := .agg #[.int .i64 (a.tdiv g), .int .i64 (b.tdiv g)]) (by simp [results, Try.results34, go_sem]) rfl ⟨rfl, ?_⟩
    exact (by repeat (first | with_reducible exact Below.refl _ _ | with_reducible assumption | with_reducible refine Below.drew ?_ | with_reducible refine below_drewN ?_ _ | (with_reducible refine Below.alloc ?_ ?_ _; rotate_left; (try simp) <;> omega) | (with_reducible refine Below.setCell ?_ ?_ _; rotate_left; (try simp) <;> omega)))
theorem ratio_any (a b : Int) (w : World) (ha : bigP a) (hb : bigP b) (hb1 : 1 ≤ b) :
    Calls Try.prog 34 #[.int .i64 a, .int .i64 b] w fun e w' => e = .returned (.agg #[.int .i64 (a.tdiv (Int.gcd a b)), .int .i64 (b.tdiv (Int.gcd a b))]) ∧ Below w.heap.size w w' :=
  ratio_aux a b _ w ha hb rfl (gcd_pos_right a b hb1)

/-- divisor: a slice of ints of the callers' own or of the arguments; only its cells are read -/
def gcdL (l : List Int) : Nat := l.foldl (fun g n => Nat.gcd g n.natAbs) 0
theorem gcdL_snoc (l : List Int) (n : Int) : gcdL (l ++ [n]) = Nat.gcd (gcdL l) n.natAbs := by simp [gcdL]

set_option maxHeartbeats 400000 in
theorem divisor_aux (l : List Int) (A : Option Addr) (c : Nat) (w : World) (hl : Lies w w.heap.size A (ints l)) (hb : ∀ n ∈ l, bigP n) (hm : l.length ≤ 1000) :
    Calls Try.prog 61 #[.slice A l.length c] w fun e w' => e = .returned (.int .i64 (gcdL l)) ∧ ∃ n, w' = w.drewN n := by
  go_enter Try.func61, Try.ntmps61
  go_wp2
  go_loopw [3, 8] (fun x y wr => ∃ (k : Nat) (g : Int), k ≤ l.length ∧ y = .int .i64 k ∧ x = .int .i64 g ∧ Hid (g.natAbs = gcdL (l.take k)) ∧ (-3050000000000000000 ≤ g ∧ g ≤ 3050000000000000000) ∧ ∃ n, wr = w.drewN n) (fun _ y _ => l.length - (intOf y).toNat)
  case atStart => exact ⟨0, 0, by omega, rfl, rfl, rfl, by omega, 0, rfl⟩
  case round =>
    obtain ⟨k, g, hk, rfl, rfl, hg, ⟨hg1, hg2⟩, n, rfl⟩ := hrel
    by_cases hlt : k < l.length
    · obtain ⟨ad, u, rfl, _, hu, hcell⟩ := hl.at_ (k := k) (by simpa [ints] using hlt)
      obtain ⟨v, hv⟩ : ∃ v, l[k]? = some v := ⟨_, List.getElem?_eq_getElem hlt⟩
      have hbv := hb v (List.mem_of_getElem? hv)
      obtain rfl : u = .int .i64 v := by simp [ints, hv] at hu; exact hu.symm
      have H0 : Hid (gcdL (l.take (k + 1)) = Nat.gcd (gcdL (l.take k)) v.natAbs) := by
        rw [List.take_add_one, hv]; exact gcdL_snoc _ _
      clear hu hb hl
      have Hv := Lib.hid hv; clear hv
      obtain ⟨hb1, hb2⟩ := hbv
      go_wp2
      go_loopw [3, 5] (fun x y wr => ∃ p q : Int, x = .int .i64 p ∧ y = .int .i64 q ∧ Hid (Int.gcd p q = gcdL (l.take (k + 1))) ∧ (-3050000000000000000 ≤ p ∧ p ≤ 3050000000000000000) ∧ (-3050000000000000000 ≤ q ∧ q ≤ 3050000000000000000) ∧ ∃ n, wr = w.drewN n) (fun _ y _ => (intOf y).natAbs)
      case atStart => exact ⟨g, v, rfl, rfl, by rw [H0.out, ← hg.out]; rfl, ⟨hg1, hg2⟩, ⟨hb1, hb2⟩, n, rfl⟩
      case round =>
        obtain ⟨p, q, rfl, rfl, hgg, ⟨hp1, hp2⟩, ⟨hq1, hq2⟩, n', rfl⟩ := hrel
        by_cases h : q = 0
        · subst h
          have H : Hid (p.natAbs = gcdL (l.take (k + 1))) := by have e := hgg.out; rw [Int.gcd_zero_right] at e; exact e
          clear hgg
          go_wp2
          go_roundw
          case rel => exact ⟨k + 1, p, by omega, by go_num, rfl, H, ⟨hp1, hp2⟩, _, rfl⟩
          case measure => simp [intOf]; omega
        · have hl := tmod_lt p q h
          have hi := tmod_in p q h hq1 hq2
          have H : Hid (Int.gcd q (p.tmod q) = gcdL (l.take (k + 1))) := by rw [gcd_step p q]; exact hgg
          clear hgg
          have hb : (q != 0) = true := by rw [bne_iff_ne]; exact h
          have hb' : (q == 0) = false := by rw [beq_eq_false_iff_ne]; exact h
          go_wp2
          go_region
          all_goals
            go_wp2
            go_roundw
            case rel => exact ⟨q, p.tmod q, rfl, rfl, H, ⟨hq1, hq2⟩, hi, n' + 1, rfl⟩
            case measure => exact hl
    · obtain rfl : k = l.length := by omega
      rw [List.take_length] at hg
      go_wp2
      all_goals
        go_ret
        exact ⟨ret_int (by rw [← hg.out]; omega), n, rfl⟩

def fracV (f : Int × Int) : Value := .agg #[.int .i64 f.1, .int .i64 f.2]
/-- pigment's 'fraction': signs as Go's -/
def pfrac (a b : Int) : Int × Int := let d : Int := gcdL [a, b]; if b < 0 then (a.tdiv (-d), b.tdiv (-d)) else (a.tdiv d, b.tdiv d)

set_option maxHeartbeats 400000 in
theorem fraction_aux (a b d : Int) (w : World) (ha : bigP a) (hb : bigP b) (Hd : Hid (d = gcdL [a, b])) (hd : 1 ≤ d) (hd2 : d ≤ 3050000000000000000) :
    Calls Try.prog 42 #[.int .i64 a, .int .i64 b] w fun e w' => e = .returned (if b < 0 then .agg #[.int .i64 (a.tdiv (-d)), .int .i64 (b.tdiv (-d))] else .agg #[.int .i64 (a.tdiv d), .int .i64 (b.tdiv d)]) ∧ Below w.heap.size w w' := by
  have h1 := tdiv_range a d ha hd
  have h2 := tdiv_range b d hb hd
  have h3 : -3050000000000000000 ≤ a.tdiv (-d) ∧ a.tdiv (-d) ≤ 3050000000000000000 := by rw [Int.tdiv_neg]; omega
  have h4 : -3050000000000000000 ≤ b.tdiv (-d) ∧ b.tdiv (-d) ≤ 3050000000000000000 := by rw [Int.tdiv_neg]; omega
  have hne : (d == 0) = false := by rw [beq_eq_false_iff_ne]; omega
  have hne' : (-d == 0) = false := by rw [beq_eq_false_iff_ne]; omega
  have hD : ∀ w1 : World, Lies w1 w1.heap.size (some ⟨w.heap.size + 1, 0, none⟩) (ints [a, b]) → Calls Try.prog 61 #[.slice (some ⟨w.heap.size + 1, 0, none⟩) 2 2] w1 fun e w' => e = .returned (.int .i64 d) ∧ ∃ n, w' = w1.drewN n := by
    intro w1 hw1
    have := divisor_aux [a, b] _ 2 w1 hw1 (by intro n hn; simp at hn; rcases hn with rfl | rfl <;> assumption) (by simp)
    rw [Hd.out]; exact this
  have HD := Lib.hid hD; clear hD
  have HL := Lib.hid (Lies.new (w.alloc (Obj.cells #[.int .i64 0, .int .i64 0] 29)) #[.int .i64 a, .int .i64 b] 3 (B := w.heap.size + 1 + 1) (by simp))
  by_cases hs : b < 0
  · rw [if_pos hs]
    go_enter Try.func42, Try.ntmps42
    go_wp2_with (go_at_call 61; refine (HD.out _ (by simpa [ints] using HL.out)).mono ?_; rintro e w' ⟨rfl, n, rfl⟩)
    go_region
    all_goals
      go_wp2
      refine bodyPost_ret (v := .agg #[.int .i64 (a.tdiv (-d)), .int .i64 (b.tdiv (-d))]) (by simp [results, Try.results42, go_sem]) rfl ⟨rfl, ?_⟩
      exact (by repeat (first | with_reducible exact Below.refl _ _ | with_reducible assumption | with_reducible refine Below.drew ?_ | with_reducible refine below_drewN ?_ _ | (with_reducible refine Below.alloc ?_ ?_ _; rotate_left; (try simp) <;> omega) | (with_reducible refine Below.setCell ?_ ?_ _; rotate_left; (try simp) <;> omega)))
  · rw [if_neg hs]
    go_enter Try.func42, Try.ntmps42
    go_wp2_with (go_at_call 61; refine (HD.out _ (by simpa [ints] using HL.out)).mono ?_; rintro e w' ⟨rfl, n, rfl⟩)
    go_region
    all_goals
      go_wp2
      refine bodyPost_ret (v := .agg #[.int .i64 (a.tdiv d), .int .i64 (b.tdiv d)]) (by simp [results, Try.results42, go_sem]) rfl ⟨rfl, ?_⟩
      exact (by repeat (first | with_reducible exact Below.refl _ _ | with_reducible assumption | with_reducible refine Below.drew ?_ | with_reducible refine below_drewN ?_ _ | (with_reducible refine Below.alloc ?_ ?_ _; rotate_left; (try simp) <;> omega) | (with_reducible refine Below.setCell ?_ ?_ _; rotate_left; (try simp) <;> omega)))

end Go.Proofs.Ytkjceegmmhnajaa
