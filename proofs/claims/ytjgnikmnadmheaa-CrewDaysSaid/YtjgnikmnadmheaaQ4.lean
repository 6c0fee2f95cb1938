/- Containing: masters with a bad name, tasks with too many colours, tasks' earlier tasks and colours: for all lists. -/
import Derived.Test.YtjgnikmnadmheaaQ3
namespace Go.Proofs.Ytjgnikmnadmheaa
open Go.RowKit

def idxL {α : Type} (p : α → Bool) (l : List α) : Int := match l.findIdx? p with | some i => (i : Int) | none => -1
theorem idxL_drop {α : Type} (p : α → Bool) (l : List α) (k : Nat) (hk : k ≤ l.length) (h : ∀ j (hj : j < k) (h' : j < l.length), p l[j] = false) (hp : k = l.length ∨ ∃ h : k < l.length, p l[k] = true) :
    idxL p l = if k < l.length then (k : Int) else -1 := by
  unfold idxL
  rcases hp with rfl | ⟨hlt, hp⟩
  · have : l.findIdx? p = none := by
      rw [List.findIdx?_eq_none_iff]; intro x hx
      obtain ⟨j, hj, rfl⟩ := List.getElem_of_mem hx
      exact h j hj hj
    rw [this]; simp
  · have : l.findIdx? p = some k := by
      rw [List.findIdx?_eq_some_iff_getElem]
      exact ⟨hlt, hp, fun j hj => by simpa using h j hj (by omega)⟩
    rw [this]; simp [hlt]
theorem idxL_any {α : Type} (p : α → Bool) (l : List α) : (0 ≤ idxL p l) = (l.any p = true) := by
  unfold idxL
  cases h : l.findIdx? p with
  | none => 
    have := List.findIdx?_eq_none_iff.1 h
    simp; exact fun x hx => by simpa using this x hx
  | some i =>
    obtain ⟨hi, hp, _⟩ := List.findIdx?_eq_some_iff_getElem.1 h
    simp
    exact ⟨_, List.getElem_mem hi, hp⟩
theorem idxL_dec {α : Type} (p : α → Bool) (l : List α) : decide (0 ≤ idxL p l) = l.any p := by rw [Bool.eq_iff_iff, decide_eq_true_iff, idxL_any]

/-- tasks: data, and where their lists lie -/
structure Tk where
  work : Int
  need : Int
  aA : Option Addr
  ac : Nat
  af : List Int
  cA : Option Addr
  cc : Nat
  co : List ByteArray
abbrev Tk.cells (t : Tk) : List Value := [.int .i64 t.work, .int .i64 t.need, .slice t.aA t.af.length t.ac, .slice t.cA t.co.length t.cc]
abbrev Tk.agg (t : Tk) : Value := .agg #[.int .i64 t.work, .int .i64 t.need, .slice t.aA t.af.length t.ac, .slice t.cA t.co.length t.cc]
def tasksC (l : List Tk) : List Value := l.flatMap Tk.cells
def strsC (l : List ByteArray) : List Value := l.map Value.string
structure TasksAt (w : World) (B : Nat) (A : Option Addr) (l : List Tk) : Prop where
  at_ : Lies w B A (tasksC l)
  af : ∀ t ∈ l, Lies w B t.aA (ints t.af)
  co : ∀ t ∈ l, Lies w B t.cA (strsC t.co)
theorem TasksAt.below {w w' : World} {B B' : Nat} {A : Option Addr} {l : List Tk} (h : TasksAt w B A l) (hb : Below B' w w') (hB : B ≤ B') : TasksAt w' B A l :=
  ⟨h.at_.below hb hB, fun t ht => (h.af t ht).below hb hB, fun t ht => (h.co t ht).below hb hB⟩
theorem TasksAt.more {w : World} {B B' : Nat} {A : Option Addr} {l : List Tk} (h : TasksAt w B A l) (hB : B ≤ B') : TasksAt w B' A l :=
  ⟨h.at_.more hB, fun t ht => (h.af t ht).more hB, fun t ht => (h.co t ht).more hB⟩
theorem task_at {w : World} {B : Nat} {A : Option Addr} {l : List Tk} (h : Lies w B A (tasksC l)) {k : Nat} (hk : k < l.length) :
    ∃ ad, A = some ad ∧ ad.block < B ∧ w.cell? (ad.add (k * 4)) = some (.int .i64 l[k].work) ∧ w.cell? ⟨(ad.add (k * 4)).block, (ad.add (k * 4)).off + 1, none⟩ = some (.int .i64 l[k].need) ∧ w.cell? ⟨(ad.add (k * 4)).block, (ad.add (k * 4)).off + 2, none⟩ = some (.slice l[k].aA l[k].af.length l[k].ac)
      ∧ w.cell? ⟨(ad.add (k * 4)).block, (ad.add (k * 4)).off + 3, none⟩ = some (.slice l[k].cA l[k].co.length l[k].cc) := by
  obtain ⟨ad, e, hb, hc⟩ := Lies.rec_at (f := Tk.cells) (n := 4) (fun _ => rfl) h (by omega) hk
  refine ⟨ad, e, hb, hc 0 _ rfl, ?_, ?_, ?_⟩
  · rw [← add_rec _ _ _ (by omega)]; exact hc 1 _ rfl
  · rw [← add_rec _ _ _ (by omega)]; exact hc 2 _ rfl
  · rw [← add_rec _ _ _ (by omega)]; exact hc 3 _ rfl
theorem str_at {w : World} {B : Nat} {A : Option Addr} {l : List ByteArray} (h : Lies w B A (strsC l)) {k : Nat} (hk : k < l.length) :
    ∃ ad, A = some ad ∧ ad.block < B ∧ w.cell? (ad.add k) = some (.string l[k]) := by
  obtain ⟨ad, u, e, hb, hu, hc⟩ := h.at_ (k := k) (by simpa [strsC] using hk)
  refine ⟨ad, e, hb, ?_⟩
  rw [hc]
  simp [strsC, List.getElem?_eq_getElem hk] at hu
  rw [hu]

set_option maxHeartbeats 400000 in
theorem badName_any (m : Mas) (w : World) (hs : m.name.size ≤ 100) : Calls Try.prog 64 #[m.agg] w (ShEnd (badName m) w) := by
  obtain ⟨nm, f, u, k⟩ := m
  have HB : Hid (badName ⟨nm, f, u, k⟩ = !nameB nm) := rfl
  dsimp only at *
  go_enter Try.func64, Try.ntmps64
  go_wp2_with (go_at_call 65; refine (isName_any _ _ hs).mono ?_; rintro e w' ⟨rfl, rfl⟩)
  go_ret
  exact sh_ret HB.out.symm (by repeat (first | with_reducible exact Below.refl _ _ | with_reducible assumption | with_reducible refine Below.drew ?_ | with_reducible refine below_drewN ?_ _ | (with_reducible refine Below.alloc ?_ ?_ _; rotate_left; (try simp) <;> omega) | (with_reducible refine Below.setCell ?_ ?_ _; rotate_left; (try simp) <;> omega)))
def manyC (t : Tk) : Bool := decide ((40 : Int) < t.co.length)
set_option maxHeartbeats 400000 in
theorem manyC_any (t : Tk) (w : World) (hs : t.co.length ≤ 100) : Calls Try.prog 71 #[t.agg] w (ShEnd (manyC t) w) := by
  obtain ⟨wk, nd, aA, ac, af, cA, cc, co⟩ := t
  have HB : Hid (manyC ⟨wk, nd, aA, ac, af, cA, cc, co⟩ = decide ((40 : Int) < co.length)) := rfl
  dsimp only at *
  go_enter Try.func71, Try.ntmps71
  go_wp2
  go_ret
  exact sh_ret HB.out.symm (by repeat (first | with_reducible exact Below.refl _ _ | with_reducible assumption | with_reducible refine Below.drew ?_ | with_reducible refine below_drewN ?_ _ | (with_reducible refine Below.alloc ?_ ?_ _; rotate_left; (try simp) <;> omega) | (with_reducible refine Below.setCell ?_ ?_ _; rotate_left; (try simp) <;> omega)))
def longS (s : ByteArray) : Bool := decide ((24 : Int) < s.size)
set_option maxHeartbeats 400000 in
theorem longS_any (s : ByteArray) (w : World) (hs : s.size ≤ 1000) : Calls Try.prog 75 #[.string s] w (ShEnd (longS s) w) := by
  go_enter Try.func75, Try.ntmps75
  go_wp2
  go_ret
  exact sh_ret rfl (by repeat (first | with_reducible exact Below.refl _ _ | with_reducible assumption | with_reducible refine Below.drew ?_ | with_reducible refine below_drewN ?_ _ | (with_reducible refine Below.alloc ?_ ?_ _; rotate_left; (try simp) <;> omega) | (with_reducible refine Below.setCell ?_ ?_ _; rotate_left; (try simp) <;> omega)))
def outOf (i : Nat) (x : Int) : Bool := !inB x 0 ((i : Int) - 1)
set_option maxHeartbeats 400000 in
theorem outOf_any (i : Nat) (x : Int) (b : Nat) (w : World) (hi : i ≤ 1000) (hc : w.cell? ⟨b, 0, none⟩ = some (.int .i64 i)) : Calls Try.prog 73 #[.int .i64 x, .pointer (some ⟨b, 0, none⟩)] w (ShEnd (outOf i x) w) := by
  go_enter Try.func73, Try.ntmps73
  go_wp2_with (go_at_call 66; refine (in_any _ _ _ _).mono ?_; rintro e w' ⟨rfl, rfl⟩)
  go_ret
  exact sh_ret rfl (by repeat (first | with_reducible exact Below.refl _ _ | with_reducible assumption | with_reducible refine Below.drew ?_ | with_reducible refine below_drewN ?_ _ | (with_reducible refine Below.alloc ?_ ?_ _; rotate_left; (try simp) <;> omega) | (with_reducible refine Below.setCell ?_ ?_ _; rotate_left; (try simp) <;> omega)))
set_option maxHeartbeats 400000 in
theorem idxM64 (p : Mas → Bool) (l : List Mas) (A : Option Addr) (c : Nat) (w : World)  (hl : Lies w w.heap.size A (massC l)) (hm : l.length ≤ 1000)
    (hp : Hid (∀ t ∈ l, ∀ W : World, Below w.heap.size w W → Calls Try.prog 64 (#[t.agg] ++ #[]) W (ShEnd (p t) W))) :
    Calls Try.prog 109 #[.slice A l.length c, .func (.func 64) #[] #[]] w fun e w' => e = .returned (.int .i64 (idxL p l)) ∧ Below w.heap.size w w' := by
  go_enter Try.func109, Try.ntmps109
  go_wp2
  go_loopw [8] (fun y wr => ∃ k : Nat, k ≤ l.length ∧ y = .int .i64 k ∧ Hid (∀ j (hj : j < k) (h' : j < l.length), p l[j] = false) ∧ Below w.heap.size w wr) (fun y _ => l.length - (intOf y).toNat)
  case atStart => exact ⟨0, by omega, rfl, fun j hj => absurd hj (by omega), Below.refl _ _⟩
  case round =>
    obtain ⟨k, hk, rfl, hg, hbw⟩ := hrel
    have hbs := hbw.size
    by_cases hlt : k < l.length
    · obtain ⟨ad, rfl, _, c0, c1, c2, c3⟩ := mas_at (hl.below hbw (Nat.le_refl _)) hlt
      have HC := Lib.hid (hp.out l[k] (List.getElem_mem hlt))
      clear hl
      by_cases h0 : p l[k] = true
      · have H : Hid (idxL p l = (k : Int)) := by
          have := idxL_drop p l k hk hg.out (.inr ⟨hlt, h0⟩)
          rw [if_pos hlt] at this; exact this
        have H0 := Lib.hid h0; clear h0
        go_wp2_with (go_at_call 64; refine (HC.out _ (by exact (by repeat (first | with_reducible exact Below.refl _ _ | with_reducible assumption | with_reducible refine Below.drew ?_ | with_reducible refine below_drewN ?_ _ | (with_reducible refine Below.alloc ?_ ?_ _; rotate_left; (try simp) <;> omega) | (with_reducible refine Below.setCell ?_ ?_ _; rotate_left; (try simp) <;> omega))))).mono ?_; rintro e w1 ⟨rfl, hb⟩; rw [H0.out])
        go_ret
        exact ⟨ret_int H.out.symm, hbw.trans (hb.mono (by omega))⟩
      · have h0' : p l[k] = false := by simpa using h0
        have H : Hid (∀ j (hj : j < k + 1) (h' : j < l.length), p l[j] = false) := fun j hj h' => by
          by_cases e : j = k
          · subst e; exact h0'
          · exact hg.out j (by omega) h'
        have H0 := Lib.hid h0'; clear h0 h0'
        go_wp2_with (go_at_call 64; refine (HC.out _ (by exact (by repeat (first | with_reducible exact Below.refl _ _ | with_reducible assumption | with_reducible refine Below.drew ?_ | with_reducible refine below_drewN ?_ _ | (with_reducible refine Below.alloc ?_ ?_ _; rotate_left; (try simp) <;> omega) | (with_reducible refine Below.setCell ?_ ?_ _; rotate_left; (try simp) <;> omega))))).mono ?_; rintro e w1 ⟨rfl, hb⟩; rw [H0.out])
        go_roundw
        case rel => exact ⟨k + 1, by omega, by go_num, H, hbw.trans (hb.mono (by omega))⟩
        case measure => simp [intOf]; omega
    · obtain rfl : k = l.length := by omega
      have H : Hid (idxL p l = -1) := by
        have := idxL_drop p l _ hk hg.out (.inl rfl)
        rw [if_neg (by omega)] at this; exact this
      go_wp2
      go_ret
      exact ⟨ret_int H.out.symm, hbw⟩
set_option maxHeartbeats 400000 in
theorem anyM64 (p : Mas → Bool) (l : List Mas) (A : Option Addr) (c : Nat) (w : World)  (hl : Lies w w.heap.size A (massC l)) (hm : l.length ≤ 1000)
    (hp : Hid (∀ t ∈ l, ∀ W : World, Below w.heap.size w W → Calls Try.prog 64 (#[t.agg] ++ #[]) W (ShEnd (p t) W))) :
    Calls Try.prog 63 #[.slice A l.length c, .func (.func 64) #[] #[]] w (ShEnd (l.any p) w) := by
  have HE := Lib.hid (idxL_dec p l)
  go_enter Try.func63, Try.ntmps63
  go_wp2_with (go_at_call 109; refine (idxM64 p l _ _ _  hl hm hp).mono ?_; rintro e w1 ⟨rfl, hb⟩)
  go_ret
  exact sh_ret HE.out hb
set_option maxHeartbeats 400000 in
theorem idxT71 (p : Tk → Bool) (l : List Tk) (A : Option Addr) (c : Nat) (w : World)  (hl : Lies w w.heap.size A (tasksC l)) (hm : l.length ≤ 1000)
    (hp : Hid (∀ t ∈ l, ∀ W : World, Below w.heap.size w W → Calls Try.prog 71 (#[t.agg] ++ #[]) W (ShEnd (p t) W))) :
    Calls Try.prog 110 #[.slice A l.length c, .func (.func 71) #[] #[]] w fun e w' => e = .returned (.int .i64 (idxL p l)) ∧ Below w.heap.size w w' := by
  go_enter Try.func110, Try.ntmps110
  go_wp2
  go_loopw [8] (fun y wr => ∃ k : Nat, k ≤ l.length ∧ y = .int .i64 k ∧ Hid (∀ j (hj : j < k) (h' : j < l.length), p l[j] = false) ∧ Below w.heap.size w wr) (fun y _ => l.length - (intOf y).toNat)
  case atStart => exact ⟨0, by omega, rfl, fun j hj => absurd hj (by omega), Below.refl _ _⟩
  case round =>
    obtain ⟨k, hk, rfl, hg, hbw⟩ := hrel
    have hbs := hbw.size
    by_cases hlt : k < l.length
    · obtain ⟨ad, rfl, _, c0, c1, c2, c3⟩ := task_at (hl.below hbw (Nat.le_refl _)) hlt
      have HC := Lib.hid (hp.out l[k] (List.getElem_mem hlt))
      clear hl
      by_cases h0 : p l[k] = true
      · have H : Hid (idxL p l = (k : Int)) := by
          have := idxL_drop p l k hk hg.out (.inr ⟨hlt, h0⟩)
          rw [if_pos hlt] at this; exact this
        have H0 := Lib.hid h0; clear h0
        go_wp2_with (go_at_call 71; refine (HC.out _ (by exact (by repeat (first | with_reducible exact Below.refl _ _ | with_reducible assumption | with_reducible refine Below.drew ?_ | with_reducible refine below_drewN ?_ _ | (with_reducible refine Below.alloc ?_ ?_ _; rotate_left; (try simp) <;> omega) | (with_reducible refine Below.setCell ?_ ?_ _; rotate_left; (try simp) <;> omega))))).mono ?_; rintro e w1 ⟨rfl, hb⟩; rw [H0.out])
        go_ret
        exact ⟨ret_int H.out.symm, hbw.trans (hb.mono (by omega))⟩
      · have h0' : p l[k] = false := by simpa using h0
        have H : Hid (∀ j (hj : j < k + 1) (h' : j < l.length), p l[j] = false) := fun j hj h' => by
          by_cases e : j = k
          · subst e; exact h0'
          · exact hg.out j (by omega) h'
        have H0 := Lib.hid h0'; clear h0 h0'
        go_wp2_with (go_at_call 71; refine (HC.out _ (by exact (by repeat (first | with_reducible exact Below.refl _ _ | with_reducible assumption | with_reducible refine Below.drew ?_ | with_reducible refine below_drewN ?_ _ | (with_reducible refine Below.alloc ?_ ?_ _; rotate_left; (try simp) <;> omega) | (with_reducible refine Below.setCell ?_ ?_ _; rotate_left; (try simp) <;> omega))))).mono ?_; rintro e w1 ⟨rfl, hb⟩; rw [H0.out])
        go_roundw
        case rel => exact ⟨k + 1, by omega, by go_num, H, hbw.trans (hb.mono (by omega))⟩
        case measure => simp [intOf]; omega
    · obtain rfl : k = l.length := by omega
      have H : Hid (idxL p l = -1) := by
        have := idxL_drop p l _ hk hg.out (.inl rfl)
        rw [if_neg (by omega)] at this; exact this
      go_wp2
      go_ret
      exact ⟨ret_int H.out.symm, hbw⟩
set_option maxHeartbeats 400000 in
theorem anyT71 (p : Tk → Bool) (l : List Tk) (A : Option Addr) (c : Nat) (w : World)  (hl : Lies w w.heap.size A (tasksC l)) (hm : l.length ≤ 1000)
    (hp : Hid (∀ t ∈ l, ∀ W : World, Below w.heap.size w W → Calls Try.prog 71 (#[t.agg] ++ #[]) W (ShEnd (p t) W))) :
    Calls Try.prog 70 #[.slice A l.length c, .func (.func 71) #[] #[]] w (ShEnd (l.any p) w) := by
  have HE := Lib.hid (idxL_dec p l)
  go_enter Try.func70, Try.ntmps70
  go_wp2_with (go_at_call 110; refine (idxT71 p l _ _ _  hl hm hp).mono ?_; rintro e w1 ⟨rfl, hb⟩)
  go_ret
  exact sh_ret HE.out hb
set_option maxHeartbeats 400000 in
theorem idxI73 (p : Int → Bool) (l : List Int) (A : Option Addr) (c : Nat) (w : World) (bb : Nat) (hl : Lies w w.heap.size A (ints l)) (hm : l.length ≤ 1000)
    (hp : Hid (∀ t ∈ l, ∀ W : World, Below w.heap.size w W → Calls Try.prog 73 (#[.int .i64 t] ++ #[.pointer (some ⟨bb, 0, none⟩)]) W (ShEnd (p t) W))) :
    Calls Try.prog 111 #[.slice A l.length c, .func (.func 73) #[] #[.pointer (some ⟨bb, 0, none⟩)]] w fun e w' => e = .returned (.int .i64 (idxL p l)) ∧ Below w.heap.size w w' := by
  go_enter Try.func111, Try.ntmps111
  go_wp2
  go_loopw [8] (fun y wr => ∃ k : Nat, k ≤ l.length ∧ y = .int .i64 k ∧ Hid (∀ j (hj : j < k) (h' : j < l.length), p l[j] = false) ∧ Below w.heap.size w wr) (fun y _ => l.length - (intOf y).toNat)
  case atStart => exact ⟨0, by omega, rfl, fun j hj => absurd hj (by omega), Below.refl _ _⟩
  case round =>
    obtain ⟨k, hk, rfl, hg, hbw⟩ := hrel
    have hbs := hbw.size
    by_cases hlt : k < l.length
    · obtain ⟨ad, rfl, _, c0⟩ := int_at (hl.below hbw (Nat.le_refl _)) hlt
      have HC := Lib.hid (hp.out l[k] (List.getElem_mem hlt))
      clear hl
      by_cases h0 : p l[k] = true
      · have H : Hid (idxL p l = (k : Int)) := by
          have := idxL_drop p l k hk hg.out (.inr ⟨hlt, h0⟩)
          rw [if_pos hlt] at this; exact this
        have H0 := Lib.hid h0; clear h0
        go_wp2_with (go_at_call 73; refine (HC.out _ (by exact (by repeat (first | with_reducible exact Below.refl _ _ | with_reducible assumption | with_reducible refine Below.drew ?_ | with_reducible refine below_drewN ?_ _ | (with_reducible refine Below.alloc ?_ ?_ _; rotate_left; (try simp) <;> omega) | (with_reducible refine Below.setCell ?_ ?_ _; rotate_left; (try simp) <;> omega))))).mono ?_; rintro e w1 ⟨rfl, hb⟩; rw [H0.out])
        go_ret
        exact ⟨ret_int H.out.symm, hbw.trans (hb.mono (by omega))⟩
      · have h0' : p l[k] = false := by simpa using h0
        have H : Hid (∀ j (hj : j < k + 1) (h' : j < l.length), p l[j] = false) := fun j hj h' => by
          by_cases e : j = k
          · subst e; exact h0'
          · exact hg.out j (by omega) h'
        have H0 := Lib.hid h0'; clear h0 h0'
        go_wp2_with (go_at_call 73; refine (HC.out _ (by exact (by repeat (first | with_reducible exact Below.refl _ _ | with_reducible assumption | with_reducible refine Below.drew ?_ | with_reducible refine below_drewN ?_ _ | (with_reducible refine Below.alloc ?_ ?_ _; rotate_left; (try simp) <;> omega) | (with_reducible refine Below.setCell ?_ ?_ _; rotate_left; (try simp) <;> omega))))).mono ?_; rintro e w1 ⟨rfl, hb⟩; rw [H0.out])
        go_roundw
        case rel => exact ⟨k + 1, by omega, by go_num, H, hbw.trans (hb.mono (by omega))⟩
        case measure => simp [intOf]; omega
    · obtain rfl : k = l.length := by omega
      have H : Hid (idxL p l = -1) := by
        have := idxL_drop p l _ hk hg.out (.inl rfl)
        rw [if_neg (by omega)] at this; exact this
      go_wp2
      go_ret
      exact ⟨ret_int H.out.symm, hbw⟩
set_option maxHeartbeats 400000 in
theorem anyI73 (p : Int → Bool) (l : List Int) (A : Option Addr) (c : Nat) (w : World) (bb : Nat) (hl : Lies w w.heap.size A (ints l)) (hm : l.length ≤ 1000)
    (hp : Hid (∀ t ∈ l, ∀ W : World, Below w.heap.size w W → Calls Try.prog 73 (#[.int .i64 t] ++ #[.pointer (some ⟨bb, 0, none⟩)]) W (ShEnd (p t) W))) :
    Calls Try.prog 72 #[.slice A l.length c, .func (.func 73) #[] #[.pointer (some ⟨bb, 0, none⟩)]] w (ShEnd (l.any p) w) := by
  have HE := Lib.hid (idxL_dec p l)
  go_enter Try.func72, Try.ntmps72
  go_wp2_with (go_at_call 111; refine (idxI73 p l _ _ _ bb  hl hm hp).mono ?_; rintro e w1 ⟨rfl, hb⟩)
  go_ret
  exact sh_ret HE.out hb
set_option maxHeartbeats 400000 in
theorem idxS75 (p : ByteArray → Bool) (l : List ByteArray) (A : Option Addr) (c : Nat) (w : World)  (hl : Lies w w.heap.size A (strsC l)) (hm : l.length ≤ 1000)
    (hp : Hid (∀ t ∈ l, ∀ W : World, Below w.heap.size w W → Calls Try.prog 75 (#[.string t] ++ #[]) W (ShEnd (p t) W))) :
    Calls Try.prog 112 #[.slice A l.length c, .func (.func 75) #[] #[]] w fun e w' => e = .returned (.int .i64 (idxL p l)) ∧ Below w.heap.size w w' := by
  go_enter Try.func112, Try.ntmps112
  go_wp2
  go_loopw [8] (fun y wr => ∃ k : Nat, k ≤ l.length ∧ y = .int .i64 k ∧ Hid (∀ j (hj : j < k) (h' : j < l.length), p l[j] = false) ∧ Below w.heap.size w wr) (fun y _ => l.length - (intOf y).toNat)
  case atStart => exact ⟨0, by omega, rfl, fun j hj => absurd hj (by omega), Below.refl _ _⟩
  case round =>
    obtain ⟨k, hk, rfl, hg, hbw⟩ := hrel
    have hbs := hbw.size
    by_cases hlt : k < l.length
    · obtain ⟨ad, rfl, _, c0⟩ := str_at (hl.below hbw (Nat.le_refl _)) hlt
      have HC := Lib.hid (hp.out l[k] (List.getElem_mem hlt))
      clear hl
      by_cases h0 : p l[k] = true
      · have H : Hid (idxL p l = (k : Int)) := by
          have := idxL_drop p l k hk hg.out (.inr ⟨hlt, h0⟩)
          rw [if_pos hlt] at this; exact this
        have H0 := Lib.hid h0; clear h0
        go_wp2_with (go_at_call 75; refine (HC.out _ (by exact (by repeat (first | with_reducible exact Below.refl _ _ | with_reducible assumption | with_reducible refine Below.drew ?_ | with_reducible refine below_drewN ?_ _ | (with_reducible refine Below.alloc ?_ ?_ _; rotate_left; (try simp) <;> omega) | (with_reducible refine Below.setCell ?_ ?_ _; rotate_left; (try simp) <;> omega))))).mono ?_; rintro e w1 ⟨rfl, hb⟩; rw [H0.out])
        go_ret
        exact ⟨ret_int H.out.symm, hbw.trans (hb.mono (by omega))⟩
      · have h0' : p l[k] = false := by simpa using h0
        have H : Hid (∀ j (hj : j < k + 1) (h' : j < l.length), p l[j] = false) := fun j hj h' => by
          by_cases e : j = k
          · subst e; exact h0'
          · exact hg.out j (by omega) h'
        have H0 := Lib.hid h0'; clear h0 h0'
        go_wp2_with (go_at_call 75; refine (HC.out _ (by exact (by repeat (first | with_reducible exact Below.refl _ _ | with_reducible assumption | with_reducible refine Below.drew ?_ | with_reducible refine below_drewN ?_ _ | (with_reducible refine Below.alloc ?_ ?_ _; rotate_left; (try simp) <;> omega) | (with_reducible refine Below.setCell ?_ ?_ _; rotate_left; (try simp) <;> omega))))).mono ?_; rintro e w1 ⟨rfl, hb⟩; rw [H0.out])
        go_roundw
        case rel => exact ⟨k + 1, by omega, by go_num, H, hbw.trans (hb.mono (by omega))⟩
        case measure => simp [intOf]; omega
    · obtain rfl : k = l.length := by omega
      have H : Hid (idxL p l = -1) := by
        have := idxL_drop p l _ hk hg.out (.inl rfl)
        rw [if_neg (by omega)] at this; exact this
      go_wp2
      go_ret
      exact ⟨ret_int H.out.symm, hbw⟩
set_option maxHeartbeats 400000 in
theorem anyS75 (p : ByteArray → Bool) (l : List ByteArray) (A : Option Addr) (c : Nat) (w : World)  (hl : Lies w w.heap.size A (strsC l)) (hm : l.length ≤ 1000)
    (hp : Hid (∀ t ∈ l, ∀ W : World, Below w.heap.size w W → Calls Try.prog 75 (#[.string t] ++ #[]) W (ShEnd (p t) W))) :
    Calls Try.prog 74 #[.slice A l.length c, .func (.func 75) #[] #[]] w (ShEnd (l.any p) w) := by
  have HE := Lib.hid (idxL_dec p l)
  go_enter Try.func74, Try.ntmps74
  go_wp2_with (go_at_call 112; refine (idxS75 p l _ _ _  hl hm hp).mono ?_; rintro e w1 ⟨rfl, hb⟩)
  go_ret
  exact sh_ret HE.out hb
end Go.Proofs.Ytjgnikmnadmheaa
