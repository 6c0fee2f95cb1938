import Derived.Test.YtkjceegmmhnajaaA2
namespace Go.Proofs.Ytkjceegmmhnajaa
open Go.RowKit

def idxL {α : Type} (p : α → Bool) (l : List α) : Int := match l.findIdx? p with | some i => (i : Int) | none => -1
theorem idxL_drop {α : Type} (p : α → Bool) (l : List α) (k : Nat) (hk : k ≤ l.length) (h : ∀ j (hj : j < k) (h' : j < l.length), p l[j] = false) (hp : k = l.length ∨ ∃ h : k < l.length, p l[k] = true) :
    idxL p l = if k < l.length then (k : Int) else -1 := by
  unfold idxL
  rcases hp with rfl | ⟨hlt, hp⟩
  · have : l.findIdx? p = none := by
      rw [List.findIdx?_eq_none_iff]; intro x hx
      obtain ⟨j, hj, rfl⟩ := List.getElem_of_mem hx
      exact h j hj hj
    rw [this]; simp
  · have : l.findIdx? p = some k := by
      rw [List.findIdx?_eq_some_iff_getElem]
      exact ⟨hlt, hp, fun j hj => by simpa using h j hj (by omega)⟩
    rw [this]; simp [hlt]
theorem idxL_any {α : Type} (p : α → Bool) (l : List α) : (0 ≤ idxL p l) = (l.any p = true) := by
  unfold idxL
  cases h : l.findIdx? p with
  | none => 
    have := List.findIdx?_eq_none_iff.1 h
    simp; exact fun x hx => by simpa using this x hx
  | some i =>
    obtain ⟨hi, hp, _⟩ := List.findIdx?_eq_some_iff_getElem.1 h
    simp
    exact ⟨_, List.getElem_mem hi, hp⟩

theorem idxL_dec {α : Type} (p : α → Bool) (l : List α) : decide (0 ≤ idxL p l) = l.any p := by rw [Bool.eq_iff_iff, decide_eq_true_iff, idxL_any]

def offShade (n : Int) : Bool := !decide (0 ≤ n) || !decide (n ≤ 1000)
set_option maxHeartbeats 400000 in
theorem isShade1_any (n : Int) (w : World) : Calls Try.prog 84 #[.int .i64 n] w fun e w' => e = .returned (.bool (offShade n)) ∧ w = w' := by
  go_enter Try.func84, Try.ntmps84
  go_wp2_with (go_at_call 45; refine (among_any _ _ _ _).mono ?_; rintro e w' ⟨rfl, rfl⟩)
  go_ret
  exact ⟨rfl, rfl⟩
def notPos (n : Int) : Bool := decide (n ≤ 0)
set_option maxHeartbeats 400000 in
theorem recipe1_any (n : Int) (w : World) : Calls Try.prog 87 #[.int .i64 n] w fun e w' => e = .returned (.bool (notPos n)) ∧ w = w' := by
  go_enter Try.func87, Try.ntmps87
  go_wp2
  go_ret
  exact ⟨rfl, rfl⟩
def notZero (n : Int) : Bool := n != 0
set_option maxHeartbeats 400000 in
theorem slopes1_any (n : Int) (w : World) : Calls Try.prog 90 #[.int .i64 n] w fun e w' => e = .returned (.bool (notZero n)) ∧ w = w' := by
  go_enter Try.func90, Try.ntmps90
  go_wp2
  go_ret
  exact ⟨rfl, rfl⟩

set_option maxHeartbeats 400000 in
theorem idx84 (l : List Int) (A : Option Addr) (c : Nat) (w : World) (hl : Lies w w.heap.size A (ints l)) (hm : l.length ≤ 1000) :
    Calls Try.prog 89 #[.slice A l.length c, .func (.func 84) #[] #[]] w fun e w' => e = .returned (.int .i64 (idxL offShade l)) ∧ w = w' := by
  go_enter Try.func89, Try.ntmps89
  go_wp2
  go_loop [8] (fun y => ∃ k : Nat, k ≤ l.length ∧ y = .int .i64 k ∧ Hid (∀ j (hj : j < k) (h' : j < l.length), offShade l[j] = false)) (fun y => l.length - (intOf y).toNat)
  case atStart => exact ⟨0, by omega, rfl, fun j hj => absurd hj (by omega)⟩
  case round =>
    obtain ⟨k, hk, rfl, hg⟩ := hrel
    by_cases hlt : k < l.length
    · obtain ⟨ad, u, rfl, _, hu, hcell⟩ := hl.at_ (k := k) (by simpa [ints] using hlt)
      obtain ⟨v, hv⟩ : ∃ v, v = l[k] := ⟨_, rfl⟩
      obtain rfl : u = .int .i64 v := by simp [ints, List.getElem?_eq_getElem hlt] at hu; rw [hv]; exact hu.symm
      have HV := Lib.hid hv; clear hu hl hv
      by_cases h0 : offShade v = true
      · have H : Hid (idxL offShade l = (k : Int)) := by
          have := idxL_drop offShade l k hk hg.out (.inr ⟨hlt, by rw [← HV.out]; exact h0⟩)
          rw [if_pos hlt] at this; exact this
        go_wp2_with (go_at_call 84; refine (isShade1_any _ _).mono ?_; rintro e w' ⟨rfl, rfl⟩)
        go_ret
        exact ⟨ret_int H.out.symm, rfl⟩
      · have h0' : offShade v = false := by simpa using h0
        have H : Hid (∀ j (hj : j < k + 1) (h' : j < l.length), offShade l[j] = false) := fun j hj h' => by
          by_cases e : j = k
          · subst e; rw [← HV.out]; exact h0'
          · exact hg.out j (by omega) h'
        clear h0
        go_wp2_with (go_at_call 84; refine (isShade1_any _ _).mono ?_; rintro e w' ⟨rfl, rfl⟩)
        go_round
        case rel => exact ⟨k + 1, by omega, by go_num, H⟩
        case measure => simp [intOf]; omega
    · obtain rfl : k = l.length := by omega
      have H : Hid (idxL offShade l = -1) := by
        have := idxL_drop offShade l _ hk hg.out (.inl rfl)
        rw [if_neg (by omega)] at this; exact this
      go_wp2
      go_ret
      exact ⟨ret_int H.out.symm, rfl⟩

set_option maxHeartbeats 400000 in
theorem any84 (l : List Int) (A : Option Addr) (c : Nat) (w : World) (hl : Lies w w.heap.size A (ints l)) (hm : l.length ≤ 1000) :
    Calls Try.prog 83 #[.slice A l.length c, .func (.func 84) #[] #[]] w fun e w' => e = .returned (.bool (l.any offShade)) ∧ w = w' := by
  go_enter Try.func83, Try.ntmps83
  go_wp2_with (go_at_call 89; refine (idx84 l _ _ _ hl hm).mono ?_; rintro e w' ⟨rfl, rfl⟩)
  go_ret
  exact ⟨congrArg (fun b => Ending.returned (.bool b)) (idxL_dec _ _), rfl⟩
set_option maxHeartbeats 400000 in
theorem idx87 (l : List Int) (A : Option Addr) (c : Nat) (w : World) (hl : Lies w w.heap.size A (ints l)) (hm : l.length ≤ 1000) :
    Calls Try.prog 89 #[.slice A l.length c, .func (.func 87) #[] #[]] w fun e w' => e = .returned (.int .i64 (idxL notPos l)) ∧ w = w' := by
  go_enter Try.func89, Try.ntmps89
  go_wp2
  go_loop [8] (fun y => ∃ k : Nat, k ≤ l.length ∧ y = .int .i64 k ∧ Hid (∀ j (hj : j < k) (h' : j < l.length), notPos l[j] = false)) (fun y => l.length - (intOf y).toNat)
  case atStart => exact ⟨0, by omega, rfl, fun j hj => absurd hj (by omega)⟩
  case round =>
    obtain ⟨k, hk, rfl, hg⟩ := hrel
    by_cases hlt : k < l.length
    · obtain ⟨ad, u, rfl, _, hu, hcell⟩ := hl.at_ (k := k) (by simpa [ints] using hlt)
      obtain ⟨v, hv⟩ : ∃ v, v = l[k] := ⟨_, rfl⟩
      obtain rfl : u = .int .i64 v := by simp [ints, List.getElem?_eq_getElem hlt] at hu; rw [hv]; exact hu.symm
      have HV := Lib.hid hv; clear hu hl hv
      by_cases h0 : notPos v = true
      · have H : Hid (idxL notPos l = (k : Int)) := by
          have := idxL_drop notPos l k hk hg.out (.inr ⟨hlt, by rw [← HV.out]; exact h0⟩)
          rw [if_pos hlt] at this; exact this
        go_wp2_with (go_at_call 87; refine (recipe1_any _ _).mono ?_; rintro e w' ⟨rfl, rfl⟩)
        go_ret
        exact ⟨ret_int H.out.symm, rfl⟩
      · have h0' : notPos v = false := by simpa using h0
        have H : Hid (∀ j (hj : j < k + 1) (h' : j < l.length), notPos l[j] = false) := fun j hj h' => by
          by_cases e : j = k
          · subst e; rw [← HV.out]; exact h0'
          · exact hg.out j (by omega) h'
        clear h0
        go_wp2_with (go_at_call 87; refine (recipe1_any _ _).mono ?_; rintro e w' ⟨rfl, rfl⟩)
        go_round
        case rel => exact ⟨k + 1, by omega, by go_num, H⟩
        case measure => simp [intOf]; omega
    · obtain rfl : k = l.length := by omega
      have H : Hid (idxL notPos l = -1) := by
        have := idxL_drop notPos l _ hk hg.out (.inl rfl)
        rw [if_neg (by omega)] at this; exact this
      go_wp2
      go_ret
      exact ⟨ret_int H.out.symm, rfl⟩

set_option maxHeartbeats 400000 in
theorem any87 (l : List Int) (A : Option Addr) (c : Nat) (w : World) (hl : Lies w w.heap.size A (ints l)) (hm : l.length ≤ 1000) :
    Calls Try.prog 83 #[.slice A l.length c, .func (.func 87) #[] #[]] w fun e w' => e = .returned (.bool (l.any notPos)) ∧ w = w' := by
  go_enter Try.func83, Try.ntmps83
  go_wp2_with (go_at_call 89; refine (idx87 l _ _ _ hl hm).mono ?_; rintro e w' ⟨rfl, rfl⟩)
  go_ret
  exact ⟨congrArg (fun b => Ending.returned (.bool b)) (idxL_dec _ _), rfl⟩
set_option maxHeartbeats 400000 in
theorem idx90 (l : List Int) (A : Option Addr) (c : Nat) (w : World) (hl : Lies w w.heap.size A (ints l)) (hm : l.length ≤ 1000) :
    Calls Try.prog 89 #[.slice A l.length c, .func (.func 90) #[] #[]] w fun e w' => e = .returned (.int .i64 (idxL notZero l)) ∧ w = w' := by
  go_enter Try.func89, Try.ntmps89
  go_wp2
  go_loop [8] (fun y => ∃ k : Nat, k ≤ l.length ∧ y = .int .i64 k ∧ Hid (∀ j (hj : j < k) (h' : j < l.length), notZero l[j] = false)) (fun y => l.length - (intOf y).toNat)
  case atStart => exact ⟨0, by omega, rfl, fun j hj => absurd hj (by omega)⟩
  case round =>
    obtain ⟨k, hk, rfl, hg⟩ := hrel
    by_cases hlt : k < l.length
    · obtain ⟨ad, u, rfl, _, hu, hcell⟩ := hl.at_ (k := k) (by simpa [ints] using hlt)
      obtain ⟨v, hv⟩ : ∃ v, v = l[k] := ⟨_, rfl⟩
      obtain rfl : u = .int .i64 v := by simp [ints, List.getElem?_eq_getElem hlt] at hu; rw [hv]; exact hu.symm
      have HV := Lib.hid hv; clear hu hl hv
      by_cases h0 : notZero v = true
      · have H : Hid (idxL notZero l = (k : Int)) := by
          have := idxL_drop notZero l k hk hg.out (.inr ⟨hlt, by rw [← HV.out]; exact h0⟩)
          rw [if_pos hlt] at this; exact this
        go_wp2_with (go_at_call 90; refine (slopes1_any _ _).mono ?_; rintro e w' ⟨rfl, rfl⟩)
        go_ret
        exact ⟨ret_int H.out.symm, rfl⟩
      · have h0' : notZero v = false := by simpa using h0
        have H : Hid (∀ j (hj : j < k + 1) (h' : j < l.length), notZero l[j] = false) := fun j hj h' => by
          by_cases e : j = k
          · subst e; rw [← HV.out]; exact h0'
          · exact hg.out j (by omega) h'
        clear h0
        go_wp2_with (go_at_call 90; refine (slopes1_any _ _).mono ?_; rintro e w' ⟨rfl, rfl⟩)
        go_round
        case rel => exact ⟨k + 1, by omega, by go_num, H⟩
        case measure => simp [intOf]; omega
    · obtain rfl : k = l.length := by omega
      have H : Hid (idxL notZero l = -1) := by
        have := idxL_drop notZero l _ hk hg.out (.inl rfl)
        rw [if_neg (by omega)] at this; exact this
      go_wp2
      go_ret
      exact ⟨ret_int H.out.symm, rfl⟩


/-! tints -/
structure Tn where
  name : ByteArray
  a : Int
  b : Int
  c : Int
  price : Int
def Tn.cells (t : Tn) : List Value := [.string t.name, .int .i64 t.a, .int .i64 t.b, .int .i64 t.c, .int .i64 t.price]
def tintsC (l : List Tn) : List Value := l.flatMap Tn.cells
theorem tintsC_length (l : List Tn) : (tintsC l).length = l.length * 5 := by
  induction l with
  | nil => rfl
  | cons t r ih => simp only [tintsC, List.flatMap_cons, List.length_append] at *; rw [ih]; simp [Tn.cells]; omega
theorem tintsC_at (l : List Tn) (k : Nat) (hk : k < l.length) (j : Nat) (hj : j < 5) : (tintsC l)[k * 5 + j]? = (l[k]).cells[j]? := by
  induction l generalizing k with
  | nil => simp at hk
  | cons t r ih =>
    simp only [tintsC, List.flatMap_cons] at *
    cases k with
    | zero => rw [List.getElem?_append_left (by simp [Tn.cells]; omega)]; simp
    | succ k =>
      rw [List.getElem?_append_right (by simp [Tn.cells]; omega)]
      have : (k + 1) * 5 + j - t.cells.length = k * 5 + j := by simp [Tn.cells]; omega
      rw [this, ih k (by simpa using hk)]; simp
theorem add_rec (a : Addr) (i j : Nat) (hj : 0 < j) : a.add (i + j) = ⟨(a.add i).block, (a.add i).off + j, none⟩ := by
  rw [← add_add']; unfold Addr.add; rw [if_neg (by omega)]
/-- what the walk asks of tint k -/
theorem tint_at {w : World} {B : Nat} {A : Option Addr} {l : List Tn} (h : Lies w B A (tintsC l)) {k : Nat} (hk : k < l.length) :
    ∃ ad, A = some ad ∧ ad.block < B ∧ w.cell? (ad.add (k * 5)) = some (.string l[k].name) ∧ w.cell? ⟨(ad.add (k * 5)).block, (ad.add (k * 5)).off + 1, none⟩ = some (.int .i64 l[k].a) ∧ w.cell? ⟨(ad.add (k * 5)).block, (ad.add (k * 5)).off + 2, none⟩ = some (.int .i64 l[k].b)
      ∧ w.cell? ⟨(ad.add (k * 5)).block, (ad.add (k * 5)).off + 3, none⟩ = some (.int .i64 l[k].c) ∧ w.cell? ⟨(ad.add (k * 5)).block, (ad.add (k * 5)).off + 4, none⟩ = some (.int .i64 l[k].price) := by
  obtain ⟨ad, e, hb, hc⟩ := h (by intro e; have := tintsC_length l; rw [e] at this; simp at this; omega)
  refine ⟨ad, e, hb, hc _ _ (tintsC_at l k hk 0 (by omega)), ?_, ?_, ?_, ?_⟩
  · rw [← add_rec _ _ _ (by omega)]; exact hc _ _ (tintsC_at l k hk 1 (by omega))
  · rw [← add_rec _ _ _ (by omega)]; exact hc _ _ (tintsC_at l k hk 2 (by omega))
  · rw [← add_rec _ _ _ (by omega)]; exact hc _ _ (tintsC_at l k hk 3 (by omega))
  · rw [← add_rec _ _ _ (by omega)]; exact hc _ _ (tintsC_at l k hk 4 (by omega))

def fineB (l : List Tn) (n : Int) : Bool := decide ((l.length : Int) ≤ n) && l.all (fun t => decide (t.name.size ≤ 60))
set_option maxHeartbeats 400000 in
theorem fine_any (l : List Tn) (A : Option Addr) (c : Nat) (n : Int) (w : World) (hl : Lies w w.heap.size A (tintsC l)) (hm : l.length ≤ maxLen) (hs : ∀ t ∈ l, t.name.size ≤ maxLen) :
    Calls Try.prog 9 #[.slice A l.length c, .int .i64 n] w (BoolEnd (fineB l n) w) := by
  unfold maxLen at hm hs
  by_cases h0 : (l.length : Int) ≤ n
  · go_enter Try.func9, Try.ntmps9
    go_wp2
    go_loop [5] (fun x => ∃ k : Nat, k ≤ l.length ∧ x = .int .i64 k ∧ Hid (∀ j (h : j < k) (h' : j < l.length), l[j].name.size ≤ 60)) (fun x => l.length - (intOf x).toNat)
    case atStart => exact ⟨0, by omega, rfl, fun j hj => absurd hj (by omega)⟩
    case round =>
      obtain ⟨k, hk, rfl, hg⟩ := hrel
      by_cases hlt : k < l.length
      · obtain ⟨ad, rfl, _, c0, _, _, _, _⟩ := tint_at hl hlt
        have hsz := hs _ (List.getElem_mem hlt)
        clear hs hl
        by_cases h60 : l[k].name.size ≤ 60
        · have H : Hid (∀ j (h : j < k + 1) (h' : j < l.length), l[j].name.size ≤ 60) := fun j h h' => by
            by_cases e : j = k
            · subst e; exact h60
            · exact hg.out j (by omega) h'
          go_wp2
          go_round
          case rel => exact ⟨k + 1, by omega, by go_num, H⟩
          case measure => simp [intOf]; omega
        · have H : Hid (¬ fineB l n = true) := fun h => by
            unfold fineB at h
            simp only [Bool.and_eq_true, decide_eq_true_eq, List.all_eq_true] at h
            exact h60 (h.2 _ (List.getElem_mem hlt))
          go_wp2
          go_ret
          exact bool_ret (by simpa using H.out)
      · obtain rfl : k = l.length := by omega
        have H : Hid (fineB l n = true) := by
          show _ = _
          unfold fineB
          simp only [Bool.and_eq_true, decide_eq_true_eq, List.all_eq_true]
          refine ⟨h0, fun x hx => ?_⟩
          obtain ⟨j, hj, rfl⟩ := List.getElem_of_mem hx
          exact hg.out j hj hj
        go_wp2
        go_ret
        exact bool_ret (by simpa using H.out)
  · have H : Hid (¬ fineB l n = true) := fun h => by
      unfold fineB at h
      simp only [Bool.and_eq_true, decide_eq_true_eq, List.all_eq_true] at h
      exact h0 h.1
    go_enter Try.func9, Try.ntmps9
    go_wp2
    go_ret
    exact bool_ret (by simpa using H.out)

def ShEnd (b : Bool) (w : World) (e : Ending) (w' : World) : Prop := e = .returned (.bool b) ∧ Below w.heap.size w w'
theorem sh_ret {b c : Bool} {w w' : World} (h : c = b) (hb : Below w.heap.size w w') : ShEnd b w (.returned (.bool c)) w' := ⟨by rw [h], hb⟩
def inShade (n : Int) : Bool := decide (0 ≤ n) && decide (n ≤ 1000)
def shadeB (a b c : Int) : Bool := inShade a && inShade b && inShade c
set_option maxHeartbeats 400000 in
theorem isShade_any (a b c : Int) (w : World) :
    Calls Try.prog 59 #[.agg #[.int .i64 a, .int .i64 b, .int .i64 c]] w (ShEnd (shadeB a b c) w) := by
  have HL := Lib.hid (Lies.fresh (w := w.alloc (.cells #[.int .i64 a, .int .i64 b, .int .i64 c] 37)) (X := w) (B := w.heap.size + 1) (l := ints [a, b, c]) rfl rfl (by omega) rfl)
  have HE : Hid ((!offShade a && (!offShade b && !offShade c)) = shadeB a b c) := by
    show _ = _
    simp [shadeB, inShade, offShade, Bool.and_assoc]
  go_enter Try.func59, Try.ntmps59
  go_wp2_with (go_at_call 83; refine (any84 [a, b, c] _ _ _ (by simpa using HL.out) (by simp)).mono ?_; rintro e w' ⟨rfl, rfl⟩)
  go_ret
  exact sh_ret HE.out (by repeat (first | with_reducible exact Below.refl _ _ | with_reducible assumption | with_reducible refine Below.drew ?_ | with_reducible refine below_drewN ?_ _ | (with_reducible refine Below.alloc ?_ ?_ _; rotate_left; (try simp) <;> omega) | (with_reducible refine Below.setCell ?_ ?_ _; rotate_left; (try simp) <;> omega)))

set_option maxHeartbeats 400000 in
theorem rshade_any (a b c : Int) (w : World) :
    Calls Try.prog 65 #[.agg #[.int .i64 a, .int .i64 b, .int .i64 c]] w (ShEnd (shadeB a b c) w) := by
  have h0 : ∀ n : Int, inShade n = true ↔ 0 ≤ n ∧ n ≤ 1000 := fun n => by simp [inShade]
  have HS : Hid (∀ n : Int, inShade n = true ↔ 0 ≤ n ∧ n ≤ 1000) := h0
  clear h0
  obtain ⟨f, hf⟩ : ∃ f : Nat → Int, f 0 = a ∧ f 1 = b ∧ f 2 = c := ⟨fun k => if k = 0 then a else if k = 1 then b else c, rfl, rfl, rfl⟩
  have HF := Lib.hid hf; clear hf
  go_enter Try.func65, Try.ntmps65
  go_wp2
  go_loop [3] (fun x => ∃ k : Nat, k ≤ 3 ∧ x = .int .i64 k ∧ Hid (∀ j (h : j < k), inShade (f j) = true)) (fun x => 3 - (intOf x).toNat)
  case atStart => exact ⟨0, by omega, rfl, fun j hj => absurd hj (by omega)⟩
  case round =>
    obtain ⟨k, hk, rfl, hg⟩ := hrel
    by_cases hlt : k < 3
    · have hcell : ((w.alloc (.cells #[.int .i64 a, .int .i64 b, .int .i64 c] 37))).cell? ⟨w.heap.size, k, none⟩ = some (.int .i64 (f k)) := by
        refine (Bk.new w 37 _).cell k ?_
        obtain ⟨h1, h2, h3⟩ := HF.out
        match k, hlt with
        | 0, _ => simp [h1]
        | 1, _ => simp [h2]
        | 2, _ => simp [h3]
      by_cases hin : 0 ≤ f k ∧ f k ≤ 1000
      · have H : Hid (∀ j (h : j < k + 1), inShade (f j) = true) := fun j h => by
          by_cases e : j = k
          · subst e; exact (HS.out _).2 hin
          · exact hg.out j (by omega)
        obtain ⟨hi1, hi2⟩ := hin
        go_wp2
        go_round
        case rel => exact ⟨k + 1, by omega, by go_num, H⟩
        case measure => simp [intOf]; omega
      · have H : Hid (¬ shadeB a b c = true) := fun h => by
          obtain ⟨h1, h2, h3⟩ := HF.out
          simp only [shadeB, Bool.and_eq_true] at h
          match k, hlt with
          | 0, _ => exact hin ((HS.out _).1 (by rw [h1]; exact h.1.1))
          | 1, _ => exact hin ((HS.out _).1 (by rw [h2]; exact h.1.2))
          | 2, _ => exact hin ((HS.out _).1 (by rw [h3]; exact h.2))
        by_cases hi : 0 ≤ f k
        all_goals
          go_wp2
          go_ret
          exact sh_ret (by simpa using H.out) (by repeat (first | with_reducible exact Below.refl _ _ | with_reducible assumption | with_reducible refine Below.drew ?_ | with_reducible refine below_drewN ?_ _ | (with_reducible refine Below.alloc ?_ ?_ _; rotate_left; (try simp) <;> omega) | (with_reducible refine Below.setCell ?_ ?_ _; rotate_left; (try simp) <;> omega)))
    · obtain rfl : k = 3 := by omega
      have H : Hid (shadeB a b c = true) := by
        show _ = _
        obtain ⟨h1, h2, h3⟩ := HF.out
        simp only [shadeB, Bool.and_eq_true]
        exact ⟨⟨by rw [← h1]; exact hg.out 0 (by omega), by rw [← h2]; exact hg.out 1 (by omega)⟩, by rw [← h3]; exact hg.out 2 (by omega)⟩
      go_wp2
      go_ret
      exact sh_ret H.out.symm (by repeat (first | with_reducible exact Below.refl _ _ | with_reducible assumption | with_reducible refine Below.drew ?_ | with_reducible refine below_drewN ?_ _ | (with_reducible refine Below.alloc ?_ ?_ _; rotate_left; (try simp) <;> omega) | (with_reducible refine Below.setCell ?_ ?_ _; rotate_left; (try simp) <;> omega)))
end Go.Proofs.Ytkjceegmmhnajaa
