/- The plain law of Arrange and Stuck: the first order is the greedy one; a circle is found just if there is no order. -/
import Derived.Test.YtkfeagokmcakgaaGreatDoorG02
import Derived.Test.YtkfeagokmcakgaaGreatDoorG09
import Derived.Test.YtkfeagokmcakgaaGreatDoorG12
import Derived.Test.YtkfeagokmcakgaaGreatDoorG16

set_option linter.unusedVariables false
set_option linter.unusedSimpArgs false

namespace Go.Proofs.YtkfeagokmcakgaaGreatDoor

theorem firstF_some {f : Nat → Option (List Nat)} {v : List Nat} : ∀ {k i : Nat}, firstF f i k = some v → ∃ j, i ≤ j ∧ j < i + k ∧ f j = some v ∧ ∀ q, i ≤ q → q < j → f q = none
  | 0, i, h => by cases h
  | k + 1, i, h => by
    unfold firstF at h
    cases e : f i with
    | some u =>
      rw [e] at h; cases h
      exact ⟨i, Nat.le_refl _, by omega, e, fun q h1 h2 => by omega⟩
    | none =>
      rw [e] at h
      obtain ⟨j, h1, h2, h3, h4⟩ := firstF_some h
      refine ⟨j, by omega, by omega, h3, fun q h5 h6 => ?_⟩
      by_cases hq : q = i
      · rw [hq]; exact e
      · exact h4 q (by omega) h6
theorem firstF_none {f : Nat → Option (List Nat)} : ∀ {k i : Nat}, (∀ j, i ≤ j → j < i + k → f j = none) → firstF f i k = none
  | 0, _, _ => rfl
  | k + 1, i, h => by
    unfold firstF
    rw [h i (Nat.le_refl _) (by omega)]
    exact firstF_none fun j h1 h2 => h j (by omega) (by omega)
theorem firstF_isSome {f : Nat → Option (List Nat)} {j : Nat} : ∀ {k i : Nat}, i ≤ j → j < i + k → (f j).isSome = true → (firstF f i k).isSome = true
  | 0, i, h1, h2, _ => by omega
  | k + 1, i, h1, h2, h3 => by
    unfold firstF
    cases e : f i with
    | some u => rfl
    | none =>
      refine firstF_isSome ?_ (by omega) h3
      by_cases hij : i = j
      · subst hij; rw [e] at h3; cases h3
      · omega
theorem firstF_all {f : Nat → Option (List Nat)} {k i : Nat} (h : firstF f i k = none) (j : Nat) (h1 : i ≤ j) (h2 : j < i + k) : f j = none := by
  cases e : f j with
  | none => rfl
  | some v =>
    have := firstF_isSome (f := f) h1 h2 (by rw [e]; rfl)
    rw [h] at this; cases this
theorem firstF_hit {f : Nat → Option (List Nat)} {v : List Nat} {j : Nat} : ∀ {k i : Nat}, (∀ q, i ≤ q → q < j → f q = none) → i ≤ j → j < i + k → f j = some v → firstF f i k = some v
  | 0, i, _, h1, h2, _ => by omega
  | k + 1, i, h, h1, h2, h3 => by
    unfold firstF
    by_cases hij : i = j
    · subst hij; rw [h3]
    · rw [h i (Nat.le_refl _) (by omega)]
      exact firstF_hit (fun q h4 h5 => h q (by omega) h5) (by omega) (by omega) h3

section
variable {bar : Nat → Nat → Bool} {n : Nat}
/-- an order of some colours: none lies over one that it must not -/
structure Ord (bar : Nat → Nat → Bool) (n : Nat) (L : List Nat) : Prop where
  nd : L.Nodup
  lt : ∀ x ∈ L, x < n
  pw : L.Pairwise fun a b => bar b a = false
theorem ordOK_iff {l : List Nat} {i : Nat} : ordOK bar l i = true ↔ i ∉ l ∧ ∀ k ∈ l, bar i k = false := by
  unfold ordOK
  simp only [Bool.not_eq_true', Bool.or_eq_false_iff, List.any_eq_false, decide_eq_true_eq]
  constructor
  · rintro ⟨h1, h2⟩
    exact ⟨fun h => h1 i h rfl, fun k hk => by simpa using h2 k hk⟩
  · rintro ⟨h1, h2⟩
    exact ⟨fun x hx e => h1 (e ▸ hx), fun k hk => by simpa using h2 k hk⟩
theorem Ord.snoc {l : List Nat} {i : Nat} (h : Ord bar n l) (hi : i < n) (ho : ordOK bar l i = true) : Ord bar n (l ++ [i]) := by
  obtain ⟨h1, h2⟩ := ordOK_iff.1 ho
  refine ⟨?_, ?_, ?_⟩
  · rw [List.nodup_append]
    exact ⟨h.nd, by simp, fun a ha b hb e => by simp at hb; subst hb; subst e; exact h1 ha⟩
  · intro x hx
    rcases List.mem_append.1 hx with hx | hx
    · exact h.lt x hx
    · simp at hx; omega
  · rw [List.pairwise_append]
    exact ⟨h.pw, by simp, fun a ha b hb => by simp at hb; subst hb; exact h2 a ha⟩
theorem ords_sound : ∀ (r : Nat) (l L : List Nat), Ord bar n l → ordsF bar n r l = some L → Ord bar n L ∧ ∃ t, L = l ++ t ∧ t.length = r
  | 0, l, L, h, e => by
    unfold ordsF at e; cases e
    exact ⟨h, [], by simp, rfl⟩
  | r + 1, l, L, h, e => by
    unfold ordsF at e
    obtain ⟨i, _, h2, h3, _⟩ := firstF_some e
    by_cases ho : ordOK bar l i = true
    · rw [if_pos ho] at h3
      obtain ⟨h4, t, rfl, ht⟩ := ords_sound r _ L (h.snoc (by omega) ho) h3
      exact ⟨h4, i :: t, by simp, by simp [ht]⟩
    · rw [if_neg ho] at h3; cases h3
theorem ords_compl : ∀ (r : Nat) (l t : List Nat), Ord bar n (l ++ t) → t.length = r → (ordsF bar n r l).isSome = true
  | 0, l, t, _, _ => rfl
  | r + 1, l, t, h, e => by
    cases t with
    | nil => simp at e
    | cons a t =>
      have hn := (List.nodup_append.1 h.nd)
      have hp := List.pairwise_append.1 h.pw
      have ho : ordOK bar l a = true := ordOK_iff.2 ⟨fun hl => hn.2.2 a hl a (by simp) rfl, fun k hk => hp.2.2 k hk a (by simp)⟩
      have := ords_compl r (l ++ [a]) t (by simpa using h) (by simpa using e)
      unfold ordsF
      refine firstF_isSome (j := a) (by omega) (by have := h.lt a (by simp); omega) ?_
      rw [if_pos ho]; exact this
theorem Ord.full {L : List Nat} (h : Ord bar n L) (hl : L.length = n) {k : Nat} (hk : k < n) : k ∈ L := by
  by_cases hm : k ∈ L
  · exact hm
  · have := nodup_len (k :: L) (List.range n) (List.nodup_cons.2 ⟨hm, h.nd⟩) fun z hz => by
      rcases List.mem_cons.1 hz with rfl | hz
      · simpa using hk
      · simpa using h.lt z hz
    simp at this; omega
/-- none that is left has to come before one that is taken -/
def Clo (bar : Nat → Nat → Bool) (n : Nat) (l : List Nat) : Prop := ∀ j ∈ l, ∀ k, k < n → k ∉ l → bar k j = false
/-- no other one that is left has to come before it -/
def freeB (bar : Nat → Nat → Bool) (n : Nat) (l : List Nat) (i : Nat) : Bool := decide (i ∉ l) && (List.range n).all fun k => decide (k ∈ l) || !bar k i
theorem freeB_iff {l : List Nat} {i : Nat} : freeB bar n l i = true ↔ i ∉ l ∧ ∀ k, k < n → k ∉ l → bar k i = false := by
  unfold freeB
  simp only [Bool.and_eq_true, decide_eq_true_eq, List.all_eq_true, List.mem_range, Bool.or_eq_true, Bool.not_eq_true']
  constructor
  · rintro ⟨h1, h2⟩
    exact ⟨h1, fun k hk hn => (h2 k hk).resolve_left hn⟩
  · rintro ⟨h1, h2⟩
    exact ⟨h1, fun k hk => by by_cases hn : k ∈ l; exact .inl hn; exact .inr (h2 k hk hn)⟩
def nxt (bar : Nat → Nat → Bool) (n : Nat) (l : List Nat) : Option Nat := (List.range n).find? (freeB bar n l)
/-- the reference's order: always the first one that is free -/
def grd (bar : Nat → Nat → Bool) (n : Nat) : Nat → List Nat → Option (List Nat)
  | 0, l => some l
  | r + 1, l => match nxt bar n l with
    | none => none
    | some i => grd bar n r (l ++ [i])
theorem nxt_none {l : List Nat} (h : nxt bar n l = none) {i : Nat} (hi : i < n) : freeB bar n l i = false := by
  unfold nxt at h
  have := List.find?_eq_none.1 h i (by simpa using hi)
  simpa using this
theorem find_range {p : Nat → Bool} {i : Nat} : ∀ {n : Nat}, (List.range n).find? p = some i → i < n ∧ p i = true ∧ ∀ q, q < i → p q = false
  | 0, h => by simp at h
  | n + 1, h => by
    rw [List.range_succ, List.find?_append] at h
    cases e : (List.range n).find? p with
    | some j =>
      rw [e] at h; simp at h; subst h
      obtain ⟨h1, h2, h3⟩ := find_range e
      exact ⟨by omega, h2, h3⟩
    | none =>
      rw [e] at h
      simp only [Option.none_or] at h
      have hp : p n = true ∧ n = i := by
        simp only [List.find?_cons, List.find?_nil] at h
        split at h
        · rename_i hp; simp at h; exact ⟨hp, h⟩
        · cases h
      obtain ⟨hp, rfl⟩ := hp
      exact ⟨by omega, hp, fun q hq => by have := List.find?_eq_none.1 e q (by simpa using hq); simpa using this⟩
theorem nxt_some {l : List Nat} {i : Nat} (h : nxt bar n l = some i) : i < n ∧ freeB bar n l i = true ∧ ∀ q, q < i → freeB bar n l q = false := find_range h
/-- one that is not free leads to nothing -/
theorem ords_dead {r : Nat} {l : List Nat} {i : Nat} (h : Ord bar n l) (hc : Clo bar n l) (hi : i < n) (hr : r + 1 + l.length = n) (hirr : ∀ i, bar i i = false) (hf : freeB bar n l i = false) : (if ordOK bar l i = true then ordsF bar n r (l ++ [i]) else none) = none := by
  by_cases ho : ordOK bar l i = true
  · rw [if_pos ho]
    cases e : ordsF bar n r (l ++ [i]) with
    | none => rfl
    | some L =>
      exfalso
      obtain ⟨h4, t, rfl, ht⟩ := ords_sound r _ L (h.snoc hi ho) e
      have hil := (ordOK_iff.1 ho).1
      have : ¬ (∀ k, k < n → k ∉ l → bar k i = false) := fun hall => by
        rw [freeB_iff.2 ⟨hil, hall⟩] at hf; cases hf
      refine this fun k hk hkl => ?_
      by_cases hki : k = i
      · subst hki; exact hirr _
      · have hm := h4.full (by simp [ht]; omega) hk
        have hkt : k ∈ t := by simpa [hkl, hki] using hm
        have := List.pairwise_append.1 h4.pw
        exact this.2.2 i (by simp) k hkt
  · rw [if_neg ho]
theorem Clo.snoc {l : List Nat} {i : Nat} (hc : Clo bar n l) (hf : freeB bar n l i = true) : Clo bar n (l ++ [i]) := fun j hj k hk hkl => by
  have hkl' : k ∉ l := fun h => hkl (List.mem_append_left _ h)
  rcases List.mem_append.1 hj with hj | hj
  · exact hc j hj k hk hkl'
  · simp at hj; subst hj; exact (freeB_iff.1 hf).2 k hk hkl'
/-- who can go on, can go on with one that is free -/
theorem ords_swap {l t : List Nat} {i : Nat} (h : Ord bar n (l ++ t)) (hl : (l ++ t).length = n) (hi : i < n) (hf : freeB bar n l i = true) : Ord bar n (l ++ [i] ++ t.erase i) := by
  obtain ⟨h1, h2⟩ := freeB_iff.1 hf
  have hit : i ∈ t := by
    have := h.full hl hi
    exact (List.mem_append.1 this).resolve_left h1
  obtain ⟨n1, n2, n3⟩ := List.nodup_append.1 h.nd
  obtain ⟨p1, p2, p3⟩ := List.pairwise_append.1 h.pw
  have hsub : ∀ x ∈ t.erase i, x ∈ t := fun x hx => List.mem_of_mem_erase hx
  have hne : i ∉ t.erase i := fun hx => by
    have := (List.Nodup.mem_erase_iff n2).1 hx
    exact this.1 rfl
  refine ⟨?_, ?_, ?_⟩
  · rw [List.append_assoc, List.nodup_append]
    refine ⟨n1, ?_, fun a ha b hb e => ?_⟩
    · simp only [List.singleton_append, List.nodup_cons]
      exact ⟨hne, n2.erase i⟩
    · rcases List.mem_append.1 hb with hb | hb
      · simp at hb; subst hb; subst e; exact h1 ha
      · exact n3 a ha b (hsub b hb) e
  · intro x hx
    refine h.lt x ?_
    simp only [List.mem_append, List.mem_singleton] at hx ⊢
    rcases hx with (hx | hx) | hx
    · exact .inl hx
    · subst hx; exact .inr hit
    · exact .inr (hsub x hx)
  · rw [List.append_assoc, List.pairwise_append]
    refine ⟨p1, ?_, fun a ha b hb => ?_⟩
    · simp only [List.singleton_append, List.pairwise_cons]
      exact ⟨fun b hb => h2 b (h.lt b (List.mem_append_right _ (hsub b hb))) (fun hbl => n3 b hbl b (hsub b hb) rfl), p2.sublist List.erase_sublist⟩
    · rcases List.mem_append.1 hb with hb | hb
      · simp at hb; subst hb; exact p3 a ha _ hit
      · exact p3 a ha b (hsub b hb)
/-- the first order is the greedy one -/
theorem ords_grd (hirr : ∀ i, bar i i = false) : ∀ (r : Nat) (l : List Nat), Ord bar n l → Clo bar n l → r + l.length = n → ordsF bar n r l = grd bar n r l
  | 0, l, _, _, _ => rfl
  | r + 1, l, h, hc, hr => by
    unfold ordsF grd
    cases e : nxt bar n l with
    | none => exact firstF_none fun i _ hi => ords_dead h hc (by omega) hr hirr (nxt_none e (by omega))
    | some i =>
      obtain ⟨hi, hf, hq⟩ := nxt_some e
      obtain ⟨h1, h2⟩ := freeB_iff.1 hf
      have ho : ordOK bar l i = true := ordOK_iff.2 ⟨h1, fun k hk => hc k hk i hi h1⟩
      have ih := ords_grd hirr r (l ++ [i]) (h.snoc hi ho) (hc.snoc hf) (by simp; omega)
      dsimp only
      rw [← ih]
      have hpre : ∀ q, 0 ≤ q → q < i → (if ordOK bar l q = true then ordsF bar n r (l ++ [q]) else none) = none := fun q _ hqi => ords_dead h hc (by omega) hr hirr (hq q hqi)
      cases e2 : ordsF bar n r (l ++ [i]) with
      | some L => exact firstF_hit hpre (by omega) (by omega) (by rw [if_pos ho, e2])
      | none =>
        refine firstF_none fun q _ hqn => ?_
        by_cases hoq : ordOK bar l q = true
        · rw [if_pos hoq]
          cases e3 : ordsF bar n r (l ++ [q]) with
          | none => rfl
          | some L =>
            exfalso
            obtain ⟨h4, t, rfl, ht⟩ := ords_sound r _ L (h.snoc (by omega) hoq) e3
            rw [List.append_assoc] at h4
            have hlen : (l ++ ([q] ++ t)).length = n := by simp [ht]; omega
            have h5 := ords_swap h4 hlen hi hf
            have hit : i ∈ [q] ++ t := (List.mem_append.1 (h4.full hlen hi)).resolve_left h1
            have h6 := ords_compl r (l ++ [i]) _ h5 (by rw [List.length_erase_of_mem hit]; simp [ht])
            rw [e2] at h6; cases h6
        · rw [if_neg hoq]
theorem ord_nil : Ord bar n [] := ⟨by simp, by simp, by simp⟩
theorem clo_nil : Clo bar n [] := by simp [Clo]
theorem ords_grd0 (hirr : ∀ i, bar i i = false) : ordsF bar n n [] = grd bar n n [] := ords_grd hirr n [] ord_nil clo_nil (by simp)

/-! circles -/
def lnk (bar : Nat → Nat → Bool) : List Nat → Prop
  | [] => True
  | [_] => True
  | a :: b :: t => bar a b = true ∧ lnk bar (b :: t)
theorem lnk_split (m : Nat) (Y : List Nat) : ∀ X : List Nat, lnk bar (X ++ m :: Y) ↔ lnk bar (X ++ [m]) ∧ lnk bar (m :: Y)
  | [] => by simp [lnk]
  | [a] => by simp [lnk]
  | a :: b :: X => by
    have := lnk_split m Y (b :: X)
    simp only [List.cons_append, lnk] at this ⊢
    rw [this, and_assoc]
theorem lnk_at : ∀ (X : List Nat), lnk bar X → ∀ j (h : j + 1 < X.length), bar X[j] X[j + 1] = true
  | [], _, j, h => by simp at h
  | [_], _, j, h => by simp at h
  | a :: b :: t, hl, j, h => by
    cases j with
    | zero => exact hl.1
    | succ j => exact lnk_at (b :: t) hl.2 j (by simpa using h)
def lst (l : List Nat) : Nat := l.getD (l.length - 1) 0
def fst (l : List Nat) : Nat := l.getD 0 0
theorem lst_snoc (l : List Nat) (i : Nat) : lst (l ++ [i]) = i := by unfold lst; simp
theorem fst_app {l : List Nat} (t : List Nat) (h : l ≠ []) : fst (l ++ t) = fst l := by
  cases l with
  | nil => exact absurd rfl h
  | cons a l => rfl
theorem snoc_lst {l : List Nat} (h : l ≠ []) : ∃ X, l = X ++ [lst l] := by
  refine ⟨l.dropLast, ?_⟩
  have := List.dropLast_concat_getLast h
  have e : lst l = l.getLast h := by
    unfold lst
    rw [List.getLast_eq_getElem, List.getD_eq_getElem?_getD, List.getElem?_eq_getElem (by have := List.length_pos_iff.2 h; omega)]
    rfl
  rw [e]; exact this.symm
theorem lnk_snoc {l : List Nat} {i : Nat} (hn : l ≠ []) (h : lnk bar l) (hb : bar (lst l) i = true) : lnk bar (l ++ [i]) := by
  obtain ⟨X, hX⟩ := snoc_lst hn
  have e : l ++ [i] = X ++ lst l :: [i] := by conv => lhs; rw [hX]
                                              simp
  rw [e, lnk_split]
  exact ⟨by rw [← hX]; exact h, hb, trivial⟩
/-- the first circle that goes on from l with r colours more -/
def crcF (bar : Nat → Nat → Bool) (n : Nat) : Nat → List Nat → Option (List Nat)
  | 0, l => if bar (lst l) (fst l) = true then some l else none
  | r + 1, l => firstF (fun i => if bar (lst l) i = true ∧ i ∉ l then crcF bar n r (l ++ [i]) else none) (fst l + 1) (n - (fst l + 1))
def stkF (bar : Nat → Nat → Bool) (n : Nat) : Option (List Nat) := firstF (fun q => firstF (fun i => crcF bar n (q - 1) [i]) 0 n) 2 (n - 1)
structure Cyc (bar : Nat → Nat → Bool) (n : Nat) (L : List Nat) : Prop where
  nd : L.Nodup
  lt : ∀ x ∈ L, x < n
  lk : lnk bar (L ++ [fst L])
theorem crc_sound : ∀ (r : Nat) (l L : List Nat), l ≠ [] → l.Nodup → (∀ x ∈ l, x < n) → lnk bar l → crcF bar n r l = some L → Cyc bar n L ∧ ∃ t, L = l ++ t ∧ t.length = r
  | 0, l, L, h0, h1, h2, h3, e => by
    unfold crcF at e
    split at e
    · rename_i hb
      cases e
      exact ⟨⟨h1, h2, lnk_snoc h0 h3 hb⟩, [], by simp, rfl⟩
    · cases e
  | r + 1, l, L, h0, h1, h2, h3, e => by
    unfold crcF at e
    obtain ⟨i, _, h5, h6, _⟩ := firstF_some e
    split at h6
    · rename_i hb
      obtain ⟨h7, t, rfl, ht⟩ := crc_sound r (l ++ [i]) L (by simp) (by rw [List.nodup_append]; exact ⟨h1, by simp, fun a ha b hb' e => by simp at hb'; subst hb'; subst e; exact hb.2 ha⟩) (fun x hx => by rcases List.mem_append.1 hx with hx | hx; exact h2 x hx; simp at hx; omega) (lnk_snoc h0 h3 hb.1) h6
      exact ⟨h7, i :: t, by simp, by simp [ht]⟩
    · cases h6
theorem crc_compl : ∀ (r : Nat) (l t : List Nat), l ≠ [] → (l ++ t).Nodup → (∀ x ∈ t, fst l < x ∧ x < n) → lnk bar (l ++ t ++ [fst l]) → t.length = r → (crcF bar n r l).isSome = true
  | 0, l, t, h0, h1, h2, h3, e => by
    obtain rfl : t = [] := List.length_eq_zero_iff.1 e
    obtain ⟨X, hX⟩ := snoc_lst h0
    have hb : bar (lst l) (fst l) = true := by
      rw [List.append_nil] at h3
      have e2 : l ++ [fst l] = X ++ lst l :: [fst l] := by
        calc l ++ [fst l] = (X ++ [lst l]) ++ [fst l] := by rw [← hX]
          _ = _ := by simp
      rw [e2, lnk_split] at h3
      exact h3.2.1
    unfold crcF; rw [if_pos hb]; rfl
  | r + 1, l, t, h0, h1, h2, h3, e => by
    cases t with
    | nil => simp at e
    | cons a t =>
      obtain ⟨X, hX⟩ := snoc_lst h0
      have hb : bar (lst l) a = true := by
        have e2 : l ++ a :: t ++ [fst l] = X ++ lst l :: (a :: (t ++ [fst l])) := by
          calc l ++ a :: t ++ [fst l] = (X ++ [lst l]) ++ (a :: t ++ [fst l]) := by rw [← hX]; simp
            _ = _ := by simp
        rw [e2, lnk_split] at h3
        exact h3.2.1
      have ha : a ∉ l := fun hl => (List.nodup_append.1 h1).2.2 a hl a (by simp) rfl
      have h4 := h2 a (by simp)
      have := crc_compl r (l ++ [a]) t (by simp) (by simpa using h1) (fun x hx => by rw [fst_app _ h0]; exact h2 x (by simp [hx])) (by rw [fst_app _ h0]; simpa using h3) (by simpa using e)
      unfold crcF
      refine firstF_isSome (j := a) (by omega) (by omega) ?_
      rw [if_pos ⟨hb, ha⟩]; exact this
theorem stk_sound {L : List Nat} (h : stkF bar n = some L) : Cyc bar n L ∧ 2 ≤ L.length := by
  unfold stkF at h
  obtain ⟨q, h1, h2, h3, _⟩ := firstF_some h
  obtain ⟨i, h4, h5, h6, _⟩ := firstF_some h3
  obtain ⟨h7, t, rfl, ht⟩ := crc_sound (q - 1) [i] L (by simp) (by simp) (by simp; omega) trivial h6
  exact ⟨h7, by simp [ht]; omega⟩
theorem exists_min : ∀ (C : List Nat), C ≠ [] → ∃ m ∈ C, ∀ x ∈ C, m ≤ x
  | [], h => absurd rfl h
  | [a], _ => ⟨a, by simp, by simp⟩
  | a :: b :: C, _ => by
    obtain ⟨m, hm, h⟩ := exists_min (b :: C) (by simp)
    by_cases hle : a ≤ m
    · exact ⟨a, by simp, fun x hx => by rcases List.mem_cons.1 hx with rfl | hx; exact Nat.le_refl _; exact Nat.le_trans hle (h x hx)⟩
    · exact ⟨m, List.mem_cons_of_mem _ hm, fun x hx => by rcases List.mem_cons.1 hx with rfl | hx; omega; exact h x hx⟩
theorem stk_compl {C : List Nat} (h : Cyc bar n C) (h2 : 2 ≤ C.length) : (stkF bar n).isSome = true := by
  obtain ⟨m, hm, hmin⟩ := exists_min C (by intro e; rw [e] at h2; simp at h2)
  obtain ⟨A, B, rfl⟩ := List.append_of_mem hm
  have hnd : (m :: (B ++ A)).Nodup := by
    have hp : (A ++ m :: B).Perm (m :: (B ++ A)) := by
      refine (List.perm_append_comm).trans ?_
      simp
    exact hp.nodup_iff.1 h.nd
  have hmem : ∀ x ∈ B ++ A, x ∈ A ++ m :: B := fun x hx => by
    rcases List.mem_append.1 hx with hx | hx
    · exact List.mem_append_right _ (List.mem_cons_of_mem _ hx)
    · exact List.mem_append_left _ hx
  have hlk : lnk bar ([m] ++ (B ++ A) ++ [fst [m]]) := by
    have h3 := h.lk
    show lnk bar (m :: ((B ++ A) ++ [m]))
    cases A with
    | nil => simpa [fst] using h3
    | cons a A =>
      have e : fst (a :: A ++ m :: B) = a := rfl
      rw [e] at h3
      have e2 : a :: A ++ m :: B ++ [a] = (a :: A) ++ m :: (B ++ [a]) := by simp
      rw [e2, lnk_split] at h3
      have e3 : m :: ((B ++ a :: A) ++ [m]) = (m :: B) ++ a :: (A ++ [m]) := by simp
      rw [e3, lnk_split]
      exact ⟨h3.2, h3.1⟩
  have hlt : ∀ x ∈ B ++ A, fst [m] < x ∧ x < n := fun x hx => by
    have h4 := hmin x (hmem x hx)
    have h5 : x ≠ m := fun e => by subst e; exact (List.nodup_cons.1 hnd).1 hx
    exact ⟨by show m < x; omega, h.lt x (hmem x hx)⟩
  have hmn := h.lt m hm
  have hlen : (B ++ A).length + 1 = (A ++ m :: B).length := by simp; omega
  have hcn : (A ++ m :: B).length ≤ n := by
    have := nodup_len _ (List.range n) h.nd fun z hz => by simpa using h.lt z hz
    simpa using this
  unfold stkF
  refine firstF_isSome (j := (A ++ m :: B).length) h2 (by omega) ?_
  refine firstF_isSome (j := m) (by omega) (by omega) ?_
  exact crc_compl _ [m] (B ++ A) (by simp) (by simpa using hnd) hlt hlk (by omega)
/-- who is one of an order is not in a circle -/
theorem lnk_up {p : Nat → Nat} : ∀ (X : List Nat) (a : Nat), (∀ u v, u ∈ a :: X → v ∈ a :: X → bar u v = true → p u < p v) → lnk bar (a :: X) → ∀ x ∈ X, p a < p x
  | [], _, _, _, x, hx => by simp at hx
  | b :: X, a, h, hl, x, hx => by
    have hab := h a b (by simp) (by simp) hl.1
    rcases List.mem_cons.1 hx with rfl | hx
    · exact hab
    · have := lnk_up X b (fun u v hu hv => h u v (List.mem_cons_of_mem _ hu) (List.mem_cons_of_mem _ hv)) hl.2 x hx
      omega
theorem ord_idx {L : List Nat} (hirr : ∀ i, bar i i = false) (h : Ord bar n L) {u v : Nat} (hu : u ∈ L) (hv : v ∈ L) (hb : bar u v = true) : L.idxOf u < L.idxOf v := by
  have h1 := List.idxOf_lt_length_iff.2 hu
  have h2 := List.idxOf_lt_length_iff.2 hv
  have g1 : L[L.idxOf u] = u := List.getElem_idxOf h1
  have g2 : L[L.idxOf v] = v := List.getElem_idxOf h2
  rcases Nat.lt_trichotomy (L.idxOf u) (L.idxOf v) with h3 | h3 | h3
  · exact h3
  · have : u = v := by rw [← g1, ← g2]; simp only [h3]
    subst this; rw [hirr] at hb; cases hb
  · have := List.pairwise_iff_getElem.1 h.pw _ _ h2 h1 h3
    rw [g1, g2, hb] at this; cases this
theorem no_cyc {L C : List Nat} (hirr : ∀ i, bar i i = false) (h : Ord bar n L) (hl : L.length = n) (hC : Cyc bar n C) (h2 : 2 ≤ C.length) : False := by
  cases C with
  | nil => simp at h2
  | cons a C =>
    have := lnk_up (p := L.idxOf) (C ++ [a]) a (fun u v hu hv hb => by
      have hm : ∀ z ∈ a :: (C ++ [a]), z < n := fun z hz => by
        have : z ∈ a :: C := by simp at hz ⊢; rcases hz with h | h | h <;> simp [h]
        exact hC.lt z this
      exact ord_idx hirr h (h.full hl (hm u hu)) (h.full hl (hm v hv)) hb) hC.lk a (by simp)
    omega
/-- a list that goes back as long as it can closes a circle -/
theorem back_cyc {l : List Nat} (hirr : ∀ i, bar i i = false) (hf : ∀ i, i < n → i ∉ l → ∃ k, k < n ∧ k ∉ l ∧ bar k i = true) : ∀ (m : Nat) (p : List Nat), p ≠ [] → p.Nodup → (∀ x ∈ p, x < n ∧ x ∉ l) → lnk bar p → n ≤ m + p.length → ∃ C, Cyc bar n C ∧ 2 ≤ C.length
  | m, [], h0, _, _, _, _ => absurd rfl h0
  | m, a :: p, h0, h1, h2, h3, h4 => by
    obtain ⟨k, hk, hkl, hb⟩ := hf a (h2 a (by simp)).1 (h2 a (by simp)).2
    by_cases hm : k ∈ a :: p
    · have hkp : k ∈ p := by
        rcases List.mem_cons.1 hm with rfl | h
        · rw [hirr] at hb; cases hb
        · exact h
      obtain ⟨X, Y, rfl⟩ := List.append_of_mem hkp
      refine ⟨a :: (X ++ [k]), ⟨?_, ?_, ?_⟩, by simp⟩
      · have e : a :: (X ++ k :: Y) = a :: (X ++ [k]) ++ Y := by simp
        rw [e] at h1
        exact (List.nodup_append.1 h1).1
      · intro x hx
        refine (h2 x ?_).1
        simp at hx ⊢; rcases hx with h | h | h <;> simp [h]
      · have e : a :: (X ++ k :: Y) = (a :: X) ++ k :: Y := by simp
        rw [e, lnk_split] at h3
        have e2 : a :: (X ++ [k]) ++ [fst (a :: (X ++ [k]))] = (a :: X) ++ k :: [a] := by simp [fst]
        rw [e2, lnk_split]
        exact ⟨h3.1, hb, trivial⟩
    · cases m with
      | zero =>
        exfalso
        have := nodup_len (k :: a :: p) (List.range n) (List.nodup_cons.2 ⟨hm, h1⟩) fun z hz => by
          rcases List.mem_cons.1 hz with rfl | hz
          · simpa using hk
          · simpa using (h2 z hz).1
        simp at this h4; omega
      | succ m => exact back_cyc hirr hf m (k :: a :: p) (by simp) (List.nodup_cons.2 ⟨hm, h1⟩) (fun x hx => by rcases List.mem_cons.1 hx with rfl | hx; exact ⟨hk, hkl⟩; exact h2 x hx) ⟨hb, h3⟩ (by simp at h4 ⊢; omega)
/-- where the greedy order stops there is a circle -/
theorem grd_cyc (hirr : ∀ i, bar i i = false) : ∀ (r : Nat) (l : List Nat), l.Nodup → (∀ x ∈ l, x < n) → r + l.length = n → grd bar n r l = none → ∃ C, Cyc bar n C ∧ 2 ≤ C.length
  | 0, l, _, _, _, e => by cases e
  | r + 1, l, h1, h2, h3, e => by
    unfold grd at e
    cases e2 : nxt bar n l with
    | some i =>
      rw [e2] at e
      obtain ⟨hi, hf, _⟩ := nxt_some e2
      have hil := (freeB_iff.1 hf).1
      exact grd_cyc hirr r (l ++ [i]) (by rw [List.nodup_append]; exact ⟨h1, by simp, fun a ha b hb hab => by simp at hb; exact hil (by rw [← hb, ← hab]; exact ha)⟩) (fun x hx => by rcases List.mem_append.1 hx with hx | hx; exact h2 x hx; simp at hx; omega) (by simp; omega) e
    | none =>
      have hf : ∀ i, i < n → i ∉ l → ∃ k, k < n ∧ k ∉ l ∧ bar k i = true := fun i hi hil => by
        have := nxt_none e2 hi
        refine Classical.byContradiction fun hno => ?_
        have : freeB bar n l i = true := freeB_iff.2 ⟨hil, fun k hk hkl => by
          cases hb : bar k i with
          | false => rfl
          | true => exact absurd ⟨k, hk, hkl, hb⟩ hno⟩
        rw [nxt_none e2 hi] at this; cases this
      obtain ⟨i, hi, hil⟩ : ∃ i, i < n ∧ i ∉ l := by
        refine Classical.byContradiction fun hno => ?_
        have := nodup_len (List.range n) l List.nodup_range fun z hz => by
          refine Classical.byContradiction fun hzl => hno ⟨z, by simpa using hz, hzl⟩
        simp at this; omega
      exact back_cyc hirr hf n [i] (by simp) (by simp) (by simp; exact ⟨hi, hil⟩) trivial (by simp)
/-- a circle is found just if there is no order -/
theorem stk_ords (hirr : ∀ i, bar i i = false) : (stkF bar n).isSome = !(ordsF bar n n []).isSome := by
  cases e : ordsF bar n n [] with
  | some L =>
    obtain ⟨h, t, rfl, ht⟩ := ords_sound n [] L ord_nil e
    cases e2 : stkF bar n with
    | none => rfl
    | some C =>
      obtain ⟨h3, h4⟩ := stk_sound e2
      exact (no_cyc hirr h (by simpa using ht) h3 h4).elim
  | none =>
    rw [ords_grd0 hirr] at e
    obtain ⟨C, h1, h2⟩ := grd_cyc hirr n [] (by simp) (by simp) (by simp) e
    rw [stk_compl h1 h2]; rfl
end
end Go.Proofs.YtkfeagokmcakgaaGreatDoor

namespace Go.Proofs.YtkfeagokmcakgaaGreatDoor
open Go.RowKit

set_option maxHeartbeats 400000 in
theorem clipI_any (ad : Addr) (n c : Nat) (w : World) (hn : n ≤ c) (hc : c ≤ maxLen) : Calls Tryz.prog 136 #[.slice (some ad) n c] w fun e w' => e = .returned (.slice (some ad) n n) ∧ w' = w := by
  have h0 : (0 : Int) ≤ (n : Int) := by omega
  have h1 : (n : Int) ≤ (c : Int) := by omega
  go_enter Tryz.func136, Tryz.ntmps136
  go_wp2
  go_ret
  exact ⟨by simp, rfl⟩
/-- append of one element to a full row -/
theorem wpList_append_full {P : Program} {ops : Array Oper} {rest : List Oper} {o : Oper} {a : Act} {w : World} {Q : Exit → Act → World → Prop} (hgd : o.guard = none) (s x : Operand) (t : TypeId)
    (ho : o.op = .call { callee := .builtin .append, args := #[s, x], argTypes := #[t, t] })
    (e : TypeId) (z : Value) (size bytes : Nat) (ht : P.underlying t = some (.slice e)) (hi : (P.info? e).map (fun i => (i.zero, i.size, i.bytes)) = some (some z, size, bytes)) (hzs : z.cells.size = size) (hsz : 0 < size)
    (ad : Addr) (n : Nat) (olds : List Value) (hs : a.eval s = .slice (some ad) n n) (hlo : olds.length = n * size) (hold : ∀ j u, olds[j]? = some u → w.cell? (ad.add j) = some u)
    (b : Nat) (C : Array Value) (tt : TypeId) (hx : a.eval x = .slice (some ⟨b, 0, none⟩) 1 1) (hbk : Bk w b tt C) (hl : C.size = size) (h1 : ∀ u ∈ C.toList, u.oneCell' = true)
    (h63 : n < 100000) (hbytes : bytes ≤ 1000)
    (h : ∀ v' w', w'.ownsRow w.heap.size e size v' (n + 1) (olds ++ C.toList) → w.grownBy w' none → wpList P ops Q rest (a.put o.dst v') w') : wpList P ops Q (o :: rest) a w := by
  obtain ⟨i0, hi0, hz0, hz1, hz2⟩ := info_parts hi
  refine wpList_plain hgd fun K' hK' => ?_
  refine wp_append_grows w s x t ho e i0 z size bytes ht hi0 hz0 hz1 hz2 hzs hsz (some ad) n n olds hs (fun e => by cases e) hlo (fun b hb j u hj => by cases hb; exact hold j u hj) ⟨b, 0, none⟩ 1 1 C.toList hx (by simpa using hl) (bk_cells hbk) h1 (by omega) (by unfold maxLen; omega) ?_ ?_
  · calc (n + 1) * bytes ≤ 100000 * 1000 := Nat.mul_le_mul (by omega) hbytes
      _ ≤ 140737488355328 := by decide
  · intro v' w' ho' hg
    exact hK' _ _ (h v' w' ho' hg)
/-- what a search for a circle answers -/
def RndE (o : Option (List Nat)) (w : World) (e : Ending) (w' : World) : Prop := Below w.heap.size w w' ∧ match o with
  | none => e = .returned (.slice none 0 0)
  | some L => ∃ ad c, e = .returned (.slice (some ad) L.length c) ∧ Lies w' w'.heap.size (some ad) (nats L) ∧ (L.length ≤ c ∧ c ≤ maxLen)
theorem RndE.none_ {o : Option (List Nat)} {w w' : World} (h : o = none) (hb : Below w.heap.size w w') : RndE o w (.returned (.slice none 0 0)) w' := ⟨hb, by rw [h]⟩
theorem RndE.some_ {o : Option (List Nat)} {L : List Nat} {w w' : World} {ad : Addr} {n c : Nat} (h : o = some L) (hn : L.length = n) (hl : Lies w' w'.heap.size (some ad) (nats L)) (hc : n ≤ c ∧ c ≤ maxLen) (hb : Below w.heap.size w w') : RndE o w (.returned (.slice (some ad) n c)) w' := ⟨hb, by rw [h]; exact ⟨ad, c, by rw [hn], hl, by rw [hn]; exact hc⟩⟩
theorem lies_get {w : World} {B : Nat} {ad : Addr} {cs : List Value} (h : Lies w B (some ad) cs) {j : Nat} {u : Value} (hj : cs[j]? = some u) : w.cell? (ad.add j) = some u := by
  obtain ⟨a2, e, _, hc⟩ := h (by intro e; rw [e] at hj; simp at hj)
  cases e
  exact hc j u hj
theorem lst_at {l : List Nat} {m : Nat} (h : l.length = m + 1) : lst l = l[m] := by
  unfold lst
  rw [List.getD_eq_getElem?_getD, List.getElem?_eq_getElem (by omega)]
  simp only [Option.getD_some]
  congr 1; omega
theorem fst_at {l : List Nat} {m : Nat} (h : l.length = m + 1) : fst l = l[0] := by
  unfold fst; simp [List.getD_eq_getElem?_getD, h]
theorem nats_one (l : List Nat) : ∀ u ∈ nats l, u.oneCell' = true := by
  intro u hu
  unfold nats at hu
  obtain ⟨i, _, rfl⟩ := List.mem_map.1 hu
  rfl
theorem info3n : (Tryz.prog.info? 3).map (fun i => (i.zero, i.size, i.bytes)) = some (some (.int .i64 0), 1, 8) := by kernel_rfl
set_option maxRecDepth 100000 in
set_option maxHeartbeats 2500000 in
theorem round_step {bs n c : Nat} {A : Option Addr} {bar : Nat → Nat → Bool} (hn : n ≤ 8) (r : Nat) (q : Int)
    (IH : ∀ (m : Nat) (l : List Nat) (ad : Addr) (cl : Nat) (w : World), l.length = m + 1 → q = (m : Int) + 1 + r → StkW bs A n c bar w → Lies w w.heap.size (some ad) (nats l) → (∀ j ∈ l, j < n) → (m + 1 ≤ cl ∧ cl ≤ maxLen) → m + 1 + r ≤ 1000 → Calls Tryz.prog 105 #[.pointer (some ⟨bs, 0, none⟩), .slice (some ad) (m + 1) cl, .int .i64 q] w (RndE (crcF bar n r l) w))
    (m : Nat) (l : List Nat) (ad : Addr) (cl : Nat) (w : World) (hm : l.length = m + 1) (hq : q = (m : Int) + 1 + (r + 1 : Nat)) (hs : StkW bs A n c bar w) (hl : Lies w w.heap.size (some ad) (nats l)) (hlt : ∀ j ∈ l, j < n) (hcl : m + 1 ≤ cl ∧ cl ≤ maxLen) (h1000 : m + 1 + (r + 1) ≤ 1000) :
    Calls Tryz.prog 105 #[.pointer (some ⟨bs, 0, none⟩), .slice (some ad) (m + 1) cl, .int .i64 q] w (RndE (crcF bar n (r + 1) l) w) := by
  have HS : Hid (∀ V, Below w.heap.size w V → StkW bs A n c bar V) := fun V hV => hs.below hV (cell_lt hs.col)
  have HL : Hid (∀ V, Below w.heap.size w V → Lies V V.heap.size (some ad) (nats l)) := fun V hV => (hl.below hV (Nat.le_refl _)).more hV.size
  have p0 : 0 < l.length := hm ▸ Nat.succ_pos m
  have pm : m < l.length := hm ▸ Nat.lt_succ_self m
  have hL0 : l[0] < n := hlt _ (List.getElem_mem p0)
  have hLm : l[m] < n := hlt _ (List.getElem_mem pm)
  obtain ⟨_, e1, _, c0⟩ := nat_at hl (k := 0) p0
  cases e1
  obtain ⟨_, e1, _, cm⟩ := nat_at hl (k := m) pm
  cases e1
  have ez : ad.add 0 = ad := by unfold Addr.add; rfl
  rw [ez] at c0
  clear ez
  obtain ⟨F, hF⟩ : ∃ F : Nat → Option (List Nat), F = fun i => if bar l[m] i = true ∧ i ∉ l then crcF bar n r (l ++ [i]) else none := ⟨_, rfl⟩
  have HFD : Hid (∀ i, F i = if bar l[m] i = true ∧ i ∉ l then crcF bar n r (l ++ [i]) else none) := fun i => by rw [hF]
  have HF : Hid (crcF bar n (r + 1) l = firstF F (l[0] + 1) (n - (l[0] + 1))) := by
    show _ = _
    conv => lhs; unfold crcF
    rw [lst_at hm, fst_at hm, hF]
  have HFA : Hid (∀ i, i < n → firstF F i (n - i) = match F i with
    | some v => some v
    | none => firstF F (i + 1) (n - (i + 1))) := fun i hi => firstF_at hi
  have HFN : Hid (firstF F n (n - n) = none) := by show _ = _; rw [Nat.sub_self]; rfl
  clear hF
  have HCT : Hid (∀ (i : Nat) V, Below w.heap.size w V → Calls Tryz.prog 133 #[.slice (some ad) (m + 1) cl, .int .i64 i] V (BoolEnd (decide (i ∈ l)) V)) := fun i V hV => by
    have h := contains133_any l (some ad) cl i V (HL.out V hV) (by omega)
    rw [hm] at h
    have e : (l.any fun y => decide (y = i)) = decide (i ∈ l) := by
      by_cases hi : i ∈ l
      · rw [decide_eq_true hi]; exact List.any_eq_true.2 ⟨i, hi, by simp⟩
      · rw [decide_eq_false hi, List.any_eq_false]; intro y hy; simp; rintro rfl; exact hi hy
    rwa [e] at h
  have HCL : Hid (∀ V, Calls Tryz.prog 136 #[.slice (some ad) (m + 1) cl] V fun e w' => e = .returned (.slice (some ad) (m + 1) (m + 1)) ∧ w' = V) := fun V => clipI_any ad (m + 1) cl V hcl.1 hcl.2
  have HIH : Hid (∀ (i : Nat), i < n → ∀ (a2 : Addr) (c2 : Nat) V, Below w.heap.size w V → Lies V V.heap.size (some a2) (nats (l ++ [i])) → (m + 1 + 1 ≤ c2 ∧ c2 ≤ maxLen) → Calls Tryz.prog 105 #[.pointer (some ⟨bs, 0, none⟩), .slice (some a2) (m + 1 + 1) c2, .int .i64 q] V (RndE (crcF bar n r (l ++ [i])) V)) := fun i hi a2 c2 V hV h1 h2 => by
    refine IH (m + 1) (l ++ [i]) a2 c2 V (by simp [hm]) (by omega) (HS.out V hV) h1 (fun j hj => ?_) h2 (by omega)
    rcases List.mem_append.1 hj with hj | hj
    · exact hlt j hj
    · simp at hj; omega
  have hne : (((m : Int) + 1) == q) = false := by
    cases h : ((m : Int) + 1) == q with
    | false => rfl
    | true => have := beq_iff_eq.1 h; omega
  have hmI : (m : Int) < (m : Int) + 1 := by omega
  have HLI : Hid (nats_len l = nats_len l) := rfl
  have HNL : Hid ((nats l).length = (m + 1) * 1) := by show _ = _; rw [nats_len, hm]; omega
  have HM2 : Hid (m + 1 < 100000) := by show _ < _; omega
  have hw1 : wrap64 (m : Int) = (m : Int) := by unfold wrap64; omega
  clear hs hl hlt hcl hq IH HLI
  generalize crcF bar n (r + 1) l = R at *
  generalize hx0 : l[0] = x0 at *
  generalize hxm : l[m] = xm at *
  have h0I : (x0 : Int) < 8 := by omega
  clear hx0 hxm h1000
  go_enter Tryz.func105, Tryz.ntmps105
  go_upto_region 7 with fail
  have hnq := fun V (a : Option Addr) (n c : Nat) => run_neq_slice_nil_any (P := Tryz.prog) V 42 3 a n c 0 0 Tryz.underlying42
  clear c0 cm hw1 hne hmI
  go_loopw [8] (fun y wr => ∃ k : Nat, k ≤ n ∧ y = .int .i64 k ∧ Hid (R = firstF F k (n - k)) ∧ Below w.heap.size w wr) (fun y _ => n - (intOf y).toNat)
  case atStart => exact ⟨x0 + 1, by omega, by go_num, HF, Below.refl _ _⟩
  case round =>
    obtain ⟨k, hk, rfl, HRk, hbw⟩ := hrel
    have hcol := (HS.out wr hbw).col
    clear HF
    by_cases hlk : k < n
    · have hcell : wr.cell? ⟨bs, 1 + xm * 8 + k, none⟩ = some (.bool (bar xm k)) := by rw [Nat.add_assoc]; exact (HS.out wr hbw).bar xm k (by omega) (by omega)
      have hkI : (k : Int) < 8 := by omega
      have hxI : (xm : Int) < 8 := by omega
      have HFK := Lib.hid (HFA.out k hlk)
      have HFV := Lib.hid (HFD.out k)
      have HC := Lib.hid (fun V hV => HCT.out k V hV)
      clear HFA HFN HFD HCT
      cases hb : bar xm k with
      | false =>
        have HN : Hid (R = firstF F (k + 1) (n - (k + 1))) := by
          have e : F k = none := by rw [HFV.out, if_neg (by rw [hb]; simp)]
          show _ = _
          rw [HRk.out, HFK.out, e]
        rw [hb] at hcell
        clear HFK HFV HC HRk HIH HCL hb
        go_wp2
        go_roundw
        case rel => exact ⟨k + 1, by omega, by go_num, HN, hbw⟩
        case measure => simp [intOf]; omega
      | true =>
        rw [hb] at hcell
        by_cases hin : k ∈ l
        · have HN : Hid (R = firstF F (k + 1) (n - (k + 1))) := by
            have e : F k = none := by rw [HFV.out, if_neg (by simp [hin])]
            show _ = _
            rw [HRk.out, HFK.out, e]
          rw [decide_eq_true hin] at HC
          clear HFK HFV HRk HIH HCL hb hin
          go_wp2_with (go_at_call 133; refine (HC.out _ hbw).mono ?_; rintro e w1 ⟨rfl, rfl⟩)
          go_roundw
          case rel => exact ⟨k + 1, by omega, by go_num, HN, hbw⟩
          case measure => simp [intOf]; omega
        · rw [decide_eq_false hin] at HC
          have HI := Lib.hid (fun a2 c2 V hV h1 h2 => HIH.out k hlk a2 c2 V hV h1 h2)
          have e : F k = crcF bar n r (l ++ [k]) := by rw [HFV.out, if_pos ⟨hb, hin⟩]
          rw [e] at HFK
          have hlen : (l ++ [k]).length = m + 1 + 1 := by simp [hm]
          clear HFV HIH hb hin e
          generalize crcF bar n r (l ++ [k]) = O at *
          have HCC := HCL.out wr
          clear HCL
          go_upto_region 11 with (first
            | (go_at_call 133; refine (HC.out _ hbw).mono ?_; rintro e w1 ⟨rfl, hw1⟩; obtain rfl : wr = w1 := by first | exact hw1 | exact hw1.symm)
            | (go_at_call 136; refine HCC.mono ?_; rintro e w1 ⟨rfl, hw1⟩; obtain rfl : wr = w1 := hw1.symm)
            | (at_builtin; refine wpList_append_full (P := Tryz.prog) rfl (.tmp 60) (.tmp 62) 42 rfl 3 (.int .i64 0) 1 8 Tryz.underlying42 info3n (by decide) (by decide) ad (m + 1) (nats l) rfl HNL.out (fun j u hj => lies_get (HL.out _ (hbw.alloc hbw.size _)) hj) wr.heap.size #[.int .i64 k] 3 rfl (Bk.new _ _ _) rfl ?c1 HM2.out (by decide) ?_))
          case c1 => rfl
          intro v4 w4 ho4 hg4
          have hb4 : Below w.heap.size w w4 := Below.grown (hbw.alloc hbw.size _) hg4 (by have := hbw.size; simp; omega) (fun g e => by cases e)
          obtain ⟨A4, c4, rfl, hc4, hcm4⟩ := ownsSlice ho4
          obtain ⟨g4, rfl, _⟩ := own_some ho4 (Nat.succ_pos _)
          have hsn : nats l ++ (#[Value.int .i64 k] : Array Value).toList = nats (l ++ [k]) := by simp [nats]
          rw [hsn] at ho4
          have HI4 := Lib.hid (HI.out ⟨g4, 0, none⟩ c4 w4 hb4 (ownsRow_lies ho4) ⟨hc4, hcm4⟩)
          clear ho4 hg4 hsn HI HC HCC hcell hlen
          cases O with
          | none =>
            have HN : Hid (R = firstF F (k + 1) (n - (k + 1))) := by show _ = _; rw [HRk.out, HFK.out]
            clear HFK HRk
            go_wp2_with (go_at_call 105; refine HI4.out.mono ?_; rintro e w5 ⟨hb5, rfl⟩)
            go_roundw
            case rel => exact ⟨k + 1, by omega, by go_num, HN, hb4.trans (hb5.mono hb4.size)⟩
            case measure => simp [intOf]; omega
          | some L =>
            have HN : Hid (R = some L) := by show _ = _; rw [HRk.out, HFK.out]
            clear HFK HRk
            go_wp2_with (go_at_call 105; refine HI4.out.mono ?_; rintro e w5 ⟨hb5, a5, c5, rfl, l5, h5⟩)
            have HL5 := Lib.hid l5
            clear l5
            go_ret
            exact RndE.some_ HN.out rfl HL5.out h5 (hb4.trans (hb5.mono hb4.size))
    · obtain rfl : k = n := by omega
      have HN : Hid (R = none) := by show _ = _; rw [HRk.out, HFN.out]
      clear HFA HFN HFD HCT HRk HIH HCL
      go_wp2
      go_ret
      exact RndE.none_ HN.out hbw
end Go.Proofs.YtkfeagokmcakgaaGreatDoor

namespace Go.Proofs.YtkfeagokmcakgaaGreatDoor
open Go.RowKit

set_option maxRecDepth 100000 in
set_option maxHeartbeats 1000000 in
theorem round_zero {bs n c : Nat} {A : Option Addr} {bar : Nat → Nat → Bool} (hn : n ≤ 8) (q : Int)
    (m : Nat) (l : List Nat) (ad : Addr) (cl : Nat) (w : World) (hm : l.length = m + 1) (hq : q = (m : Int) + 1) (hs : StkW bs A n c bar w) (hl : Lies w w.heap.size (some ad) (nats l)) (hlt : ∀ j ∈ l, j < n) (hcl : m + 1 ≤ cl ∧ cl ≤ maxLen) (h1000 : m + 1 ≤ 1000) :
    Calls Tryz.prog 105 #[.pointer (some ⟨bs, 0, none⟩), .slice (some ad) (m + 1) cl, .int .i64 q] w (RndE (crcF bar n 0 l) w) := by
  subst hq
  have p0 : 0 < l.length := hm ▸ Nat.succ_pos m
  have pm : m < l.length := hm ▸ Nat.lt_succ_self m
  have hL0 : l[0] < n := hlt _ (List.getElem_mem p0)
  have hLm : l[m] < n := hlt _ (List.getElem_mem pm)
  obtain ⟨_, e1, _, c0⟩ := nat_at hl (k := 0) p0
  cases e1
  obtain ⟨_, e1, _, cm⟩ := nat_at hl (k := m) pm
  cases e1
  have ez : ad.add 0 = ad := by unfold Addr.add; rfl
  rw [ez] at c0
  clear ez
  have HF : Hid (crcF bar n 0 l = if bar l[m] l[0] = true then some l else none) := by
    show _ = _
    unfold crcF
    rw [lst_at hm, fst_at hm]
  have hcell : w.cell? ⟨bs, 1 + l[m] * 8 + l[0], none⟩ = some (.bool (bar l[m] l[0])) := by rw [Nat.add_assoc]; exact hs.bar _ _ (by omega) (by omega)
  have q0 := hs.col
  have HM : Hid (l.length = m + 1) := hm
  have HL := Lib.hid hl
  have hmI : (m : Int) < (m : Int) + 1 := by omega
  have h0I : ((l[0] : Nat) : Int) < 8 := by omega
  have hmmI : ((l[m] : Nat) : Int) < 8 := by omega
  have hw1 : wrap64 (m : Int) = (m : Int) := by unfold wrap64; omega
  clear hs hl hlt h1000 hL0 hLm
  generalize hx0 : l[0] = x0 at *
  generalize hxm : l[m] = xm at *
  clear hx0 hxm p0 pm hm
  cases hb : bar xm x0 with
  | true =>
    rw [hb] at hcell HF
    clear hb
    go_enter Tryz.func105, Tryz.ntmps105
    go_wp2
    go_region
    all_goals
      go_wp2
      go_ret
      exact RndE.some_ (HF.out.trans (by simp)) HM.out HL.out hcl (by exact (by repeat (first | with_reducible exact Below.refl _ _ | with_reducible assumption | with_reducible refine Below.drew ?_ | with_reducible refine below_drewN ?_ _ | (with_reducible refine Below.alloc ?_ ?_ _; rotate_left; (try simp) <;> omega) | (with_reducible refine Below.setCell ?_ ?_ _; rotate_left; (try simp) <;> omega))))
  | false =>
    rw [hb] at hcell HF
    clear hb
    go_enter Tryz.func105, Tryz.ntmps105
    go_wp2
    go_region
    all_goals
      go_wp2
      go_ret
      exact RndE.none_ (HF.out.trans (by simp)) (by exact (by repeat (first | with_reducible exact Below.refl _ _ | with_reducible assumption | with_reducible refine Below.drew ?_ | with_reducible refine below_drewN ?_ _ | (with_reducible refine Below.alloc ?_ ?_ _; rotate_left; (try simp) <;> omega) | (with_reducible refine Below.setCell ?_ ?_ _; rotate_left; (try simp) <;> omega))))
/-- the first circle that goes on from a list -/
theorem round_any {bs n c : Nat} {A : Option Addr} {bar : Nat → Nat → Bool} (hn : n ≤ 8) (q : Int) : ∀ (r m : Nat) (l : List Nat) (ad : Addr) (cl : Nat) (w : World), l.length = m + 1 → q = (m : Int) + 1 + r → StkW bs A n c bar w → Lies w w.heap.size (some ad) (nats l) → (∀ j ∈ l, j < n) → (m + 1 ≤ cl ∧ cl ≤ maxLen) → m + 1 + r ≤ 1000 →
    Calls Tryz.prog 105 #[.pointer (some ⟨bs, 0, none⟩), .slice (some ad) (m + 1) cl, .int .i64 q] w (RndE (crcF bar n r l) w)
  | 0, m, l, ad, cl, w, h1, h2, h3, h4, h5, h6, h7 => round_zero hn q m l ad cl w h1 (by simpa using h2) h3 h4 h5 h6 (by omega)
  | r + 1, m, l, ad, cl, w, h1, h2, h3, h4, h5, h6, h7 => round_step hn r q (fun m l ad cl w => round_any hn q r m l ad cl w) m l ad cl w h1 h2 h3 h4 h5 h6 h7
end Go.Proofs.YtkfeagokmcakgaaGreatDoor

namespace Go.Proofs.YtkfeagokmcakgaaGreatDoor
open Go.RowKit

/-- a list of colours, whether there is one, an error -/
def SnE (v : List ByteArray × Bool × Int) (w : World) (e : Ending) (w' : World) : Prop := ∃ A c, e = .returned (.tuple #[.slice A v.1.length c, .bool v.2.1, .int .i64 v.2.2]) ∧ Lies w' w'.heap.size A (strsC v.1) ∧ (v.1.length ≤ c ∧ c ≤ maxLen) ∧ Below w.heap.size w w'
theorem SnE.none_ {v : List ByteArray × Bool × Int} {w w' : World} {b : Bool} {k : Int} (h : v = ([], b, k)) (hb : Below w.heap.size w w') : SnE v w (.returned (.tuple #[.slice none 0 0, .bool b, .int .i64 k])) w' := by
  subst h
  exact ⟨none, 0, rfl, fun hn => absurd rfl hn, ⟨Nat.le_refl _, Nat.zero_le _⟩, hb⟩
/-- what Stuck returns -/
def stk (d : List Rul) (cols : List ByteArray) : List ByteArray × Bool × Int := if stE cols = 0 then (match stkF (barM d cols) cols.length with
  | none => ([], false, 0)
  | some L => (L.map (colAt cols), true, 0)) else ([], false, stE cols)
theorem stE_len {cols : List ByteArray} (h : stE cols = 0) : cols.length ≤ 8 := by
  unfold stE at h
  by_cases h8 : 8 < cols.length
  · rw [if_pos h8] at h; omega
  · omega
theorem stkF_top (bar : Nat → Nat → Bool) (n : Nat) : stkF bar n = firstF (fun q => firstF (fun i => crcF bar n (q - 1) [i]) 0 n) 2 (n + 1 - 2) := by
  unfold stkF; congr 1
set_option maxRecDepth 100000 in
set_option maxHeartbeats 2500000 in
theorem stuck_any (l : List Rul) (A : Option Addr) (c : Nat) (known : Int) (cols : List ByteArray) (Ac : Option Addr) (cc : Nat) (w : World) (hl : Lies w w.heap.size A (rulesC l)) (hok : RulOK l) (hm : l.length ≤ 1000) (hlc : Lies w w.heap.size Ac (strsC cols)) (hcs : ∀ s ∈ cols, s.size ≤ 100) (hcm : cols.length ≤ 1000) (hcc : cols.length ≤ cc ∧ cc ≤ maxLen) :
    Calls Tryz.prog 56 #[.agg #[.slice A l.length c], .int .i64 known, .slice Ac cols.length cc] w (SnE (stk (cntL l known) cols) w) := by
  have HW : Hid (Below w.heap.size w (w.alloc (.cells #[.slice A l.length c] 25))) := (Below.refl _ _).alloc (Nat.le_refl _) _
  have HST := Lib.hid (stacked_any l A c known cols Ac cc (w.alloc (.cells #[.slice A l.length c] 25)) ((hl.below HW.out (Nat.le_refl _)).more HW.out.size) hok hm ((hlc.below HW.out (Nat.le_refl _)).more HW.out.size) hcs hcm hcc)
  have HLC : Hid (∀ V, Below (w.alloc (.cells #[.slice A l.length c] 25)).heap.size (w.alloc (.cells #[.slice A l.length c] 25)) V → Lies V V.heap.size Ac (strsC cols)) := fun V hV => by
    have hb := HW.out.trans (hV.mono HW.out.size)
    exact (hlc.below hb (Nat.le_refl _)).more hb.size
  have HEND : Hid (∀ V, Below (w.alloc (.cells #[.slice A l.length c] 25)).heap.size (w.alloc (.cells #[.slice A l.length c] 25)) V → Below w.heap.size w V) := fun V hV => HW.out.trans (hV.mono HW.out.size)
  have x0 : (w.alloc (.cells #[.slice A l.length c] 25)).cell? ⟨w.heap.size, 0, none⟩ = some (.slice A l.length c) := (Bk.new w 25 #[.slice A l.length c]).cell 0 rfl
  clear hl hlc hok hm hcs hcc
  generalize cntL l known = d at *
  go_enter Tryz.func56, Tryz.ntmps56
  go_upto_region 1 with fail
  have hB0 : Below (w.alloc (.cells #[.slice A l.length c] 25)).heap.size (w.alloc (.cells #[.slice A l.length c] 25)) (w.alloc (.cells #[.slice A l.length c] 25)) := Below.refl _ _
  clear HW
  generalize w.alloc (.cells #[.slice A l.length c] 25) = W0 at *
  by_cases h0 : stE cols = 0
  · have h8 := stE_len h0
    have HR0 : Hid (stk d cols = match stkF (barM d cols) cols.length with
        | none => ([], false, 0)
        | some L => (L.map (colAt cols), true, 0)) := by show _ = _; unfold stk; rw [if_pos h0]
    have HTOP := Lib.hid (stkF_top (barM d cols) cols.length)
    have HSND : Hid (∀ r i L, i < cols.length → crcF (barM d cols) cols.length r [i] = some L → (∀ j ∈ L, j < cols.length) ∧ L.length ≤ 1000) := fun r i L hi h => by
      obtain ⟨h1, t, rfl, ht⟩ := crc_sound r [i] L (by simp) (by simp) (by simp; exact hi) trivial h
      refine ⟨h1.lt, ?_⟩
      have := nodup_len _ (List.range cols.length) h1.nd fun z hz => by simpa using h1.lt z hz
      rw [List.length_range] at this; omega
    have HRND := Lib.hid (fun bs q r m l ad cl W h1 h2 h3 h4 h5 h6 h7 => round_any (bs := bs) (c := cc) (A := Ac) (bar := barM d cols) h8 q r m l ad cl W h1 h2 h3 h4 h5 h6 h7)
    have H0 := Lib.hid h0
    clear h0
    go_upto_region 4 with (go_at_call 100; refine HST.out.mono ?_; rintro e w1 ⟨(⟨h, _⟩ | ⟨_, bs, rfl, hstk⟩), hb1⟩; (first | (exact absurd H0.out h) | skip))
    have HB1 : Hid (∀ V, Below w1.heap.size w1 V → Below w.heap.size w V) := fun V hV => HEND.out V (hb1.trans (hV.mono hb1.size))
    have HS : Hid (∀ V, Below w1.heap.size w1 V → StkW bs Ac cols.length cc (barM d cols) V) := fun V hV => hstk.below hV (cell_lt hstk.col)
    have HNM : Hid (∀ V, Below w1.heap.size w1 V → ∀ (L : List Nat) A' c', Lies V V.heap.size A' (nats L) → (∀ j ∈ L, j < cols.length) → L.length ≤ 1000 → Calls Tryz.prog 102 #[.pointer (some ⟨bs, 0, none⟩), .slice A' L.length c'] V (NmE (L.map (colAt cols)) V)) := fun V hV L A' c' h1 h2 h3 => colNamed_any L A' c' V (HS.out V hV).col (HLC.out V (hb1.trans (hV.mono hb1.size))) h1 h2 h3 hcm
    have HRN : Hid (∀ (q i : Nat) V, 2 ≤ q → q ≤ 9 → i < cols.length → Below w1.heap.size w1 V → Calls Tryz.prog 105 #[.pointer (some ⟨bs, 0, none⟩), .slice (some ⟨V.heap.size, 0, none⟩) 1 1, .int .i64 q] (V.alloc (.cells #[.int .i64 i] 3)) (RndE (crcF (barM d cols) cols.length (q - 1) [i]) (V.alloc (.cells #[.int .i64 i] 3)))) := fun q i V h1 h2 h3 hV =>
      HRND.out bs q (q - 1) 0 [i] ⟨V.heap.size, 0, none⟩ 1 _ rfl (by omega) (HS.out _ (hV.alloc hV.size _)) ((Bk.new V 3 #[.int .i64 i]).lies (by simp)) (fun j hj => by simp at hj; omega) ⟨by omega, by unfold maxLen; omega⟩ (by omega)
    have hB1 : Below w1.heap.size w1 w1 := Below.refl _ _
    have hnq := fun V (a : Option Addr) (n c : Nat) => run_neq_slice_nil_any (P := Tryz.prog) V 42 3 a n c 0 0 Tryz.underlying42
    clear hstk hb1 HST HRND HLC HEND hB0 x0
    generalize barM d cols = bar at *
    generalize hcl : cols.length = n at *
    have HFA : Hid (∀ q, q < n + 1 → firstF (fun q => firstF (fun i => crcF bar n (q - 1) [i]) 0 n) q (n + 1 - q) = match firstF (fun i => crcF bar n (q - 1) [i]) 0 n with
      | some v => some v
      | none => firstF (fun q => firstF (fun i => crcF bar n (q - 1) [i]) 0 n) (q + 1) (n + 1 - (q + 1))) := fun q hq => firstF_at (f := fun q => firstF (fun i => crcF bar n (q - 1) [i]) 0 n) hq
    have HFZ : Hid (∀ q, n < q → firstF (fun q => firstF (fun i => crcF bar n (q - 1) [i]) 0 n) q (n + 1 - q) = none) := fun q hq => by
      rw [show n + 1 - q = 0 by omega]; rfl
    generalize (fun q => firstF (fun i => crcF bar n (q - 1) [i]) 0 n) = G at *
    go_wp2
    go_loopw [11] (fun y wr => ∃ q : Nat, 2 ≤ q ∧ q ≤ n + 2 ∧ y = .int .i64 q ∧ Hid (stkF bar n = firstF G q (n + 1 - q)) ∧ Below w1.heap.size w1 wr) (fun y _ => n + 2 - (intOf y).toNat)
    case atStart => exact ⟨2, by omega, by omega, rfl, HTOP, hB1⟩
    case round =>
      obtain ⟨q, hq2, hqn, rfl, HQ, hbw⟩ := hrel
      clear HTOP hB1
      by_cases hqq : q ≤ n
      · have HF1 := Lib.hid (HFA.out q (by omega))
        have HIA : Hid (∀ k, k < n → firstF (fun i => crcF bar n (q - 1) [i]) k (n - k) = match crcF bar n (q - 1) [k] with
          | some v => some v
          | none => firstF (fun i => crcF bar n (q - 1) [i]) (k + 1) (n - (k + 1))) := fun k hk => firstF_at (f := fun i => crcF bar n (q - 1) [i]) hk
        have HIZ : Hid (firstF (fun i => crcF bar n (q - 1) [i]) n (n - n) = none) := by show _ = _; rw [Nat.sub_self]; rfl
        have HI0 : Hid (firstF (fun i => crcF bar n (q - 1) [i]) 0 n = firstF (fun i => crcF bar n (q - 1) [i]) 0 (n - 0)) := rfl
        clear HFA HFZ
        generalize (fun i => crcF bar n (q - 1) [i]) = F at *
        go_wp2
        go_loopw [32] (fun y wv => ∃ k : Nat, k ≤ n ∧ y = .int .i64 k ∧ Hid (firstF F 0 n = firstF F k (n - k)) ∧ Below w1.heap.size w1 wv) (fun y _ => n - (intOf y).toNat)
        case atStart => exact ⟨0, by omega, rfl, HI0, hbw⟩
        case round =>
          obtain ⟨k, hk, rfl, HK, hbv⟩ := hrel
          clear HI0
          by_cases hkk : k < n
          · have HK1 := Lib.hid (HIA.out k hkk)
            have HC := Lib.hid (HRN.out q k _ hq2 (by omega) hkk hbv)
            have HSN := Lib.hid (fun L h => HSND.out (q - 1) k L hkk h)
            clear HIA HIZ HRN HSND
            have hb2 : Below w1.heap.size w1 (Go.World.alloc _ (.cells #[.int .i64 k] 3)) := hbv.alloc hbv.size (.cells #[.int .i64 k] 3)
            cases hO : crcF bar n (q - 1) [k] with
            | none =>
              have HN : Hid (firstF F 0 n = firstF F (k + 1) (n - (k + 1))) := by show _ = _; rw [HK.out, HK1.out, hO]
              rw [hO] at HC
              clear HSN HK HK1 hO HNM HQ HF1
              go_wp2_with (go_at_call 105; refine HC.out.mono ?_; rintro e w5 ⟨hb5, rfl⟩)
              go_roundw
              case rel => exact ⟨k + 1, by omega, by go_num, HN, hb2.trans (hb5.mono hb2.size)⟩
              case measure => simp [intOf]; omega
            | some L =>
              have HR : Hid (stk d cols = (L.map (colAt cols), true, 0)) := by
                show _ = _
                rw [HR0.out, HQ.out, HF1.out, HK.out, HK1.out, hO]
              have HL := Lib.hid (HSN.out L hO)
              rw [hO] at HC
              clear HSN HK HK1 hO HQ HF1 HR0
              go_upto_region 12 with (go_at_call 105; refine HC.out.mono ?_; rintro e w5 ⟨hb5, a5, c5, rfl, l5, h5⟩)
              have hb6 := hb2.trans (hb5.mono hb2.size)
              have HC2 := Lib.hid (HNM.out w5 hb6 L (some a5) c5 l5 HL.out.1 HL.out.2)
              clear l5 hb5 HNM HC
              go_wp2_with (go_at_call 102; refine HC2.out.mono ?_; rintro e w7 ⟨A7, c7, rfl, l7, h7, hb7, _⟩)
              have HL7 := Lib.hid l7
              clear l7
              refine bodyPost_ret (v := .tuple #[.slice A7 (L.map (colAt cols)).length c7, .bool true, .int .i64 0]) (by simp [results, Tryz.results56, go_sem]) rfl ?_
              exact ⟨A7, c7, by rw [HR.out], by rw [HR.out]; exact HL7.out, by rw [HR.out]; exact h7, HB1.out _ (hb6.trans (hb7.mono hb6.size))⟩
          · obtain rfl : k = n := by omega
            have HN : Hid (stkF bar k = firstF G (q + 1) (k + 1 - (q + 1))) := by show _ = _; rw [HQ.out, HF1.out, HK.out, HIZ.out]
            clear HIA HIZ HK HQ HF1 HRN HSND HNM
            go_wp2
            go_roundw
            case rel => exact ⟨q + 1, by omega, by omega, by go_num, HN, hbv⟩
            case measure => simp [intOf]; omega
      · have HN : Hid (stk d cols = ([], false, 0)) := by show _ = _; rw [HR0.out, HQ.out, HFZ.out q (by omega)]
        clear HFA HFZ HQ HRN HSND HNM HR0
        go_wp2
        refine bodyPost_ret (v := .tuple #[.slice none 0 0, .bool false, .int .i64 0]) (by simp [results, Tryz.results56, go_sem]) rfl ?_
        exact SnE.none_ HN.out (HB1.out _ hbw)
  · have HR : Hid (stk d cols = ([], false, stE cols)) := by show _ = _; unfold stk; rw [if_neg h0]
    have HE := Lib.hid h0
    have hR' : (stE cols == 0) = false := by simpa using h0
    have hR2 : (stE cols != 0) = true := by rw [bne, hR']; rfl
    clear h0
    go_wp2_with (go_at_call 100; refine HST.out.mono ?_; rintro e w1 ⟨(⟨_, rfl⟩ | ⟨h, _⟩), hb1⟩; (first | (exact absurd h HE.out) | skip))
    refine bodyPost_ret (v := .tuple #[.slice none 0 0, .bool false, .int .i64 (stE cols)]) (by simp [results, Tryz.results56, go_sem]) rfl ?_
    exact SnE.none_ HR.out (HEND.out _ hb1)
end Go.Proofs.YtkfeagokmcakgaaGreatDoor
