/- Regions that draw their order: what comes before what. -/
import Derived.Test.YtkjceegmmhnajaaM9b
namespace Go.Proofs.Ytkjceegmmhnajaa
open Go.RowKit

/-! ### what comes before what -/
def maskOf (bs : Array Nat) (o : Oper) : Nat := o.after.foldl (fun s e => if Region.binds .any e then s ||| 2 ^ e.on ||| bs.getD e.on 0 else s) 0

theorem before_fold (ops : Array Oper) : Region.before ops = ops.toList.foldl (fun acc o => acc.push (maskOf acc o)) #[] := by
  unfold Region.before maskOf
  rw [← Array.foldl_toList]

theorem fold_keep : ∀ (l : List Oper) (acc : Array Nat), (l.foldl (fun acc o => acc.push (maskOf acc o)) acc).size = acc.size + l.length ∧ ∀ j, j < acc.size → (l.foldl (fun acc o => acc.push (maskOf acc o)) acc).getD j 0 = acc.getD j 0
  | [], acc => ⟨by simp, fun j _ => rfl⟩
  | o :: l, acc => by
    obtain ⟨h1, h2⟩ := fold_keep l (acc.push (maskOf acc o))
    refine ⟨by simp at h1 ⊢; omega, fun j hj => ?_⟩
    simp only [List.foldl_cons]
    rw [h2 j (by simp; omega)]
    rw [Array.getD_eq_getD_getElem?, Array.getD_eq_getD_getElem?, Array.getElem?_push, if_neg (by omega)]

theorem fold_val : ∀ (l : List Oper) (acc : Array Nat) (i : Nat) (o : Oper), l[i]? = some o → ∃ acc' : Array Nat, acc'.size = acc.size + i ∧ (l.foldl (fun acc o => acc.push (maskOf acc o)) acc).getD (acc.size + i) 0 = maskOf acc' o ∧
    ∀ j, j < acc.size + i → acc'.getD j 0 = (l.foldl (fun acc o => acc.push (maskOf acc o)) acc).getD j 0
  | [], acc, i, o, h => by simp at h
  | x :: l, acc, 0, o, h => by
    simp at h; subst h
    obtain ⟨h1, h2⟩ := fold_keep l (acc.push (maskOf acc x))
    refine ⟨acc, by simp, ?_, fun j hj => ?_⟩
    · simp only [List.foldl_cons, Nat.add_zero]
      rw [h2 _ (by simp), Array.getD_eq_getD_getElem?, Array.getElem?_push]; simp
    · simp only [List.foldl_cons]
      rw [h2 j (by simp; omega), Array.getD_eq_getD_getElem?, Array.getD_eq_getD_getElem?, Array.getElem?_push, if_neg (by omega)]
  | x :: l, acc, i + 1, o, h => by
    obtain ⟨acc', h1, h2, h3⟩ := fold_val l (acc.push (maskOf acc x)) i o (by simpa using h)
    simp only [Array.size_push] at h1 h2 h3
    refine ⟨acc', by omega, ?_, fun j hj => ?_⟩
    · simp only [List.foldl_cons]; rw [show acc.size + (i + 1) = acc.size + 1 + i from by omega]; exact h2
    · simp only [List.foldl_cons]; exact h3 j (by omega)

theorem mask_congr {bs bs' : Array Nat} {o : Oper} {i : Nat} (ha : ∀ e ∈ o.after, Region.binds .any e = true → e.on < i) (h : ∀ j, j < i → bs.getD j 0 = bs'.getD j 0) : maskOf bs o = maskOf bs' o := by
  unfold maskOf
  rw [← Array.foldl_toList, ← Array.foldl_toList]
  have : ∀ (l : List Edge) (s : Nat), (∀ e ∈ l, Region.binds .any e = true → e.on < i) → l.foldl (fun s e => if Region.binds .any e then s ||| 2 ^ e.on ||| bs.getD e.on 0 else s) s = l.foldl (fun s e => if Region.binds .any e then s ||| 2 ^ e.on ||| bs'.getD e.on 0 else s) s := by
    intro l
    induction l with
    | nil => intro s _; rfl
    | cons e l ih =>
      intro s hl
      simp only [List.foldl_cons]
      cases hb : Region.binds .any e with
      | false => simp only [Bool.false_eq_true, if_false]; exact ih _ fun e' he' => hl e' (by simp [he'])
      | true =>
        rw [h e.on (hl e (by simp) hb)]
        exact ih _ fun e' he' => hl e' (by simp [he'])
  exact this _ _ fun e he => ha e (by simpa using he)

theorem mask_bit (bs : Array Nat) (o : Oper) (k : Nat) : (maskOf bs o).testBit k = true ↔ ∃ e ∈ o.after, Region.binds .any e = true ∧ (k = e.on ∨ (bs.getD e.on 0).testBit k = true) := by
  unfold maskOf
  rw [← Array.foldl_toList]
  have : ∀ (l : List Edge) (s : Nat), (l.foldl (fun s e => if Region.binds .any e then s ||| 2 ^ e.on ||| bs.getD e.on 0 else s) s).testBit k = true ↔ s.testBit k = true ∨ ∃ e ∈ l, Region.binds .any e = true ∧ (k = e.on ∨ (bs.getD e.on 0).testBit k = true) := by
    intro l
    induction l with
    | nil => intro s; simp
    | cons e l ih =>
      intro s
      simp only [List.foldl_cons]
      rw [ih]
      cases hb : Region.binds .any e with
      | false => simp [hb]
      | true =>
        simp only [if_true, Nat.testBit_or, Bool.or_eq_true, Nat.testBit_two_pow]
        constructor
        · rintro (((h | h) | h) | ⟨e', he', h⟩)
          · exact .inl h
          · exact .inr ⟨e, by simp, hb, .inl (by simp at h; exact h.symm)⟩
          · exact .inr ⟨e, by simp, hb, .inr h⟩
          · exact .inr ⟨e', by simp [he'], h⟩
        · rintro (h | ⟨e', he', h1, h2⟩)
          · exact .inl (.inl (.inl h))
          · rcases List.mem_cons.1 he' with rfl | he'
            · rcases h2 with h2 | h2
              · exact .inl (.inl (.inr (by simpa using h2.symm)))
              · exact .inl (.inr h2)
            · exact .inr ⟨e', he', h1, h2⟩
  rw [this]
  simp

section
variable {ops : Array Oper} (hac : ∀ (i : Nat) (o : Oper), ops[i]? = some o → ∀ e ∈ o.after, Region.binds .any e = true → e.on < i)
include hac

theorem before_bit {j k : Nat} {o : Oper} (ho : ops[j]? = some o) : isBefore (Region.before ops) k j = true ↔ ∃ e ∈ o.after, Region.binds .any e = true ∧ (k = e.on ∨ isBefore (Region.before ops) k e.on = true) := by
  have hl : ops.toList[j]? = some o := by simpa using ho
  obtain ⟨acc', h1, h2, h3⟩ := fold_val ops.toList #[] j o hl
  rw [← before_fold] at h2 h3
  simp only [List.size_toArray, List.length_nil, Nat.zero_add] at h2 h3
  unfold isBefore
  rw [h2, mask_congr (bs' := Region.before ops) (hac j o ho) h3, mask_bit]

omit hac in
theorem before_none {j k : Nat} (ho : ops[j]? = none) : isBefore (Region.before ops) k j = false := by
  have h1 := (fold_keep ops.toList #[]).1
  rw [← before_fold] at h1
  have : ops.size ≤ j := Array.getElem?_eq_none_iff.1 ho
  unfold isBefore
  rw [Array.getD_eq_getD_getElem?, Array.getElem?_eq_none (by simp at h1; omega)]
  simp

theorem before_lt : ∀ (j k : Nat), isBefore (Region.before ops) k j = true → k < j := by
  intro j
  induction j using Nat.strongRecOn with
  | _ j ih =>
    intro k h
    cases ho : ops[j]? with
    | none => rw [before_none ho] at h; cases h
    | some o =>
      obtain ⟨e, he, hb, h2⟩ := (before_bit hac ho).1 h
      have hlt := hac j o ho e he hb
      rcases h2 with rfl | h2
      · exact hlt
      · have := ih e.on hlt k h2; omega

def Closed (ops : Array Oper) (D : Nat → Bool) : Prop := ∀ j o, ops[j]? = some o → D j = true → ∀ e ∈ o.after, Region.binds .any e = true → D e.on = true

theorem closed_before {D : Nat → Bool} (hD : Closed ops D) : ∀ (j k : Nat), D j = true → isBefore (Region.before ops) k j = true → D k = true := by
  intro j
  induction j using Nat.strongRecOn with
  | _ j ih =>
    intro k hj h
    cases ho : ops[j]? with
    | none => rw [before_none ho] at h; cases h
    | some o =>
      obtain ⟨e, he, hb, h2⟩ := (before_bit hac ho).1 h
      have hlt := hac j o ho e he hb
      have hDe := hD j o ho hj e he hb
      rcases h2 with rfl | h2
      · exact hDe
      · exact ih e.on hlt k hDe h2

theorem ready_before {D : Nat → Bool} (hD : Closed ops D) {i k : Nat} {o : Oper} (ho : ops[i]? = some o) (hp : ∀ e ∈ o.after, Region.binds .any e = true → D e.on = true) (h : isBefore (Region.before ops) k i = true) : D k = true := by
  obtain ⟨e, he, hb, h2⟩ := (before_bit hac ho).1 h
  have hDe := hp e he hb
  rcases h2 with rfl | h2
  · exact hDe
  · exact closed_before hac hD e.on k hDe h2
end

theorem drawOk_spec {ops : Array Oper} (h : drawOk ops = true) : (∀ (i : Nat) (o : Oper), ops[i]? = some o → ∀ e ∈ o.after, Region.binds .any e = true → e.on < i) ∧ ∀ i j, i < j → j < ops.size → pairOk ops (Region.before ops) i j = true := by
  unfold drawOk at h
  simp only [Bool.and_eq_true] at h
  refine ⟨fun i o ho e he hb => ?_, fun i j hij hj => ?_⟩
  · have hm : (o, i) ∈ ops.zipIdx := by
      rw [Array.mem_zipIdx_iff_getElem?]; exact ho
    have := Array.all_eq_true_iff_forall_mem.1 h.1 (o, i) hm
    have := Array.all_eq_true_iff_forall_mem.1 this e he
    simpa [hb] using this
  · have h1 := List.all_eq_true.1 h.2 j (by simpa using hj)
    exact List.all_eq_true.1 h1 i (by simpa using hij)

/-! ### the last of those that are done -/
def lastD {X : Type} (D t : Nat → Bool) (f : Nat → X) (x0 : X) : Nat → X
  | 0 => x0
  | k + 1 => if D k && t k then f k else lastD D t f x0 k

theorem lastD_congr {X : Type} {D D' t : Nat → Bool} {f : Nat → X} {x0 : X} : ∀ (N : Nat), (∀ k, k < N → t k = true → D k = D' k) → lastD D t f x0 N = lastD D' t f x0 N
  | 0, _ => rfl
  | k + 1, h => by
    simp only [lastD]
    rw [lastD_congr k fun j hj => h j (by omega)]
    cases ht : t k with
    | false => simp
    | true => rw [h k (by omega) ht]

theorem lastD_lt {X : Type} {t : Nat → Bool} {f : Nat → X} {x0 : X} {i : Nat} : ∀ (N : Nat), i ≤ N → lastD (fun k => decide (k < i)) t f x0 N = lastD (fun _ => true) t f x0 i
  | 0, h => by have : i = 0 := by omega
               subst this; rfl
  | k + 1, h => by
    by_cases hk : i = k + 1
    · subst hk
      exact lastD_congr (k + 1) fun j hj _ => by simp [hj]
    · simp only [lastD]
      have e : decide (k < i) = false := by simp; omega
      simp only [e, Bool.false_and, Bool.false_eq_true, if_false]
      exact lastD_lt k (by omega)

/-- what is seen of the sequence's i-th state, if those that matter are ordered with it -/
theorem lastD_seq {X : Type} {D t : Nat → Bool} {f : Nat → X} {x0 : X} {i N : Nat} (hi : i ≤ N) (h : ∀ k, k < N → t k = true → (D k = true ↔ k < i)) : lastD D t f x0 N = lastD (fun _ => true) t f x0 i := by
  rw [← lastD_lt N hi]
  exact lastD_congr N fun k hk ht => by
    rw [Bool.eq_iff_iff, decide_eq_true_iff]; exact h k hk ht

theorem lastD_add {X : Type} {D t : Nat → Bool} {f : Nat → X} {x0 : X} {i : Nat} (hDi : D i = false) : ∀ (N : Nat), i < N → (∀ k, i < k → k < N → D k = true → t k = true → t i = false) →
    lastD (fun j => D j || j == i) t f x0 N = if t i then f i else lastD D t f x0 N
  | 0, h, _ => by omega
  | k + 1, h, hk => by
    simp only [lastD]
    by_cases e : k = i
    · subst e
      have e2 : lastD (fun j => D j || j == k) t f x0 k = lastD D t f x0 k := lastD_congr k fun j hj _ => by
        have : (j == k) = false := by rw [beq_eq_false_iff_ne]; omega
        simp [this]
      simp only [beq_self_eq_true, Bool.or_true, Bool.true_and, e2, hDi, Bool.false_and, Bool.false_eq_true, if_false]
    · have e1 : (k == i) = false := by rw [beq_eq_false_iff_ne]; exact e
      simp only [e1, Bool.or_false]
      rw [lastD_add hDi k (by omega) fun j h1 h2 => hk j h1 (by omega)]
      cases hd : (D k && t k) with
      | false => simp
      | true =>
        simp only [if_true]
        rw [Bool.and_eq_true] at hd
        rw [hk k (by omega) (by omega) hd.1 hd.2]
        simp
end Go.Proofs.Ytkjceegmmhnajaa
