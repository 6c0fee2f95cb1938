/- Regions that draw their order: what comes before what. -/
import Derived.RangeFuncNested
import Derived.Test.YtkjceegmmhnajaaG57

set_option linter.unusedVariables false
set_option linter.unusedSimpArgs false

namespace Go.Proofs.Ytkjceegmmhnajaa
open Go.RowKit

/-! ### what comes before what -/
def maskOf (bs : Array Nat) (o : Oper) : Nat := o.after.foldl (fun s e => if Region.binds .any e then s ||| 2 ^ e.on ||| bs.getD e.on 0 else s) 0

theorem before_fold (ops : Array Oper) : Region.before ops = ops.toList.foldl (fun acc o => acc.push (maskOf acc o)) #[] := by
  unfold Region.before maskOf
  rw [← Array.foldl_toList]

theorem fold_keep : ∀ (l : List Oper) (acc : Array Nat), (l.foldl (fun acc o => acc.push (maskOf acc o)) acc).size = acc.size + l.length ∧ ∀ j, j < acc.size → (l.foldl (fun acc o => acc.push (maskOf acc o)) acc).getD j 0 = acc.getD j 0
  | [], acc => ⟨by simp, fun j _ => rfl⟩
  | o :: l, acc => by
    obtain ⟨h1, h2⟩ := fold_keep l (acc.push (maskOf acc o))
    refine ⟨by simp at h1 ⊢; omega, fun j hj => ?_⟩
    simp only [List.foldl_cons]
    rw [h2 j (by simp; omega)]
    rw [Array.getD_eq_getD_getElem?, Array.getD_eq_getD_getElem?, Array.getElem?_push, if_neg (by omega)]

theorem fold_val : ∀ (l : List Oper) (acc : Array Nat) (i : Nat) (o : Oper), l[i]? = some o → ∃ acc' : Array Nat, acc'.size = acc.size + i ∧ (l.foldl (fun acc o => acc.push (maskOf acc o)) acc).getD (acc.size + i) 0 = maskOf acc' o ∧
    ∀ j, j < acc.size + i → acc'.getD j 0 = (l.foldl (fun acc o => acc.push (maskOf acc o)) acc).getD j 0
  | [], acc, i, o, h => by simp at h
  | x :: l, acc, 0, o, h => by
    simp at h; subst h
    obtain ⟨h1, h2⟩ := fold_keep l (acc.push (maskOf acc x))
    refine ⟨acc, by simp, ?_, fun j hj => ?_⟩
    · simp only [List.foldl_cons, Nat.add_zero]
      rw [h2 _ (by simp), Array.getD_eq_getD_getElem?, Array.getElem?_push]; simp
    · simp only [List.foldl_cons]
      rw [h2 j (by simp; omega), Array.getD_eq_getD_getElem?, Array.getD_eq_getD_getElem?, Array.getElem?_push, if_neg (by omega)]
  | x :: l, acc, i + 1, o, h => by
    obtain ⟨acc', h1, h2, h3⟩ := fold_val l (acc.push (maskOf acc x)) i o (by simpa using h)
    simp only [Array.size_push] at h1 h2 h3
    refine ⟨acc', by omega, ?_, fun j hj => ?_⟩
    · simp only [List.foldl_cons]; rw [show acc.size + (i + 1) = acc.size + 1 + i from by omega]; exact h2
    · simp only [List.foldl_cons]; exact h3 j (by omega)

theorem mask_congr {bs bs' : Array Nat} {o : Oper} {i : Nat} (ha : ∀ e ∈ o.after, Region.binds .any e = true → e.on < i) (h : ∀ j, j < i → bs.getD j 0 = bs'.getD j 0) : maskOf bs o = maskOf bs' o := by
  unfold maskOf
  rw [← Array.foldl_toList, ← Array.foldl_toList]
  have : ∀ (l : List Edge) (s : Nat), (∀ e ∈ l, Region.binds .any e = true → e.on < i) → l.foldl (fun s e => if Region.binds .any e then s ||| 2 ^ e.on ||| bs.getD e.on 0 else s) s = l.foldl (fun s e => if Region.binds .any e then s ||| 2 ^ e.on ||| bs'.getD e.on 0 else s) s := by
    intro l
    induction l with
    | nil => intro s _; rfl
    | cons e l ih =>
      intro s hl
      simp only [List.foldl_cons]
      cases hb : Region.binds .any e with
      | false => simp only [Bool.false_eq_true, if_false]; exact ih _ fun e' he' => hl e' (by simp [he'])
      | true =>
        rw [h e.on (hl e (by simp) hb)]
        exact ih _ fun e' he' => hl e' (by simp [he'])
  exact this _ _ fun e he => ha e (by simpa using he)

theorem mask_bit (bs : Array Nat) (o : Oper) (k : Nat) : (maskOf bs o).testBit k = true ↔ ∃ e ∈ o.after, Region.binds .any e = true ∧ (k = e.on ∨ (bs.getD e.on 0).testBit k = true) := by
  unfold maskOf
  rw [← Array.foldl_toList]
  have : ∀ (l : List Edge) (s : Nat), (l.foldl (fun s e => if Region.binds .any e then s ||| 2 ^ e.on ||| bs.getD e.on 0 else s) s).testBit k = true ↔ s.testBit k = true ∨ ∃ e ∈ l, Region.binds .any e = true ∧ (k = e.on ∨ (bs.getD e.on 0).testBit k = true) := by
    intro l
    induction l with
    | nil => intro s; simp
    | cons e l ih =>
      intro s
      simp only [List.foldl_cons]
      rw [ih]
      cases hb : Region.binds .any e with
      | false => simp [hb]
      | true =>
        simp only [if_true, Nat.testBit_or, Bool.or_eq_true, Nat.testBit_two_pow]
        constructor
        · rintro (((h | h) | h) | ⟨e', he', h⟩)
          · exact .inl h
          · exact .inr ⟨e, by simp, hb, .inl (by simp at h; exact h.symm)⟩
          · exact .inr ⟨e, by simp, hb, .inr h⟩
          · exact .inr ⟨e', by simp [he'], h⟩
        · rintro (h | ⟨e', he', h1, h2⟩)
          · exact .inl (.inl (.inl h))
          · rcases List.mem_cons.1 he' with rfl | he'
            · rcases h2 with h2 | h2
              · exact .inl (.inl (.inr (by simpa using h2.symm)))
              · exact .inl (.inr h2)
            · exact .inr ⟨e', he', h1, h2⟩
  rw [this]
  simp

section
variable {ops : Array Oper} (hac : ∀ (i : Nat) (o : Oper), ops[i]? = some o → ∀ e ∈ o.after, Region.binds .any e = true → e.on < i)
include hac

theorem before_bit {j k : Nat} {o : Oper} (ho : ops[j]? = some o) : isBefore (Region.before ops) k j = true ↔ ∃ e ∈ o.after, Region.binds .any e = true ∧ (k = e.on ∨ isBefore (Region.before ops) k e.on = true) := by
  have hl : ops.toList[j]? = some o := by simpa using ho
  obtain ⟨acc', h1, h2, h3⟩ := fold_val ops.toList #[] j o hl
  rw [← before_fold] at h2 h3
  simp only [List.size_toArray, List.length_nil, Nat.zero_add] at h2 h3
  unfold isBefore
  rw [h2, mask_congr (bs' := Region.before ops) (hac j o ho) h3, mask_bit]

omit hac in
theorem before_none {j k : Nat} (ho : ops[j]? = none) : isBefore (Region.before ops) k j = false := by
  have h1 := (fold_keep ops.toList #[]).1
  rw [← before_fold] at h1
  have : ops.size ≤ j := Array.getElem?_eq_none_iff.1 ho
  unfold isBefore
  rw [Array.getD_eq_getD_getElem?, Array.getElem?_eq_none (by simp at h1; omega)]
  simp

theorem before_lt : ∀ (j k : Nat), isBefore (Region.before ops) k j = true → k < j := by
  intro j
  induction j using Nat.strongRecOn with
  | _ j ih =>
    intro k h
    cases ho : ops[j]? with
    | none => rw [before_none ho] at h; cases h
    | some o =>
      obtain ⟨e, he, hb, h2⟩ := (before_bit hac ho).1 h
      have hlt := hac j o ho e he hb
      rcases h2 with rfl | h2
      · exact hlt
      · have := ih e.on hlt k h2; omega

def Closed (ops : Array Oper) (D : Nat → Bool) : Prop := ∀ j o, ops[j]? = some o → D j = true → ∀ e ∈ o.after, Region.binds .any e = true → D e.on = true

theorem closed_before {D : Nat → Bool} (hD : Closed ops D) : ∀ (j k : Nat), D j = true → isBefore (Region.before ops) k j = true → D k = true := by
  intro j
  induction j using Nat.strongRecOn with
  | _ j ih =>
    intro k hj h
    cases ho : ops[j]? with
    | none => rw [before_none ho] at h; cases h
    | some o =>
      obtain ⟨e, he, hb, h2⟩ := (before_bit hac ho).1 h
      have hlt := hac j o ho e he hb
      have hDe := hD j o ho hj e he hb
      rcases h2 with rfl | h2
      · exact hDe
      · exact ih e.on hlt k hDe h2

theorem ready_before {D : Nat → Bool} (hD : Closed ops D) {i k : Nat} {o : Oper} (ho : ops[i]? = some o) (hp : ∀ e ∈ o.after, Region.binds .any e = true → D e.on = true) (h : isBefore (Region.before ops) k i = true) : D k = true := by
  obtain ⟨e, he, hb, h2⟩ := (before_bit hac ho).1 h
  have hDe := hp e he hb
  rcases h2 with rfl | h2
  · exact hDe
  · exact closed_before hac hD e.on k hDe h2
end

theorem drawOk_spec {ops : Array Oper} (h : drawOk ops = true) : (∀ (i : Nat) (o : Oper), ops[i]? = some o → ∀ e ∈ o.after, Region.binds .any e = true → e.on < i) ∧ ∀ i j, i < j → j < ops.size → pairOk ops (Region.before ops) i j = true := by
  unfold drawOk at h
  simp only [Bool.and_eq_true] at h
  refine ⟨fun i o ho e he hb => ?_, fun i j hij hj => ?_⟩
  · have hm : (o, i) ∈ ops.zipIdx := by
      rw [Array.mem_zipIdx_iff_getElem?]; exact ho
    have := Array.all_eq_true_iff_forall_mem.1 h.1 (o, i) hm
    have := Array.all_eq_true_iff_forall_mem.1 this e he
    simpa [hb] using this
  · have h1 := List.all_eq_true.1 h.2 j (by simpa using hj)
    exact List.all_eq_true.1 h1 i (by simpa using hij)

/-! ### the last of those that are done -/
def lastD {X : Type} (D t : Nat → Bool) (f : Nat → X) (x0 : X) : Nat → X
  | 0 => x0
  | k + 1 => if D k && t k then f k else lastD D t f x0 k

theorem lastD_congr {X : Type} {D D' t : Nat → Bool} {f : Nat → X} {x0 : X} : ∀ (N : Nat), (∀ k, k < N → t k = true → D k = D' k) → lastD D t f x0 N = lastD D' t f x0 N
  | 0, _ => rfl
  | k + 1, h => by
    simp only [lastD]
    rw [lastD_congr k fun j hj => h j (by omega)]
    cases ht : t k with
    | false => simp
    | true => rw [h k (by omega) ht]

theorem lastD_lt {X : Type} {t : Nat → Bool} {f : Nat → X} {x0 : X} {i : Nat} : ∀ (N : Nat), i ≤ N → lastD (fun k => decide (k < i)) t f x0 N = lastD (fun _ => true) t f x0 i
  | 0, h => by have : i = 0 := by omega
               subst this; rfl
  | k + 1, h => by
    by_cases hk : i = k + 1
    · subst hk
      exact lastD_congr (k + 1) fun j hj _ => by simp [hj]
    · simp only [lastD]
      have e : decide (k < i) = false := by simp; omega
      simp only [e, Bool.false_and, Bool.false_eq_true, if_false]
      exact lastD_lt k (by omega)

/-- what is seen of the sequence's i-th state, if those that matter are ordered with it -/
theorem lastD_seq {X : Type} {D t : Nat → Bool} {f : Nat → X} {x0 : X} {i N : Nat} (hi : i ≤ N) (h : ∀ k, k < N → t k = true → (D k = true ↔ k < i)) : lastD D t f x0 N = lastD (fun _ => true) t f x0 i := by
  rw [← lastD_lt N hi]
  exact lastD_congr N fun k hk ht => by
    rw [Bool.eq_iff_iff, decide_eq_true_iff]; exact h k hk ht

theorem lastD_add {X : Type} {D t : Nat → Bool} {f : Nat → X} {x0 : X} {i : Nat} (hDi : D i = false) : ∀ (N : Nat), i < N → (∀ k, i < k → k < N → D k = true → t k = true → t i = false) →
    lastD (fun j => D j || j == i) t f x0 N = if t i then f i else lastD D t f x0 N
  | 0, h, _ => by omega
  | k + 1, h, hk => by
    simp only [lastD]
    by_cases e : k = i
    · subst e
      have e2 : lastD (fun j => D j || j == k) t f x0 k = lastD D t f x0 k := lastD_congr k fun j hj _ => by
        have : (j == k) = false := by rw [beq_eq_false_iff_ne]; omega
        simp [this]
      simp only [beq_self_eq_true, Bool.or_true, Bool.true_and, e2, hDi, Bool.false_and, Bool.false_eq_true, if_false]
    · have e1 : (k == i) = false := by rw [beq_eq_false_iff_ne]; exact e
      simp only [e1, Bool.or_false]
      rw [lastD_add hDi k (by omega) fun j h1 h2 => hk j h1 (by omega)]
      cases hd : (D k && t k) with
      | false => simp
      | true =>
        simp only [if_true]
        rw [Bool.and_eq_true] at hd
        rw [hk k (by omega) (by omega) hd.1 hd.2]
        simp
end Go.Proofs.Ytkjceegmmhnajaa

namespace Go.Proofs.Ytkjceegmmhnajaa
open Go.RowKit

/-! ### an invariant over what is done -/
def undone (listed : Array Bool) : Nat := (listed.toList.filter (fun b => !b)).length

theorem undone_set : ∀ (l : List Bool) (i : Nat), l[i]? = some false → ((l.set i true).filter (fun b => !b)).length + 1 = (l.filter (fun b => !b)).length
  | [], i, h => by simp at h
  | b :: l, 0, h => by simp at h; subst h; simp
  | b :: l, i + 1, h => by
    have := undone_set l i (by simpa using h)
    cases b <;> simp at * <;> omega

def stepIn (F : Fence) (P : Program) (ops : Array Oper) (Q : Exit → Act → World → Prop) (i : Nat) (K : Act → World → Prop) (a : Act) (w : World) : Prop :=
  match ops[i]? with
  | none => K a w
  | some o => if Region.wanted o (yielded ops a.tmps) then o.wpIn F 0 P a w K Q else (∀ f, o.about P w a.eval = some f → F.fn f) ∧ K (a.put o.dst undef) w

theorem wpOpsIn_cons (F : Fence) (P : Program) (ops : Array Oper) (Q : Exit → Act → World → Prop) (i : Nat) (l : List Nat) (a : Act) (w : World) : wpOpsIn F 0 P ops Q (i :: l) a w = stepIn F P ops Q i (wpOpsIn F 0 P ops Q l) a w := rfl

section
variable {F : Fence} {P : Program} {ops : Array Oper} {Q : Exit → Act → World → Prop}

theorem lin_inv (hac : ∀ (i : Nat) (o : Oper), ops[i]? = some o → ∀ e ∈ o.after, Region.binds .any e = true → e.on < i) (Inv : (Nat → Bool) → Act → World → Prop)
    (hstep : ∀ (D : Nat → Bool) (a : Act) (w : World) (i : Nat) (o : Oper) (K : Act → World → Prop), ops[i]? = some o → D i = false → (∀ e ∈ o.after, Region.binds .any e = true → D e.on = true) → Inv D a w →
      (∀ a' w', Inv (fun j => D j || j == i) a' w' → K a' w') → stepIn F P ops Q i K a w)
    (hend : ∀ (D : Nat → Bool) (a : Act) (w : World), (∀ i < ops.size, D i = true) → Inv D a w → Q .normal a w) :
    ∀ (fuel t : Nat) (listed : Array Bool) (a : Act) (w : World), listed.size = ops.size → undone listed ≤ fuel → Inv (fun j => listed.getD j false) a w → wpOpsIn F 0 P ops Q (Region.linearise.go .any ops fuel t listed []) a w := by
  have hall : ∀ listed : Array Bool, listed.size = ops.size → Region.ready .any ops listed = [] → ∀ i, i < ops.size → listed.getD i false = true := by
    intro listed hsz hr i
    induction i using Nat.strongRecOn with
    | _ i ih =>
      intro hi
      cases hd : listed.getD i false
      · have hmem : i ∈ Region.ready .any ops listed := by
          refine mem_ready.2 ⟨?_, ops[i], Array.getElem?_eq_getElem hi, fun e he hb => ?_⟩
          · simp [hsz, hi] at hd ⊢; exact hd
          · have := hac i _ (Array.getElem?_eq_getElem hi) e he hb
            exact ih e.on this (by omega)
        rw [hr] at hmem; cases hmem
      · rfl
  have hstepL : ∀ (listed : Array Bool) (a : Act) (w : World) (i : Nat) (K : Act → World → Prop), listed.size = ops.size → i ∈ Region.ready .any ops listed → Inv (fun j => listed.getD j false) a w →
      (∀ a' w', Inv (fun j => (listed.setIfInBounds i true).getD j false) a' w' → K a' w') → stepIn F P ops Q i K a w := by
    intro listed a w i K hsz hi hinv hK
    obtain ⟨h1, o, ho, h2⟩ := mem_ready.1 hi
    have hlt : i < ops.size := (Array.getElem?_eq_some_iff.1 ho).1
    have hd : listed.getD i false = false := by simp [hsz, hlt] at h1 ⊢; exact h1
    have hfun : (fun j => (listed.setIfInBounds i true).getD j false) = (fun j => listed.getD j false || j == i) := by
      funext j
      by_cases hj : i = j
      · subst hj; simp [hsz, hlt]
      · rw [getD_set_ne false hj]; have : (j == i) = false := by rw [beq_eq_false_iff_ne]; exact fun e => hj e.symm
        simp [this]
    rw [hfun] at hK
    exact hstep _ a w i o K ho hd h2 hinv hK
  have hleft : ∀ (listed : Array Bool) (i : Nat), listed.size = ops.size → i ∈ Region.ready .any ops listed → undone (listed.setIfInBounds i true) + 1 = undone listed := by
    intro listed i hsz hi
    obtain ⟨h1, o, ho, h2⟩ := mem_ready.1 hi
    have hlt : i < ops.size := (Array.getElem?_eq_some_iff.1 ho).1
    have hd : listed.getD i false = false := by simp [hsz, hlt] at h1 ⊢; exact h1
    have hl : listed.toList[i]? = some false := by
      have hi' : i < listed.size := by omega
      simp [hi'] at hd ⊢; exact hd
    have := undone_set listed.toList i hl
    unfold undone
    rw [Array.toList_setIfInBounds]; exact this
  intro fuel
  induction fuel with
  | zero =>
    intro t listed a w hsz hl hinv
    have hr : Region.ready .any ops listed = [] := by
      rcases hrd : Region.ready .any ops listed with _ | ⟨i, r⟩
      · rfl
      · have := hleft listed i hsz (by rw [hrd]; simp)
        omega
    simp only [Region.linearise.go, List.reverse_nil]
    exact hend _ a w (hall listed hsz hr) hinv
  | succ fuel ih =>
    intro t listed a w hsz hl hinv
    simp only [Region.linearise.go]
    change wpOpsIn F 0 P ops Q (match (Region.ready .any ops listed)[t % (Region.ready .any ops listed).length]? with
      | some i => Region.linearise.go .any ops fuel (t / (Region.ready .any ops listed).length) (listed.setIfInBounds i true) [i]
      | none => [].reverse) a w
    cases hi : (Region.ready .any ops listed)[t % (Region.ready .any ops listed).length]? with
    | none =>
      have hnil : Region.ready .any ops listed = [] := by
        cases hr : Region.ready .any ops listed with
        | nil => rfl
        | cons x xs =>
          rw [hr] at hi
          have hlt : t % (x :: xs).length < (x :: xs).length := Nat.mod_lt _ (by simp)
          simp at hi
          simp at hlt
          omega
      exact hend _ a w (hall listed hsz hnil) hinv
    | some i =>
      dsimp only
      have him := List.mem_of_getElem? hi
      rw [linearise_go_acc, List.reverse_singleton, List.singleton_append, wpOpsIn_cons]
      exact hstepL listed a w i _ hsz him hinv fun a' w' hinv' => ih _ _ a' w' (by simp [hsz]) (by have := hleft listed i hsz him; omega) hinv'
end

/-! ### what each operation looks at and touches -/
structure Rec where
  o : Oper
  wd : Bool
  T : Tr Value
  H : Tr AO
  v : Value
  n : Nat
  m : Nat
  tch : Nat → Bool
  val : Nat → Option AO
  need : Nat → Option AO

def RecOk (E : Env) (lo : Nat) (r : Rec) : Prop :=
  ∀ ⦃B : Base E lo⦄ ⦃w0 : World⦄ ⦃p : Nat → Option (Nat × Nat)⦄ ⦃hh : Hp⦄ ⦃w : World⦄ ⦃ro : Option Nat⦄ ⦃a : Act⦄ ⦃K : Act → World → Prop⦄ ⦃Q : Exit → Act → World → Prop⦄,
    (∀ id y, r.need id = some y → hh id = some y) → Fresh p r.n r.m → HR B w0 p hh w → (∀ x ∈ r.o.op.operands, VR p (evA r.T x) (a.eval x)) →
    (∀ v' w' q, VR q r.v v' → Ext p q r.n r.m → HR B w0 q (fun id => if r.tch id then r.val id else hh id) w' → K (a.put r.o.dst v') w') → r.o.wpIn (Fw ro) 0 E.P a w K Q

/-- memory, seen from one name: what the first k operations have made of it -/
def seenH (rc : Nat → Rec) (h0 : Hp) (D : Nat → Bool) (N : Nat) : Hp := fun id => lastD D (fun k => (rc k).tch id) (fun k => (rc k).val id) (h0 id) N
noncomputable def seenT (rc : Nat → Rec) (T0 : Tr Value) (D : Nat → Bool) (N : Nat) (t : Nat) : Value := lastD D (fun k => (rc k).o.dst == some t) (fun k => (rc k).v) (tget T0 t) N

structure Good (E : Env) (ops : Array Oper) (lo : Nat) (T0 : Tr Value) (sz : Nat) (H0 : Tr AO) (n0 : Nat) (rc : Nat → Rec) (N : Nat) (T : Tr Value) (H : Tr AO) (n : Nat) : Prop where
  op : ∀ k, k < N → ops[k]? = some (rc k).o
  dst : ∀ k, k < N → ∀ d, (rc k).o.dst = some d → d < sz
  wd : ∀ k, k < N → (rc k).wd = aWanted ops (rc k).T (rc k).o
  tl : ∀ k, k < N → ∀ t, tget (rc k).T t = seenT rc T0 (fun _ => true) k t
  tlN : ∀ t, tget T t = seenT rc T0 (fun _ => true) N t
  un : ∀ k, k < N → (rc k).wd = false → (rc k).v = undef ∧ (∀ id, (rc k).tch id = false) ∧ ∀ id, (rc k).need id = none
  le0 : n0 ≤ n
  nle : ∀ k, k < N → n0 ≤ (rc k).n ∧ (rc k).n ≤ (rc k).m ∧ (rc k).m ≤ n
  nlt : ∀ j k, j < k → k < N → (rc j).m ≤ (rc k).n
  c3 : ∀ k, k < N → ∀ id, (rc k).tch id = true → ((rc k).H.get id).isSome = true ∨ ((rc k).n ≤ id ∧ id < (rc k).m)
  c4 : ∀ k, k < N → ∀ id y, (rc k).need id = some y → (rc k).H.get id = some y
  mo : ∀ k, k < N → Mo lo H0 (rc k).H n0 (rc k).n
  moN : Mo lo H0 H n0 n
  hs : ∀ k, k < N → ∀ h0, Sub H0 h0 → Sub (rc k).H (seenH rc h0 (fun _ => true) k)
  hsN : ∀ h0, Sub H0 h0 → Sub H (seenH rc h0 (fun _ => true) N)
  ok : ∀ k, k < N → (rc k).wd = true → RecOk E lo (rc k)
  c1 : ∀ i k, i < N → k < N → i ≠ k → isBefore (Region.before ops) i k = false → isBefore (Region.before ops) k i = false → ∀ id, (rc k).tch id = true → (rc i).need id = none ∧ (rc i).tch id = false

theorem aWanted_ok' {p : Nat → Option (Nat × Nat)} {ops : Array Oper} {T : Tr Value} {tm : Array Value} {o : Oper} (h : ∀ t ∈ o.looksAt ops, VR p (tget T t) (tm.getD t undef)) : Region.wanted o (yielded ops tm) = aWanted ops T o := by
  unfold Region.wanted aWanted
  cases hg : o.guard with
  | none => rfl
  | some g =>
    obtain ⟨j, want⟩ := g
    simp only
    have hy : yielded ops tm j = aYield ops T j := by
      unfold yielded aYield
      rw [getQ_eq]
      have : ops.toList[j]? = ops[j]? := by simp
      rw [this]
      cases hj : ops[j]? with
      | none => rfl
      | some oj =>
        simp only [Option.bind_some]
        cases hd : oj.dst with
        | none => rfl
        | some t =>
          simp only [Option.bind_some]
          have hv := h t (by simp [Oper.looksAt, hg, hj, hd])
          by_cases ht : t < tm.size
          · have e1 : tm.getD t undef = tm[t] := by simp [Array.getD, ht]
            rw [e1] at hv
            have e2 : tm[t]? = some tm[t] := Array.getElem?_eq_getElem ht
            rw [e2]
            generalize tm[t] = u at hv
            generalize tget T t = x at hv
            cases hv <;> rfl
          · have e1 : tm.getD t undef = undef := by simp [Array.getD, ht]
            rw [e1] at hv
            rw [Array.getElem?_eq_none (Nat.le_of_not_lt ht)]
            generalize hx : tget T t = x at hv
            generalize hu : undef = u at hv
            cases hv <;> first | rfl | (simp [undef] at hu; done)
    rw [hy]
    cases aYield ops T j with
    | none => rfl
    | some b => cases b <;> cases want <;> rfl

theorem put_get {a : Act} {dst : Option Nat} {v : Value} {sz : Nat} (hs : a.tmps.size = sz) (hd : ∀ d, dst = some d → d < sz) (t : Nat) : (a.put dst v).tmps.getD t undef = if dst == some t then v else a.tmps.getD t undef := by
  cases dst with
  | none => rfl
  | some d =>
    simp only [Act.put]
    by_cases ht : d = t
    · subst ht
      rw [Array.getD_eq_getD_getElem?, Array.getElem?_setIfInBounds_self_of_lt (by rw [hs]; exact hd d rfl)]
      simp
    · rw [Array.getD_eq_getD_getElem?, Array.getElem?_setIfInBounds_ne ht, ← Array.getD_eq_getD_getElem?]
      have : (some d == some t) = false := by simpa using ht
      rw [this]; rfl

theorem pair_apart {ops : Array Oper} (hp : ∀ i j, i < j → j < ops.size → pairOk ops (Region.before ops) i j = true) {i k : Nat} {oi ok : Oper} (hi : ops[i]? = some oi) (hk : ops[k]? = some ok) (hne : i ≠ k)
    (h1 : isBefore (Region.before ops) i k = false) (h2 : isBefore (Region.before ops) k i = false) : (∀ d, ok.dst = some d → d ∉ oi.looksAt ops) ∧ (∀ d, ok.dst = some d → oi.dst ≠ some d) := by
  have hil := (Array.getElem?_eq_some_iff.1 hi).1
  have hkl := (Array.getElem?_eq_some_iff.1 hk).1
  rcases Nat.lt_or_gt_of_ne hne with h | h
  · have := hp i k h hkl
    unfold pairOk at this
    rw [hi, hk] at this
    simp only [h1, Bool.false_or, Bool.and_eq_true] at this
    obtain ⟨a1, a2, a3⟩ := Oper.apart_spec this.1
    exact ⟨a3, fun d hd e => a2 d e hd⟩
  · have := hp k i h hil
    unfold pairOk at this
    rw [hi, hk] at this
    simp only [h2, Bool.false_or, Bool.and_eq_true] at this
    obtain ⟨a1, a2, a3⟩ := Oper.apart_spec this.1
    exact ⟨a1, a2⟩

/-- **whatever the order** -/
theorem draw_ok {E : Env} (hE : EnvOk E) {id : Nat} {ops : Array Oper} (hdr : drawOk ops = true) (hok : ∀ o ∈ ops.toList, opOk o = true) {lo : Nat} {T0 : Tr Value} {sz : Nat} {H0 : Tr AO} {n0 : Nat} {rc : Nat → Rec} {T : Tr Value} {H : Tr AO} {n : Nat} {Dl : List Nat}
    (hg : Good E ops lo T0 sz H0 n0 rc ops.size T H n) {B : Base E lo} {w0 : World} {p : Nat → Option (Nat × Nat)} {h : Hp} {w : World} {ro : Option Nat} {a : Act} {Q : Exit → Act → World → Prop}
    (hsub : Sub H0 h) (hfr : Fresh p n0 n) (hr : HR B w0 p h w) (hsr : SR p ⟨T0, sz, Dl, H0, n0⟩ a)
    (hQ : ∀ a' w' q, Ext p q n0 n → HR B w0 q (upH h H0 H n0 n) w' → SR q ⟨T, sz, Dl, H, n⟩ a' → Q .normal a' w') : (Code.region id ops true).wpIn (Fw ro) 0 E.P Q a w := by
  obtain ⟨hac, hpair⟩ := drawOk_spec hdr
  refine wpIn_region_draw fun t => ?_
  simp only [Region.schedule, hE.mixed, Bool.true_or, if_true, Region.linearise]
  let Inv : (Nat → Bool) → Act → World → Prop := fun D a w => Closed ops D ∧ (∀ j, D j = true → j < ops.size) ∧ ∃ p', (∀ i b, p i = some b → p' i = some b) ∧ (∀ i, ¬(n0 ≤ i ∧ i < n) → p' i = p i) ∧ (∀ k, k < ops.size → D k = false → Fresh p' (rc k).n (rc k).m) ∧
    HR B w0 p' (seenH rc h D ops.size) w ∧ a.tmps.size = sz ∧ (∀ t, VR p' (seenT rc T0 D ops.size t) (a.tmps.getD t undef)) ∧ DR p' Dl a.defers
  have noneT : ∀ (D : Nat → Bool), (∀ j, D j = false) → ∀ {X : Type} (t : Nat → Bool) (f : Nat → X) (x0 : X) (N : Nat), lastD D t f x0 N = x0 := by
    intro D hD X t f x0 N
    induction N with
    | zero => rfl
    | succ k ih => simp [lastD, hD, ih]
  refine lin_inv hac Inv ?_ ?_ ops.size t (Array.replicate ops.size false) a _ (by simp) (by unfold undone; simp) ?_
  · -- one operation
    intro D a w i o K hoi hDi hpre hinv hK
    obtain ⟨hcl, hbd, p', e1, e2, e3, e4, e5, e6, e7⟩ := hinv
    have hiN : i < ops.size := (Array.getElem?_eq_some_iff.1 hoi).1
    have hro : (rc i).o = o := by have := hg.op i hiN; rw [hoi] at this; cases this; rfl
    -- ordered with i: done exactly if earlier
    have ord : ∀ k, k < ops.size → (isBefore (Region.before ops) k i = true ∨ isBefore (Region.before ops) i k = true ∨ k = i) → (D k = true ↔ k < i) := by
      intro k hk hor
      rcases hor with hb | hb | rfl
      · have := ready_before hac hcl hoi hpre hb
        have := before_lt hac i k hb
        simp_all
      · have h1 := before_lt hac k i hb
        constructor
        · intro hd
          have := closed_before hac hcl k i hd hb
          rw [hDi] at this; cases this
        · intro h2; omega
      · rw [hDi]; simp
    have unord : ∀ k, k < ops.size → (D k = true ↔ k < i) ∨ (k ≠ i ∧ isBefore (Region.before ops) i k = false ∧ isBefore (Region.before ops) k i = false) := by
      intro k hk
      by_cases hki : k = i
      · exact .inl (ord k hk (.inr (.inr hki)))
      · cases h1 : isBefore (Region.before ops) k i with
        | true => exact .inl (ord k hk (.inl h1))
        | false =>
          cases h2 : isBefore (Region.before ops) i k with
          | true => exact .inl (ord k hk (.inr (.inl h2)))
          | false => exact .inr ⟨hki, rfl, rfl⟩
    have later : ∀ k, i < k → k < ops.size → D k = true → k ≠ i ∧ isBefore (Region.before ops) i k = false ∧ isBefore (Region.before ops) k i = false := by
      intro k hik hk hd
      rcases unord k hk with h1 | h1
      · have := h1.1 hd; omega
      · exact h1
    have look : ∀ t ∈ o.looksAt ops, VR p' (tget (rc i).T t) (a.tmps.getD t undef) := by
      intro t ht
      have : seenT rc T0 D ops.size t = tget (rc i).T t := by
        rw [hg.tl i hiN t]
        refine lastD_seq (by omega) fun k hk hd => ?_
        rcases unord k hk with h1 | ⟨h1, h2, h3⟩
        · exact h1
        · have hd' : (rc k).o.dst = some t := by simpa using hd
          exact absurd ht ((pair_apart hpair hoi (hg.op k hk) (Ne.symm h1) h2 h3).1 t hd')
      rw [← this]; exact e6 t
    have hops : ∀ x ∈ o.op.operands, VR p' (evA (rc i).T x) (a.eval x) := by
      intro x hx
      have hxok := Array.all_eq_true_iff_forall_mem.1 (hok o (List.mem_of_getElem? (by simpa using hoi : ops.toList[i]? = some o))) x hx
      cases x with
      | tmp t => exact look t (List.mem_append_left _ (List.mem_filterMap.2 ⟨.tmp t, by simpa using hx, rfl⟩))
      | const v => exact VR.of_ground p' 2 v hxok
      | global g => simp [operandOk] at hxok
      | func f => exact .func f rfl rfl (fun i => by simpa using VR.und p') (fun i => by simpa using VR.und p')
    -- what stands behind it
    have fin : ∀ (v' : Value) (w' : World) (q : Nat → Option (Nat × Nat)), VR q (rc i).v v' → Ext p' q (rc i).n (rc i).m → HR B w0 q (fun id => if (rc i).tch id then (rc i).val id else seenH rc h D ops.size id) w' → Inv (fun j => D j || j == i) (a.put o.dst v') w' := by
      intro v' w' q hv hx hr'
      refine ⟨fun j oj hj hd e he hb => ?_, fun j hj => ?_, q, fun i b hb => hx.ext i b (e1 i b hb), fun j hj => ?_, fun k hk hd => ?_, ?_, ?_, fun t => ?_, ?_⟩
      · simp only [Bool.or_eq_true, beq_iff_eq] at hd ⊢
        rcases hd with hd | rfl
        · exact .inl (hcl j oj hj hd e he hb)
        · rw [hoi] at hj; cases hj; exact .inl (hpre e he hb)
      · simp only [Bool.or_eq_true, beq_iff_eq] at hj
        rcases hj with hj | rfl
        · exact hbd j hj
        · exact hiN
      · have := hg.nle i hiN
        rw [hx.out j (by omega)]; exact e2 j hj
      · simp only [Bool.or_eq_false_iff, beq_eq_false_iff_ne] at hd
        intro j h1 h2
        have hdis : ¬((rc i).n ≤ j ∧ j < (rc i).m) := by
          rcases Nat.lt_or_gt_of_ne hd.2 with hl | hl
          · have := hg.nlt k i hl hiN; omega
          · have := hg.nlt i k hl hk; omega
        rw [hx.out j hdis]; exact e3 k hk hd.1 j h1 h2
      · have : seenH rc h (fun j => D j || j == i) ops.size = fun id => if (rc i).tch id then (rc i).val id else seenH rc h D ops.size id := by
          funext id
          exact lastD_add hDi ops.size hiN fun k h1 h2 h3 h4 => by
            obtain ⟨g1, g2, g3⟩ := later k h1 h2 h3
            exact (hg.c1 i k hiN h2 (Ne.symm g1) g2 g3 id h4).2
        rw [this]; exact hr'
      · cases o.dst <;> simp [Act.put, e5]
      · have hdst : ∀ d, o.dst = some d → d < sz := by rw [← hro]; exact hg.dst i hiN
        rw [put_get e5 hdst]
        have : seenT rc T0 (fun j => D j || j == i) ops.size t = if (rc i).o.dst == some t then (rc i).v else seenT rc T0 D ops.size t := by
          exact lastD_add hDi ops.size hiN fun k h1 h2 h3 h4 => by
            obtain ⟨g1, g2, g3⟩ := later k h1 h2 h3
            have h4' : (rc k).o.dst = some t := by simpa using h4
            have := (pair_apart hpair hoi (hg.op k h2) (Ne.symm g1) g2 g3).2 t h4'
            rw [hro]; simpa using this
        rw [this, hro]
        split
        · exact hv
        · exact (e6 t).mono hx.ext
      · have : (a.put o.dst v').defers = a.defers := by cases o.dst <;> rfl
        rw [this]; exact e7.mono hx.ext
    unfold stepIn
    simp only [hoi]
    have hwant : Region.wanted o (yielded ops a.tmps) = (rc i).wd := by
      rw [hg.wd i hiN, hro]; exact aWanted_ok' look
    cases hwd : (rc i).wd with
    | true =>
      rw [hwant, hwd]
      simp only [if_true]
      have hro' := hg.ok i hiN hwd
      unfold RecOk at hro'
      rw [hro] at hro'
      refine hro' (hh := seenH rc h D ops.size) (fun id y hy => ?_) (e3 i hiN hDi) e4 hops (fun v' w' q hv hx hr' => hK _ _ (fin v' w' q hv hx hr'))
      have h1 := hg.hs i hiN h hsub id y (hg.c4 i hiN id y hy)
      rw [← h1]
      refine lastD_seq (by omega) fun k hk ht => ?_
      rcases unord k hk with h2 | ⟨h2, h3, h4⟩
      · exact h2
      · have := (hg.c1 i k hiN hk (Ne.symm h2) h3 h4 id ht).1
        rw [hy] at this; cases this
    | false =>
      rw [hwant, hwd]
      simp only [Bool.false_eq_true, if_false]
      obtain ⟨u1, u2, _⟩ := hg.un i hiN hwd
      refine ⟨about_ok, hK _ _ (fin undef w p' (by rw [u1]; exact .und p') ⟨fun _ _ hh => hh, fun _ _ => rfl⟩ ?_)⟩
      simp only [u2, Bool.false_eq_true, if_false]
      exact e4
  · -- all is done
    intro D a w hall hinv
    obtain ⟨_, _, p', e1, e2, e3, e4, e5, e6, e7⟩ := hinv
    have hHD : seenH rc h D ops.size = seenH rc h (fun _ => true) ops.size := by
      funext id; exact lastD_congr _ fun k hk _ => hall k hk
    rw [hHD] at e4
    refine hQ a w p' ⟨e1, e2⟩ (e4.sub fun id x hx => ?_) ⟨⟨e5, fun t => ?_⟩, e7⟩
    · unfold upH at hx
      split at hx
      · exact hg.hsN h hsub id x hx
      · rename_i hc
        simp only [Bool.or_eq_true, Bool.and_eq_true, decide_eq_true_eq, not_or] at hc
        have h0 : H0.get id = none := by cases e : H0.get id with | none => rfl | some o => simp [e] at hc
        have hno : ∀ N, N ≤ ops.size → seenH rc h (fun _ => true) N id = h id := by
          intro N
          induction N with
          | zero => intro _; rfl
          | succ k ih =>
            intro hk
            have hkN : k < ops.size := by omega
            have ht : (rc k).tch id = false := by
              cases htt : (rc k).tch id with
              | false => rfl
              | true =>
                have hn := hg.nle k hkN
                rcases hg.c3 k hkN id htt with h1 | h1
                · rw [(hg.mo k hkN).gone id (by omega) h0] at h1; cases h1
                · exact absurd (show n0 ≤ id ∧ id < n by omega) hc.2
            show (if true && (rc k).tch id then (rc k).val id else seenH rc h (fun _ => true) k id) = h id
            rw [ht]; exact ih (by omega)
        rw [hno ops.size (Nat.le_refl _)]; exact hx
    · rw [hg.tlN t]
      have : seenT rc T0 D ops.size t = seenT rc T0 (fun _ => true) ops.size t := lastD_congr _ fun k hk _ => hall k hk
      rw [← this]; exact e6 t
  · -- nothing is done
    have hD : ∀ j, (Array.replicate ops.size false).getD j false = false := fun j => by
      simp [Array.getElem?_replicate]; split <;> rfl
    have hf : (fun j => (Array.replicate ops.size false).getD j false) = fun _ => false := funext hD
    rw [hf]
    refine ⟨fun j o _ hd => (by cases hd), fun j hd => (by cases hd), p, fun _ _ hh => hh, fun _ _ => rfl, fun k hk _ => ?_, ?_, hsr.t.size, fun t => ?_, hsr.d⟩
    · have := hg.nle k hk
      exact fun j h1 h2 => hfr j (by omega) (by omega)
    · have : seenH rc h (fun _ => false) ops.size = h := by funext id; exact noneT _ (fun _ => rfl) _ _ _ _
      rw [this]; exact hr.drew
    · have : seenT rc T0 (fun _ => false) ops.size t = tget T0 t := noneT _ (fun _ => rfl) _ _ _ _
      rw [this]; exact hsr.t.get t
end Go.Proofs.Ytkjceegmmhnajaa

namespace Go.Proofs.Ytkjceegmmhnajaa
open Go.RowKit

theorem delAll_get (H : Tr AO) : ∀ (l : List Nat) (j : Nat), (delAll l H).get j = if j ∈ l then none else H.get j
  | [], j => by simp [delAll]
  | i :: l, j => by
    show (Tr.del (delAll l H) i).get j = _
    rw [Tr.get_del, delAll_get H l]
    by_cases e : j = i
    · simp [e]
    · simp [e]
theorem addAll_get (H0 H : Tr AO) : ∀ (l : List Nat) (j : Nat), (addAll H0 l H).get j = if j ∈ l then H0.get j else H.get j
  | [], j => by simp [addAll]
  | i :: l, j => by
    show (Tr.put (i + 1) (addAll H0 l H) i (H0.get i)).get j = _
    rw [Tr.get_put _ _ _ _ _ (by omega), addAll_get H0 H l]
    by_cases e : j = i
    · simp [e]
    · simp [e]
theorem hidden_mem (bs : Array Nat) (i : Nat) (id : Nat) : ∀ (R : List (Nat × Nat × Nat)), id ∈ hidden bs i R ↔ ∃ q ∈ R, isBefore bs q.1 i = false ∧ q.2.1 ≤ id ∧ id < q.2.2
  | [] => by simp [hidden]
  | q :: R => by
    have ih := hidden_mem bs i id R
    show id ∈ (Bool.rec (appQ (mapQ (q.2.1 + ·) (List.range (q.2.2 - q.2.1))) (hidden bs i R)) (hidden bs i R) (isBefore bs q.1 i) : List Nat) ↔ _
    cases hb : isBefore bs q.1 i with
    | true =>
      dsimp only
      rw [ih]
      constructor
      · rintro ⟨x, hx, h⟩; exact ⟨x, by simp [hx], h⟩
      · rintro ⟨x, hx, h⟩
        rcases List.mem_cons.1 hx with rfl | hx
        · rw [hb] at h; cases h.1
        · exact ⟨x, hx, h⟩
    | false =>
      dsimp only
      rw [appQ_eq, mapQ_eq, List.mem_append, ih]
      constructor
      · rintro (h | ⟨x, hx, h⟩)
        · simp only [List.mem_map, List.mem_range] at h
          obtain ⟨y, hy, rfl⟩ := h
          exact ⟨q, by simp, hb, by omega, by omega⟩
        · exact ⟨x, by simp [hx], h⟩
      · rintro ⟨x, hx, h⟩
        rcases List.mem_cons.1 hx with rfl | hx
        · refine .inl ?_
          simp only [List.mem_map, List.mem_range]
          exact ⟨id - x.2.1, by omega, by omega⟩
        · exact .inr ⟨x, hx, h⟩

def upd1 (rc : Nat → Rec) (i : Nat) (r : Rec) : Nat → Rec := fun k => if k = i then r else rc k
theorem upd1_same (rc : Nat → Rec) (i : Nat) (r : Rec) : upd1 rc i r i = r := by simp [upd1]
theorem upd1_lt (rc : Nat → Rec) {i k : Nat} (r : Rec) (h : k < i) : upd1 rc i r k = rc k := by simp [upd1, show k ≠ i by omega]
theorem seenH_upd (rc : Nat → Rec) (i : Nat) (r : Rec) (h0 : Hp) (D : Nat → Bool) : ∀ k, k ≤ i → seenH (upd1 rc i r) h0 D k = seenH rc h0 D k := by
  intro k hk
  funext id
  unfold seenH
  induction k with
  | zero => rfl
  | succ k ih => simp only [lastD]; rw [ih (by omega), upd1_lt rc r (by omega : k < i)]
theorem seenT_upd (rc : Nat → Rec) (i : Nat) (r : Rec) (T0 : Tr Value) (D : Nat → Bool) (t : Nat) : ∀ k, k ≤ i → seenT (upd1 rc i r) T0 D k t = seenT rc T0 D k t := by
  intro k hk
  unfold seenT
  induction k with
  | zero => rfl
  | succ k ih => simp only [lastD]; rw [ih (by omega), upd1_lt rc r (by omega : k < i)]

section
variable {E : Env} {ops : Array Oper} {lo : Nat} {T0 : Tr Value} {sz : Nat} {H0 : Tr AO} {n0 : Nat}

/-- one operation more -/
theorem Good.ext {rc : Nat → Rec} {i : Nat} {T T' : Tr Value} {H H' : Tr AO} {n n' : Nat} (g : Good E ops lo T0 sz H0 n0 rc i T H n) (r : Rec) (hop : ops[i]? = some r.o) (hT : r.T = T) (hH : r.H = H) (hn : r.n = n) (hm : r.m = n') (hput : aPut T sz r.o.dst r.v = some T')
    (hwd : r.wd = aWanted ops T r.o) (hun : r.wd = false → r.v = undef ∧ (∀ id, r.tch id = false) ∧ ∀ id, r.need id = none) (hmo : Mo lo H H' n n')
    (hc3 : ∀ id, r.tch id = true → (H.get id).isSome = true ∨ (n ≤ id ∧ id < n')) (hc4 : ∀ id y, r.need id = some y → H.get id = some y)
    (hs : ∀ hh : Hp, Sub H hh → Sub H' (fun id => if r.tch id then r.val id else hh id)) (hok : r.wd = true → RecOk E lo r)
    (hc : ∀ k, k < i → isBefore (Region.before ops) i k = false → isBefore (Region.before ops) k i = false → ∀ id, ((rc k).tch id = true → r.need id = none ∧ r.tch id = false) ∧ (r.tch id = true → (rc k).need id = none ∧ (rc k).tch id = false)) :
    Good E ops lo T0 sz H0 n0 (upd1 rc i r) (i + 1) T' H' n' := by
  have le := hmo.le
  have sel : ∀ k, k < i + 1 → (k < i ∧ upd1 rc i r k = rc k) ∨ (k = i ∧ upd1 rc i r k = r) := fun k hk => by
    by_cases e : k = i
    · exact .inr ⟨e, by rw [e]; exact upd1_same rc i r⟩
    · exact .inl ⟨by omega, upd1_lt rc r (by omega)⟩
  refine ⟨fun k hk => ?_, fun k hk => ?_, fun k hk => ?_, fun k hk t => ?_, fun t => ?_, fun k hk => ?_, Nat.le_trans g.le0 le, fun k hk => ?_, fun j k hjk hk => ?_, fun k hk => ?_, fun k hk => ?_, fun k hk => ?_, g.moN.trans hmo, fun k hk h0 hs0 => ?_, fun h0 hs0 => ?_, fun k hk => ?_, fun a b ha hb hne h1 h2 id ht => ?_⟩
  · rcases sel k hk with ⟨h1, h2⟩ | ⟨rfl, h2⟩ <;> rw [h2]
    · exact g.op k h1
    · exact hop
  · rcases sel k hk with ⟨h1, h2⟩ | ⟨rfl, h2⟩ <;> rw [h2]
    · exact g.dst k h1
    · intro d hd
      rw [hd] at hput
      unfold aPut at hput
      dsimp only at hput
      cases e : Nat.blt d sz with
      | false => rw [e] at hput; cases hput
      | true => exact Nat.blt_eq ▸ e
  · rcases sel k hk with ⟨h1, h2⟩ | ⟨rfl, h2⟩ <;> rw [h2]
    · exact g.wd k h1
    · rw [hT]; exact hwd
  · rcases sel k hk with ⟨h1, h2⟩ | ⟨rfl, h2⟩ <;> rw [h2]
    · rw [seenT_upd rc i r T0 _ t k (by omega)]; exact g.tl k h1 t
    · rw [seenT_upd rc k r T0 _ t k (Nat.le_refl _), hT]; exact g.tlN t
  · have e1 : seenT (upd1 rc i r) T0 (fun _ => true) (i + 1) t = if r.o.dst == some t then r.v else seenT rc T0 (fun _ => true) i t := by
      rw [← seenT_upd rc i r T0 (fun _ => true) t i (Nat.le_refl _)]
      show (if true && ((upd1 rc i r i).o.dst == some t) then (upd1 rc i r i).v else _) = _
      rw [upd1_same]; simp only [Bool.true_and]; rfl
    rw [e1, ← g.tlN t]
    cases hd : r.o.dst with
    | none => rw [hd] at hput; cases hput; rfl
    | some d =>
      rw [hd] at hput
      unfold aPut at hput
      dsimp only at hput
      cases e : Nat.blt d sz with
      | false => rw [e] at hput; cases hput
      | true =>
        rw [e] at hput; cases hput
        rw [tget_set]
        by_cases h : t = d
        · subst h; simp
        · rw [if_neg h]
          have : (some d == some t) = false := by simp; exact fun e => h e.symm
          rw [this]; rfl
  · rcases sel k hk with ⟨h1, h2⟩ | ⟨rfl, h2⟩ <;> rw [h2]
    · exact g.un k h1
    · exact hun
  · rcases sel k hk with ⟨h1, h2⟩ | ⟨rfl, h2⟩ <;> rw [h2]
    · have := g.nle k h1; omega
    · have := g.le0; omega
  · rcases sel k hk with ⟨h1, h2⟩ | ⟨rfl, h2⟩ <;> rw [h2]
    · rw [upd1_lt rc r (by omega : j < i)]; exact g.nlt j k hjk h1
    · rw [upd1_lt rc r hjk, hn]; exact (g.nle j hjk).2.2
  · rcases sel k hk with ⟨h1, h2⟩ | ⟨rfl, h2⟩ <;> rw [h2]
    · exact g.c3 k h1
    · intro id hid; rw [hH, hn, hm]; exact hc3 id hid
  · rcases sel k hk with ⟨h1, h2⟩ | ⟨rfl, h2⟩ <;> rw [h2]
    · exact g.c4 k h1
    · intro id y hid; rw [hH]; exact hc4 id y hid
  · rcases sel k hk with ⟨h1, h2⟩ | ⟨rfl, h2⟩ <;> rw [h2]
    · exact g.mo k h1
    · rw [hH, hn]; exact g.moN
  · rcases sel k hk with ⟨h1, h2⟩ | ⟨rfl, h2⟩ <;> rw [h2]
    · rw [seenH_upd rc i r h0 _ k (by omega)]; exact g.hs k h1 h0 hs0
    · rw [seenH_upd rc k r h0 _ k (Nat.le_refl _), hH]; exact g.hsN h0 hs0
  · have e1 : seenH (upd1 rc i r) h0 (fun _ => true) (i + 1) = fun id => if r.tch id then r.val id else seenH rc h0 (fun _ => true) i id := by
      funext id
      rw [← seenH_upd rc i r h0 (fun _ => true) i (Nat.le_refl _)]
      show (if true && (upd1 rc i r i).tch id then (upd1 rc i r i).val id else _) = _
      rw [upd1_same]; simp only [Bool.true_and]; rfl
    rw [e1]
    exact hs _ (g.hsN h0 hs0)
  · rcases sel k hk with ⟨h1, h2⟩ | ⟨rfl, h2⟩ <;> rw [h2]
    · exact g.ok k h1
    · exact hok
  · rcases sel a ha with ⟨a1, a2⟩ | ⟨rfl, a2⟩
    · rcases sel b hb with ⟨b1, b2⟩ | ⟨rfl, b2⟩
      · rw [a2]; rw [b2] at ht; exact g.c1 a b a1 b1 hne h1 h2 id ht
      · rw [a2]; rw [b2] at ht; exact (hc a a1 h2 h1 id).2 ht
    · rcases sel b hb with ⟨b1, b2⟩ | ⟨rfl, b2⟩
      · rw [a2]; rw [b2] at ht; exact (hc b b1 h1 h2 id).1 ht
      · exact absurd rfl hne

theorem kind_of_call {o : Op} (h : isCall o = true) : kindOf o = .call := by
  cases o <;> simp [isCall] at h
  rename_i c
  obtain ⟨callee, args, types⟩ := c
  cases callee <;> simp at h <;> rfl

theorem view_silent {o : Oper} {r : Operand → Value} (h : kindOf o.op = .silent) : view o r = [] := by
  unfold view
  split <;> first | rfl | (rename_i heq; rw [heq] at h; simp [kindOf] at h; done)

theorem aMem_silent {P : Program} {tv : Nat → Option TV} {o : Oper} {r : Operand → Value} {H : Tr AO} {n n' : Nat} {v : Value} {d : Dl} (h : kindOf o.op = .silent) (ha : aMem P tv lo o r H n = some (v, d, n')) : d = [] ∧ n' = n := by
  have hk : ∀ x, kept n x = some (v, d, n') → d = [] ∧ n' = n := fun x hx => by
    unfold kept at hx; split at hx <;> cases hx; exact ⟨rfl, rfl⟩
  unfold aMem at ha
  split at ha <;> try (rename_i heq; rw [heq] at h; simp [kindOf] at h; done)
  · rename_i c heq
    unfold aMemB at ha
    split at ha <;> first | (rw [heq] at h; simp [kindOf] at h; done) | exact hk _ ha
  · exact hk _ ha

/-- an operation that is no writer touches only what it makes -/
theorem aMem_writes {P : Program} {tv : Nat → Option TV} {o : Oper} {r : Operand → Value} {H : Tr AO} {n n' : Nat} {v : Value} {d : Dl} (hlo : lo ≤ n) (ha : aMem P tv lo o r H n = some (v, d, n')) : ∀ e ∈ d, (n ≤ e.1 ∧ e.1 < n') ∨ (isWriter o.op = true ∧ e.1 ∈ view o r) := by
  have hk : ∀ x, kept n x = some (v, d, n') → ∀ e ∈ d, (n ≤ e.1 ∧ e.1 < n') ∨ (isWriter o.op = true ∧ e.1 ∈ view o r) := fun x hx => by
    unfold kept at hx; split at hx <;> cases hx; intro e he; simp at he
  have hm : ∀ x, made n x = some (v, d, n') → ∀ e ∈ d, (n ≤ e.1 ∧ e.1 < n') ∨ (isWriter o.op = true ∧ e.1 ∈ view o r) := fun x hx => by
    unfold made at hx; split at hx <;> cases hx
    intro e he; simp at he; subst he; exact .inl ⟨by simp, by simp⟩
  have one : ∀ {m : Value} {d : Dl}, isWriter o.op = true → view o r = idM m → OneMap lo m H d → ∀ e ∈ d, (n ≤ e.1 ∧ e.1 < n') ∨ (isWriter o.op = true ∧ e.1 ∈ view o r) := fun {m d} h1 h2 h3 e he => by
    obtain ⟨b, o', e1, _, _, rfl⟩ := h3
    simp at he; subst he
    exact .inr ⟨h1, by rw [h2, e1]; simp [idM]⟩
  have hstM : ∀ {m : Value} {x : Option Dl}, isWriter o.op = true → view o r = idM m → (∀ d', x = some d' → OneMap lo m H d') → stored n x = some (v, d, n') → ∀ e ∈ d, (n ≤ e.1 ∧ e.1 < n') ∨ (isWriter o.op = true ∧ e.1 ∈ view o r) := fun {m x} h1 h2 hx h => by
    unfold stored at h
    split at h
    · cases h; exact one h1 h2 (hx _ rfl)
    · cases h
  unfold aMem at ha
  split at ha
  · exact hk _ ha
  · exact hm _ ha
  · exact hm _ ha
  · exact hm _ ha
  · exact hm _ ha
  · rename_i t a x heq
    unfold stored at ha
    split at ha
    · rename_i d' hst
      cases ha
      replace hst := aStore_eq hst
      unfold aStore0 at hst
      split at hst
      · rename_i b o' hra
        split at hst
        · split at hst
          · cases hst
            intro e he
            simp at he; subst he
            refine .inr ⟨by rw [heq]; rfl, ?_⟩
            unfold view; rw [heq]; simp [hra, idOf]
          · cases hst
        · cases hst
      · cases hst
    · cases ha
  · exact hk _ ha
  · rename_i t m k x heq
    exact hstM (m := r m) (by rw [heq]; rfl) (by unfold view; rw [heq]) (fun _ h => aMapUpd_one h) ha
  · rename_i t m k x heq
    exact hstM (m := r m) (by rw [heq]; rfl) (by unfold view; rw [heq]) (fun _ h => aMapUpd_one h) ha
  · rename_i t m k heq
    unfold entered at ha
    split at ha
    · rename_i h; cases ha; exact one (m := r m) (by rw [heq]; rfl) (by unfold view; rw [heq]) (aMapEnt_one h)
    · cases ha
  · rename_i t m st x heq
    exact hstM (m := r m) (by rw [heq]; rfl) (by unfold view; rw [heq]) (fun _ h => aEntSt_one h) ha
  · exact hm _ ha
  · rename_i c heq
    unfold aMemB at ha
    split at ha
    · rename_i args types
      intro e he
      have key : (n ≤ e.1 ∧ e.1 < n') ∨ ∃ x ∈ args, ∃ o l c, r x = .slice (some ⟨e.1, o, none⟩) l c := aAppend_keys ha e he
      rcases key with h1 | ⟨x, hx, o', l, c, h1⟩
      · exact .inl h1
      · refine .inr ⟨by rw [heq]; rfl, ?_⟩
        unfold view; rw [heq]
        simp only [List.mem_flatMap]
        exact ⟨x, by simpa using hx, by simp [h1, idOf]⟩
    · exact hk _ ha
    · rename_i args types
      unfold stored at ha
      split at ha
      · rename_i hd
        cases ha
        unfold aDelA at hd
        split at hd
        · rename_i m k t t2 hargs htys
          obtain ⟨b, o', e1, _, _, rfl⟩ := aMapDel_one hd
          intro e he
          simp at he; subst he
          refine .inr ⟨by rw [heq]; rfl, ?_⟩
          unfold view; rw [heq]
          simp only [List.mem_flatMap]
          exact ⟨m, by rw [hargs]; simp, by simp [e1, idM]⟩
        · cases hd
      · cases ha
    · exact hk _ ha
  · exact hk _ ha
end
end Go.Proofs.Ytkjceegmmhnajaa

namespace Go.Proofs.Ytkjceegmmhnajaa
open Go.RowKit
section
variable {E : Env} {ex : Exe} {ops : Array Oper} {lo : Nat} {T0 : Tr Value} {sz : Nat} {H0 : Tr AO} {n0 : Nat}

theorem runDraw_nil (bs : Array Nat) (i : Nat) (T : Tr Value) (sz : Nat) (D : List Nat) (H : Tr AO) (n : Nat) (R : List (Nat × Nat × Nat)) (F : List (Nat × Nat × Bool)) : runDraw E ex lo ops bs [] i T sz D H n R F = some ⟨T, sz, D, H, n⟩ := rfl
theorem runDraw_cons (bs : Array Nat) (o : Oper) (l : List Oper) (i : Nat) (T : Tr Value) (sz : Nat) (D : List Nat) (H : Tr AO) (n : Nat) (R : List (Nat × Nat × Nat)) (F : List (Nat × Nat × Bool)) : runDraw E ex lo ops bs (o :: l) i T sz D H n R F =
    Bool.rec (match aPut T sz o.dst undef with
      | some T => runDraw E ex lo ops bs l (i + 1) T sz D H n R F
      | none => none)
    (Bool.rec
      (Bool.rec none
        (match aMem E.P E.tv lo o (evA T) H n with
          | some (v, d, n') => match aPut T sz o.dst v with
            | some T' => runDraw E ex lo ops bs l (i + 1) T' sz D (updT H d) n' (Bool.rec R ((i, n, n') :: R) (Nat.blt n n')) (appQ (mapQ (fun b => (i, b, isWriter o.op)) (view o (evA T))) F)
            | none => none
          | none => none)
        (allQ (fun b => !(hidden bs i R).contains b && footOk bs i (isWriter o.op) F b) (view o (evA T))))
      (match opRun E ex (Bool.rec lo n (guarded ops bs i)) o T (delAll (hidden bs i R) H) n with
        | some (v, H', n') => match aPut T sz o.dst v with
          | some T => runDraw E ex lo ops bs l (i + 1) T sz D (addAll H (hidden bs i R) H') n' (Bool.rec R ((i, n, n') :: R) (Nat.blt n n')) F
          | none => none
        | none => none)
      (isCall o.op))
    (aWanted ops T o) := rfl

/-- what the lists kept by the way say of what is done -/
structure Kept (ops : Array Oper) (rc : Nat → Rec) (i : Nat) (n : Nat) (R : List (Nat × Nat × Nat)) (F : List (Nat × Nat × Bool)) : Prop where
  r1 : ∀ k, k < i → (rc k).n < (rc k).m → (k, (rc k).n, (rc k).m) ∈ R
  r2 : ∀ q ∈ R, q.2.2 ≤ n
  jk : ∀ k, k < i → (rc k).wd = true →
    (isCall (rc k).o.op = false ∧ (∀ id y, (rc k).need id = some y → (k, id, isWriter (rc k).o.op) ∈ F) ∧ (∀ id, (rc k).tch id = true → ((rc k).n ≤ id ∧ id < (rc k).m) ∨ (isWriter (rc k).o.op = true ∧ (k, id, true) ∈ F)) ∧
      (kindOf (rc k).o.op = .silent → (∀ id, (rc k).need id = none) ∧ ∀ id, (rc k).tch id = false)) ∨
    (isCall (rc k).o.op = true ∧ ∀ id, (rc k).tch id = true → ((rc k).n ≤ id ∧ id < (rc k).m) ∨ guarded ops (Region.before ops) k = false)

theorem guarded_of {bs : Array Nat} {i k : Nat} {o : Oper} (hk : ops[k]? = some o) (hne : k ≠ i) (h1 : isBefore bs k i = false) (h2 : isBefore bs i k = false) (hs : kindOf o.op ≠ .silent) : guarded ops bs i = true := by
  unfold guarded
  rw [List.any_eq_true]
  refine ⟨k, by simpa using (Array.getElem?_eq_some_iff.1 hk).1, ?_⟩
  rw [h1, h2, hk]
  simp [hne, hs]

theorem pair_kinds (hp : ∀ i j, i < j → j < ops.size → pairOk ops (Region.before ops) i j = true) {k i : Nat} {ok oi : Oper} (hk : ops[k]? = some ok) (hi : ops[i]? = some oi) (hlt : k < i) (hb : isBefore (Region.before ops) k i = false) :
    (kindOf ok.op = .call → isWriter oi.op = false) ∧ (kindOf oi.op = .call → isWriter ok.op = false) := by
  have := hp k i hlt (Array.getElem?_eq_some_iff.1 hi).1
  unfold pairOk at this
  rw [hk, hi] at this
  simp only [hb, Bool.false_or, Bool.and_eq_true] at this
  have h2 := this.2
  unfold isWriter
  refine ⟨fun h => ?_, fun h => ?_⟩
  · rw [h] at h2
    cases e : kindOf oi.op <;> rw [e] at h2 <;> first | rfl | cases h2
  · rw [h] at h2
    cases e : kindOf ok.op <;> rw [e] at h2 <;> first | rfl | cases h2

theorem foot_no {bs : Array Nat} {i : Nat} {wr : Bool} {F : List (Nat × Nat × Bool)} {b : Nat} (h : footOk bs i wr F b = true) {k : Nat} {w : Bool} (hm : (k, b, w) ∈ F) (hb : isBefore bs k i = false) : w = false ∧ wr = false := by
  unfold footOk at h
  have := List.all_eq_true.1 h _ hm
  simp only [bne_self_eq_false, Bool.false_or, hb, Bool.or_false, Bool.not_eq_true', Bool.or_eq_false_iff] at this
  exact this

theorem runDraw_good (hE : EnvOk E) (hs : Sound E ex) (hdr : drawOk ops = true) (hok : ∀ o ∈ ops.toList, opOk o = true) (hlo0 : lo ≤ n0) (hwf0 : Wf H0 n0) : ∀ (l : List Oper) (i : Nat) (T : Tr Value) (D : List Nat) (H : Tr AO) (n : Nat) (R : List (Nat × Nat × Nat)) (F : List (Nat × Nat × Bool)) (s' : St) (rc : Nat → Rec),
    ops.toList.drop i = l → i + l.length = ops.size → runDraw E ex lo ops (Region.before ops) l i T sz D H n R F = some s' → Good E ops lo T0 sz H0 n0 rc i T H n → Kept ops rc i n R F →
    ∃ rc', Good E ops lo T0 sz H0 n0 rc' ops.size s'.T s'.H s'.n ∧ s'.D = D ∧ s'.sz = sz
  | [], i, T, D, H, n, R, F, s', rc, _, hil, hr, hg, _ => by
    rw [runDraw_nil] at hr; cases hr
    have : i = ops.size := by simpa using hil
    subst this
    exact ⟨rc, hg, rfl, rfl⟩
  | o :: l, i, T, D, H, n, R, F, s', rc, hd, hil, hr, hg, hK => by
    obtain ⟨hac, hpair⟩ := drawOk_spec hdr
    have hoi : ops[i]? = some o := by
      have : ops.toList[i]? = some o := by rw [← List.head?_drop, hd]; rfl
      simpa using this
    have hom : o ∈ ops.toList := List.mem_of_getElem? (by simpa using hoi : ops.toList[i]? = some o)
    have hd' : ops.toList.drop (i + 1) = l := by rw [← List.drop_drop, hd]; rfl
    have hil' : i + 1 + l.length = ops.size := by simp at hil; omega
    have hlo : lo ≤ n := Nat.le_trans hlo0 hg.le0
    have hwf : Wf H n := hwf0.up hg.moN
    have below : ∀ k, k < i → ∀ id, (rc k).tch id = true → id < n := fun k hk id ht => by
      have := hg.nle k hk
      rcases hg.c3 k hk id ht with h1 | h1
      · rcases Nat.lt_or_ge id (rc k).n with h2 | h2
        · omega
        · rw [hwf0.up (hg.mo k hk) id h2] at h1; cases h1
      · omega
    have needlt : ∀ k, k < i → ∀ id y, (rc k).need id = some y → id < n := fun k hk id y hy => by
      have := hg.nle k hk
      have h1 := hg.c4 k hk id y hy
      rcases Nat.lt_or_ge id (rc k).n with h2 | h2
      · omega
      · rw [hwf0.up (hg.mo k hk) id h2] at h1; cases h1
    rw [runDraw_cons] at hr
    cases hw : aWanted ops T o with
    | false =>
      rw [hw] at hr
      dsimp only at hr
      split at hr
      case h_2 => cases hr
      rename_i T' hput
      let r : Rec := ⟨o, false, T, H, undef, n, n, fun _ => false, fun _ => none, fun _ => none⟩
      have hg' := hg.ext r hoi rfl rfl rfl rfl hput hw.symm (fun _ => ⟨rfl, fun _ => rfl, fun _ => rfl⟩) (.refl lo H n) (fun id h => by cases h) (fun id y h => by cases h) (fun hh hsub => by simpa using hsub) (fun h => by cases h)
        (fun k hk _ _ id => ⟨fun _ => ⟨rfl, rfl⟩, fun h => by cases h⟩)
      refine runDraw_good hE hs hdr hok hlo0 hwf0 l (i + 1) T' D H n R F s' (upd1 rc i r) hd' hil' hr hg' ⟨fun k hk h => ?_, hK.r2, fun k hk h => ?_⟩
      · by_cases e : k = i
        · subst e; rw [upd1_same] at h; exact absurd h (Nat.lt_irrefl _)
        · rw [upd1_lt rc r (by omega)] at h ⊢; exact hK.r1 k (by omega) h
      · by_cases e : k = i
        · subst e; rw [upd1_same] at h; cases h
        · rw [upd1_lt rc r (by omega)] at h ⊢; exact hK.jk k (by omega) h
    | true =>
      rw [hw] at hr
      dsimp only at hr
      cases hcall : isCall o.op with
      | false =>
        rw [hcall] at hr
        dsimp only at hr
        cases hview : allQ (fun b => !(hidden (Region.before ops) i R).contains b && footOk (Region.before ops) i (isWriter o.op) F b) (view o (evA T)) with
        | false => rw [hview] at hr; cases hr
        | true =>
        rw [hview] at hr
        dsimp only at hr
        rw [allQ_eq] at hview
        have chk : ∀ b ∈ view o (evA T), b ∉ hidden (Region.before ops) i R ∧ footOk (Region.before ops) i (isWriter o.op) F b = true := fun b hb => by
          have := List.all_eq_true.1 hview b hb
          simpa using this
        split at hr
        case h_2 => cases hr
        rename_i v d n' ham
        split at hr
        case h_2 => cases hr
        rename_i T' hput
        have hdl := aMem_dl hlo ham
        let r : Rec := ⟨o, true, T, H, v, n, n', fun id => d.any (·.1 == id), fun id => upd H.get d id, fun id => if id ∈ view o (evA T) then H.get id else none⟩
        have tkey : ∀ id, r.tch id = true ↔ ∃ e ∈ d, e.1 = id := fun id => by
          show d.any (·.1 == id) = true ↔ _
          rw [List.any_eq_true]; simp
        have hupd : ∀ hh : Hp, (fun id => if r.tch id then r.val id else hh id) = upd hh d := fun hh => by
          funext id
          cases ht : r.tch id with
          | true => simp only [if_true]; exact upd_key H.get hh d id ((tkey id).1 ht)
          | false =>
            simp only [Bool.false_eq_true, if_false]
            exact (upd_not hh d id fun e he h1 => by rw [(tkey id).2 ⟨e, he, h1⟩] at ht; cases ht).symm
        have htw : ∀ id, r.tch id = true → (n ≤ id ∧ id < n') ∨ (isWriter o.op = true ∧ id ∈ view o (evA T)) := fun id ht => by
          obtain ⟨e, he, rfl⟩ := (tkey id).1 ht
          exact aMem_writes hlo ham e he
        have hneed : ∀ id y, r.need id = some y → id ∈ view o (evA T) ∧ H.get id = some y := fun id y hy => by
          have hy : (if id ∈ view o (evA T) then H.get id else none) = some y := hy
          split at hy
          · exact ⟨by assumption, hy⟩
          · cases hy
        -- what this one looks at, none that is not ordered with it has touched
        have key : ∀ k, k < i → isBefore (Region.before ops) i k = false → isBefore (Region.before ops) k i = false → ∀ id ∈ view o (evA T), (rc k).tch id = false := fun k hk h1 h2 id hid => by
          cases ht : (rc k).tch id with
          | false => rfl
          | true =>
            obtain ⟨c1, c2⟩ := chk id hid
            cases hwk : (rc k).wd with
            | false => have := (hg.un k hk hwk).2.1 id; rw [ht] at this; cases this
            | true =>
              have rng : ¬((rc k).n ≤ id ∧ id < (rc k).m) := fun h3 => c1 ((hidden_mem _ i id R).2 ⟨_, hK.r1 k hk (by omega), h2, h3.1, h3.2⟩)
              rcases hK.jk k hk hwk with ⟨_, _, j3, _⟩ | ⟨j1, j2⟩
              · rcases j3 id ht with h3 | ⟨_, h3⟩
                · exact absurd h3 rng
                · have := (foot_no c2 h3 h2).1; cases this
              · rcases j2 id ht with h3 | h3
                · exact absurd h3 rng
                · have hsil : kindOf o.op ≠ .silent := fun e => by rw [view_silent e] at hid; simp at hid
                  rw [guarded_of hoi (by omega) h1 h2 hsil] at h3; cases h3
        have hg' := hg.ext r hoi rfl rfl rfl rfl hput hw.symm (fun h => by cases h) (Mo.updT hdl) (fun id ht => by
            obtain ⟨e, he, rfl⟩ := (tkey id).1 ht
            exact (hdl.key e he).2) (fun id y hy => (hneed id y hy).2) (fun hh hsub => by
            rw [hupd, ← upH_updT hsub hdl]; exact Sub.up hsub (Mo.updT hdl)) (fun _ B w0 p hh w ro a K Q hn hfr hhr hops hR => by
            have hnd : ∀ c, o.op ≠ .defer c := fun c e => by
              unfold aMem at ham; rw [e] at ham; simp [aSil, e, kept] at ham
            obtain ⟨_, v', w', q, hgv, hv, hx, hr'⟩ := aMem_ok hE.tv hhr hfr hlo (fun b hb y hy => hn b y (by show (if b ∈ view o (evA T) then H.get b else none) = some y; rw [if_pos hb]; exact hy)) hops ham
            rw [← hupd] at hr'
            refine ⟨about_ok, ?_⟩
            rw [Oper.semAt_eq _ _ _ hnd]
            rcases hgv with hgv | ⟨hgv, rfl⟩
            · rw [hgv]; exact hR v' w' q hv hx hr'
            · rw [hgv]; exact hR _ w' q hv hx hr')
          (fun k hk h1 h2 id => by
            have n1 := hg.nle k hk
            have two : (rc k).tch id = true → r.tch id = true → False := fun ht hti => by
              rcases htw id hti with h3 | ⟨_, h3⟩
              · have := below k hk id ht; omega
              · rw [key k hk h1 h2 id h3] at ht; cases ht
            refine ⟨fun ht => ⟨?_, ?_⟩, fun hti => ⟨?_, ?_⟩⟩
            · cases hy : r.need id with
              | none => rfl
              | some y => rw [key k hk h1 h2 id (hneed id y hy).1] at ht; cases ht
            · cases hti : r.tch id with
              | false => rfl
              | true => exact (two ht hti).elim
            · cases hy : (rc k).need id with
              | none => rfl
              | some y =>
                exfalso
                have hlt := needlt k hk id y hy
                rcases htw id hti with h3 | ⟨hwr, h3⟩
                · omega
                · cases hwk : (rc k).wd with
                  | false => have := (hg.un k hk hwk).2.2 id; rw [hy] at this; cases this
                  | true =>
                    rcases hK.jk k hk hwk with ⟨_, j2, _, _⟩ | ⟨j1, _⟩
                    · have := (foot_no (chk id h3).2 (j2 id y hy) h2).2
                      rw [hwr] at this; cases this
                    · have := (pair_kinds hpair (hg.op k hk) hoi hk h2).1 (kind_of_call j1)
                      rw [hwr] at this; cases this
            · cases ht : (rc k).tch id with
              | false => rfl
              | true => exact (two ht hti).elim)
        have hnn := hdl.le
        refine runDraw_good hE hs hdr hok hlo0 hwf0 l (i + 1) T' D _ n' _ _ s' (upd1 rc i r) hd' hil' hr hg' ⟨fun k hk h => ?_, fun q hq => ?_, fun k hk h => ?_⟩
        · by_cases e : k = i
          · subst e
            rw [upd1_same] at h ⊢
            have hlt : n < n' := h
            rw [show Nat.blt n n' = true from Nat.blt_eq.symm ▸ hlt]
            exact List.mem_cons_self ..
          · rw [upd1_lt rc r (by omega)] at h ⊢
            have := hK.r1 k (by omega) h
            cases Nat.blt n n'
            · exact this
            · exact List.mem_cons_of_mem _ this
        · cases hb : Nat.blt n n' with
          | false => rw [hb] at hq; exact Nat.le_trans (hK.r2 q hq) hnn
          | true =>
            rw [hb] at hq
            rcases List.mem_cons.1 hq with rfl | hq
            · exact Nat.le_refl _
            · exact Nat.le_trans (hK.r2 q hq) hnn
        · rw [appQ_eq, mapQ_eq]
          by_cases e : k = i
          · subst e
            rw [upd1_same]
            refine .inl ⟨hcall, fun id y hy => ?_, fun id ht => ?_, fun hsil => ?_⟩
            · exact List.mem_append_left _ (List.mem_map.2 ⟨id, (hneed id y hy).1, rfl⟩)
            · rcases htw id ht with h3 | ⟨h3, h4⟩
              · exact .inl h3
              · exact .inr ⟨h3, List.mem_append_left _ (List.mem_map.2 ⟨id, h4, by rw [h3]⟩)⟩
            · obtain ⟨e1, _⟩ := aMem_silent hsil ham
              refine ⟨fun id => ?_, fun id => ?_⟩
              · show (if id ∈ view o (evA T) then H.get id else none) = none
                rw [view_silent hsil]; simp
              · show d.any (·.1 == id) = false
                rw [e1]; rfl
          · rw [upd1_lt rc r (by omega)] at h ⊢
            rcases hK.jk k (by omega) h with ⟨j1, j2, j3, j4⟩ | j
            · refine .inl ⟨j1, fun id y hy => List.mem_append_right _ (j2 id y hy), fun id ht => ?_, j4⟩
              rcases j3 id ht with h3 | ⟨h3, h4⟩
              · exact .inl h3
              · exact .inr ⟨h3, List.mem_append_right _ h4⟩
            · exact .inr j
      | true =>
        rw [hcall] at hr
        dsimp only at hr
        split at hr
        case h_2 => cases hr
        rename_i v H1 n' hrun
        split at hr
        case h_2 => cases hr
        rename_i T' hput
        have hkc := kind_of_call hcall
        have hglo : (Bool.rec lo n (guarded ops (Region.before ops) i) : Nat) ≤ n := by cases guarded ops (Region.before ops) i; exact hlo; exact Nat.le_refl _
        have hglo2 : lo ≤ (Bool.rec lo n (guarded ops (Region.before ops) i) : Nat) := by cases guarded ops (Region.before ops) i; exact Nat.le_refl _; exact hlo
        have hvis : ∀ id, (delAll (hidden (Region.before ops) i R) H).get id = if id ∈ hidden (Region.before ops) i R then none else H.get id := delAll_get H _
        have hwfv : Wf (delAll (hidden (Region.before ops) i R) H) n := fun id hid => by rw [hvis]; split; rfl; exact hwf id hid
        obtain ⟨m1, hop⟩ := opRun_ok hE hs hrun hglo hwfv
        have hidlt : ∀ id ∈ hidden (Region.before ops) i R, id < n := fun id hid => by
          obtain ⟨q, hq, _, _, h3⟩ := (hidden_mem _ i id R).1 hid
          have := hK.r2 q hq; omega
        let Hv := delAll (hidden (Region.before ops) i R) H
        let r : Rec := ⟨o, true, T, H, v, n, n', fun id => (decide (n ≤ id) && decide (id < n')) || (!guarded ops (Region.before ops) i && (Hv.get id).isSome), fun id => H1.get id, fun id => Hv.get id⟩
        have tkey : ∀ id, r.tch id = true ↔ (n ≤ id ∧ id < n') ∨ (guarded ops (Region.before ops) i = false ∧ (Hv.get id).isSome = true) := fun id => by
          show ((decide (n ≤ id) && decide (id < n')) || (!guarded ops (Region.before ops) i && (Hv.get id).isSome)) = true ↔ _
          simp
        have hfun : ∀ hh : Hp, Sub Hv hh → (fun id => if r.tch id then r.val id else hh id) = upH hh Hv H1 n n' := fun hh hsub => by
          funext id
          unfold upH
          cases hgd : guarded ops (Region.before ops) i with
          | false =>
            have : r.tch id = ((Hv.get id).isSome || (decide (n ≤ id) && decide (id < n'))) := by
              show ((decide (n ≤ id) && decide (id < n')) || (!guarded ops (Region.before ops) i && (Hv.get id).isSome)) = _
              rw [hgd]; simp [Bool.or_comm]
            rw [this]
          | true =>
            have e1 : r.tch id = (decide (n ≤ id) && decide (id < n')) := by
              show ((decide (n ≤ id) && decide (id < n')) || (!guarded ops (Region.before ops) i && (Hv.get id).isSome)) = _
              rw [hgd]; simp
            rw [e1]
            cases hin : (decide (n ≤ id) && decide (id < n')) with
            | true => simp; rfl
            | false =>
              cases hv : Hv.get id with
              | none => simp
              | some y =>
                simp only [Option.isSome_some, Bool.true_or, if_true, Bool.false_eq_true, if_false]
                have hlt : id < n := by
                  rcases Nat.lt_or_ge id n with h | h
                  · exact h
                  · rw [hwfv id h] at hv; cases hv
                have := m1.keep id (by rw [hgd]; exact hlt)
                rw [this]
                rw [hsub id y hv]; exact hv.symm
        have hadd : ∀ id, (addAll H (hidden (Region.before ops) i R) H1).get id = if id ∈ hidden (Region.before ops) i R then H.get id else H1.get id := addAll_get H H1 _
        have hmo : Mo lo H (addAll H (hidden (Region.before ops) i R) H1) n n' := ⟨m1.le, fun id hid h0 => by
            rw [hadd]; split
            · exact h0
            · exact m1.gone id hid (by rw [hvis]; split; rfl; exact h0), fun id hid => by
            rw [hadd]; split
            · rfl
            · rename_i hnm
              rw [m1.keep id (by omega), hvis, if_neg hnm]⟩
        -- none that is not ordered with the call has touched what it sees
        have key : ∀ k, k < i → isBefore (Region.before ops) i k = false → isBefore (Region.before ops) k i = false → ∀ id, (rc k).tch id = true → Hv.get id = none := fun k hk h1 h2 id ht => by
          have rng : ((rc k).n ≤ id ∧ id < (rc k).m) → Hv.get id = none := fun h3 => by
            have : id ∈ hidden (Region.before ops) i R := (hidden_mem _ i id R).2 ⟨_, hK.r1 k hk (by omega), h2, h3.1, h3.2⟩
            show (delAll (hidden (Region.before ops) i R) H).get id = none
            rw [hvis, if_pos this]
          cases hwk : (rc k).wd with
          | false => have := (hg.un k hk hwk).2.1 id; rw [ht] at this; cases this
          | true =>
            rcases hK.jk k hk hwk with ⟨_, _, j3, _⟩ | ⟨j1, j2⟩
            · rcases j3 id ht with h3 | ⟨h3, _⟩
              · exact rng h3
              · have := (pair_kinds hpair (hg.op k hk) hoi hk h2).2 hkc
                rw [h3] at this; cases this
            · rcases j2 id ht with h3 | h3
              · exact rng h3
              · rw [guarded_of hoi (by omega) h1 h2 (by rw [hkc]; simp)] at h3; cases h3
        have hg' := hg.ext r hoi rfl rfl rfl rfl hput hw.symm (fun h => by cases h) hmo (fun id ht => by
            rcases (tkey id).1 ht with h3 | ⟨_, h3⟩
            · exact .inr h3
            · refine .inl ?_
              have h3 : ((delAll (hidden (Region.before ops) i R) H).get id).isSome = true := h3
              rw [hvis] at h3
              split at h3
              · cases h3
              · exact h3) (fun id y hy => by
            have hy : (delAll (hidden (Region.before ops) i R) H).get id = some y := hy
            rw [hvis] at hy
            split at hy
            · cases hy
            · exact hy) (fun hh hsub id y hy => by
            have hsubv : Sub Hv hh := fun j x hj => by
              have hj : (delAll (hidden (Region.before ops) i R) H).get j = some x := hj
              rw [hvis] at hj
              split at hj
              · cases hj
              · exact hsub j x hj
            have := congrFun (hfun hh hsubv) id
            refine this.trans ?_
            rw [hadd] at hy
            split at hy
            · rename_i hm
              have h0 : (delAll (hidden (Region.before ops) i R) H).get id = none := by rw [hvis, if_pos hm]
              unfold upH
              rw [if_neg (by show ¬ (((delAll (hidden (Region.before ops) i R) H).get id).isSome || _) = true; rw [h0]; have := hidlt id hm; simp; omega)]
              exact hsub id y hy
            · exact Sub.up hsubv m1 id y hy) (fun _ B w0 p hh w ro a K Q hn hfr hhr hops hR => by
            have hsubv : Sub Hv hh := fun j x hj => hn j x hj
            refine hop hsubv hfr (hhr.up hglo2) hops fun v' w' q hv hx hr' => hR v' w' q hv hx ?_
            rw [hfun hh hsubv]; exact hr'.down)
          (fun k hk h1 h2 id => by
            have one : (rc k).tch id = true → Hv.get id = none := key k hk h1 h2 id
            have two : (rc k).tch id = true → r.tch id = true → False := fun ht hti => by
              rcases (tkey id).1 hti with h3 | ⟨_, h3⟩
              · have := below k hk id ht; omega
              · rw [one ht] at h3; cases h3
            refine ⟨fun ht => ⟨one ht, ?_⟩, fun hti => ⟨?_, ?_⟩⟩
            · cases hti : r.tch id with
              | false => rfl
              | true => exact (two ht hti).elim
            · cases hy : (rc k).need id with
              | none => rfl
              | some y =>
                exfalso
                have hlt := needlt k hk id y hy
                rcases (tkey id).1 hti with h3 | ⟨h3, _⟩
                · omega
                · cases hwk : (rc k).wd with
                  | false => have := (hg.un k hk hwk).2.2 id; rw [hy] at this; cases this
                  | true =>
                    have hsil : kindOf (rc k).o.op = .silent := by
                      by_cases e : kindOf (rc k).o.op = .silent
                      · exact e
                      · rw [guarded_of (hg.op k hk) (by omega) h2 h1 e] at h3; cases h3
                    rcases hK.jk k hk hwk with ⟨_, _, _, j4⟩ | ⟨j1, _⟩
                    · have := (j4 hsil).1 id; rw [hy] at this; cases this
                    · rw [kind_of_call j1] at hsil; cases hsil
            · cases ht : (rc k).tch id with
              | false => rfl
              | true => exact (two ht hti).elim)
        have hnn := m1.le
        refine runDraw_good hE hs hdr hok hlo0 hwf0 l (i + 1) T' D _ n' _ _ s' (upd1 rc i r) hd' hil' hr hg' ⟨fun k hk h => ?_, fun q hq => ?_, fun k hk h => ?_⟩
        · by_cases e : k = i
          · subst e
            rw [upd1_same] at h ⊢
            have hlt : n < n' := h
            rw [show Nat.blt n n' = true from Nat.blt_eq.symm ▸ hlt]
            exact List.mem_cons_self ..
          · rw [upd1_lt rc r (by omega)] at h ⊢
            have := hK.r1 k (by omega) h
            cases Nat.blt n n'
            · exact this
            · exact List.mem_cons_of_mem _ this
        · cases hb : Nat.blt n n' with
          | false => rw [hb] at hq; exact Nat.le_trans (hK.r2 q hq) hnn
          | true =>
            rw [hb] at hq
            rcases List.mem_cons.1 hq with rfl | hq
            · exact Nat.le_refl _
            · exact Nat.le_trans (hK.r2 q hq) hnn
        · by_cases e : k = i
          · subst e
            rw [upd1_same]
            refine .inr ⟨hcall, fun id ht => ?_⟩
            rcases (tkey id).1 ht with h3 | ⟨h3, _⟩
            · exact .inl h3
            · exact .inr h3
          · rw [upd1_lt rc r (by omega)] at h ⊢
            exact hK.jk k (by omega) h
end
end Go.Proofs.Ytkjceegmmhnajaa

namespace Go.Proofs.Ytkjceegmmhnajaa
open Go.RowKit

theorem slotsOf_ar {p : Nat → Option (Nat × Nat)} {T : Tr Value} {sz : Nat} {tm : Array Value} (h : TR p T sz tm) : AR p (slotsOf T sz) tm := by
  have e1 : slotsOf T sz = (Array.range sz).map (tget T) := by
    apply Array.toList_inj.1
    simp [slotsOf, mapQ_eq]
  rw [e1]
  refine AR.of_lt (by simp [h.size]) fun i hi => ?_
  have hi' : i < sz := by simpa using hi
  have := h.get i
  simpa [Array.getD, hi'] using this

/-- what a range over a function leaves -/
theorem rangeF_ok {E : Env} {ex : Exe} (hE : EnvOk E) (hs : Sound E ex) {lo : Nat} {ro : Option Nat} {f : Operand} {ps : Array Tmp} {assign body : Code} {s s' : St} {e : Ex} (hc : rangeF E ex lo ro f ps assign body s = some (e, s')) (hlo : lo ≤ s.n) (hwf : Wf s.H s.n) :
    (Mo lo s.H s'.H s.n s'.n ∧ s'.sz = s.sz) ∧ (operandOk f = true → ck assign = true → ck body = true → ∀ {B : Base E lo} {w0 : World} {p : Nat → Option (Nat × Nat)} {h : Hp} {w : World} {a : Act} {roc : Option Nat} {Q : Exit → Act → World → Prop}, Sub s.H h → Fresh p s.n s'.n → HR B w0 p h w → SR p s a → ROR p ro roc →
      (∀ a' w' q, Ext p q s.n s'.n → HR B w0 q (upH h s.H s'.H s.n s'.n) w' → SR q s' a' → Q e.conc a' w') → (Code.rangeFunc f ps assign body).wpIn (Fw roc) 0 E.P Q a w) := by
  unfold rangeF at hc
  split at hc
  case h_2 => cases hc
  rename_i g fa fc hfv
  split at hc
  case h_2 => cases hc
  rename_i D l H hent
  split at hc
  case h_2 => cases hc
  rename_i v H' n' hcall
  split at hc
  case h_2 => cases hc
  rename_i r hHl
  split at hc
  case isTrue => cases hc
  rename_i hbusy
  split at hc
  case h_2 => cases hc
  rename_i e' hpe
  cases hc
  -- the entry's memory
  have ent : (ro = none ∧ D = s.n :: s.D ∧ l = s.n + 1 ∧ H = s.H.set s.n .deferred) ∨ (∃ l0 r0, ro = some l0 ∧ s.H.get l0 = some (.loop r0) ∧ D = s.D ∧ l = s.n ∧ H = s.H) := by
    split at hent
    · cases hent; exact .inl ⟨rfl, rfl, rfl, rfl⟩
    · split at hent
      · cases hent; exact .inr ⟨_, _, rfl, by assumption, rfl, rfl, rfl⟩
      · cases hent
  have m1 : Mo lo s.H H s.n l := by
    rcases ent with ⟨_, _, rfl, rfl⟩ | ⟨l0, r0, _, _, _, rfl, rfl⟩
    · exact Mo.new lo s.H s.n _ hlo
    · exact .refl _ _ _
  have hl : lo ≤ l := Nat.le_trans hlo m1.le
  have m2 : Mo lo H (H.set l (.loop { state := .ready, pending := none, fn := 0, tmps := slotsOf s.T s.sz, params := ps, assign := assign, body := body, defers := 0 })) l (l + 1) := Mo.new lo H l _ hl
  have hwf2 := (hwf.up m1).up m2
  obtain ⟨m3, hcs⟩ := callF_ok hE hs hcall (by omega) hwf2
  have m4 : Mo lo H' (H'.set l (.loop { r with state := .exhausted })) n' n' := Mo.set lo H' n' l _ _ hHl hl
  have mall := ((m1.trans m2).trans m3).trans m4
  refine ⟨⟨mall, rfl⟩, ?_⟩
  intro hfok hca hcb B w0 p h w a roc Q hsub hfr hr hsr hror hQ
  dsimp only at hfr hQ
  have hn3 := m3.le
  have hn1 := m1.le
  have hf := evA_ok hsr.t f hfok
  rw [hfv] at hf
  obtain ⟨fa', fc', hfe, har, hcr⟩ : ∃ a' c', a.eval f = .func (.func g) a' c' ∧ AR p fa a' ∧ AR p fc c' := by
    generalize a.eval f = z at hf
    cases hf with
    | func _ h1 h2 h3 h4 => exact ⟨_, _, rfl, ⟨h1, h3⟩, ⟨h2, h4⟩⟩
  obtain ⟨fn, _, f1, f2, f6⟩ := callF_fn hE hcall
  -- from the record on
  have main : ∀ (fnid : Nat) (mark : List Deferred) (w1 : World) (q1 : Nat → Option (Nat × Nat)) (df : Nat), Ext p q1 s.n l → HR B w0 q1 (upH h s.H H s.n l) w1 → DR q1 D (mark ++ a.defers) →
      (Instr.enterLoop fnid a.tmps ps assign body roc).run E.P w = .ok (w1.heap.size, mark) (w1.alloc (.loop { state := .ready, pending := none, fn := fnid, tmps := a.tmps, params := ps, assign := assign, body := body, defers := df })) →
      ∃ (l : Nat) (mark : List Deferred) (w₁ : World) (d : Deferred) (w₁' : World) (f_1 : FuncId) (args : Array Value) (w₂ : World),
        (Instr.enterLoop fnid a.tmps ps assign body (Fw roc).round).run E.P w = .ok (l, mark) w₁ ∧ (resolve a.eval (rangeCall f l) 0).run E.P w₁ = .ok d w₁' ∧
        (∀ f', Target.leads E.P w₁' d.target d.args = some f' → (Fw roc).fn f') ∧ (invoke d.target d.args).run E.P w₁' = .ok (.enter f_1 args) w₂ ∧ ((Fw roc).depth.isSome = true → 1 ≤ 0) ∧
        CallsIn (Fw roc) (0 - 1) E.P f_1 args w₂ (rangePost (Fw roc) 0 E.P l Q { a with defers := mark ++ a.defers }) := by
    intro fnid mark w1 q1 df hx1 hr1 hdr hrun
    have hq1l : q1 l = none := by rw [hx1.out l (by omega)]; exact hfr l (by omega) (by omega)
    let q2 := newp q1 l w1.heap.size 0
    have hx2 : Ext q1 q2 l (l + 1) := ext_new hq1l _ _
    have hx12 := hx1.trans hx2 hn1 (by omega)
    have hr2 : HR B w0 q2 (upH (upH h s.H H s.n l) H (H.set l (.loop { state := .ready, pending := none, fn := 0, tmps := slotsOf s.T s.sz, params := ps, assign := assign, body := body, defers := 0 })) l (l + 1)) (w1.alloc (.loop { state := .ready, pending := none, fn := fnid, tmps := a.tmps, params := ps, assign := assign, body := body, defers := df })) := by
      rw [upH_new (Sub.up hsub m1)]
      exact hr1.new hq1l ⟨rfl, rfl, rfl, rfl, rfl, (slotsOf_ar hsr.t).mono hx12.ext, hca, hcb⟩
    obtain ⟨W, hW⟩ : ∃ W, W = w1.alloc (.loop { state := .ready, pending := none, fn := fnid, tmps := a.tmps, params := ps, assign := assign, body := body, defers := df }) := ⟨_, rfl⟩
    rw [← hW] at hr2 hrun
    have hsub2 := Sub.up (Sub.up hsub m1) m2
    have hyield : VR q2 (.func (.yield l) #[] #[]) (.func (.yield w1.heap.size) #[] #[]) := .yield (k := 0) (by simp [q2, newp])
    refine ⟨w1.heap.size, mark, W, { target := .fn (.func g) fc', args := fa' ++ #[.func (.yield w1.heap.size) #[] #[]] }, W, g, fa' ++ #[.func (.yield w1.heap.size) #[] #[]] ++ fc', W, hrun, ?_, fun _ _ => trivial, ?_, by simp [Fw], ?_⟩
    · have e0 : resolve a.eval (rangeCall f w1.heap.size) 0 = Deferred.ofValue (a.eval f) ((#[.const (.func (.yield w1.heap.size) #[] #[])] : Array Operand).map a.eval) := rfl
      rw [e0, hfe]
      simp [Deferred.ofValue, Act.eval]
    · simp [invoke, callFunc, f1, f2, show ¬ fn.name = "runtime.NumGoroutine" from by simpa using f6]
    · refine hcs hsub2 (fun i h1 h2 => ?_) hr2 (((har.mono hx12.ext).append (AR.one hyield)).append (hcr.mono hx12.ext)) ?_
      · rw [hx12.out i (by omega)]; exact hfr i (by omega) h2
      · intro v' w' q3 _ hx3 hr3
        have hsub3 := Sub.up hsub2 m3
        have hq3l : q3 l = some (w1.heap.size, 0) := hx3.ext l _ (by simp [q2, newp])
        obtain ⟨r', g1, g2, g3, g4, g5⟩ := hr3.loop (hsub3 l _ hHl) hq3l
        have hr4 := hr3.setLoop (st := .exhausted) (pe := r.pending) (hsub3 l _ hHl) hq3l (by omega) g1
        have e1 : ({ r with state := .exhausted, pending := r.pending } : Loop) = { r with state := .exhausted } := rfl
        have e2 : ({ r' with state := .exhausted, pending := r.pending } : Loop) = { r' with state := .exhausted } := by rw [← g4]
        rw [e1, e2, upH_one hsub3 n' l _ _ hHl, upH_trans m1 m2, upH_trans (m1.trans m2) m3, upH_trans ((m1.trans m2).trans m3) m4] at hr4
        have hx := hx12.trans hx3 (by omega) hn3
        have hfin := hQ { a with defers := mark ++ a.defers } (w'.putObj w1.heap.size (.loop { r' with state := .exhausted })) q3 hx hr4 ⟨hsr.t.mono hx.ext, hdr.mono (fun i b hb => hx3.ext i b (hx2.ext i b hb))⟩
        refine ⟨r.pending, w'.putObj w1.heap.size (.loop { r' with state := .exhausted }), ?_, ?_⟩
        · have := run_endLoop (P := E.P) g1 (by rw [g3]; exact hbusy)
          rw [← g4]; exact this
        · cases hpd : r.pending with
          | none => rw [hpd] at hpe; cases hpe; exact hfin
          | some c =>
            rw [hpd] at hpe
            cases c <;> first | (simp [exOf] at hpe; done) | skip
            · rename_i i
              have : e = .exit i := by simp [exOf] at hpe; exact hpe.symm
              subst this
              exact wpIn_exit hfin
            · have : e = .ret := by simp [exOf] at hpe; exact hpe.symm
              subst this
              exact wpIn_ret hfin
  refine wpIn_rangeFunc fun fnid _ => ?_
  rcases ent with ⟨rfl, rfl, rfl, rfl⟩ | ⟨l0, r0, rfl, hl0, rfl, rfl, rfl⟩
  · have hroc : roc = none := by cases roc with | none => rfl | some x => exact hror.elim
    subst hroc
    have hpn : p s.n = none := hfr s.n (Nat.le_refl _) (by omega)
    have hr1 := hr.new (k := 0) (o := .deferred) (o' := .deferred (some [])) hpn (by exact rfl)
    rw [← upH_new hsub] at hr1
    refine main fnid [{ target := .collected w.heap.size, args := #[] }] (w.alloc (.deferred (some []))) (newp p s.n w.heap.size 0) w.heap.size (ext_new hpn _ _) hr1 ⟨⟨w.heap.size, 0, by simp [newp], rfl⟩, hsr.d.mono (ext_new hpn _ _).ext⟩ ?_
    rw [run_enterLoop_outer]
    simp
  · obtain ⟨lc, rfl, k, hpl⟩ : ∃ lc, roc = some lc ∧ ∃ k, p l0 = some (lc, k) := by
      cases roc with
      | none => exact hror.elim
      | some x => exact ⟨x, rfl, hror⟩
    obtain ⟨r0', g1, _⟩ := hr.loop (hsub l0 _ hl0) hpl
    refine main fnid [] w p r0'.defers (.refl _ _) (by rw [upH_refl hsub]; exact hr) hsr.d ?_
    rw [run_enterLoop_inner g1]

theorem runOps_mo {E : Env} {ex : Exe} (hE : EnvOk E) (hs : Sound E ex) {lo : Nat} {ops : Array Oper} : ∀ (l : List Oper) (T : Tr Value) (sz : Nat) (D : List Nat) (H : Tr AO) (n : Nat) (s' : St), runOps E ex lo ops l T sz D H n = some s' → lo ≤ n → Wf H n → Mo lo H s'.H n s'.n ∧ s'.sz = sz
  | [], T, sz, D, H, n, s', hr, hlo, hwf => by rw [runOps_nil] at hr; cases hr; exact ⟨.refl _ _ _, rfl⟩
  | o :: l, T, sz, D, H, n, s', hr, hlo, hwf => by
    rw [runOps_cons] at hr
    cases hw : aWanted ops T o with
    | false =>
      rw [hw] at hr; dsimp only at hr
      split at hr
      case h_2 => cases hr
      exact runOps_mo hE hs l _ sz D H n s' hr hlo hwf
    | true =>
      rw [hw] at hr; dsimp only at hr
      split at hr
      case h_2 => cases hr
      rename_i v H1 n1 hrun
      split at hr
      case h_2 => cases hr
      have m1 := (opRun_ok hE hs hrun hlo hwf).1
      obtain ⟨m2, z⟩ := runOps_mo hE hs l _ sz D H1 n1 s' hr (Nat.le_trans hlo m1.le) (hwf.up m1)
      exact ⟨m1.trans m2, z⟩

theorem runDraw_mo {E : Env} {ex : Exe} (hE : EnvOk E) (hs : Sound E ex) {lo : Nat} {ops : Array Oper} {bs : Array Nat} : ∀ (l : List Oper) (i : Nat) (T : Tr Value) (sz : Nat) (D : List Nat) (H : Tr AO) (n : Nat) (R : List (Nat × Nat × Nat)) (F : List (Nat × Nat × Bool)) (s' : St), (∀ q ∈ R, q.2.2 ≤ n) → runDraw E ex lo ops bs l i T sz D H n R F = some s' → lo ≤ n → Wf H n → Mo lo H s'.H n s'.n ∧ s'.sz = sz
  | [], i, T, sz, D, H, n, R, F, s', _, hr, hlo, hwf => by rw [runDraw_nil] at hr; cases hr; exact ⟨.refl _ _ _, rfl⟩
  | o :: l, i, T, sz, D, H, n, R, F, s', hR, hr, hlo, hwf => by
    have grow : ∀ n', n ≤ n' → ∀ q ∈ (Bool.rec R ((i, n, n') :: R) (Nat.blt n n') : List (Nat × Nat × Nat)), q.2.2 ≤ n' := fun n' hn q hq => by
      cases hb : Nat.blt n n' with
      | false => rw [hb] at hq; exact Nat.le_trans (hR q hq) hn
      | true =>
        rw [hb] at hq
        rcases List.mem_cons.1 hq with rfl | hq
        · exact Nat.le_refl _
        · exact Nat.le_trans (hR q hq) hn
    rw [runDraw_cons] at hr
    cases hw : aWanted ops T o with
    | false =>
      rw [hw] at hr; dsimp only at hr
      split at hr
      case h_2 => cases hr
      exact runDraw_mo hE hs l (i + 1) _ sz D H n R F s' hR hr hlo hwf
    | true =>
      rw [hw] at hr; dsimp only at hr
      cases hcall : isCall o.op with
      | false =>
        rw [hcall] at hr; dsimp only at hr
        cases hview : allQ (fun b => !(hidden bs i R).contains b && footOk bs i (isWriter o.op) F b) (view o (evA T)) with
        | false => rw [hview] at hr; cases hr
        | true =>
          rw [hview] at hr; dsimp only at hr
          split at hr
          case h_2 => cases hr
          rename_i v d n' ham
          split at hr
          case h_2 => cases hr
          have m1 := Mo.updT (aMem_dl hlo ham)
          obtain ⟨m2, z⟩ := runDraw_mo hE hs l (i + 1) _ sz D _ n' _ _ s' (grow n' m1.le) hr (Nat.le_trans hlo m1.le) (hwf.up m1)
          exact ⟨m1.trans m2, z⟩
      | true =>
        rw [hcall] at hr; dsimp only at hr
        split at hr
        case h_2 => cases hr
        rename_i v H1 n' hrun
        split at hr
        case h_2 => cases hr
        have hglo : (Bool.rec lo n (guarded ops bs i) : Nat) ≤ n := by cases guarded ops bs i; exact hlo; exact Nat.le_refl _
        have hglo2 : lo ≤ (Bool.rec lo n (guarded ops bs i) : Nat) := by cases guarded ops bs i; exact Nat.le_refl _; exact hlo
        have hvis : ∀ id, (delAll (hidden bs i R) H).get id = if id ∈ hidden bs i R then none else H.get id := delAll_get H _
        have m1 := (opRun_ok hE hs hrun hglo (fun id hid => by rw [hvis]; split; rfl; exact hwf id hid)).1
        have hadd : ∀ id, (addAll H (hidden bs i R) H1).get id = if id ∈ hidden bs i R then H.get id else H1.get id := addAll_get H H1 _
        have hmo : Mo lo H (addAll H (hidden bs i R) H1) n n' := ⟨m1.le, fun id hid h0 => by
            rw [hadd]; split
            · exact h0
            · exact m1.gone id hid (by rw [hvis]; split; rfl; exact h0), fun id hid => by
            rw [hadd]; split
            · rfl
            · rename_i hnm
              rw [m1.keep id (by omega), hvis, if_neg hnm]⟩
        obtain ⟨m2, z⟩ := runDraw_mo hE hs l (i + 1) _ sz D _ n' _ _ s' (grow n' hmo.le) hr (Nat.le_trans hlo hmo.le) (hwf.up hmo)
        exact ⟨hmo.trans m2, z⟩

theorem regX_mo {E : Env} {ex : Exe} (hE : EnvOk E) (hs : Sound E ex) {lo : Nat} {ops : Array Oper} {draw : Bool} {s s' : St} {e : Ex} (hc : regX E ex lo ops draw s = some (e, s')) (hlo : lo ≤ s.n) (hwf : Wf s.H s.n) : Mo lo s.H s'.H s.n s'.n ∧ s'.sz = s.sz := by
  obtain ⟨T, sz, D, H, n⟩ := s
  unfold regX doneX at hc
  cases draw with
  | false =>
    dsimp only at hc
    split at hc
    case h_2 => cases hc
    rename_i s1 hrun
    cases hc
    exact runOps_mo hE hs _ T sz D H n _ hrun hlo hwf
  | true =>
    dsimp only at hc
    split at hc
    case h_2 => cases hc
    rename_i s1 hrun
    cases hc
    exact runDraw_mo hE hs _ 0 T sz D H n [] [] _ (fun q hq => by simp at hq) hrun hlo hwf

theorem region_ok {E : Env} {ex : Exe} (hE : EnvOk E) (hs : Sound E ex) {lo id : Nat} {ops : Array Oper} {draw : Bool} {s s' : St} {e : Ex} (hc : regX E ex lo ops draw s = some (e, s')) (hlo : lo ≤ s.n) (hwf : Wf s.H s.n) (hck : ck (.region id ops draw) = true) :
    (Mo lo s.H s'.H s.n s'.n ∧ s'.sz = s.sz) ∧ ∀ {B : Base E lo} {w0 : World} {p : Nat → Option (Nat × Nat)} {h : Hp} {w : World} {a : Act} {roc : Option Nat} {Q : Exit → Act → World → Prop}, Sub s.H h → Fresh p s.n s'.n → HR B w0 p h w → SR p s a →
      (∀ a' w' q, Ext p q s.n s'.n → HR B w0 q (upH h s.H s'.H s.n s'.n) w' → SR q s' a' → Q e.conc a' w') → (Code.region id ops draw).wpIn (Fw roc) 0 E.P Q a w := by
  obtain ⟨T, sz, D, H, n⟩ := s
  simp only [ck, Bool.and_eq_true] at hck
  have hok : ∀ o ∈ ops.toList, opOk o = true := fun o ho => Array.all_eq_true_iff_forall_mem.1 hck.1 o (by simpa using ho)
  unfold regX doneX at hc
  dsimp only at hc hlo hwf ⊢
  cases draw with
  | false =>
    dsimp only at hc
    split at hc
    case h_2 => cases hc
    rename_i s1 hrun
    cases hc
    obtain ⟨h1, h2⟩ := runOps_ok hE hs hok ops.toList 0 T sz D H n _ rfl hrun hlo hwf
    refine ⟨h1, ?_⟩
    intro B w0 p h w a roc Q hsub hfr hr hsr hQ
    refine wpIn_region ?_
    rw [List.range_eq_range', show ops.size = ops.toList.length from by simp]
    exact h2 hsub hfr hr hsr hQ
  | true =>
    dsimp only at hc
    split at hc
    case h_2 => cases hc
    rename_i s1 hrun
    cases hc
    have hdr : drawOk ops = true := by simpa using hck.2
    let rc0 : Nat → Rec := fun _ => ⟨default, false, T, H, undef, n, n, fun _ => false, fun _ => none, fun _ => none⟩
    have g0 : Good E ops lo T sz H n rc0 0 T H n := by
      refine ⟨?_, ?_, ?_, ?_, fun t => rfl, ?_, Nat.le_refl _, ?_, ?_, ?_, ?_, ?_, .refl _ _ _, ?_, fun h0 hh => hh, ?_, ?_⟩ <;> (intros; omega)
    have k0 : Kept ops rc0 0 n [] [] := ⟨fun k hk => by omega, fun q hq => by simp at hq, fun k hk => by omega⟩
    obtain ⟨rc, hg, hD, hsz⟩ := runDraw_good hE hs hdr hok hlo hwf ops.toList 0 T D H n [] [] _ rc0 rfl (by simp) hrun g0 k0
    refine ⟨⟨hg.moN, hsz⟩, ?_⟩
    intro B w0 p h w a roc Q hsub hfr hr hsr hQ
    refine draw_ok hE hdr hok hg hsub hfr hr hsr fun a' w' q hx hr' hsr' => hQ a' w' q hx hr' ?_
    obtain ⟨T1, sz1, D1, H1, n1⟩ := s'
    dsimp only at hD hsz hsr'
    subst hD hsz
    exact hsr'
end Go.Proofs.Ytkjceegmmhnajaa

namespace Go.Proofs.Ytkjceegmmhnajaa
open Go.RowKit

theorem stepX_sound {E : Env} {ex : Exe} (hE : EnvOk E) (hs : Sound E ex) : Sound E (stepX E ex) where
  mo := by
    intro lo ro c s s' e hc hlo hwf
    have seq : ∀ (b : Code) (x : Option (Ex × St)), (∀ e1 s1, x = some (e1, s1) → Mo lo s.H s1.H s.n s1.n ∧ s1.sz = s.sz) → seqX ex lo ro b x = some (e, s') → Mo lo s.H s'.H s.n s'.n ∧ s'.sz = s.sz := by
      intro b x hx hq
      unfold seqX at hq
      split at hq
      · rename_i s1
        obtain ⟨m1, z1⟩ := hx _ s1 rfl
        obtain ⟨m2, z2⟩ := hs.mo hq (Nat.le_trans hlo m1.le) (hwf.up m1)
        exact ⟨m1.trans m2, z2.trans z1⟩
      · exact hx _ _ hq
    cases c <;> simp only [stepX] at hc <;> try (cases hc; done)
    case skip => cases hc; exact ⟨.refl _ _ _, rfl⟩
    case label => cases hc; exact ⟨.refl _ _ _, rfl⟩
    case exit => cases hc; exact ⟨.refl _ _ _, rfl⟩
    case ret => cases hc; exact ⟨.refl _ _ _, rfl⟩
    case seq a b => exact seq b _ (fun e1 s1 h1 => hs.mo h1 hlo hwf) hc
    case loop c => exact seq _ _ (fun e1 s1 h1 => hs.mo h1 hlo hwf) hc
    case cond c a b =>
      unfold condX at hc
      split at hc
      · exact hs.mo hc hlo hwf
      · cases hc
    case block id c =>
      unfold blockX at hc
      split at hc
      · rename_i j s1 h1
        cases hc
        exact hs.mo h1 hlo hwf
      · exact hs.mo hc hlo hwf
    case region id ops draw => exact regX_mo hE hs hc hlo hwf
    case rangeFunc f ps assign body => exact (rangeF_ok hE hs hc hlo hwf).1
  ok := by
    intro lo ro c s s' e hc hck hlo hwf B w0 p h w a roc Q hsub hfr hr hsr hror hQ
    have seq : ∀ (b : Code) (x : Option (Ex × St)) (F : (Exit → Act → World → Prop) → Prop) (N : Act → World → Prop), ck b = true →
        (∀ a1 w1, wpX E.P roc b Q a1 w1 → N a1 w1) →
        (∀ e1 s1, x = some (e1, s1) → (Mo lo s.H s1.H s.n s1.n) ∧ ∀ Q' : Exit → Act → World → Prop, Fresh p s.n s1.n → (∀ a' w' q, Ext p q s.n s1.n → HR B w0 q (upH h s.H s1.H s.n s1.n) w' → SR q s1 a' → Q' e1.conc a' w') → F Q') →
        seqX ex lo ro b x = some (e, s') → F (Exit.then N Q) := by
      intro b x F N hb hN hx hq
      unfold seqX at hq
      split at hq
      · rename_i s1
        obtain ⟨m1, hF⟩ := hx _ s1 rfl
        obtain ⟨m2, z2⟩ := hs.mo hq (Nat.le_trans hlo m1.le) (hwf.up m1)
        refine hF _ (hfr.left m2.le) fun a1 w1 q hx1 hr1 hs1 => ?_
        show N a1 w1
        refine hN a1 w1 (hs.ok hq hb (Nat.le_trans hlo m1.le) (hwf.up m1) (Sub.up hsub m1) (hfr.right m1.le hx1) hr1 hs1 (hror.mono hx1.ext) fun a2 w2 q2 hx2 hr2 hs2 => ?_)
        rw [upH_trans m1 m2] at hr2
        exact hQ a2 w2 q2 (hx1.trans hx2 m1.le m2.le) hr2 hs2
      · rename_i hnn
        obtain ⟨m1, hF⟩ := hx e s' hq
        refine hF _ hfr fun a1 w1 q hx1 hr1 hs1 => ?_
        have hne : e ≠ .normal := fun he => by
          subst he
          exact hnn _ hq
        have := hQ a1 w1 q hx1 hr1 hs1
        cases e with
        | normal => exact absurd rfl hne
        | exit i => exact this
        | ret => exact this
    cases c <;> simp only [stepX] at hc <;> try (cases hc; done)
    case skip => cases hc; exact wpIn_skip (hQ a w p (.refl _ _) (by rw [upH_refl hsub]; exact hr) hsr)
    case label => cases hc; exact wpIn_label (hQ a w p (.refl _ _) (by rw [upH_refl hsub]; exact hr) hsr)
    case exit => cases hc; exact wpIn_exit (hQ a w p (.refl _ _) (by rw [upH_refl hsub]; exact hr) hsr)
    case ret => cases hc; exact wpIn_ret (hQ a w p (.refl _ _) (by rw [upH_refl hsub]; exact hr) hsr)
    case seq x y =>
      simp only [ck, Bool.and_eq_true] at hck
      refine wpIn_seq (seq y _ (fun Q' => x.wpIn (Fw roc) 0 E.P Q' a w) (y.wpIn (Fw roc) 0 E.P Q) hck.2 (fun a1 w1 h1 => wpX_wp h1) (fun e1 s1 h1 => ⟨(hs.mo h1 hlo hwf).1, fun Q' hf hq => wpX_wp (hs.ok h1 hck.1 hlo hwf hsub hf hr hsr hror hq)⟩) hc)
    case loop x =>
      simp only [ck] at hck
      refine loopOK_step (seq (.loop x) _ (fun Q' => x.wpIn (Fw roc) 0 E.P Q' a w) (LoopOK (Fw roc) E.P x Q) hck (fun a1 w1 h1 => h1) (fun e1 s1 h1 => ⟨(hs.mo h1 hlo hwf).1, fun Q' hf hq => wpX_wp (hs.ok h1 hck hlo hwf hsub hf hr hsr hror hq)⟩) hc)
    case cond x y z =>
      simp only [ck, Bool.and_eq_true] at hck
      unfold condX at hc
      split at hc
      · rename_i t hv
        have hvr := evA_ok hsr.t x hck.1.1
        rw [hv] at hvr
        refine wpIn_cond (t := t) hvr.bool_inv ?_
        cases t with
        | true => exact wpX_wp (hs.ok hc hck.1.2 hlo hwf hsub hfr hr hsr hror hQ)
        | false => exact wpX_wp (hs.ok hc hck.2 hlo hwf hsub hfr hr hsr hror hQ)
      · cases hc
    case block id x =>
      simp only [ck] at hck
      unfold blockX at hc
      split at hc
      · rename_i j s1 h1
        cases hc
        refine wpIn_block (wpX_wp (hs.ok h1 hck hlo hwf hsub hfr hr hsr hror fun a' w' q hx hr' hs' => ?_))
        have := hQ a' w' q hx hr' hs'
        show (if j = id then Q .normal a' w' else Q (.exit j) a' w')
        rw [Tr.bite] at this
        by_cases hj : j = id
        · rw [if_pos hj] at this ⊢; exact this
        · rw [if_neg hj] at this ⊢; exact this
      · rename_i hnn
        refine wpIn_block (wpX_wp (hs.ok hc hck hlo hwf hsub hfr hr hsr hror fun a' w' q hx hr' hs' => ?_))
        have := hQ a' w' q hx hr' hs'
        cases e with
        | normal => exact this
        | exit i => exact absurd hc (hnn i s')
        | ret => exact this
    case region id ops draw => exact (region_ok hE hs hc hlo hwf hck).2 hsub hfr hr hsr hQ
    case rangeFunc f ps assign body =>
      simp only [ck, Bool.and_eq_true] at hck
      exact (rangeF_ok hE hs hc hlo hwf).2 hck.1.1 hck.1.2 hck.2 hsub hfr hr hsr hror hQ

theorem exec_sound {E : Env} (hE : EnvOk E) : ∀ k, Sound E (exec E k)
  | 0 => ⟨fun h => (by cases h), fun h => (by cases h)⟩
  | k + 1 => stepX_sound hE (exec_sound hE k)
end Go.Proofs.Ytkjceegmmhnajaa
