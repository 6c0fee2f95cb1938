/- A second machine for the same program, without orders, addresses and capacities: its values, its memory, and how they stand to the model's. -/
import Derived.CallsIn
import Derived.RangeFuncRecord
import Derived.Orders
import Derived.Below
namespace Go.Proofs.Ytkjceegmmhnajaa
open Go.RowKit

/-! ### Lists, for the kernel's reckoning (by recursors) -/
section
variable {α : Type}
noncomputable def lenQ (l : List α) : Nat := List.rec 0 (fun _ _ k => Nat.succ k) l
noncomputable def getQ (l : List α) : Nat → Option α := List.rec (fun _ => none) (fun x _ g i => Nat.rec (some x) (fun k _ => g k) i) l
noncomputable def dropQ (l : List α) : Nat → List α := List.rec (fun _ => []) (fun x r d i => Nat.rec (x :: r) (fun k _ => d k) i) l
noncomputable def takeQ (l : List α) : Nat → List α := List.rec (fun _ => []) (fun x _ t i => Nat.rec [] (fun k _ => x :: t k) i) l
noncomputable def setQ (l : List α) : Nat → α → List α := List.rec (fun _ _ => []) (fun x r s i v => Nat.rec (v :: r) (fun k _ => x :: s k v) i) l
noncomputable def appQ (l m : List α) : List α := List.rec m (fun x _ a => x :: a) l
noncomputable def mapQ {β : Type} (f : α → β) (l : List α) : List β := List.rec [] (fun x _ m => f x :: m) l
noncomputable def allQ (f : α → Bool) (l : List α) : Bool := List.rec true (fun x _ b => Bool.rec false b (f x)) l
theorem lenQ_eq : ∀ l : List α, lenQ l = l.length
  | [] => rfl
  | _ :: l => congrArg Nat.succ (lenQ_eq l)
theorem getQ_eq : ∀ (l : List α) (i : Nat), getQ l i = l[i]?
  | [], _ => rfl
  | x :: l, 0 => rfl
  | x :: l, i + 1 => (getQ_eq l i).trans (by simp)
theorem dropQ_eq : ∀ (l : List α) (i : Nat), dropQ l i = l.drop i
  | [], i => by simp [dropQ]
  | x :: l, 0 => rfl
  | x :: l, i + 1 => (dropQ_eq l i).trans (by simp)
theorem takeQ_eq : ∀ (l : List α) (i : Nat), takeQ l i = l.take i
  | [], i => by simp [takeQ]
  | x :: l, 0 => rfl
  | x :: l, i + 1 => congrArg (x :: ·) (takeQ_eq l i)
theorem setQ_eq : ∀ (l : List α) (i : Nat) (v : α), setQ l i v = l.set i v
  | [], i, v => by simp [setQ]
  | x :: l, 0, v => rfl
  | x :: l, i + 1, v => congrArg (x :: ·) (setQ_eq l i v)
theorem appQ_eq : ∀ (l m : List α), appQ l m = l ++ m
  | [], m => rfl
  | x :: l, m => congrArg (x :: ·) (appQ_eq l m)
theorem mapQ_eq {β : Type} (f : α → β) : ∀ (l : List α), mapQ f l = l.map f
  | [] => rfl
  | x :: l => congrArg (f x :: ·) (mapQ_eq f l)
theorem allQ_eq (f : α → Bool) : ∀ (l : List α), allQ f l = l.all f
  | [] => rfl
  | x :: l => by
    have := allQ_eq f l
    simp only [allQ] at this ⊢
    cases h : f x <;> simp [h, this]
end
/-- a part of a row -/
noncomputable def extQ (c : Array Value) (i n : Nat) : Array Value := ⟨takeQ (dropQ c.toList i) n⟩
theorem extQ_eq (c : Array Value) (i n : Nat) : extQ c i n = c.extract i (i + n) := by
  apply Array.toList_inj.1
  simp [extQ, takeQ_eq, dropQ_eq, List.extract_eq_take_drop]

/-! ### A tree over numbers -/
inductive Tr (α : Type) where
  | e
  | n (l : Tr α) (v : Option α) (r : Tr α)

namespace Tr
variable {α : Type}
noncomputable def get (t : Tr α) : Nat → Option α :=
  Tr.rec (fun _ => none) (fun _ v _ gl gr i => Bool.rec (Bool.rec (gr (Nat.sub (Nat.div i 2) 1)) (gl (Nat.div i 2)) (Nat.beq (Nat.mod i 2) 1)) v (Nat.beq i 0)) t

noncomputable def put (f : Nat) : Tr α → Nat → Option α → Tr α :=
  Nat.rec (fun t _ _ => t) (fun _ ih t i x => Tr.casesOn t
    (Bool.rec (Bool.rec (.n .e none (ih .e (Nat.sub (Nat.div i 2) 1) x)) (.n (ih .e (Nat.div i 2) x) none .e) (Nat.beq (Nat.mod i 2) 1)) (.n .e x .e) (Nat.beq i 0))
    (fun l v r => Bool.rec (Bool.rec (.n l v (ih r (Nat.sub (Nat.div i 2) 1) x)) (.n (ih l (Nat.div i 2) x) v r) (Nat.beq (Nat.mod i 2) 1)) (.n l x r) (Nat.beq i 0))) f

theorem bite {β : Type} (i j : Nat) (a b : β) : (Bool.rec a b (Nat.beq i j) : β) = if i = j then b else a := by
  by_cases h : i = j
  · subst h; simp
  · rw [if_neg h, show Nat.beq i j = false from by cases e : Nat.beq i j with | false => rfl | true => exact absurd (Nat.eq_of_beq_eq_true e) h]
theorem get_e (i : Nat) : (Tr.e : Tr α).get i = none := rfl
theorem get_n (l : Tr α) (v : Option α) (r : Tr α) (i : Nat) : (Tr.n l v r).get i = if i = 0 then v else if i % 2 = 1 then get l (i / 2) else get r (i / 2 - 1) := by
  rw [← bite, ← bite]; rfl
theorem put_0 (t : Tr α) (i : Nat) (x : Option α) : put 0 t i x = t := rfl
theorem put_e (f i : Nat) (x : Option α) : put (f + 1) .e i x = if i = 0 then .n .e x .e else if i % 2 = 1 then .n (put f .e (i / 2) x) none .e else .n .e none (put f .e (i / 2 - 1) x) := by
  rw [← bite, ← bite]; rfl
theorem put_n (f i : Nat) (l : Tr α) (v : Option α) (r : Tr α) (x : Option α) : put (f + 1) (.n l v r) i x = if i = 0 then .n l x r else if i % 2 = 1 then .n (put f l (i / 2) x) v r else .n l v (put f r (i / 2 - 1) x) := by
  rw [← bite, ← bite]; rfl

theorem get_put : ∀ (f : Nat) (t : Tr α) (i : Nat) (x : Option α) (j : Nat), i < f → (put f t i x).get j = if j = i then x else t.get j := by
  intro f
  induction f with
  | zero => intro t i x j h; omega
  | succ f ih =>
    intro t i x j h
    cases t with
    | e =>
      simp only [put_e]
      by_cases h0 : i = 0
      · subst h0; simp only [if_pos, get_n, get_e]; by_cases hj : j = 0 <;> simp [hj, get_e, get_n]
      · simp only [h0, if_false]
        by_cases h1 : i % 2 = 1
        · simp only [h1, if_true, get_n, get_e]
          by_cases hj : j = 0
          · subst hj; simp; omega
          · by_cases hj1 : j % 2 = 1
            · simp only [hj, hj1, if_true, if_false]; rw [ih _ _ _ _ (by omega)]
              by_cases hij : j = i
              · subst hij; simp
              · rw [if_neg hij, if_neg (by omega)]; rfl
            · simp only [hj, hj1, if_false]; rw [if_neg (by intro e; subst e; omega)]
        · simp only [h1, if_false, get_n, get_e]
          by_cases hj : j = 0
          · subst hj; simp; omega
          · by_cases hj1 : j % 2 = 1
            · simp only [hj, hj1, if_true, if_false]; rw [if_neg (by intro e; subst e; omega)]
            · simp only [hj, hj1, if_false]; rw [ih _ _ _ _ (by omega)]
              by_cases hij : j = i
              · subst hij; simp
              · rw [if_neg hij, if_neg (by omega)]; rfl
    | n l v r =>
      simp only [put_n]
      by_cases h0 : i = 0
      · subst h0; simp only [if_pos, get_n, get_e]; by_cases hj : j = 0 <;> simp [hj]
      · simp only [h0, if_false]
        by_cases h1 : i % 2 = 1
        · simp only [h1, if_true, get_n, get_e]
          by_cases hj : j = 0
          · subst hj; simp; omega
          · by_cases hj1 : j % 2 = 1
            · simp only [hj, hj1, if_true, if_false]; rw [ih _ _ _ _ (by omega)]
              by_cases hij : j = i
              · subst hij; simp
              · rw [if_neg hij, if_neg (by omega)]
            · simp only [hj, hj1, if_false]; rw [if_neg (by intro e; subst e; omega)]
        · simp only [h1, if_false, get_n, get_e]
          by_cases hj : j = 0
          · subst hj; simp; omega
          · by_cases hj1 : j % 2 = 1
            · simp only [hj, hj1, if_true, if_false]; rw [if_neg (by intro e; subst e; omega)]
            · simp only [hj, hj1, if_false]; rw [ih _ _ _ _ (by omega)]
              by_cases hij : j = i
              · subst hij; simp
              · rw [if_neg hij, if_neg (by omega)]

noncomputable def set (t : Tr α) (i : Nat) (x : α) : Tr α := put (i + 1) t i (some x)
noncomputable def del (t : Tr α) (i : Nat) : Tr α := put (i + 1) t i none
theorem get_set (t : Tr α) (i j : Nat) (x : α) : (t.set i x).get j = if j = i then some x else t.get j := get_put _ _ _ _ _ (by omega)
theorem get_del (t : Tr α) (i j : Nat) : (t.del i).get j = if j = i then none else t.get j := get_put _ _ _ _ _ (by omega)
noncomputable def ofList (l : List α) : Nat → Tr α → Tr α := List.rec (fun _ t => t) (fun x _ o k t => o (Nat.succ k) (t.set k x)) l
theorem ofList_cons (x : α) (r : List α) (k : Nat) (t : Tr α) : ofList (x :: r) k t = ofList r (k + 1) (t.set k x) := rfl
theorem get_ofList : ∀ (l : List α) (k : Nat) (t : Tr α) (j : Nat), (ofList l k t).get j = if k ≤ j ∧ j < k + l.length then l[j - k]? else t.get j
  | [], k, t, j => by simp [ofList]; intro h1 h2; omega
  | x :: r, k, t, j => by
    rw [ofList_cons, get_ofList r (k + 1) (t.set k x) j, get_set]
    by_cases h : k ≤ j ∧ j < k + (x :: r).length
    · rw [if_pos h]; simp at h
      by_cases hj : j = k
      · subst hj; rw [if_neg (by omega)]; simp
      · rw [if_pos (by omega)]
        obtain ⟨d, rfl⟩ : ∃ d, j = k + 1 + d := ⟨j - k - 1, by omega⟩
        rw [show k + 1 + d - (k + 1) = d from by omega, show k + 1 + d - k = d + 1 from by omega]; simp
    · rw [if_neg h]; simp at h
      rw [if_neg (by omega), if_neg (by omega)]
end Tr

/-! ### Values -/
/-- the capacity that is not known -/
def unk : Nat := 4611686018427387904

/-- How a value of the second machine (its pointers bear names) stands to one of the model's; p: the block that a name stands for, and the capacity of a row that append made. -/
inductive VR (p : Nat → Option (Nat × Nat)) : Value → Value → Prop
  | bool (b : Bool) : VR p (.bool b) (.bool b)
  | int (k : IntKind) (n : Int) : VR p (.int k n) (.int k n)
  | float (k : FloatKind) (n : Nat) : VR p (.float k n) (.float k n)
  | string (s : ByteArray) : VR p (.string s) (.string s)
  | nilptr : VR p (.pointer none) (.pointer none)
  | ptr {b b' o k : Nat} (h : p b = some (b', k)) : VR p (.pointer (some ⟨b, o, none⟩)) (.pointer (some ⟨b', o, none⟩))
  | nilslice (l c : Nat) : VR p (.slice none l c) (.slice none l c)
  | slice {b b' o l c c' k : Nat} (h : p b = some (b', k)) (hc : (c < unk ∧ c = c') ∨ (c = unk ∧ l ≤ c' ∧ (o = 0 → c' = k))) : VR p (.slice (some ⟨b, o, none⟩) l c) (.slice (some ⟨b', o, none⟩) l c')
  | nilmap : VR p (.map none) (.map none)
  | map {b b' k : Nat} (h : p b = some (b', k)) : VR p (.map (some b)) (.map (some b'))
  | nilFunc : VR p .nilFunc .nilFunc
  | func (f : FuncId) {a a' c c' : Array Value} (ha : a.size = a'.size) (hc : c.size = c'.size) (hA : ∀ i, VR p (a.getD i undef) (a'.getD i undef)) (hC : ∀ i, VR p (c.getD i undef) (c'.getD i undef)) :
      VR p (.func (.func f) a c) (.func (.func f) a' c')
  | yield {l l' k : Nat} (h : p l = some (l', k)) : VR p (.func (.yield l) #[] #[]) (.func (.yield l') #[] #[])
  | nilIface : VR p .nilIface .nilIface
  | agg {a a' : Array Value} (h : a.size = a'.size) (hA : ∀ i, VR p (a.getD i undef) (a'.getD i undef)) : VR p (.agg a) (.agg a')
  | tuple {a a' : Array Value} (h : a.size = a'.size) (hA : ∀ i, i < a.size → VR p (a.getD i undef) (a'.getD i undef)) : VR p (.tuple a) (.tuple a')

theorem VR.und (p : Nat → Option (Nat × Nat)) : VR p undef undef := .tuple rfl (fun i h => by simp at h)

theorem VR.mono {p q : Nat → Option (Nat × Nat)} (hq : ∀ i b, p i = some b → q i = some b) {v v' : Value} (h : VR p v v') : VR q v v' := by
  induction h with
  | bool b => exact .bool b
  | int k n => exact .int k n
  | float k n => exact .float k n
  | string s => exact .string s
  | nilptr => exact .nilptr
  | ptr h => exact .ptr (hq _ _ h)
  | nilslice l c => exact .nilslice l c
  | slice h hc => exact .slice (hq _ _ h) hc
  | nilmap => exact .nilmap
  | map h => exact .map (hq _ _ h)
  | nilFunc => exact .nilFunc
  | func f ha hc _ _ ih1 ih2 => exact .func f ha hc ih1 ih2
  | yield h => exact .yield (hq _ _ h)
  | nilIface => exact .nilIface
  | agg h _ ih => exact .agg h ih
  | tuple h _ ih => exact .tuple h ih

/-- A row of values. -/
def AR (p : Nat → Option (Nat × Nat)) (a a' : Array Value) : Prop := a.size = a'.size ∧ ∀ i, VR p (a.getD i undef) (a'.getD i undef)

theorem AR.mono {p q : Nat → Option (Nat × Nat)} (hq : ∀ i b, p i = some b → q i = some b) {a a' : Array Value} (h : AR p a a') : AR q a a' := ⟨h.1, fun i => (h.2 i).mono hq⟩
theorem AR.of_lt {p : Nat → Option (Nat × Nat)} {a a' : Array Value} (hs : a.size = a'.size) (h : ∀ i, i < a.size → VR p (a.getD i undef) (a'.getD i undef)) : AR p a a' :=
  ⟨hs, fun i => by
    by_cases hi : i < a.size
    · exact h i hi
    · have h2 : ¬ i < a'.size := by omega
      simp [Array.getD, hi, h2]; exact .und p⟩
theorem AR.empty (p : Nat → Option (Nat × Nat)) : AR p #[] #[] := AR.of_lt rfl (fun i h => by simp at h)
theorem AR.one {p : Nat → Option (Nat × Nat)} {v v' : Value} (h : VR p v v') : AR p #[v] #[v'] := AR.of_lt rfl (fun i hi => by
  have : i = 0 := by simp at hi; omega
  subst this; simpa using h)
theorem AR.get {p : Nat → Option (Nat × Nat)} {a a' : Array Value} (h : AR p a a') (i : Nat) (v : Value) (hv : a[i]? = some v) : ∃ v', a'[i]? = some v' ∧ VR p v v' := by
  have hi : i < a.size := (Array.getElem?_eq_some_iff.1 hv).1
  have hi' : i < a'.size := h.1 ▸ hi
  refine ⟨a'[i], Array.getElem?_eq_getElem hi', ?_⟩
  have := h.2 i
  have e : a[i] = v := (Array.getElem?_eq_some_iff.1 hv).2
  simpa [Array.getD, hi, hi', e] using this
theorem AR.of_get {p : Nat → Option (Nat × Nat)} {a a' : Array Value} (hs : a.size = a'.size) (h : ∀ (i : Nat) (v v' : Value), a[i]? = some v → a'[i]? = some v' → VR p v v') : AR p a a' :=
  AR.of_lt hs fun i hi => by
    have hi' : i < a'.size := hs ▸ hi
    simpa [Array.getD, hi, hi'] using h i _ _ (Array.getElem?_eq_getElem hi) (Array.getElem?_eq_getElem hi')
theorem AR.append {p : Nat → Option (Nat × Nat)} {a a' b b' : Array Value} (h : AR p a a') (k : AR p b b') : AR p (a ++ b) (a' ++ b') :=
  AR.of_get (by simp [h.1, k.1]) fun i v v' hv hv' => by
    have hs := h.1
    by_cases hi : i < a.size
    · rw [Array.getElem?_append_left hi] at hv; rw [Array.getElem?_append_left (by omega)] at hv'
      obtain ⟨u, hu, hr⟩ := h.get i v hv; rw [hu] at hv'; cases hv'; exact hr
    · rw [Array.getElem?_append_right (by omega)] at hv; rw [Array.getElem?_append_right (by omega), ← hs] at hv'
      obtain ⟨u, hu, hr⟩ := k.get _ v hv; rw [hu] at hv'; cases hv'; exact hr
theorem AR.extract {p : Nat → Option (Nat × Nat)} {a a' : Array Value} (h : AR p a a') (i j : Nat) : AR p (a.extract i j) (a'.extract i j) :=
  AR.of_get (by simp [h.1]) fun k v v' hv hv' => by
    rw [Array.getElem?_extract] at hv hv'
    have hs := h.1
    by_cases hk : k < min j a.size - i
    · rw [if_pos hk] at hv; rw [if_pos (by omega)] at hv'
      obtain ⟨u, hu, hr⟩ := h.get _ v hv; rw [hu] at hv'; cases hv'; exact hr
    · rw [if_neg hk] at hv; cases hv
theorem AR.set {p : Nat → Option (Nat × Nat)} {a a' : Array Value} (h : AR p a a') {v v' : Value} (hv : VR p v v') (i : Nat) : AR p (a.setIfInBounds i v) (a'.setIfInBounds i v') :=
  AR.of_get (by simp [h.1]) fun k u u' hu hu' => by
    have hs := h.1
    rw [Array.getElem?_setIfInBounds] at hu hu'
    by_cases hk : i = k
    · subst hk
      simp only [if_true] at hu hu'
      by_cases hi : i < a.size
      · rw [if_pos hi] at hu; rw [if_pos (by omega)] at hu'; cases hu; cases hu'; exact hv
      · rw [if_neg hi] at hu; cases hu
    · rw [if_neg hk] at hu hu'
      obtain ⟨x, hx, hr⟩ := h.get _ u hu; rw [hx] at hu'; cases hu'; exact hr

theorem VR.cells {p : Nat → Option (Nat × Nat)} {v v' : Value} (h : VR p v v') : AR p v.cells v'.cells := by
  cases h <;> first | exact ⟨by assumption, by assumption⟩ | exact AR.one (by constructor <;> assumption) | exact AR.one (by constructor)

/-- A value that bears no name. -/
def ground : Nat → Value → Bool
  | _, .bool _ => true
  | _, .int _ _ => true
  | _, .float _ _ => true
  | _, .string _ => true
  | _, .pointer none => true
  | _, .slice none _ _ => true
  | _, .map none => true
  | _, .nilFunc => true
  | _, .nilIface => true
  | _, .func (.func _) a c => a.isEmpty && c.isEmpty
  | f + 1, .agg a => a.toList.all (ground f)
  | f + 1, .tuple a => a.toList.all (ground f)
  | _, _ => false

theorem VR.of_ground (p : Nat → Option (Nat × Nat)) : ∀ (f : Nat) (v : Value), ground f v = true → VR p v v := by
  intro f
  induction f with
  | zero =>
    intro v h
    cases v with
    | bool b => exact .bool b
    | int k n => exact .int k n
    | float k n => exact .float k n
    | string s => exact .string s
    | pointer a => cases a with | none => exact .nilptr | some a => simp [ground] at h
    | slice a l c => cases a with | none => exact .nilslice l c | some a => simp [ground] at h
    | map a => cases a with | none => exact .nilmap | some a => simp [ground] at h
    | nilFunc => exact .nilFunc
    | nilIface => exact .nilIface
    | func fn a c =>
      cases fn <;> simp [ground] at h
      obtain ⟨rfl, rfl⟩ := h
      exact .func _ rfl rfl (fun i => by simpa using VR.und p) (fun i => by simpa using VR.und p)
    | _ => simp [ground] at h
  | succ f ih =>
    have arr : ∀ a : Array Value, a.toList.all (ground f) = true → AR p a a := fun a h => AR.of_get rfl fun i v v' hv hv' => by
      rw [hv] at hv'; cases hv'
      have := List.all_eq_true.1 h v (Array.mem_toList_iff.2 (Array.mem_of_getElem? hv))
      exact ih v this
    intro v h
    cases v with
    | bool b => exact .bool b
    | int k n => exact .int k n
    | float k n => exact .float k n
    | string s => exact .string s
    | pointer a => cases a with | none => exact .nilptr | some a => simp [ground] at h
    | slice a l c => cases a with | none => exact .nilslice l c | some a => simp [ground] at h
    | map a => cases a with | none => exact .nilmap | some a => simp [ground] at h
    | nilFunc => exact .nilFunc
    | nilIface => exact .nilIface
    | func fn a c =>
      cases fn <;> simp [ground] at h
      obtain ⟨rfl, rfl⟩ := h
      exact .func _ rfl rfl (fun i => by simpa using VR.und p) (fun i => by simpa using VR.und p)
    | agg a => exact .agg rfl (arr a (by simpa only [ground] using h)).2
    | tuple a => exact .tuple rfl fun i _ => (arr a (by simpa only [ground] using h)).2 i
    | _ => simp [ground] at h

/-- A value that bears no name stands for itself alone. -/
theorem VR.eq_of_ground {p : Nat → Option (Nat × Nat)} : ∀ (f : Nat) {v v' : Value}, ground f v = true → VR p v v' → v' = v := by
  intro f
  induction f with
  | zero =>
    intro v v' h k
    cases k <;> first | rfl | simp [ground] at h
    case func ha hc hA hC =>
      obtain ⟨rfl, rfl⟩ := h
      simp at ha hc
      rw [Array.size_eq_zero_iff.1 ha.symm, Array.size_eq_zero_iff.1 hc.symm]
  | succ f ih =>
    intro v v' h k
    have arr : ∀ a a' : Array Value, a.size = a'.size → a.toList.all (ground f) = true → (∀ i, i < a.size → VR p (a.getD i undef) (a'.getD i undef)) → a' = a := fun a a' hs h hA => by
      refine Array.ext hs.symm fun i h1 h2 => ?_
      have := hA i h2
      simp only [Array.getD, h1, h2, dif_pos] at this
      exact ih (List.all_eq_true.1 h _ (by simp)) this
    cases k <;> first | rfl | (simp only [ground] at h; done) | skip
    case ptr => simp [ground] at h
    case slice => simp [ground] at h
    case map => simp [ground] at h
    case func ha hc hA hC =>
      simp [ground] at h
      obtain ⟨rfl, rfl⟩ := h
      simp at ha hc
      rw [Array.size_eq_zero_iff.1 ha.symm, Array.size_eq_zero_iff.1 hc.symm]
    case yield => simp [ground] at h
    case agg hs hA => rw [arr _ _ hs (by simpa only [ground] using h) (fun i _ => hA i)]
    case tuple hs hA => rw [arr _ _ hs (by simpa only [ground] using h) hA]
end Go.Proofs.Ytkjceegmmhnajaa
