/- The second machine's memory, and how it stands to the model's. -/
import Derived.Test.YtkjceegmmhnajaaM1
namespace Go.Proofs.Ytkjceegmmhnajaa
open Go.RowKit

/-! ### Types, looked at -/
structure TV where
  size : Nat
  bytes : Nat
  zero : Value
  und : TypeDesc
  agg : Bool

def isAggD : TypeDesc → Bool
  | .struct _ | .array _ _ => true
  | _ => false

structure TvOk (P : Program) (tv : Nat → Option TV) : Prop where
  ok : ∀ t x, tv t = some x → (∃ i, P.info? t = some i ∧ i.size = x.size ∧ i.bytes = x.bytes ∧ i.zero = some x.zero) ∧ P.underlying t = some x.und ∧ x.agg = isAggD x.und ∧ ground 3 x.zero = true ∧ x.zero.cells.size = x.size

section
variable {P : Program} {tv : Nat → Option TV} (hT : TvOk P tv) {t : Nat} {x : TV} (h : tv t = some x) (w : World)
include hT h
theorem run_und : (underlying t).run P w = .ok x.und w := by
  have := (hT.ok t x h).2.1
  simp [underlying, this]
theorem run_sizeOf' : (sizeOf t).run P w = .ok x.size w := by
  obtain ⟨⟨i, h1, h2, _, _⟩, _⟩ := hT.ok t x h
  simp [sizeOf, typeInfo, h1, h2]
theorem run_bytes' : ∃ i, (typeInfo t).run P w = .ok i w ∧ i.bytes = x.bytes := by
  obtain ⟨⟨i, h1, _, h2, _⟩, _⟩ := hT.ok t x h
  exact ⟨i, by simp [typeInfo, h1], h2⟩
theorem run_zero' : (zeroValue t).run P w = .ok x.zero w := by
  obtain ⟨⟨i, h1, _, _, h2⟩, _⟩ := hT.ok t x h
  simp [zeroValue, typeInfo, h1, h2]
theorem run_isAgg' : (isAgg t).run P w = .ok x.agg w := by
  have h1 := run_und hT h w
  have h2 := (hT.ok t x h).2.2.1
  simp only [isAgg, Sem.run_bind, h1, Result.andThen_ok, h2]
  cases x.und <;> simp [isAggD]
theorem zeroSize : x.zero.cells.size = x.size := (hT.ok t x h).2.2.2.2
theorem zeroVR (p : Nat → Option (Nat × Nat)) : VR p x.zero x.zero := VR.of_ground p 3 _ (hT.ok t x h).2.2.2.1
end

/-! ### Memory -/
inductive AO where
  | cells (c : Array Value) (elem : TypeId) (sz : Option Nat)
  | loop (l : Loop)
  | deferred

/-- What is asked of an operation's text. -/
def operandOk : Operand → Bool
  | .const v => ground 2 v
  | .global _ => false
  | _ => true

def opOk (o : Oper) : Bool := o.op.operands.all operandOk

/-- An operation that neither reads nor writes memory. -/
inductive Kind where
  | silent | load | maker | store | append | call | other
  deriving DecidableEq

def kindOf : Op → Kind
  | .move _ | .assign _ | .pick .. | .build .. | .fieldAddr .. | .indexAddr .. | .index .. | .field .. | .slice .. | .extract .. | .makeFunc .. | .nilCheck _ | .binOp .. | .unOp .. | .convert .. => .silent
  | .load .. => .load
  | .alloc _ | .box .. | .buildSlice .. | .makeSlice .. => .maker
  | .store .. => .store
  | .call { callee := .builtin b, .. } => match b with
    | .len | .cap | .max | .min => .silent
    | .append => .append
    | _ => .other
  | .call _ => .call
  | _ => .other

def isBefore (bs : Array Nat) (i j : Nat) : Bool := (bs.getD j 0).testBit i

def pairOk (ops : Array Oper) (bs : Array Nat) (i j : Nat) : Bool :=
  match ops[i]?, ops[j]? with
  | some x, some y => isBefore bs i j || (x.apart ops y && match kindOf x.op, kindOf y.op with
    | .other, _ | _, .other => false
    | .call, .store | .call, .append | .store, .call | .append, .call => false
    | _, _ => true)
  | _, _ => true

/-- What is asked of a region that draws its order. -/
def drawOk (ops : Array Oper) : Bool :=
  let bs := Region.before ops
  ops.zipIdx.all (fun (o, i) => o.after.all fun e => !Region.binds .any e || decide (e.on < i)) &&
  (List.range ops.size).all fun j => (List.range j).all fun i => pairOk ops bs i j

def ck : Code → Bool
  | .region _ ops draw => ops.all opOk && (!draw || drawOk ops)
  | .seq a b => ck a && ck b
  | .cond c a b => operandOk c && ck a && ck b
  | .block _ c => ck c
  | .loop c => ck c
  | .rangeFunc f _ a b => operandOk f && ck a && ck b
  | .scope c => ck c
  | _ => true

def OR (p : Nat → Option (Nat × Nat)) (k : Nat) : AO → Obj → Prop
  | .cells c e sz, .cells c' e' fr => e' = e ∧ fr = (0, 0) ∧ c.size ≤ c'.size ∧ (∀ s, sz = some s → k * s ≤ c'.size) ∧ ∀ i, i < c.size → VR p (c.getD i undef) (c'.getD i undef)
  | .loop l, .loop l' => l'.state = l.state ∧ l'.pending = l.pending ∧ l'.params = l.params ∧ l'.assign = l.assign ∧ l'.body = l.body ∧ AR p l.tmps l'.tmps ∧ ck l.assign = true ∧ ck l.body = true
  | .deferred, .deferred ds => ds = some []
  | _, _ => False

theorem OR.mono {p q : Nat → Option (Nat × Nat)} (hq : ∀ i b, p i = some b → q i = some b) {k : Nat} {o : AO} {o' : Obj} (h : OR p k o o') : OR q k o o' := by
  cases o with
  | cells c e ex =>
    cases o' with
    | cells c' e' fr => obtain ⟨h1, h2, h3, h4, h5⟩ := h; exact ⟨h1, h2, h3, h4, fun i hi => (h5 i hi).mono hq⟩
    | _ => exact h.elim
  | loop l =>
    cases o' with
    | loop l' => obtain ⟨h1, h2, h3, h4, h5, h6, h7⟩ := h; exact ⟨h1, h2, h3, h4, h5, h6.mono hq, h7⟩
    | _ => exact h.elim
  | deferred =>
    cases o' with
    | deferred ds => exact h
    | _ => exact h.elim

abbrev Hp := Nat → Option AO

structure HR (B : Nat) (w0 : World) (p : Nat → Option (Nat × Nat)) (h : Hp) (w : World) : Prop where
  hB : B ≤ w0.heap.size
  low : Below B w0 w
  ob : ∀ i o, h i = some o → ∃ b k o', p i = some (b, k) ∧ B ≤ b ∧ w.heap[b]? = some o' ∧ OR p k o o'
  inj : ∀ i j b k k', (h i).isSome = true → (h j).isSome = true → p i = some (b, k) → p j = some (b, k') → i = j

theorem HR.size {B : Nat} {w0 : World} {p : Nat → Option (Nat × Nat)} {h : Hp} {w : World} (hr : HR B w0 p h w) : B ≤ w.heap.size := Nat.le_trans hr.hB hr.low.size

theorem HR.sub {B : Nat} {w0 : World} {p : Nat → Option (Nat × Nat)} {h h' : Hp} {w : World} (hr : HR B w0 p h w) (hs : ∀ i o, h' i = some o → h i = some o) : HR B w0 p h' w :=
  ⟨hr.hB, hr.low, fun i o hi => hr.ob i o (hs i o hi), fun i j b k k' hi hj => by
    have k1 : (h i).isSome = true := by cases e : h' i with | none => simp [e] at hi | some o => simp [hs i o e]
    have k2 : (h j).isSome = true := by cases e : h' j with | none => simp [e] at hj | some o => simp [hs j o e]
    exact hr.inj i j b k k' k1 k2⟩

theorem HR.drew {B : Nat} {w0 : World} {p : Nat → Option (Nat × Nat)} {h : Hp} {w : World} (hr : HR B w0 p h w) : HR B w0 p h { w with drawn := w.drawn + 1 } :=
  ⟨hr.hB, hr.low.drew, hr.ob, hr.inj⟩

/-- a new name for a new block -/
def newp (p : Nat → Option (Nat × Nat)) (n b k : Nat) : Nat → Option (Nat × Nat) := fun i => if i = n then some (b, k) else p i

theorem HR.new {B : Nat} {w0 : World} {p : Nat → Option (Nat × Nat)} {h : Hp} {w : World} (hr : HR B w0 p h w) {n k : Nat} (hn : p n = none) {o : AO} {o' : Obj} (ho : OR (newp p n w.heap.size k) k o o') :
    HR B w0 (newp p n w.heap.size k) (fun i => if i = n then some o else h i) (w.alloc o') := by
  have hext : ∀ i b, p i = some b → newp p n w.heap.size k i = some b := fun i b hi => by
    unfold newp; rw [if_neg]; exact hi; intro e; subst e; rw [hn] at hi; cases hi
  have hlt : ∀ i x b c, h i = some x → p i = some (b, c) → b < w.heap.size := fun i x b c hi hb => by
    obtain ⟨b', k', o', h1, _, h3, _⟩ := hr.ob i x hi
    rw [hb] at h1; cases h1
    exact (Array.getElem?_eq_some_iff.1 h3).1
  refine ⟨hr.hB, hr.low.alloc hr.size _, fun i x hi => ?_, fun i j b c c' hi hj h1 h2 => ?_⟩
  · by_cases e : i = n
    · subst e
      simp at hi; subst hi
      exact ⟨w.heap.size, k, o', by simp [newp], hr.size, World.alloc_heap_new w o', ho⟩
    · rw [if_neg e] at hi
      obtain ⟨b, c, x', h1, h2, h3, h4⟩ := hr.ob i x hi
      refine ⟨b, c, x', hext i _ h1, h2, ?_, h4.mono hext⟩
      rw [Below.heap_alloc _ _ _ (hlt i x b c hi h1)]; exact h3
  · by_cases ei : i = n
    · by_cases ej : j = n
      · rw [ei, ej]
      · rw [if_neg ej] at hj
        cases hh : h j with
        | none => simp [hh] at hj
        | some x =>
          have h2' : p j = some (b, c') := by simpa [newp, ej] using h2
          have := hlt j x b c' hh h2'
          simp [newp, ei] at h1; omega
    · rw [if_neg ei] at hi
      have h1' : p i = some (b, c) := by simpa [newp, ei] using h1
      by_cases ej : j = n
      · cases hh : h i with
        | none => simp [hh] at hi
        | some x =>
          have := hlt i x b c hh h1'
          simp [newp, ej] at h2; omega
      · rw [if_neg ej] at hj
        have h2' : p j = some (b, c') := by simpa [newp, ej] using h2
        exact hr.inj i j b c c' hi hj h1' h2'

/-- a block that is named becomes another -/
theorem HR.put {B : Nat} {w0 : World} {p : Nat → Option (Nat × Nat)} {h : Hp} {w w' : World} (hr : HR B w0 p h w) {i b k : Nat} {x o : AO} {o' : Obj} (hi : h i = some x) (hb : p i = some (b, k)) (ho : OR p k o o')
    (hs : w'.heap.size = w.heap.size) (hsame : ∀ k, k ≠ b → w'.heap[k]? = w.heap[k]?) (hnew : w'.heap[b]? = some o') (h1 : w'.os = w.os) (h2 : w'.tape = w.tape) (h3 : w'.output = w.output) :
    HR B w0 p (fun j => if j = i then some o else h j) w' := by
  obtain ⟨b', kk, x', k1, k2, _, _⟩ := hr.ob i x hi
  rw [hb] at k1; cases k1
  refine ⟨hr.hB, hr.low.trans ⟨h1, h2, h3, by omega, fun k hk => hsame k (by omega)⟩, fun j y hj => ?_, fun j l c m m' hj hk e1 e2 => ?_⟩
  · by_cases e : j = i
    · subst e; simp at hj; subst hj
      exact ⟨b, k, o', hb, k2, hnew, ho⟩
    · rw [if_neg e] at hj
      obtain ⟨c, m, y', g1, g2, g3, g4⟩ := hr.ob j y hj
      refine ⟨c, m, y', g1, g2, ?_, g4⟩
      rw [hsame c]; exact g3
      intro ec; subst ec
      exact e (hr.inj j i c m k (by simp [hj]) (by simp [hi]) g1 hb)
  · have up : ∀ j, ((fun j => if j = i then some o else h j) j).isSome = true → (h j).isSome = true := fun j hj => by
      by_cases e : j = i
      · subst e; simp [hi]
      · simpa [e] using hj
    exact hr.inj j l c m m' (up j hj) (up l hk) e1 e2

/-! ### One memory within a greater one -/
noncomputable def upH (h : Hp) (H H' : Tr AO) (n n' : Nat) : Hp := fun i => if (H.get i).isSome || (decide (n ≤ i) && decide (i < n')) then H'.get i else h i
def Sub (H : Tr AO) (h : Hp) : Prop := ∀ i o, H.get i = some o → h i = some o
def Fresh (p : Nat → Option (Nat × Nat)) (n n' : Nat) : Prop := ∀ i, n ≤ i → i < n' → p i = none
structure Ext (p q : Nat → Option (Nat × Nat)) (n n' : Nat) : Prop where
  ext : ∀ i b, p i = some b → q i = some b
  out : ∀ i, ¬(n ≤ i ∧ i < n') → q i = p i
/-- what a piece does to its own memory: names go up; what is gone stays gone; below lo nothing turns. -/
structure Mo (lo : Nat) (H H' : Tr AO) (n n' : Nat) : Prop where
  le : n ≤ n'
  gone : ∀ i, ¬(n ≤ i ∧ i < n') → H.get i = none → H'.get i = none
  keep : ∀ i, i < lo → H'.get i = H.get i

theorem Ext.refl (p : Nat → Option (Nat × Nat)) (n : Nat) : Ext p p n n := ⟨fun _ _ h => h, fun _ _ => rfl⟩
theorem Ext.trans {p q r : Nat → Option (Nat × Nat)} {n m k : Nat} (h : Ext p q n m) (g : Ext q r m k) (h1 : n ≤ m) (h2 : m ≤ k) : Ext p r n k :=
  ⟨fun i b hi => g.ext i b (h.ext i b hi), fun i hi => by rw [g.out i (by omega), h.out i (by omega)]⟩
theorem Mo.refl (lo : Nat) (H : Tr AO) (n : Nat) : Mo lo H H n n := ⟨Nat.le_refl _, fun _ _ h => h, fun _ _ => rfl⟩
theorem Mo.trans {lo : Nat} {H H1 H2 : Tr AO} {n m k : Nat} (h : Mo lo H H1 n m) (g : Mo lo H1 H2 m k) : Mo lo H H2 n k :=
  ⟨Nat.le_trans h.le g.le, fun i hi h0 => g.gone i (by have := h.le; have := g.le; omega) (h.gone i (by have := h.le; have := g.le; omega) h0), fun i hi => (g.keep i hi).trans (h.keep i hi)⟩
theorem Mo.lower {lo lo' : Nat} {H H' : Tr AO} {n n' : Nat} (h : Mo lo H H' n n') (hl : lo' ≤ lo) : Mo lo' H H' n n' := ⟨h.le, h.gone, fun i hi => h.keep i (by omega)⟩
theorem Fresh.left {p : Nat → Option (Nat × Nat)} {n m k : Nat} (h : Fresh p n k) (hm : m ≤ k) : Fresh p n m := fun i h1 h2 => h i h1 (by omega)
theorem Fresh.right {p q : Nat → Option (Nat × Nat)} {n m k : Nat} (h : Fresh p n k) (hm : n ≤ m) (hx : Ext p q n m) : Fresh q m k := fun i h1 h2 => by
  rw [hx.out i (by omega)]; exact h i (by omega) h2

theorem upH_refl {h : Hp} {H : Tr AO} (hs : Sub H h) (n : Nat) : upH h H H n n = h := by
  funext i
  unfold upH
  cases e : H.get i with
  | none => simp; intro h1 h2; omega
  | some o => simp [hs i o e]

theorem upH_trans {lo : Nat} {h : Hp} {H H1 H2 : Tr AO} {n m k : Nat} (a : Mo lo H H1 n m) (b : Mo lo H1 H2 m k) : upH (upH h H H1 n m) H1 H2 m k = upH h H H2 n k := by
  funext i
  have h1 := a.le
  have h2 := b.le
  unfold upH
  cases e : H.get i with
  | some o =>
    simp only [Option.isSome_some, Bool.true_or, if_true]
    cases e1 : H1.get i with
    | some o1 => simp
    | none =>
      simp only [Option.isSome_none, Bool.false_or, Bool.and_eq_true, decide_eq_true_eq]
      by_cases hi : m ≤ i ∧ i < k
      · rw [if_pos hi]
      · rw [if_neg hi]; exact (b.gone i hi e1).symm
  | none =>
    simp only [Option.isSome_none, Bool.false_or, Bool.and_eq_true, decide_eq_true_eq]
    by_cases hi : n ≤ i ∧ i < m
    · rw [if_pos hi, if_pos (show n ≤ i ∧ i < k by omega)]
      cases e1 : H1.get i with
      | some o1 => simp
      | none => simp only [Option.isSome_none, Bool.false_or, Bool.and_eq_true, decide_eq_true_eq]; rw [if_neg (by omega)]; exact (b.gone i (by omega) e1).symm
    · have e1 := a.gone i hi e
      rw [e1, if_neg hi]
      simp only [Option.isSome_none, Bool.false_or, Bool.and_eq_true, decide_eq_true_eq]
      by_cases hj : m ≤ i ∧ i < k
      · rw [if_pos hj, if_pos (by omega)]
      · rw [if_neg hj, if_neg (by omega)]

theorem Sub.up {h : Hp} {H H' : Tr AO} {n n' : Nat} (hs : Sub H h) {lo : Nat} (hm : Mo lo H H' n n') : Sub H' (upH h H H' n n') := fun i o hi => by
  unfold upH
  split
  · exact hi
  · rename_i hc
    simp only [Bool.or_eq_true, Bool.and_eq_true, decide_eq_true_eq, not_or] at hc
    have : H.get i = none := by cases e : H.get i with | none => rfl | some o => simp [e] at hc
    rw [hm.gone i hc.2 this] at hi; cases hi

theorem upH_new {h : Hp} {H : Tr AO} (hs : Sub H h) (n : Nat) (o : AO) : upH h H (H.set n o) n (n + 1) = fun i => if i = n then some o else h i := by
  funext i
  unfold upH
  rw [Tr.get_set]
  by_cases e : i = n
  · subst e; simp
  · rw [if_neg e, if_neg e]
    cases eh : H.get i with
    | some x => simp [hs i x eh]
    | none => simp; intro h1 h2; omega

theorem upH_set {h : Hp} {H : Tr AO} (hs : Sub H h) (n i : Nat) (o x : AO) (hi : H.get i = some x) : upH h H (H.set i o) n n = fun j => if j = i then some o else h j := by
  funext j
  unfold upH
  rw [Tr.get_set]
  by_cases e : j = i
  · subst e; simp [hi]
  · rw [if_neg e, if_neg e]
    cases eh : H.get j with
    | some x => simp [hs j x eh]
    | none => simp; intro h1 h2; omega

theorem Mo.new (lo : Nat) (H : Tr AO) (n : Nat) (o : AO) (hl : lo ≤ n) : Mo lo H (H.set n o) n (n + 1) :=
  ⟨by omega, fun i hi h => by rw [Tr.get_set, if_neg (by omega)]; exact h, fun i hi => by rw [Tr.get_set, if_neg (by omega)]⟩
theorem Mo.set (lo : Nat) (H : Tr AO) (n i : Nat) (o x : AO) (hi : H.get i = some x) (hl : lo ≤ i) : Mo lo H (H.set i o) n n :=
  ⟨Nat.le_refl _, fun j hj h => by
    rw [Tr.get_set]
    by_cases e : j = i
    · subst e; rw [hi] at h; cases h
    · rw [if_neg e]; exact h, fun j hj => by rw [Tr.get_set, if_neg (by omega)]⟩

/-! ### What an operation turns -/
abbrev Dl := List (Nat × Option AO)
def upd (h : Hp) : Dl → Hp
  | [] => h
  | (i, x) :: d => fun j => if j = i then x else upd h d j
noncomputable def updT (H : Tr AO) (d : Dl) : Tr AO := List.rec H (fun q _ t => Tr.put (Nat.succ q.1) t q.1 q.2) d
theorem updT_cons (H : Tr AO) (i : Nat) (x : Option AO) (d : Dl) : updT H ((i, x) :: d) = Tr.put (i + 1) (updT H d) i x := rfl
theorem get_updT (H : Tr AO) : ∀ (d : Dl) (j : Nat), (updT H d).get j = upd H.get d j
  | [], j => rfl
  | (i, x) :: d, j => by rw [updT_cons]; simp only [upd]; rw [Tr.get_put _ _ _ _ _ (by omega), get_updT H d j]
theorem upd_not (h : Hp) : ∀ (d : Dl) (j : Nat), (∀ e ∈ d, e.1 ≠ j) → upd h d j = h j
  | [], j, _ => rfl
  | (i, x) :: d, j, hj => by
    simp only [upd]; rw [if_neg (fun e => hj (i, x) (by simp) e.symm), upd_not h d j (fun e he => hj e (by simp [he]))]
theorem upd_key (h h' : Hp) : ∀ (d : Dl) (j : Nat), (∃ e ∈ d, e.1 = j) → upd h d j = upd h' d j
  | [], j, hj => by obtain ⟨e, he, _⟩ := hj; simp at he
  | (i, x) :: d, j, hj => by
    simp only [upd]
    by_cases e : j = i
    · simp [e]
    · rw [if_neg e, if_neg e]
      obtain ⟨e', he', hj'⟩ := hj
      rcases List.mem_cons.1 he' with rfl | he'
      · exact absurd hj'.symm e
      · exact upd_key h h' d j ⟨e', he', hj'⟩
structure DlOk (lo : Nat) (H : Tr AO) (d : Dl) (n n' : Nat) : Prop where
  le : n ≤ n'
  key : ∀ e ∈ d, lo ≤ e.1 ∧ ((H.get e.1).isSome = true ∨ (n ≤ e.1 ∧ e.1 < n'))
  all : ∀ i, n ≤ i → i < n' → ∃ e ∈ d, e.1 = i
theorem DlOk.nil (lo : Nat) (H : Tr AO) (n : Nat) : DlOk lo H [] n n := ⟨Nat.le_refl _, fun e he => by simp at he, fun i h1 h2 => by omega⟩
theorem upH_updT {lo : Nat} {h : Hp} {H : Tr AO} (hs : Sub H h) {d : Dl} {n n' : Nat} (hd : DlOk lo H d n n') : upH h H (updT H d) n n' = upd h d := by
  funext i
  unfold upH
  by_cases hk : ∃ e ∈ d, e.1 = i
  · rw [get_updT, upd_key H.get h d i hk]
    split
    · rfl
    · rename_i hc
      obtain ⟨e, he, rfl⟩ := hk
      have := (hd.key e he).2
      simp at hc
      rcases this with h1 | h1
      · simp [hc.1] at h1
      · have := hc.2 h1.1; omega
  · have hn : ∀ e ∈ d, e.1 ≠ i := fun e he h1 => hk ⟨e, he, h1⟩
    rw [get_updT, upd_not _ d i hn, upd_not h d i hn]
    cases eh : H.get i with
    | some x => simp [hs i x eh]
    | none =>
      simp only [Option.isSome_none, Bool.false_or, Bool.and_eq_true, decide_eq_true_eq]
      rw [if_neg]
      rintro ⟨h1, h2⟩
      exact hk (hd.all i h1 h2)
theorem Mo.updT {lo : Nat} {H : Tr AO} {d : Dl} {n n' : Nat} (hd : DlOk lo H d n n') : Mo lo H (updT H d) n n' :=
  ⟨hd.le, fun i hi h => by
    rw [get_updT, upd_not]
    · exact h
    · intro e he h1
      subst h1
      rcases (hd.key e he).2 with h2 | h2
      · simp [h] at h2
      · exact hi h2, fun i hi => by
    rw [get_updT, upd_not]
    intro e he h1
    have := (hd.key e he).1
    omega⟩

theorem ext_new {p : Nat → Option (Nat × Nat)} {n : Nat} (hn : p n = none) (b k : Nat) : Ext p (newp p n b k) n (n + 1) :=
  ⟨fun i c hi => (by unfold newp; rw [if_neg]; exact hi; intro e; subst e; rw [hn] at hi; cases hi), fun i hi => (by unfold newp; rw [if_neg (by omega)])⟩
end Go.Proofs.Ytkjceegmmhnajaa
