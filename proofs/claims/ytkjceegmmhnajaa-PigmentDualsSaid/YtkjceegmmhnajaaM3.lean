/- The second machine's operations that touch no memory. -/
import Derived.Test.YtkjceegmmhnajaaM2
namespace Go.Proofs.Ytkjceegmmhnajaa
open Go.RowKit

/-- A computation that asks for nothing but the program. -/
def pureRun (P : Program) {α : Type} : Sem α → Option α
  | .pure a => some a
  | .program k => pureRun P (k P)
  | .mark _ k => pureRun P k
  | _ => none

theorem pureRun_ok (P : Program) {α : Type} : ∀ (s : Sem α) (a : α), pureRun P s = some a → ∀ w, s.run P w = .ok a w := by
  intro s
  induction s with
  | pure x => intro a h w; simp [pureRun] at h; subst h; rfl
  | program k ih => intro a h w; simp only [pureRun] at h; simp only [Sem.run]; exact ih P a h w
  | mark m k ih => intro a h w; simp only [pureRun] at h; simp only [Sem.run]; exact ih a h w
  | _ => intro a h; simp [pureRun] at h

def places (tv : Nat → Option TV) : List Field → Option (List (Nat × Nat))
  | [] => some []
  | f :: r => match tv f.type, places tv r with
    | some F, some l => some ((f.offset, F.size) :: l)
    | _, _ => none

theorem places_ok {P : Program} {tv : Nat → Option TV} (hT : TvOk P tv) (w : World) : ∀ (l : List Field) (r : List (Nat × Nat)), places tv l = some r →
    (l.mapM fun f => do pure (f.offset, ← sizeOf f.type) : Sem (List (Nat × Nat))).run P w = .ok r w
  | [], r, h => by simp [places] at h; subst h; simp
  | f :: l, r, h => by
    simp only [places] at h
    split at h
    · rename_i F l' hF hl
      cases h
      have ih := places_ok hT w l l' hl
      have ih' : (List.mapM (fun f => Functor.map (Prod.mk f.offset) (sizeOf f.type)) l : Sem (List (Nat × Nat))).run P w = .ok l' w := by simpa using ih
      simp [List.mapM_cons, run_sizeOf' hT hF w, ih']
    · cases h

section
variable {p : Nat → Option (Nat × Nat)}
theorem AR.foldSet (off : Nat) : ∀ (l l' : List Value) (k : Nat) (a a' : Array Value), l.length = l'.length → (∀ (i : Nat) (v v' : Value), l[i]? = some v → l'[i]? = some v' → VR p v v') → AR p a a' →
    AR p ((l.zipIdx k).foldl (fun cs (c, j) => cs.setIfInBounds (off + j) c) a) ((l'.zipIdx k).foldl (fun cs (c, j) => cs.setIfInBounds (off + j) c) a')
  | [], [], k, a, a', _, _, h => by simpa using h
  | [], _ :: _, k, a, a', hl, _, h => by simp at hl
  | _ :: _, [], k, a, a', hl, _, h => by simp at hl
  | v :: l, v' :: l', k, a, a', hl, hv, h => by
    simp only [List.zipIdx_cons, List.foldl_cons]
    exact AR.foldSet off l l' (k + 1) _ _ (by simpa using hl) (fun i u u' hu hu' => hv (i + 1) u u' (by simpa using hu) (by simpa using hu')) (h.set (hv 0 v v' (by simp) (by simp)) _)

/-- parts that stand to each other -/
def PR (p : Nat → Option (Nat × Nat)) : List (Nat × Value) → List (Nat × Value) → Prop
  | [], [] => True
  | (i, v) :: l, (j, u) :: m => i = j ∧ VR p v u ∧ PR p l m
  | _, _ => False

theorem fill_ok (place : Nat → Option (Nat × Nat)) : ∀ (l l' : List (Nat × Value)) (a a' c : Array Value), PR p l l' → AR p a a' → Instr.fill place a l = some c → ∃ c', Instr.fill place a' l' = some c' ∧ AR p c c'
  | [], [], a, a', c, _, ha, h => by simp [Instr.fill] at h; subst h; exact ⟨a', rfl, ha⟩
  | [], _ :: _, a, a', c, hp, _, _ => by simp [PR] at hp
  | (i, v) :: l, [], a, a', c, hp, _, _ => by simp [PR] at hp
  | (i, v) :: l, (j, u) :: l', a, a', c, hp, ha, h => by
    obtain ⟨rfl, hv, hl⟩ := hp
    have hc := hv.cells
    simp only [Instr.fill] at h ⊢
    split at h
    · cases h
    · rename_i off size hpl
      try rw [hpl]
      split at h
      · cases h
      · rename_i hcond
        have hcond' : ¬ ((decide (u.cells.size ≠ size) || decide (off + u.cells.size > a'.size)) = true) := by rw [← hc.1, ← ha.1]; exact hcond
        simp only [if_neg hcond']
        refine fill_ok place l l' _ _ c hl ?_ h
        have := AR.foldSet (p := p) off v.cells.toList u.cells.toList 0 a a' (by simpa using hc.1) (fun i x y hx hy => by
          obtain ⟨y', h1, h2⟩ := hc.get i x (by simpa using hx)
          have : y = y' := by simp at hy; rw [hy] at h1; cases h1; rfl
          subst this; exact h2) ha
        rw [← Array.foldl_toList, ← Array.foldl_toList, Array.toList_zipIdx, Array.toList_zipIdx]
        exact this

theorem PR.map {α : Type} (f g : α → Nat × Value) : ∀ (l : List α), (∀ x ∈ l, (f x).1 = (g x).1 ∧ VR p (f x).2 (g x).2) → PR p (l.map f) (l.map g)
  | [], _ => trivial
  | x :: l, h => by
    have h1 := h x (by simp)
    exact ⟨h1.1, h1.2, PR.map f g l fun y hy => h y (by simp [hy])⟩
end

/-- the run of an operation that gives a value and turns nothing -/
def Same (P : Program) (s : Sem Next) (v : Value) : Prop := ∀ w, s.run P w = .ok (.value v) w

/-! ### for the kernel's reckoning -/
noncomputable def gr0 : Value → Bool
  | .bool _ => true
  | .int _ _ => true
  | .float _ _ => true
  | .string _ => true
  | .pointer none => true
  | .slice none _ _ => true
  | .map none => true
  | .nilFunc => true
  | .nilIface => true
  | .func (.func _) a c => a.isEmpty && c.isEmpty
  | _ => false
noncomputable def gr1 (v : Value) : Bool := match v with
  | .agg a => allQ gr0 a.toList
  | .tuple a => allQ gr0 a.toList
  | v => gr0 v
noncomputable def isGround (v : Value) : Bool := match v with
  | .agg a => allQ gr1 a.toList
  | .tuple a => allQ gr1 a.toList
  | v => gr0 v
theorem ground_mono : ∀ (f : Nat) (v : Value), ground f v = true → ground (f + 1) v = true
  | 0, v, h => by
    cases v with
    | pointer a => cases a <;> simp [ground] at h ⊢
    | slice a l c => cases a <;> simp [ground] at h ⊢
    | map a => cases a <;> simp [ground] at h ⊢
    | func fn a c => cases fn <;> simp [ground] at h ⊢ <;> exact h
    | agg a => simp [ground] at h
    | tuple a => simp [ground] at h
    | _ => first | rfl | (simp [ground] at h; done) | simpa [ground] using h
  | f + 1, v, h => by
    cases v with
    | pointer a => cases a <;> simp [ground] at h ⊢
    | slice a l c => cases a <;> simp [ground] at h ⊢
    | map a => cases a <;> simp [ground] at h ⊢
    | func fn a c => cases fn <;> simp [ground] at h ⊢ <;> exact h
    | agg a => rw [ground, List.all_eq_true] at h ⊢; exact fun x hx => ground_mono f x (h x hx)
    | tuple a => rw [ground, List.all_eq_true] at h ⊢; exact fun x hx => ground_mono f x (h x hx)
    | _ => first | rfl | (simp [ground] at h; done) | simpa [ground] using h
theorem gr0_ground (v : Value) (h : gr0 v = true) : ground 0 v = true := by
  cases v with
  | pointer a => cases a <;> simp [gr0, ground] at h ⊢
  | slice a l c => cases a <;> simp [gr0, ground] at h ⊢
  | map a => cases a <;> simp [gr0, ground] at h ⊢
  | func fn a c => cases fn <;> simp [gr0, ground] at h ⊢ <;> exact h
  | _ => first | rfl | (simp [gr0] at h; done)
theorem gr1_ground (v : Value) (h : gr1 v = true) : ground 1 v = true := by
  cases v with
  | agg a => simp only [gr1, allQ_eq] at h; rw [ground, List.all_eq_true] at *; exact fun x hx => gr0_ground x (h x hx)
  | tuple a => simp only [gr1, allQ_eq] at h; rw [ground, List.all_eq_true] at *; exact fun x hx => gr0_ground x (h x hx)
  | _ => exact ground_mono 0 _ (gr0_ground _ h)
theorem isGround_ground (v : Value) (h : isGround v = true) : ground 2 v = true := by
  cases v with
  | agg a => simp only [isGround, allQ_eq] at h; rw [ground, List.all_eq_true] at *; exact fun x hx => gr1_ground x (h x hx)
  | tuple a => simp only [isGround, allQ_eq] at h; rw [ground, List.all_eq_true] at *; exact fun x hx => gr1_ground x (h x hx)
  | _ => exact ground_mono 1 _ (ground_mono 0 _ (gr0_ground _ h))

/-- an integer of some kind, within bounds, reckoned out -/
noncomputable def retI (k : IntKind) (n : Int) : Option Value :=
  match k with
  | .i64 => match n with
    | .ofNat m => Bool.rec (some (.int .i64 (IntKind.wrap .i64 n))) (Nat.rec (some (.int .i64 (.ofNat 0))) (fun j _ => some (.int .i64 (.ofNat (Nat.succ j)))) m) (Nat.blt m 9223372036854775808)
    | .negSucc m => Bool.rec (some (.int .i64 (IntKind.wrap .i64 n))) (Nat.rec (some (.int .i64 (.negSucc 0))) (fun j _ => some (.int .i64 (.negSucc (Nat.succ j)))) m) (Nat.blt m 9223372036854775808)
  | k => some (.int k (k.wrap n))
theorem wrap_id {x : Int} (h0 : -9223372036854775808 ≤ x) (h1 : x < 9223372036854775808) : IntKind.wrap .i64 x = x := by
  unfold IntKind.wrap IntKind.signed IntKind.bits
  simp
  split <;> omega
theorem retI_eq (k : IntKind) (n : Int) : retI k n = some (.int k (k.wrap n)) := by
  unfold retI
  cases k <;> try rfl
  cases n with
  | ofNat m =>
    dsimp only
    cases h : Nat.blt m 9223372036854775808 with
    | false => rfl
    | true =>
      have hm : m < 9223372036854775808 := by simp [Nat.blt] at h; omega
      rw [wrap_id (by show _ ≤ (m : Int); omega) (by show (m : Int) < _; omega)]
      cases m <;> rfl
  | negSucc m =>
    dsimp only
    cases h : Nat.blt m 9223372036854775808 with
    | false => rfl
    | true =>
      have hm : m < 9223372036854775808 := by simp [Nat.blt] at h; omega
      rw [wrap_id (by rw [Int.negSucc_eq]; omega) (by rw [Int.negSucc_eq]; omega)]
      cases m <;> rfl
noncomputable def ltI (a b : Int) : Bool := match a, b with
  | .ofNat m, .ofNat n => Nat.blt m n
  | .negSucc _, .ofNat _ => true
  | .ofNat _, .negSucc _ => false
  | .negSucc m, .negSucc n => Nat.blt n m
theorem ltI_eq (a b : Int) : ltI a b = decide (a < b) := by
  rw [Bool.eq_iff_iff, decide_eq_true_iff]
  cases a <;> cases b <;> simp [ltI, Nat.blt, Int.negSucc_eq] <;> omega
noncomputable def eqI (a b : Int) : Bool := match a, b with
  | .ofNat m, .ofNat n => Nat.beq m n
  | .negSucc m, .negSucc n => Nat.beq m n
  | _, _ => false
theorem eqI_eq (a b : Int) : eqI a b = (a == b) := by
  rw [Bool.eq_iff_iff, beq_iff_eq]
  cases a <;> cases b <;> simp [eqI] <;> omega
/-- an index within bounds -/
noncomputable def inB (i : Int) (len : Nat) : Option Nat := match i with
  | .ofNat m => Bool.rec none (some m) (Nat.blt m len)
  | _ => none
theorem inB_some {i : Int} {len m : Nat} (h : inB i len = some m) : (0 ≤ i ∧ i < (len : Int)) ∧ i.toNat = m := by
  unfold inB at h
  cases i with
  | ofNat k =>
    dsimp only at h
    cases e : Nat.blt k len with
    | false => rw [e] at h; cases h
    | true =>
      rw [e] at h
      cases h
      have : m < len := by simp [Nat.blt] at e; omega
      refine ⟨⟨by simp, ?_⟩, rfl⟩
      show (m : Int) < _
      omega
  | negSucc k => cases h

noncomputable def aPart (tv : Nat → Option TV) (t : Nat) (cs : Array Value) (off : Nat) : Option Value :=
  match tv t with
  | some T => Bool.rec (getQ cs.toList off) (some (.agg (extQ cs off T.size))) T.agg
  | none => none

theorem aPart_ok {P : Program} {tv : Nat → Option TV} (hT : TvOk P tv) {p : Nat → Option (Nat × Nat)} {t : Nat} {cs cs' : Array Value} {off : Nat} {v : Value} (hc : AR p cs cs') (h : aPart tv t cs off = some v) :
    ∃ v', (∀ w, (part t cs' off).run P w = .ok v' w) ∧ VR p v v' := by
  unfold aPart at h
  split at h
  · rename_i T hTt
    rw [extQ_eq, getQ_eq] at h
    cases ha : T.agg with
    | true =>
      simp only [ha] at h
      cases h
      refine ⟨.agg (cs'.extract off (off + T.size)), fun w => ?_, .agg (hc.extract _ _).1 (hc.extract _ _).2⟩
      simp [part, run_isAgg' hT hTt w, run_sizeOf' hT hTt w, ha]
    | false =>
      simp only [ha] at h
      obtain ⟨v', h1, h2⟩ := hc.get off v (by simpa using h)
      refine ⟨v', fun w => ?_, h2⟩
      simp [part, run_isAgg' hT hTt w, ha, h1]
  · cases h

/-- parts laid into a row -/
noncomputable def fillQ (place : Nat → Option (Nat × Nat)) (l : List (Nat × Value)) : List Value → Option (List Value) :=
  List.rec (fun c => some c) (fun q _ ih c => match place q.1 with
    | none => none
    | some (off, size) => match q.2.cells.toList with
      | vs => Bool.rec none (Bool.rec none (ih (appQ (takeQ c off) (appQ vs (dropQ c (Nat.add off size))))) (Nat.ble (Nat.add off size) (lenQ c))) (Nat.beq (lenQ vs) size)) l

theorem foldSet_splice (off : Nat) : ∀ (l : List Value) (k : Nat) (a : Array Value), off + k + l.length ≤ a.size →
    (l.zipIdx k).foldl (fun cs (c, j) => cs.setIfInBounds (off + j) c) a = ⟨a.toList.take (off + k) ++ l ++ a.toList.drop (off + k + l.length)⟩
  | [], k, a, h => by apply Array.toList_inj.1; simp
  | v :: l, k, a, h => by
    simp only [List.zipIdx_cons, List.foldl_cons]
    rw [foldSet_splice off l (k + 1) _ (by simp at h ⊢; omega)]
    apply Array.toList_inj.1
    simp only [Array.toList_setIfInBounds]
    have hlt : off + k < a.toList.length := by simp at h ⊢; omega
    have h1 : (a.toList.set (off + k) v).take (off + (k + 1)) = a.toList.take (off + k) ++ [v] := by
      rw [show off + (k + 1) = off + k + 1 from by omega, List.take_succ_eq_append_getElem (by simpa using hlt), List.take_set_of_le (by omega)]
      simp
    have h2 : (a.toList.set (off + k) v).drop (off + (k + 1) + l.length) = a.toList.drop (off + k + (v :: l).length) := by
      rw [List.drop_set_of_lt (by omega)]
      congr 1; simp; omega
    rw [h1, h2]; simp

theorem fillQ_eq (place : Nat → Option (Nat × Nat)) : ∀ (l : List (Nat × Value)) (c : List Value) (r : List Value), fillQ place l c = some r → Instr.fill place ⟨c⟩ l = some ⟨r⟩
  | [], c, r, h => by cases h; rfl
  | (i, v) :: l, c, r, h => by
    change (match place i with
      | none => none
      | some (off, size) => Bool.rec none (Bool.rec none (fillQ place l (appQ (takeQ c off) (appQ v.cells.toList (dropQ c (Nat.add off size))))) (Nat.ble (Nat.add off size) (lenQ c))) (Nat.beq (lenQ v.cells.toList) size)) = some r at h
    unfold Instr.fill
    split at h
    · cases h
    · rename_i off size hp
      rw [hp]
      dsimp only
      rw [lenQ_eq, lenQ_eq] at h
      cases e1 : Nat.beq v.cells.toList.length size with
      | false => rw [e1] at h; cases h
      | true =>
        rw [e1] at h; dsimp only at h
        have e1' : v.cells.size = size := by simpa using Nat.eq_of_beq_eq_true e1
        cases e2 : Nat.ble (Nat.add off size) c.length with
        | false => rw [e2] at h; cases h
        | true =>
          rw [e2] at h; dsimp only at h
          have e2' : off + size ≤ c.length := Nat.le_of_ble_eq_true e2
          rw [if_neg (by simp [e1']; exact e2')]
          rw [appQ_eq, appQ_eq, takeQ_eq, dropQ_eq] at h
          rw [← Array.foldl_toList, Array.toList_zipIdx]
          have := foldSet_splice off v.cells.toList 0 ⟨c⟩ (by simp [e1']; exact e2')
          simp only at this
          rw [this]
          refine fillQ_eq place l _ r ?_
          simp only [Nat.add_zero, Array.length_toList, e1', List.append_assoc]
          exact h

/-- an operation all of whose operands bear no name: as the model does it -/
noncomputable def aGround (P : Program) (o : Oper) (r : Operand → Value) : Option Value :=
  Bool.rec none (match pureRun P (execOp r o) with
    | some (.value v) => Bool.rec none (some v) (isGround v)
    | _ => none) (allQ (fun x => isGround (r x)) o.op.operands.toList)

noncomputable def boundOf (r : Operand → Value) (d : Nat) : Option Operand → Option Nat
  | none => some d
  | some x => match r x with
    | .int _ (.ofNat i) => some i
    | _ => none

noncomputable def aSlice (tv : Nat → Option TV) (t : Nat) (x : Value) (lo hi mx : Option Operand) (r : Operand → Value) : Option Value :=
  match tv t with
  | none => none
  | some T => match T.und, x with
    | .slice e, .slice (some ⟨b, o, none⟩) len cap => match tv e, boundOf r 0 lo, boundOf r len hi with
      | some E, some l, some h => match mx with
        | none => if l ≤ h ∧ h ≤ len ∧ len ≤ cap ∧ (l < len ∨ l = 0 ∨ cap ≠ unk) ∧ (cap = unk → l = 0 ∨ 0 < E.size) ∧ cap ≤ unk then some (.slice (some ⟨b, if cap = l then o else o + l * E.size, none⟩) (h - l) (if cap = unk then unk else cap - l)) else none
        | some _ => match boundOf r 0 mx with
          | some m => if l ≤ h ∧ h ≤ m ∧ m ≤ len ∧ len ≤ cap ∧ hi.isSome = true ∧ m < unk then some (.slice (some ⟨b, if m = l then o else o + l * E.size, none⟩) (h - l) (m - l)) else none
          | none => none
      | _, _, _ => none
    | .array n e, .pointer (some ⟨b, o, none⟩) => match tv e, boundOf r 0 lo, boundOf r n hi, mx with
      | some E, some l, some h, none => if l ≤ h ∧ h ≤ n ∧ n < unk then some (.slice (some ⟨b, if n = l then o else o + l * E.size, none⟩) (h - l) (n - l)) else none
      | _, _, _, _ => none
    | _, _ => none

noncomputable def partsQ (r : Operand → Value) (parts : Array (Nat × Operand)) : List (Nat × Value) := mapQ (fun q => (q.1, r q.2)) parts.toList
theorem partsQ_eq (r : Operand → Value) (parts : Array (Nat × Operand)) : partsQ r parts = (parts.map fun (i, x) => (i, r x)).toList := by
  unfold partsQ; rw [mapQ_eq, Array.toList_map]
def placeOf (pl : List (Nat × Nat)) : Nat → Option (Nat × Nat) := (pl.toArray[·]?)
noncomputable def placeQ (pl : List (Nat × Nat)) : Nat → Option (Nat × Nat) := getQ pl
theorem placeQ_eq (pl : List (Nat × Nat)) : placeQ pl = placeOf pl := by funext i; simp [placeQ, placeOf, getQ_eq]

noncomputable def aPick (c a b : Value) : Option Value := match c with | .bool t => some (Bool.rec b a t) | _ => none
noncomputable def aBuild (tv : Nat → Option TV) (T : TV) (parts : List (Nat × Value)) : Option Value :=
  match T.und with
  | .struct fs => match places tv fs.toList with
    | some pl => match fillQ (placeQ pl) parts T.zero.cells.toList with
      | some c => some (.agg ⟨c⟩)
      | none => none
    | none => none
  | .array _ e => match tv e with
    | some E => match fillQ (fun i => some (Nat.mul i E.size, E.size)) parts T.zero.cells.toList with
      | some c => some (.agg ⟨c⟩)
      | none => none
    | none => none
  | _ => none
noncomputable def aFieldAddr (tv : Nat → Option TV) (S : Option TV) (x : Value) (f : Nat) : Option Value :=
  match S, x with
  | some S, .pointer (some ⟨b, o, none⟩) => match S.und with
    | .struct fs => match getQ fs.toList f with
      | some fl => match tv fl.type with
        | some F => Nat.rec none (fun _ _ => some (.pointer (some ⟨b, Nat.add o fl.offset, none⟩))) F.size
        | none => none
      | none => none
    | _ => none
  | _, _ => none
noncomputable def aIndexAddr (tv : Nat → Option TV) (T : Option TV) (x ix : Value) : Option Value :=
  match T, ix with
  | some T, .int _ i => match T.und, x with
    | .array len e, .pointer (some ⟨b, o, none⟩) => match tv e, inB i len with
      | some E, some m => some (.pointer (some ⟨b, Nat.add o (Nat.mul m E.size), none⟩))
      | _, _ => none
    | .slice e, .slice (some ⟨b, o, none⟩) len _ => match tv e, inB i len with
      | some E, some m => some (.pointer (some ⟨b, Nat.add o (Nat.mul m E.size), none⟩))
      | _, _ => none
    | _, _ => none
  | _, _ => none
noncomputable def aIndex (tv : Nat → Option TV) (T : Option TV) (cs : Array Value) (ix : Value) : Option Value :=
  match T, ix with
  | some T, .int _ i => match T.und with
    | .array len e => match tv e, inB i len with
      | some E, some m => aPart tv e cs (Nat.mul m E.size)
      | _, _ => none
    | _ => none
  | _, _ => none
noncomputable def aField (tv : Nat → Option TV) (T : Option TV) (x : Value) (f : Nat) : Option Value :=
  match T, x with
  | some T, .agg cs => match T.und with
    | .struct fs => match getQ fs.toList f with
      | some fl => aPart tv fl.type cs fl.offset
      | none => none
    | _ => none
  | _, _ => none
noncomputable def aExtract (x : Value) (i : Nat) : Option Value := match x with | .tuple vs => getQ vs.toList i | _ => none
noncomputable def aMkFunc (fn : Fn) (first captured : List Value) : Option Value := match fn with
  | .func f => some (.func (.func f) ⟨first⟩ ⟨captured⟩)
  | _ => none
noncomputable def aNil (x : Value) : Option Value := match x with | .pointer (some a) => some (.pointer (some a)) | _ => none
/-- an operation on two integers of one kind -/
noncomputable def aInt2 (op : BinOp) (k : IntKind) (a b : Int) : Option Value :=
  match op with
  | .add => retI k (a + b)
  | .sub => retI k (a - b)
  | .mul => retI k (a * b)
  | .eql => some (.bool (eqI a b))
  | .neq => some (.bool (!eqI a b))
  | .lss => some (.bool (ltI a b))
  | .leq => some (.bool (!ltI b a))
  | .gtr => some (.bool (ltI b a))
  | .geq => some (.bool (!ltI a b))
  | _ => none
noncomputable def aNilSlice (T : Option TV) (op : BinOp) : Option Value :=
  match T with
  | some T => match T.und with
    | .slice _ => match op with | .eql => some (.bool false) | .neq => some (.bool true) | _ => none
    | _ => none
  | none => none
noncomputable def aBin (P : Program) (tv : Nat → Option TV) (o : Oper) (r : Operand → Value) (op : BinOp) (t : Nat) (x y : Value) : Option Value :=
  match x, y with
  | .int .i64 a, .int .i64 b => match aInt2 op .i64 a b with
    | some v => some v
    | none => aGround P o r
  | .slice (some _) _ _, .slice none _ _ => aNilSlice (tv t) op
  | _, _ => aGround P o r
noncomputable def aLenOf (T : Option TV) (l : Nat) : Option Value :=
  match T with
  | some T => match T.und with | .slice _ => some (.int .i64 (.ofNat l)) | _ => none
  | none => none
noncomputable def aLen (P : Program) (tv : Nat → Option TV) (o : Oper) (r : Operand → Value) (args : List Operand) (types : List Nat) : Option Value :=
  match args, types with
  | x :: _, t :: _ => match r x with
    | .slice (some _) l _ => aLenOf (tv t) l
    | _ => aGround P o r
  | _, _ => none
noncomputable def aSl (P : Program) (tv : Nat → Option TV) (o : Oper) (r : Operand → Value) (t : Nat) (x : Value) (lo hi mx : Option Operand) : Option Value :=
  match x with
  | .slice (some _) _ _ => aSlice tv t x lo hi mx r
  | .pointer (some _) => aSlice tv t x lo hi mx r
  | _ => aGround P o r
noncomputable def aIx (P : Program) (tv : Nat → Option TV) (o : Oper) (r : Operand → Value) (t : Nat) (x ix : Value) : Option Value :=
  match x with
  | .agg cs => aIndex tv (tv t) cs ix
  | _ => aGround P o r
noncomputable def aBuild1 (tv : Nat → Option TV) (T : Option TV) (parts : List (Nat × Value)) : Option Value :=
  match T with
  | some T => aBuild tv T parts
  | none => none
noncomputable def aBuiltin (P : Program) (tv : Nat → Option TV) (o : Oper) (r : Operand → Value) (b : Builtin) (args : Array Operand) (types : Array Nat) : Option Value :=
  match b with
  | .len => aLen P tv o r args.toList types.toList
  | .max => aGround P o r
  | .min => aGround P o r
  | _ => none
noncomputable def aCallee (P : Program) (tv : Nat → Option TV) (o : Oper) (r : Operand → Value) (c : Callee) (args : Array Operand) (types : Array Nat) : Option Value :=
  match c with
  | .builtin b => aBuiltin P tv o r b args types
  | _ => none

/-- an operation on values alone -/
noncomputable def aSil (P : Program) (tv : Nat → Option TV) (o : Oper) (r : Operand → Value) : Option Value :=
  match o.op with
  | .move x => some (r x)
  | .assign x => some (r x)
  | .pick c a b => aPick (r c) (r a) (r b)
  | .build t parts => aBuild1 tv (tv t) (partsQ r parts)
  | .fieldAddr s x f => aFieldAddr tv (tv s) (r x) f
  | .indexAddr t x ix => aIndexAddr tv (tv t) (r x) (r ix)
  | .index t x ix => aIx P tv o r t (r x) (r ix)
  | .field t x f => aField tv (tv t) (r x) f
  | .extract x i => aExtract (r x) i
  | .makeFunc fn first captured => aMkFunc fn (mapQ r first.toList) (mapQ r captured.toList)
  | .nilCheck x => aNil (r x)
  | .binOp op t x y _ => aBin P tv o r op t (r x) (r y)
  | .unOp .. => aGround P o r
  | .convert .. => aGround P o r
  | .slice t x lo hi mx => aSl P tv o r t (r x) lo hi mx
  | .call c => aCallee P tv o r c.callee c.args c.argTypes
  | _ => none

theorem aGround_ok {P : Program} {o : Oper} {r r' : Operand → Value} {p : Nat → Option (Nat × Nat)} (hs : ∀ cs b, o.op ≠ .select cs b) (hr : ∀ x ∈ o.op.operands, VR p (r x) (r' x))
    {v : Value} (h : aGround P o r = some v) : Same P (execOp r' o) v ∧ VR p v v := by
  unfold aGround at h
  rw [allQ_eq] at h
  cases hg : o.op.operands.toList.all (fun x => isGround (r x)) with
  | false => rw [hg] at h; cases h
  | true =>
    rw [hg] at h
    dsimp only at h
    split at h
    · rename_i u hu
      cases hv : isGround u with
      | false => rw [hv] at h; cases h
      | true =>
        rw [hv] at h
        cases h
        have : execOp r' o = execOp r o := execOp_congr o hs fun x hx => VR.eq_of_ground 2 (isGround_ground _ (List.all_eq_true.1 hg x (by simpa using hx))) (hr x hx)
        refine ⟨fun w => ?_, VR.of_ground p 2 _ (isGround_ground _ hv)⟩
        rw [this]
        exact pureRun_ok P _ _ hu w
    · cases h

section
variable {P : Program} {tv : Nat → Option TV} {p : Nat → Option (Nat × Nat)}
theorem VR.int_inv {k : IntKind} {n : Int} {v : Value} (h : VR p (.int k n) v) : v = .int k n := by cases h; rfl
theorem VR.bool_inv {b : Bool} {v : Value} (h : VR p (.bool b) v) : v = .bool b := by cases h; rfl
theorem VR.agg_inv {a : Array Value} {v : Value} (h : VR p (.agg a) v) : ∃ a', v = .agg a' ∧ AR p a a' := by cases h; exact ⟨_, rfl, by assumption, by assumption⟩
theorem VR.tuple_inv {a : Array Value} {v : Value} (h : VR p (.tuple a) v) : ∃ a', v = .tuple a' ∧ AR p a a' := by cases h with | tuple hs hA => exact ⟨_, rfl, AR.of_lt hs hA⟩
theorem VR.ptr_inv {b o : Nat} {v : Value} (h : VR p (.pointer (some ⟨b, o, none⟩)) v) : ∃ b' k, v = .pointer (some ⟨b', o, none⟩) ∧ p b = some (b', k) := by cases h; exact ⟨_, _, rfl, by assumption⟩
theorem VR.slice_inv {b o l c : Nat} {v : Value} (h : VR p (.slice (some ⟨b, o, none⟩) l c) v) : ∃ b' c' k, v = .slice (some ⟨b', o, none⟩) l c' ∧ p b = some (b', k) ∧ ((c < unk ∧ c = c') ∨ (c = unk ∧ l ≤ c' ∧ (o = 0 → c' = k))) := by
  cases h; exact ⟨_, _, _, rfl, by assumption, by assumption⟩
theorem VR.slice_inv' {a : Addr} {l c : Nat} {v : Value} (h : VR p (.slice (some a) l c) v) : ∃ a' c', v = .slice (some a') l c' := by
  cases h; exact ⟨_, _, rfl⟩
theorem add_eq (b o n : Nat) : (⟨b, o, none⟩ : Addr).add n = ⟨b, o + n, none⟩ := by unfold Addr.add; split <;> simp_all

theorem boundOf_ok {r r' : Operand → Value} {d l y : Nat} {m : Option Operand} {code : BoundsCode} (hr : ∀ x, m = some x → VR p (r x) (r' x)) (h : boundOf r d m = some l) (hly : l ≤ y) (w : World) :
    (match m.map r' with | some v => Instr.sliceBound v y code | none => pure d).run P w = .ok l w := by
  cases m with
  | none => simp [boundOf] at h; subst h; simp
  | some x =>
    simp only [boundOf] at h
    split at h
    · rename_i k i hx
      have := hr x rfl
      rw [hx] at this
      have e := this.int_inv
      cases h
      simp only [Option.map_some, e, Instr.sliceBound, asIntOf]
      simp
      intro h1; omega
    · cases h
end
end Go.Proofs.Ytkjceegmmhnajaa
