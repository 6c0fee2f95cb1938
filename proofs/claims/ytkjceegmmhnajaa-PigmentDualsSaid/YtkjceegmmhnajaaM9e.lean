/- The second machine's way through a region that draws its order meets what is asked there. -/
import Derived.Test.YtkjceegmmhnajaaM9d
namespace Go.Proofs.Ytkjceegmmhnajaa
open Go.RowKit

theorem delAll_get (H : Tr AO) : ∀ (l : List Nat) (j : Nat), (delAll l H).get j = if j ∈ l then none else H.get j
  | [], j => by simp [delAll]
  | i :: l, j => by
    show (Tr.del (delAll l H) i).get j = _
    rw [Tr.get_del, delAll_get H l]
    by_cases e : j = i
    · simp [e]
    · simp [e]
theorem addAll_get (H0 H : Tr AO) : ∀ (l : List Nat) (j : Nat), (addAll H0 l H).get j = if j ∈ l then H0.get j else H.get j
  | [], j => by simp [addAll]
  | i :: l, j => by
    show (Tr.put (i + 1) (addAll H0 l H) i (H0.get i)).get j = _
    rw [Tr.get_put _ _ _ _ _ (by omega), addAll_get H0 H l]
    by_cases e : j = i
    · simp [e]
    · simp [e]
theorem hidden_mem (bs : Array Nat) (i : Nat) (id : Nat) : ∀ (R : List (Nat × Nat × Nat)), id ∈ hidden bs i R ↔ ∃ q ∈ R, isBefore bs q.1 i = false ∧ q.2.1 ≤ id ∧ id < q.2.2
  | [] => by simp [hidden]
  | q :: R => by
    have ih := hidden_mem bs i id R
    show id ∈ (Bool.rec (appQ (mapQ (q.2.1 + ·) (List.range (q.2.2 - q.2.1))) (hidden bs i R)) (hidden bs i R) (isBefore bs q.1 i) : List Nat) ↔ _
    cases hb : isBefore bs q.1 i with
    | true =>
      dsimp only
      rw [ih]
      constructor
      · rintro ⟨x, hx, h⟩; exact ⟨x, by simp [hx], h⟩
      · rintro ⟨x, hx, h⟩
        rcases List.mem_cons.1 hx with rfl | hx
        · rw [hb] at h; cases h.1
        · exact ⟨x, hx, h⟩
    | false =>
      dsimp only
      rw [appQ_eq, mapQ_eq, List.mem_append, ih]
      constructor
      · rintro (h | ⟨x, hx, h⟩)
        · simp only [List.mem_map, List.mem_range] at h
          obtain ⟨y, hy, rfl⟩ := h
          exact ⟨q, by simp, hb, by omega, by omega⟩
        · exact ⟨x, by simp [hx], h⟩
      · rintro ⟨x, hx, h⟩
        rcases List.mem_cons.1 hx with rfl | hx
        · refine .inl ?_
          simp only [List.mem_map, List.mem_range]
          exact ⟨id - x.2.1, by omega, by omega⟩
        · exact .inr ⟨x, hx, h⟩

def upd1 (rc : Nat → Rec) (i : Nat) (r : Rec) : Nat → Rec := fun k => if k = i then r else rc k
theorem upd1_same (rc : Nat → Rec) (i : Nat) (r : Rec) : upd1 rc i r i = r := by simp [upd1]
theorem upd1_lt (rc : Nat → Rec) {i k : Nat} (r : Rec) (h : k < i) : upd1 rc i r k = rc k := by simp [upd1, show k ≠ i by omega]
theorem seenH_upd (rc : Nat → Rec) (i : Nat) (r : Rec) (h0 : Hp) (D : Nat → Bool) : ∀ k, k ≤ i → seenH (upd1 rc i r) h0 D k = seenH rc h0 D k := by
  intro k hk
  funext id
  unfold seenH
  induction k with
  | zero => rfl
  | succ k ih => simp only [lastD]; rw [ih (by omega), upd1_lt rc r (by omega : k < i)]
theorem seenT_upd (rc : Nat → Rec) (i : Nat) (r : Rec) (T0 : Tr Value) (D : Nat → Bool) (t : Nat) : ∀ k, k ≤ i → seenT (upd1 rc i r) T0 D k t = seenT rc T0 D k t := by
  intro k hk
  unfold seenT
  induction k with
  | zero => rfl
  | succ k ih => simp only [lastD]; rw [ih (by omega), upd1_lt rc r (by omega : k < i)]

section
variable {E : Env} {ops : Array Oper} {lo : Nat} {T0 : Tr Value} {sz : Nat} {H0 : Tr AO} {n0 : Nat}

/-- one operation more -/
theorem Good.ext {rc : Nat → Rec} {i : Nat} {T T' : Tr Value} {H H' : Tr AO} {n n' : Nat} (g : Good E ops lo T0 sz H0 n0 rc i T H n) (r : Rec) (hop : ops[i]? = some r.o) (hT : r.T = T) (hH : r.H = H) (hn : r.n = n) (hm : r.m = n') (hput : aPut T sz r.o.dst r.v = some T')
    (hwd : r.wd = aWanted ops T r.o) (hun : r.wd = false → r.v = undef ∧ (∀ id, r.tch id = false) ∧ ∀ id, r.need id = none) (hmo : Mo lo H H' n n')
    (hc3 : ∀ id, r.tch id = true → (H.get id).isSome = true ∨ (n ≤ id ∧ id < n')) (hc4 : ∀ id y, r.need id = some y → H.get id = some y)
    (hs : ∀ hh : Hp, Sub H hh → Sub H' (fun id => if r.tch id then r.val id else hh id)) (hok : r.wd = true → RecOk E r)
    (hc : ∀ k, k < i → isBefore (Region.before ops) i k = false → isBefore (Region.before ops) k i = false → ∀ id, ((rc k).tch id = true → r.need id = none ∧ r.tch id = false) ∧ (r.tch id = true → (rc k).need id = none ∧ (rc k).tch id = false)) :
    Good E ops lo T0 sz H0 n0 (upd1 rc i r) (i + 1) T' H' n' := by
  have le := hmo.le
  have sel : ∀ k, k < i + 1 → (k < i ∧ upd1 rc i r k = rc k) ∨ (k = i ∧ upd1 rc i r k = r) := fun k hk => by
    by_cases e : k = i
    · exact .inr ⟨e, by rw [e]; exact upd1_same rc i r⟩
    · exact .inl ⟨by omega, upd1_lt rc r (by omega)⟩
  refine ⟨fun k hk => ?_, fun k hk => ?_, fun k hk => ?_, fun k hk t => ?_, fun t => ?_, fun k hk => ?_, Nat.le_trans g.le0 le, fun k hk => ?_, fun j k hjk hk => ?_, fun k hk => ?_, fun k hk => ?_, fun k hk => ?_, g.moN.trans hmo, fun k hk h0 hs0 => ?_, fun h0 hs0 => ?_, fun k hk => ?_, fun a b ha hb hne h1 h2 id ht => ?_⟩
  · rcases sel k hk with ⟨h1, h2⟩ | ⟨rfl, h2⟩ <;> rw [h2]
    · exact g.op k h1
    · exact hop
  · rcases sel k hk with ⟨h1, h2⟩ | ⟨rfl, h2⟩ <;> rw [h2]
    · exact g.dst k h1
    · intro d hd
      rw [hd] at hput
      unfold aPut at hput
      dsimp only at hput
      cases e : Nat.blt d sz with
      | false => rw [e] at hput; cases hput
      | true => exact Nat.blt_eq ▸ e
  · rcases sel k hk with ⟨h1, h2⟩ | ⟨rfl, h2⟩ <;> rw [h2]
    · exact g.wd k h1
    · rw [hT]; exact hwd
  · rcases sel k hk with ⟨h1, h2⟩ | ⟨rfl, h2⟩ <;> rw [h2]
    · rw [seenT_upd rc i r T0 _ t k (by omega)]; exact g.tl k h1 t
    · rw [seenT_upd rc k r T0 _ t k (Nat.le_refl _), hT]; exact g.tlN t
  · have e1 : seenT (upd1 rc i r) T0 (fun _ => true) (i + 1) t = if r.o.dst == some t then r.v else seenT rc T0 (fun _ => true) i t := by
      rw [← seenT_upd rc i r T0 (fun _ => true) t i (Nat.le_refl _)]
      show (if true && ((upd1 rc i r i).o.dst == some t) then (upd1 rc i r i).v else _) = _
      rw [upd1_same]; simp only [Bool.true_and]; rfl
    rw [e1, ← g.tlN t]
    cases hd : r.o.dst with
    | none => rw [hd] at hput; cases hput; rfl
    | some d =>
      rw [hd] at hput
      unfold aPut at hput
      dsimp only at hput
      cases e : Nat.blt d sz with
      | false => rw [e] at hput; cases hput
      | true =>
        rw [e] at hput; cases hput
        rw [tget_set]
        by_cases h : t = d
        · subst h; simp
        · rw [if_neg h]
          have : (some d == some t) = false := by simp; exact fun e => h e.symm
          rw [this]; rfl
  · rcases sel k hk with ⟨h1, h2⟩ | ⟨rfl, h2⟩ <;> rw [h2]
    · exact g.un k h1
    · exact hun
  · rcases sel k hk with ⟨h1, h2⟩ | ⟨rfl, h2⟩ <;> rw [h2]
    · have := g.nle k h1; omega
    · have := g.le0; omega
  · rcases sel k hk with ⟨h1, h2⟩ | ⟨rfl, h2⟩ <;> rw [h2]
    · rw [upd1_lt rc r (by omega : j < i)]; exact g.nlt j k hjk h1
    · rw [upd1_lt rc r hjk, hn]; exact (g.nle j hjk).2.2
  · rcases sel k hk with ⟨h1, h2⟩ | ⟨rfl, h2⟩ <;> rw [h2]
    · exact g.c3 k h1
    · intro id hid; rw [hH, hn, hm]; exact hc3 id hid
  · rcases sel k hk with ⟨h1, h2⟩ | ⟨rfl, h2⟩ <;> rw [h2]
    · exact g.c4 k h1
    · intro id y hid; rw [hH]; exact hc4 id y hid
  · rcases sel k hk with ⟨h1, h2⟩ | ⟨rfl, h2⟩ <;> rw [h2]
    · exact g.mo k h1
    · rw [hH, hn]; exact g.moN
  · rcases sel k hk with ⟨h1, h2⟩ | ⟨rfl, h2⟩ <;> rw [h2]
    · rw [seenH_upd rc i r h0 _ k (by omega)]; exact g.hs k h1 h0 hs0
    · rw [seenH_upd rc k r h0 _ k (Nat.le_refl _), hH]; exact g.hsN h0 hs0
  · have e1 : seenH (upd1 rc i r) h0 (fun _ => true) (i + 1) = fun id => if r.tch id then r.val id else seenH rc h0 (fun _ => true) i id := by
      funext id
      rw [← seenH_upd rc i r h0 (fun _ => true) i (Nat.le_refl _)]
      show (if true && (upd1 rc i r i).tch id then (upd1 rc i r i).val id else _) = _
      rw [upd1_same]; simp only [Bool.true_and]; rfl
    rw [e1]
    exact hs _ (g.hsN h0 hs0)
  · rcases sel k hk with ⟨h1, h2⟩ | ⟨rfl, h2⟩ <;> rw [h2]
    · exact g.ok k h1
    · exact hok
  · rcases sel a ha with ⟨a1, a2⟩ | ⟨rfl, a2⟩
    · rcases sel b hb with ⟨b1, b2⟩ | ⟨rfl, b2⟩
      · rw [a2]; rw [b2] at ht; exact g.c1 a b a1 b1 hne h1 h2 id ht
      · rw [a2]; rw [b2] at ht; exact (hc a a1 h2 h1 id).2 ht
    · rcases sel b hb with ⟨b1, b2⟩ | ⟨rfl, b2⟩
      · rw [a2]; rw [b2] at ht; exact (hc b b1 h1 h2 id).1 ht
      · exact absurd rfl hne

theorem kind_of_call {o : Op} (h : isCall o = true) : kindOf o = .call := by
  cases o <;> simp [isCall] at h
  rename_i c
  obtain ⟨callee, args, types⟩ := c
  cases callee <;> simp at h <;> rfl

theorem view_silent {o : Oper} {r : Operand → Value} (h : kindOf o.op = .silent) : view o r = [] := by
  unfold view
  split
  · rename_i heq; rw [heq] at h; simp [kindOf] at h
  · rename_i heq; rw [heq] at h; simp [kindOf] at h
  · rename_i heq; rw [heq] at h; simp [kindOf] at h
  · rfl

theorem aMem_silent {P : Program} {tv : Nat → Option TV} {o : Oper} {r : Operand → Value} {H : Tr AO} {n n' : Nat} {v : Value} {d : Dl} (h : kindOf o.op = .silent) (ha : aMem P tv lo o r H n = some (v, d, n')) : d = [] ∧ n' = n := by
  have hk : ∀ x, kept n x = some (v, d, n') → d = [] ∧ n' = n := fun x hx => by
    unfold kept at hx; split at hx <;> cases hx; exact ⟨rfl, rfl⟩
  unfold aMem at ha
  split at ha
  · rename_i heq; rw [heq] at h; simp [kindOf] at h
  · rename_i heq; rw [heq] at h; simp [kindOf] at h
  · rename_i heq; rw [heq] at h; simp [kindOf] at h
  · rename_i heq; rw [heq] at h; simp [kindOf] at h
  · rename_i heq; rw [heq] at h; simp [kindOf] at h
  · rename_i heq; rw [heq] at h; simp [kindOf] at h
  · rename_i c heq
    unfold aMemB at ha
    split at ha
    · rw [heq] at h; simp [kindOf] at h
    · exact hk _ ha
  · exact hk _ ha

/-- an operation that is no writer touches only what it makes -/
theorem aMem_writes {P : Program} {tv : Nat → Option TV} {o : Oper} {r : Operand → Value} {H : Tr AO} {n n' : Nat} {v : Value} {d : Dl} (hlo : lo ≤ n) (ha : aMem P tv lo o r H n = some (v, d, n')) : ∀ e ∈ d, (n ≤ e.1 ∧ e.1 < n') ∨ (isWriter o.op = true ∧ e.1 ∈ view o r) := by
  have hk : ∀ x, kept n x = some (v, d, n') → ∀ e ∈ d, (n ≤ e.1 ∧ e.1 < n') ∨ (isWriter o.op = true ∧ e.1 ∈ view o r) := fun x hx => by
    unfold kept at hx; split at hx <;> cases hx; intro e he; simp at he
  have hm : ∀ x, made n x = some (v, d, n') → ∀ e ∈ d, (n ≤ e.1 ∧ e.1 < n') ∨ (isWriter o.op = true ∧ e.1 ∈ view o r) := fun x hx => by
    unfold made at hx; split at hx <;> cases hx
    intro e he; simp at he; subst he; exact .inl ⟨by simp, by simp⟩
  unfold aMem at ha
  split at ha
  · exact hk _ ha
  · exact hm _ ha
  · exact hm _ ha
  · exact hm _ ha
  · exact hm _ ha
  · rename_i t a x heq
    unfold stored at ha
    split at ha
    · rename_i d' hst
      cases ha
      replace hst := aStore_eq hst
      unfold aStore0 at hst
      split at hst
      · rename_i b o' hra
        split at hst
        · split at hst
          · cases hst
            intro e he
            simp at he; subst he
            refine .inr ⟨by rw [heq]; rfl, ?_⟩
            unfold view; rw [heq]; simp [hra, idOf]
          · cases hst
        · cases hst
      · cases hst
    · cases ha
  · rename_i c heq
    unfold aMemB at ha
    split at ha
    · rename_i args types
      intro e he
      have key : (n ≤ e.1 ∧ e.1 < n') ∨ ∃ x ∈ args, ∃ o l c, r x = .slice (some ⟨e.1, o, none⟩) l c := aAppend_keys ha e he
      rcases key with h1 | ⟨x, hx, o', l, c, h1⟩
      · exact .inl h1
      · refine .inr ⟨by rw [heq]; rfl, ?_⟩
        unfold view; rw [heq]
        simp only [List.mem_flatMap]
        exact ⟨x, by simpa using hx, by simp [h1, idOf]⟩
    · exact hk _ ha
  · exact hk _ ha
end
end Go.Proofs.Ytkjceegmmhnajaa
