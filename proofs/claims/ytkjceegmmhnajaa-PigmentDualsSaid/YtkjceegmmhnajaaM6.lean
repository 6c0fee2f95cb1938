/- The second machine: one operation that calls nothing. -/
import Derived.Test.YtkjceegmmhnajaaM5d
namespace Go.Proofs.Ytkjceegmmhnajaa
open Go.RowKit

def idOf : Value → List Nat
  | .pointer (some a) => [a.block]
  | .slice (some a) _ _ => [a.block]
  | _ => []

/-- the names whose memory an operation looks at -/
def view (o : Oper) (r : Operand → Value) : List Nat :=
  match o.op with
  | .load _ a => idOf (r a)
  | .store _ a _ => idOf (r a)
  | .call { callee := .builtin .append, args, .. } => args.toList.flatMap fun x => idOf (r x)
  | _ => []

noncomputable def made (n : Nat) (x : Option (Value × AO)) : Option (Value × Dl × Nat) := match x with
  | some (v, ob) => some (v, [(n, some ob)], Nat.succ n)
  | none => none
noncomputable def kept (n : Nat) (x : Option Value) : Option (Value × Dl × Nat) := match x with
  | some v => some (v, [], n)
  | none => none
noncomputable def stored (n : Nat) (x : Option Dl) : Option (Value × Dl × Nat) := match x with
  | some d => some (undef, d, n)
  | none => none
noncomputable def aMemB (P : Program) (tv : Nat → Option TV) (lo : Nat) (o : Oper) (r : Operand → Value) (H : Tr AO) (n : Nat) (c : Call) : Option (Value × Dl × Nat) := match c with
  | { callee := .builtin .append, args, argTypes } => aAppend tv lo args argTypes r H n
  | _ => kept n (aSil P tv o r)

noncomputable def aMem (P : Program) (tv : Nat → Option TV) (lo : Nat) (o : Oper) (r : Operand → Value) (H : Tr AO) (n : Nat) : Option (Value × Dl × Nat) :=
  match o.op with
  | .load t a => kept n (aLoad tv t (r a) H)
  | .alloc e => made n (aMake tv (.alloc e) r n)
  | .box e x => made n (aMake tv (.box e x) r n)
  | .buildSlice t len parts => made n (aMake tv (.buildSlice t len parts) r n)
  | .makeSlice t l c => made n (aMake tv (.makeSlice t l c) r n)
  | .store t a x => stored n (aStore tv lo t (r a) (r x) H)
  | .call c => aMemB P tv lo o r H n c
  | _ => kept n (aSil P tv o r)

def Gives (P : Program) (s : Sem Next) (w : World) (v : Value) (w' : World) : Prop := s.run P w = .ok (.value v) w' ∨ (s.run P w = .ok .skip w' ∧ v = undef)

section
variable {P : Program} {tv : Nat → Option TV} {p : Nat → Option (Nat × Nat)} {r r' : Operand → Value}

theorem aMem_dl {lo n n' : Nat} {o : Oper} {H : Tr AO} {v : Value} {d : Dl} (hlo : lo ≤ n) (ha : aMem P tv lo o r H n = some (v, d, n')) : DlOk lo H d n n' := by
  have dl1 : ∀ x : AO, DlOk lo H [(n, some x)] n (n + 1) := fun x => ⟨by omega, fun e he => by simp at he; subst he; exact ⟨hlo, .inr ⟨by simp, by simp⟩⟩, fun i h1 h2 => ⟨_, List.mem_singleton.2 rfl, by simp; omega⟩⟩
  have hk : ∀ x, kept n x = some (v, d, n') → DlOk lo H d n n' := fun x hx => by
    unfold kept at hx; split at hx <;> cases hx; exact .nil _ _ _
  have hm : ∀ x, made n x = some (v, d, n') → DlOk lo H d n n' := fun x hx => by
    unfold made at hx; split at hx <;> cases hx; exact dl1 _
  unfold aMem at ha
  split at ha
  · exact hk _ ha
  · exact hm _ ha
  · exact hm _ ha
  · exact hm _ ha
  · exact hm _ ha
  · unfold stored at ha
    split at ha
    · rename_i t a x _ d' hst
      cases ha
      replace hst := aStore_eq hst
      unfold aStore0 at hst
      split at hst
      · split at hst
        · rename_i hc _
          split at hst
          · rename_i hcond
            cases hst
            exact ⟨Nat.le_refl _, fun e he => by simp at he; subst he; exact ⟨hcond.1, .inl (by simp [hc])⟩, fun i h1 h2 => by omega⟩
          · cases hst
        · cases hst
      · cases hst
    · cases ha
  · unfold aMemB at ha
    split at ha
    · exact aAppend_dl hlo ha
    · exact hk _ ha
  · exact hk _ ha

theorem aMem_ok (hT : TvOk P tv) {B : Nat} {w0 w : World} {h : Hp} (hr : HR B w0 p h w) {lo n n' : Nat} {o : Oper} {H : Tr AO} {v : Value} {d : Dl}
    (hn : ∀ i, n ≤ i → i < n' → p i = none) (hlo : lo ≤ n) (hS : ∀ b ∈ view o r, ∀ y, H.get b = some y → h b = some y) (hv : ∀ x ∈ o.op.operands, VR p (r x) (r' x))
    (ha : aMem P tv lo o r H n = some (v, d, n')) :
    DlOk lo H d n n' ∧ ∃ v' w' q, Gives P (execOp r' o) w v' w' ∧ VR q v v' ∧ Ext p q n n' ∧ HR B w0 q (upd h d) w' := by
  have dl1 : ∀ x : AO, DlOk lo H [(n, some x)] n (n + 1) := fun x => ⟨by omega, fun e he => by simp at he; subst he; exact ⟨hlo, .inr ⟨by simp, by simp⟩⟩, fun i h1 h2 => ⟨_, List.mem_singleton.2 rfl, by simp; omega⟩⟩
  have make : ∀ ob, aMake tv o.op r n = some (v, ob) → d = [(n, some ob)] → n' = n + 1 →
      DlOk lo H d n n' ∧ ∃ v' w' q, Gives P (execOp r' o) w v' w' ∧ VR q v v' ∧ Ext p q n n' ∧ HR B w0 q (upd h d) w' := fun ob hm hd hn' => by
    subst hd hn'
    have hn0 := hn n (Nat.le_refl _) (by omega)
    obtain ⟨v', o', h1, h2, h3⟩ := aMake_ok hT (w := w) hn0 hv hm
    exact ⟨dl1 _, v', _, _, .inl h1, h2, ext_new hn0 _ _, hr.new hn0 h3⟩
  have sil : aSil P tv o r = some v → d = [] → n' = n →
      DlOk lo H d n n' ∧ ∃ v' w' q, Gives P (execOp r' o) w v' w' ∧ VR q v v' ∧ Ext p q n n' ∧ HR B w0 q (upd h d) w' := fun hs hd hn' => by
    subst hd hn'
    obtain ⟨v', h1, h2⟩ := aSil_ok hT hv hs
    exact ⟨.nil _ _ _, v', w, p, .inl (h1 w), h2, Ext.refl _ _, hr⟩
  have silx : ∀ x : Option Value, x = aSil P tv o r → kept n x = some (v, d, n') →
      DlOk lo H d n n' ∧ ∃ v' w' q, Gives P (execOp r' o) w v' w' ∧ VR q v v' ∧ Ext p q n n' ∧ HR B w0 q (upd h d) w' := fun x hx hm => by
    cases x with
    | none => cases hm
    | some u => cases hm; exact sil hx.symm rfl rfl
  obtain ⟨dst, op, type, pos, after, guard⟩ := o
  unfold aMem at ha
  cases op <;> (try (exact silx _ rfl ha)) <;> simp only at ha
  case load t a =>
    unfold kept at ha
    split at ha
    · rename_i u hl
      cases ha
      obtain ⟨v', h1, h2⟩ := aLoad_ok hT hr (fun b o e => hS b (by simp [view, e, idOf])) (hv a (by simp [Op.operands])) hl
      refine ⟨.nil _ _ _, v', w, p, .inl ?_, h2, Ext.refl _ _, hr⟩
      simp only [execOp, Sem.run_bind, h1, Result.andThen_ok, Sem.run_pure]
    · cases ha
  case store t a x =>
    unfold stored at ha
    split at ha
    · rename_i d' hl
      cases ha
      obtain ⟨b, o, c, w', e1, e2, e3, o', e4, e5, e6⟩ := aStore_ok hT hr (fun b o e => hS b (by simp [view, e, idOf])) (hv a (by simp [Op.operands])) (hv x (by simp [Op.operands])) hl
      refine ⟨?_, undef, w', p, .inr ⟨?_, rfl⟩, .und p, Ext.refl _ _, e6⟩
      · subst e4
        exact ⟨Nat.le_refl _, fun e he => by simp at he; subst he; exact ⟨e2, .inl (by simp [e3])⟩, fun i h1 h2 => by omega⟩
      · simp only [execOp, Sem.run_bind, e5, Result.andThen_ok, Sem.run_pure]
    · cases ha
  case alloc => unfold made at ha; split at ha <;> cases ha; exact make _ (by assumption) rfl rfl
  case box => unfold made at ha; split at ha <;> cases ha; exact make _ (by assumption) rfl rfl
  case buildSlice => unfold made at ha; split at ha <;> cases ha; exact make _ (by assumption) rfl rfl
  case makeSlice => unfold made at ha; split at ha <;> cases ha; exact make _ (by assumption) rfl rfl
  case call c =>
    obtain ⟨callee, args, argTypes⟩ := c
    cases callee with
    | builtin b =>
      cases b <;> (try (exact silx _ rfl ha))
      case append =>
        simp only [aMemB] at ha
        obtain ⟨h1, v', w', q, h2, h3⟩ := aAppend_ok hT (type := type) hr hn hlo (fun x hx b o l c e => hS b (by
          simp only [view, List.mem_flatMap]
          exact ⟨x, by simpa using hx, by simp [e, idOf]⟩)) (fun x hx => hv x (by simp [Op.operands, Call.operands]; exact hx)) ha
        refine ⟨h1, v', w', q, .inl ?_, h3⟩
        simp only [execOp, resolve, invoke, builtin, Sem.run_bind, Sem.run_pure, Result.andThen_ok, h2]
    | value f => exact silx _ rfl ha
    | invoke a b => exact silx _ rfl ha
end
end Go.Proofs.Ytkjceegmmhnajaa
