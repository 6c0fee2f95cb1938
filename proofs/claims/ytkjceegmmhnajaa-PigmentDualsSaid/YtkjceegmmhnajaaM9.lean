/- The second machine is sound: calls and rounds. -/
import Derived.Test.YtkjceegmmhnajaaM8
namespace Go.Proofs.Ytkjceegmmhnajaa
open Go.RowKit

structure Sound (E : Env) (ex : Exe) : Prop where
  mo : ∀ {lo : Nat} {ro : Option Nat} {c : Code} {s s' : St} {e : Ex}, ex lo ro c s = some (e, s') → lo ≤ s.n → Wf s.H s.n → Mo lo s.H s'.H s.n s'.n ∧ s'.sz = s.sz
  ok : ∀ {lo : Nat} {ro : Option Nat} {c : Code} {s s' : St} {e : Ex}, ex lo ro c s = some (e, s') → ck c = true → lo ≤ s.n → Wf s.H s.n →
    ∀ {B : Nat} {w0 : World} {p : Nat → Option (Nat × Nat)} {h : Hp} {w : World} {a : Act} {roc : Option Nat} {Q : Exit → Act → World → Prop}, Sub s.H h → Fresh p s.n s'.n → HR B w0 p h w → SR p s a → ROR p ro roc →
      (∀ a' w' q, Ext p q s.n s'.n → HR B w0 q (upH h s.H s'.H s.n s'.n) w' → SR q s' a' → Q e.conc a' w') → wpX E.P roc c Q a w

theorem TR_init {p : Nat → Option (Nat × Nat)} {args args' : Array Value} (h : AR p args args') {nt : Nat} (hn : args.size ≤ nt) : TR p (Tr.ofList args.toList 0 .e) nt (args' ++ Array.replicate (nt - args'.size) undef) := by
  have hs := h.1
  refine ⟨by simp; omega, fun i => ?_⟩
  have hg : tget (Tr.ofList args.toList 0 .e) i = args.getD i undef := by
    unfold tget
    rw [Tr.get_ofList]
    by_cases hi : i < args.size
    · rw [if_pos (by simpa using hi)]
      simp [Array.getD, hi]
    · rw [if_neg (by simpa using hi)]
      simp [Array.getD, hi, Tr.get_e]
  rw [hg]
  by_cases hi : i < args'.size
  · have : (args' ++ Array.replicate (nt - args'.size) undef).getD i undef = args'.getD i undef := by
      rw [Array.getD_eq_getD_getElem?, Array.getD_eq_getD_getElem?, Array.getElem?_append_left hi]
    rw [this]; exact h.2 i
  · have e1 : (args' ++ Array.replicate (nt - args'.size) undef).getD i undef = undef := by
      rw [Array.getD_eq_getD_getElem?, Array.getElem?_append_right (by omega), Array.getElem?_replicate]
      split <;> rfl
    have e2 : args.getD i undef = undef := by simp [Array.getD, show ¬ i < args.size by omega]
    rw [e1, e2]; exact .und p

theorem gc_get (n : Nat) (H' : Tr AO) : ∀ (f : Nat) (l : List Nat) (H : Tr AO) (i : Nat), (gc n H' f l H).get i = H.get i ∨ (n ≤ i ∧ (gc n H' f l H).get i = H'.get i)
  | 0, l, H, i => .inl rfl
  | f + 1, [], H, i => .inl rfl
  | f + 1, j :: l, H, i => by
    change (Bool.rec (match H.get j with
        | some _ => gc n H' f l H
        | none => match H'.get j with
          | some (.cells c e sz) => gc n H' f (c.toList.foldr (idsV 3) l) (H.set j (.cells c e sz))
          | _ => gc n H' f l H) (gc n H' f l H) (Nat.blt j n) : Tr AO).get i = H.get i ∨ (n ≤ i ∧ (Bool.rec (match H.get j with
        | some _ => gc n H' f l H
        | none => match H'.get j with
          | some (.cells c e sz) => gc n H' f (c.toList.foldr (idsV 3) l) (H.set j (.cells c e sz))
          | _ => gc n H' f l H) (gc n H' f l H) (Nat.blt j n) : Tr AO).get i = H'.get i)
    cases hb : Nat.blt j n with
    | true => exact gc_get n H' f l H i
    | false =>
      dsimp only
      have hj : n ≤ j := Nat.not_lt.1 fun hlt => by rw [show Nat.blt j n = true from Nat.blt_eq.symm ▸ hlt] at hb; cases hb
      split
      · exact gc_get n H' f l H i
      · split
        · rename_i c e sz hc
          rcases gc_get n H' f (c.toList.foldr (idsV 3) l) (H.set j (.cells c e sz)) i with h1 | h1
          · rw [Tr.get_set] at h1
            by_cases e1 : i = j
            · subst e1
              rw [if_pos rfl] at h1
              exact .inr ⟨hj, by rw [h1, hc]⟩
            · rw [if_neg e1] at h1; exact .inl h1
          · exact .inr h1
        · exact gc_get n H' f l H i

noncomputable def loOf (wr : Bool) (lo n : Nat) : Nat := Bool.rec n lo wr

theorem callF_ok {E : Env} {ex : Exe} (hE : EnvOk E) (hs : Sound E ex) {lo g : Nat} {args : Array Value} {H H' : Tr AO} {n n' : Nat} {v : Value} (hc : callF E ex lo g args H n = some (v, H', n')) (hlo : lo ≤ n) (hwf : Wf H n) :
    Mo lo H H' n n' ∧ ∀ {B : Nat} {w0 : World} {p : Nat → Option (Nat × Nat)} {h : Hp} {w : World} {args' : Array Value} {R : Ending → World → Prop} {ro : Option Nat}, Sub H h → Fresh p n n' → HR B w0 p h w → AR p args args' →
      (∀ v' w' q, VR q v v' → Ext p q n n' → HR B w0 q (upH h H H' n n') w' → R (.returned v') w') → CallsIn (Fw ro) 0 E.P g args' w R := by
  unfold callF at hc
  split at hc
  · cases hc
  rename_i body ntmps results wr hg
  cases hsz : Nat.ble (sizeQ args) ntmps with
  | false => rw [hsz] at hc; cases hc
  | true =>
  rw [hsz] at hc
  dsimp only at hc
  have hsz : args.size ≤ ntmps := by rw [← sizeQ_eq]; exact Nat.le_of_ble_eq_true hsz
  obtain ⟨e, s, hex, he, hl⟩ : ∃ e s, ex (loOf wr lo n) none body ⟨Tr.ofList args.toList 0 .e, ntmps, [], H, n⟩ = some (e, s) ∧ (e = .normal ∨ e = .ret) ∧ leave E.tv (loOf wr lo n) wr results H n s = some (v, H', n') := by
    split at hc
    · exact ⟨_, _, by assumption, .inl rfl, hc⟩
    · exact ⟨_, _, by assumption, .inr rfl, hc⟩
    · cases hc
  have hlo1 : loOf wr lo n ≤ n := by cases wr; exact Nat.le_refl _; exact hlo
  obtain ⟨hmo, hszs⟩ := hs.mo hex hlo1 hwf
  dsimp only at hmo hszs
  obtain ⟨T, sz, D, H1, n1⟩ := s
  unfold leave at hl
  dsimp only at hl hmo hszs
  split at hl
  case h_2 => cases hl
  rename_i H2 hud
  split at hl
  case h_2 => cases hl
  rename_i vs hres
  obtain ⟨u1, u2⟩ := undefer_get D H1 H2 hud
  have hmo2 : Mo (loOf wr lo n) H H2 n n1 := ⟨hmo.le, fun i hi h0 => by rw [u2]; split; rfl; exact hmo.gone i hi h0, fun i hi => by
    rw [u2, if_neg]
    · exact hmo.keep i hi
    · intro hd; have := (u1 i hd).1; omega⟩
  -- what is kept
  have key : ∃ Hr, (v, H', n') = (tupled vs, Hr, n1) ∧ Mo lo H Hr n n1 ∧ (∀ i x, Hr.get i = some x → H2.get i = some x ∨ (i < loOf wr lo n ∧ H.get i = some x)) := by
    cases wr with
    | true => cases hl; exact ⟨_, rfl, hmo2, fun i x hx => .inl hx⟩
    | false =>
      cases hgr : isGround (tupled vs) with
      | true =>
        rw [hgr] at hl; cases hl
        refine ⟨_, rfl, ⟨hmo.le, fun i _ h0 => h0, fun i _ => rfl⟩, fun i x hx => .inr ⟨?_, hx⟩⟩
        show i < n
        rcases Nat.lt_or_ge i n with h | h
        · exact h
        · rw [hwf i h] at hx; cases hx
      | false =>
        rw [hgr] at hl; cases hl
        refine ⟨_, rfl, ⟨hmo.le, fun i hi h0 => ?_, fun i hi => ?_⟩, fun i x hx => ?_⟩
        · rcases gc_get n H2 100000 (idsV 4 (tupled vs) []) H i with h1 | ⟨_, h1⟩
          · rw [h1]; exact h0
          · rw [h1]; exact hmo2.gone i hi h0
        · rcases gc_get n H2 100000 (idsV 4 (tupled vs) []) H i with h1 | ⟨h2, h1⟩
          · exact h1
          · omega
        · rcases gc_get n H2 100000 (idsV 4 (tupled vs) []) H i with h1 | ⟨h2, h1⟩
          · rw [h1] at hx
            refine .inr ⟨?_, hx⟩
            show i < n
            rcases Nat.lt_or_ge i n with h | h
            · exact h
            · rw [hwf i h] at hx; cases hx
          · rw [h1] at hx; exact .inl hx
  obtain ⟨Hr, heq, hmor, hsubr⟩ := key
  cases heq
  refine ⟨hmor, ?_⟩
  intro B w0 p h w args' R ro hsub hfr hr har hR
  obtain ⟨fn, f1, f2, f3, f4, f5, f6⟩ := hE.fns g _ hg
  dsimp only at f2 f3 f4 f5
  have hwp : body.wpIn (Fw none) 0 E.P (bodyPostM (Fw none) 0 E.P fn R) { tmps := args' ++ Array.replicate (fn.ntmps - args'.size) undef, defers := [] } w := by
    refine wpX_wp (hs.ok hex f5 hlo1 hwf (p := p) (h := h) (B := B) (w0 := w0) hsub hfr hr ⟨by rw [f3]; exact TR_init har hsz, trivial⟩ (by exact trivial) ?_)
    intro a' w' q hx hr' hsr
    have hfin : LeavesInM (Fw none) 0 E.P fn a'.tmps R a'.defers .returning w' := by
      refine leaves_ok hE.tv f4 hsr.t D a'.defers H1 H2 _ w' hsr.d hud hres (Sub.up hsub hmo) hr' (fun v' w'' hv hr'' => hR v' w'' q hv hx (hr''.sub fun i x hi => ?_))
      unfold upH at hi
      split at hi
      · rename_i hcond
        have : i ∉ D ∧ H1.get i = some x := by
          rcases hsubr i x hi with h1 | ⟨h1, h2⟩
          · rw [u2] at h1
            split at h1
            · cases h1
            · exact ⟨by assumption, h1⟩
          · refine ⟨fun hd => ?_, ?_⟩
            · have := (u1 i hd).1; omega
            · rw [hmo.keep i h1]; exact h2
        rw [if_neg this.1]
        unfold upH
        rw [if_pos hcond]; exact this.2
      · rename_i hcond
        simp only [Bool.or_eq_true, Bool.and_eq_true, decide_eq_true_eq, not_or] at hcond
        have h0 : H.get i = none := by cases e : H.get i with | none => rfl | some o => simp [e] at hcond
        have hnd : i ∉ D := fun hd => by
          have := (u1 i hd).2
          rw [hmo.gone i hcond.2 h0] at this; cases this
        rw [if_neg hnd]
        unfold upH
        rw [if_neg (by simp only [Bool.or_eq_true, Bool.and_eq_true, decide_eq_true_eq, not_or]; exact hcond)]; exact hi
    rcases he with rfl | rfl
    · exact hfin
    · exact hfin
  exact callsIn_of_wp_marks (F := Fw none) f1 f2 trivial hwp

theorem setParams_ar {p : Nat → Option (Nat × Nat)} : ∀ (ts : List Nat) (as as' : List Value) (T T' : Array Value), as.length = as'.length → (∀ (i : Nat) (v v' : Value), as[i]? = some v → as'[i]? = some v' → VR p v v') → AR p T T' → AR p (setParams ts as T) (setParams ts as' T')
  | [], as, as', T, T', _, _, h => by cases as <;> cases as' <;> exact h
  | t :: ts, [], [], T, T', _, _, h => h
  | t :: ts, [], _ :: _, T, T', hl, _, h => by simp at hl
  | t :: ts, _ :: _, [], T, T', hl, _, h => by simp at hl
  | t :: ts, a :: as, a' :: as', T, T', hl, hv, h =>
    setParams_ar ts as as' _ _ (by simpa using hl) (fun i v v' h1 h2 => hv (i + 1) v v' (by simpa using h1) (by simpa using h2)) (h.set (hv 0 a a' rfl rfl) t)
theorem setParams_eq : ∀ (ts : List Nat) (as : List Value) (T : Array Value), setParams ts as T = (ts.zip as).foldl (fun tmps (t, a) => tmps.setIfInBounds t a) T
  | [], _, _ => by simp [setParams]
  | _ :: _, [], _ => by simp [setParams]
  | t :: ts, a :: as, T => by rw [setParams, setParams_eq ts as]; simp
theorem setParams_size : ∀ (ts : List Nat) (as : List Value) (T : Array Value), (setParams ts as T).size = T.size
  | [], _, _ => by simp [setParams]
  | _ :: _, [], _ => by simp [setParams]
  | t :: ts, a :: as, T => by rw [setParams, setParams_size ts as]; simp

theorem TR_of_ar {p : Nat → Option (Nat × Nat)} {a a' : Array Value} (h : AR p a a') : TR p (Tr.ofList a.toList 0 .e) a'.size a' := by
  have := TR_init h (nt := a'.size) (by rw [h.1]; exact Nat.le_refl _)
  simpa using this

theorem HR.loop {B : Nat} {w0 w : World} {p : Nat → Option (Nat × Nat)} {h : Hp} (hr : HR B w0 p h w) {i b k : Nat} {l : Loop} (hi : h i = some (.loop l)) (hb : p i = some (b, k)) :
    ∃ l', w.heap[b]? = some (.loop l') ∧ b < w.heap.size ∧ l'.state = l.state ∧ l'.pending = l.pending ∧ l'.params = l.params ∧ l'.assign = l.assign ∧ l'.body = l.body ∧ AR p l.tmps l'.tmps ∧ ck l.assign = true ∧ ck l.body = true := by
  obtain ⟨b', k', o', h1, _, h3, h4⟩ := hr.ob i _ hi
  rw [hb] at h1; cases h1
  cases o' with
  | loop l' => exact ⟨l', h3, (Array.getElem?_eq_some_iff.1 h3).1, h4⟩
  | _ => exact h4.elim

theorem HR.setLoop {B : Nat} {w0 w : World} {p : Nat → Option (Nat × Nat)} {h : Hp} (hr : HR B w0 p h w) {i b k : Nat} {l : Loop} {l' : Loop} {st : LoopState} {pe : Option Code} (hi : h i = some (.loop l)) (hb : p i = some (b, k)) (hl : w.heap[b]? = some (.loop l')) :
    HR B w0 p (fun j => if j = i then some (.loop { l with state := st, pending := pe }) else h j) (w.putObj b (.loop { l' with state := st, pending := pe })) := by
  obtain ⟨l'', g1, g2, g3⟩ := hr.loop hi hb
  rw [hl] at g1; cases g1
  exact hr.put (o' := .loop { l' with state := st, pending := pe }) hi hb (by exact ⟨rfl, rfl, g3.2.2⟩) (by simp) (fun k hk => World.putObj_heap_other hk) (World.putObj_heap_same g2) rfl rfl rfl
end Go.Proofs.Ytkjceegmmhnajaa
