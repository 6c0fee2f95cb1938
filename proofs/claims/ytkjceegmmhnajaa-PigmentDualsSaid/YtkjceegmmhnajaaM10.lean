/- The second machine is sound. -/
import Derived.Test.YtkjceegmmhnajaaM9f
import Derived.RangeFuncNested
namespace Go.Proofs.Ytkjceegmmhnajaa
open Go.RowKit

theorem slotsOf_ar {p : Nat → Option (Nat × Nat)} {T : Tr Value} {sz : Nat} {tm : Array Value} (h : TR p T sz tm) : AR p (slotsOf T sz) tm := by
  have e1 : slotsOf T sz = (Array.range sz).map (tget T) := by
    apply Array.toList_inj.1
    simp [slotsOf, mapQ_eq]
  rw [e1]
  refine AR.of_lt (by simp [h.size]) fun i hi => ?_
  have hi' : i < sz := by simpa using hi
  have := h.get i
  simpa [Array.getD, hi'] using this

/-- what a range over a function leaves -/
theorem rangeF_ok {E : Env} {ex : Exe} (hE : EnvOk E) (hs : Sound E ex) {lo : Nat} {ro : Option Nat} {f : Operand} {ps : Array Tmp} {assign body : Code} {s s' : St} {e : Ex} (hc : rangeF E ex lo ro f ps assign body s = some (e, s')) (hlo : lo ≤ s.n) (hwf : Wf s.H s.n) :
    (Mo lo s.H s'.H s.n s'.n ∧ s'.sz = s.sz) ∧ (operandOk f = true → ck assign = true → ck body = true → ∀ {B : Nat} {w0 : World} {p : Nat → Option (Nat × Nat)} {h : Hp} {w : World} {a : Act} {roc : Option Nat} {Q : Exit → Act → World → Prop}, Sub s.H h → Fresh p s.n s'.n → HR B w0 p h w → SR p s a → ROR p ro roc →
      (∀ a' w' q, Ext p q s.n s'.n → HR B w0 q (upH h s.H s'.H s.n s'.n) w' → SR q s' a' → Q e.conc a' w') → (Code.rangeFunc f ps assign body).wpIn (Fw roc) 0 E.P Q a w) := by
  unfold rangeF at hc
  split at hc
  case h_2 => cases hc
  rename_i g fa fc hfv
  split at hc
  case h_2 => cases hc
  rename_i D l H hent
  split at hc
  case h_2 => cases hc
  rename_i v H' n' hcall
  split at hc
  case h_2 => cases hc
  rename_i r hHl
  split at hc
  case isTrue => cases hc
  rename_i hbusy
  split at hc
  case h_2 => cases hc
  rename_i e' hpe
  cases hc
  -- the entry's memory
  have ent : (ro = none ∧ D = s.n :: s.D ∧ l = s.n + 1 ∧ H = s.H.set s.n .deferred) ∨ (∃ l0 r0, ro = some l0 ∧ s.H.get l0 = some (.loop r0) ∧ D = s.D ∧ l = s.n ∧ H = s.H) := by
    split at hent
    · cases hent; exact .inl ⟨rfl, rfl, rfl, rfl⟩
    · split at hent
      · cases hent; exact .inr ⟨_, _, rfl, by assumption, rfl, rfl, rfl⟩
      · cases hent
  have m1 : Mo lo s.H H s.n l := by
    rcases ent with ⟨_, _, rfl, rfl⟩ | ⟨l0, r0, _, _, _, rfl, rfl⟩
    · exact Mo.new lo s.H s.n _ hlo
    · exact .refl _ _ _
  have hl : lo ≤ l := Nat.le_trans hlo m1.le
  have m2 : Mo lo H (H.set l (.loop { state := .ready, pending := none, fn := 0, tmps := slotsOf s.T s.sz, params := ps, assign := assign, body := body, defers := 0 })) l (l + 1) := Mo.new lo H l _ hl
  have hwf2 := (hwf.up m1).up m2
  obtain ⟨m3, hcs⟩ := callF_ok hE hs hcall (by omega) hwf2
  have m4 : Mo lo H' (H'.set l (.loop { r with state := .exhausted })) n' n' := Mo.set lo H' n' l _ _ hHl hl
  have mall := ((m1.trans m2).trans m3).trans m4
  refine ⟨⟨mall, rfl⟩, ?_⟩
  intro hfok hca hcb B w0 p h w a roc Q hsub hfr hr hsr hror hQ
  dsimp only at hfr hQ
  have hn3 := m3.le
  have hn1 := m1.le
  have hf := evA_ok hsr.t f hfok
  rw [hfv] at hf
  obtain ⟨fa', fc', hfe, har, hcr⟩ : ∃ a' c', a.eval f = .func (.func g) a' c' ∧ AR p fa a' ∧ AR p fc c' := by
    generalize a.eval f = z at hf
    cases hf with
    | func _ h1 h2 h3 h4 => exact ⟨_, _, rfl, ⟨h1, h3⟩, ⟨h2, h4⟩⟩
  obtain ⟨fi, hfi⟩ : ∃ fi, E.fns g = some fi := by
    unfold callF at hcall
    cases e : E.fns g with
    | none => rw [e] at hcall; cases hcall
    | some fi => exact ⟨fi, rfl⟩
  obtain ⟨fn, f1, f2, _, _, _, f6⟩ := hE.fns g fi hfi
  -- from the record on
  have main : ∀ (fnid : Nat) (mark : List Deferred) (w1 : World) (q1 : Nat → Option (Nat × Nat)) (df : Nat), Ext p q1 s.n l → HR B w0 q1 (upH h s.H H s.n l) w1 → DR q1 D (mark ++ a.defers) →
      (Instr.enterLoop fnid a.tmps ps assign body roc).run E.P w = .ok (w1.heap.size, mark) (w1.alloc (.loop { state := .ready, pending := none, fn := fnid, tmps := a.tmps, params := ps, assign := assign, body := body, defers := df })) →
      ∃ (l : Nat) (mark : List Deferred) (w₁ : World) (d : Deferred) (w₁' : World) (f_1 : FuncId) (args : Array Value) (w₂ : World),
        (Instr.enterLoop fnid a.tmps ps assign body (Fw roc).round).run E.P w = .ok (l, mark) w₁ ∧ (resolve a.eval (rangeCall f l) 0).run E.P w₁ = .ok d w₁' ∧
        (∀ f', Target.leads E.P w₁' d.target d.args = some f' → (Fw roc).fn f') ∧ (invoke d.target d.args).run E.P w₁' = .ok (.enter f_1 args) w₂ ∧ ((Fw roc).depth.isSome = true → 1 ≤ 0) ∧
        CallsIn (Fw roc) (0 - 1) E.P f_1 args w₂ (rangePost (Fw roc) 0 E.P l Q { a with defers := mark ++ a.defers }) := by
    intro fnid mark w1 q1 df hx1 hr1 hdr hrun
    have hq1l : q1 l = none := by rw [hx1.out l (by omega)]; exact hfr l (by omega) (by omega)
    let q2 := newp q1 l w1.heap.size 0
    have hx2 : Ext q1 q2 l (l + 1) := ext_new hq1l _ _
    have hx12 := hx1.trans hx2 hn1 (by omega)
    have hr2 : HR B w0 q2 (upH (upH h s.H H s.n l) H (H.set l (.loop { state := .ready, pending := none, fn := 0, tmps := slotsOf s.T s.sz, params := ps, assign := assign, body := body, defers := 0 })) l (l + 1)) (w1.alloc (.loop { state := .ready, pending := none, fn := fnid, tmps := a.tmps, params := ps, assign := assign, body := body, defers := df })) := by
      rw [upH_new (Sub.up hsub m1)]
      exact hr1.new hq1l ⟨rfl, rfl, rfl, rfl, rfl, (slotsOf_ar hsr.t).mono hx12.ext, hca, hcb⟩
    obtain ⟨W, hW⟩ : ∃ W, W = w1.alloc (.loop { state := .ready, pending := none, fn := fnid, tmps := a.tmps, params := ps, assign := assign, body := body, defers := df }) := ⟨_, rfl⟩
    rw [← hW] at hr2 hrun
    have hsub2 := Sub.up (Sub.up hsub m1) m2
    have hyield : VR q2 (.func (.yield l) #[] #[]) (.func (.yield w1.heap.size) #[] #[]) := .yield (k := 0) (by simp [q2, newp])
    refine ⟨w1.heap.size, mark, W, { target := .fn (.func g) fc', args := fa' ++ #[.func (.yield w1.heap.size) #[] #[]] }, W, g, fa' ++ #[.func (.yield w1.heap.size) #[] #[]] ++ fc', W, hrun, ?_, fun _ _ => trivial, ?_, by simp [Fw], ?_⟩
    · have e0 : resolve a.eval (rangeCall f w1.heap.size) 0 = Deferred.ofValue (a.eval f) ((#[.const (.func (.yield w1.heap.size) #[] #[])] : Array Operand).map a.eval) := rfl
      rw [e0, hfe]
      simp [Deferred.ofValue, Act.eval]
    · simp [invoke, callFunc, f1, f2, show ¬ fn.name = "runtime.NumGoroutine" from by simpa using f6]
    · refine hcs hsub2 (fun i h1 h2 => ?_) hr2 (((har.mono hx12.ext).append (AR.one hyield)).append (hcr.mono hx12.ext)) ?_
      · rw [hx12.out i (by omega)]; exact hfr i (by omega) h2
      · intro v' w' q3 _ hx3 hr3
        have hsub3 := Sub.up hsub2 m3
        have hq3l : q3 l = some (w1.heap.size, 0) := hx3.ext l _ (by simp [q2, newp])
        obtain ⟨r', g1, g2, g3, g4, g5⟩ := hr3.loop (hsub3 l _ hHl) hq3l
        have hr4 := hr3.setLoop (st := .exhausted) (pe := r.pending) (hsub3 l _ hHl) hq3l g1
        have e1 : ({ r with state := .exhausted, pending := r.pending } : Loop) = { r with state := .exhausted } := rfl
        have e2 : ({ r' with state := .exhausted, pending := r.pending } : Loop) = { r' with state := .exhausted } := by rw [← g4]
        rw [e1, e2, upH_one hsub3 n' l _ _ hHl, upH_trans m1 m2, upH_trans (m1.trans m2) m3, upH_trans ((m1.trans m2).trans m3) m4] at hr4
        have hx := hx12.trans hx3 (by omega) hn3
        have hfin := hQ { a with defers := mark ++ a.defers } (w'.putObj w1.heap.size (.loop { r' with state := .exhausted })) q3 hx hr4 ⟨hsr.t.mono hx.ext, hdr.mono (fun i b hb => hx3.ext i b (hx2.ext i b hb))⟩
        refine ⟨r.pending, w'.putObj w1.heap.size (.loop { r' with state := .exhausted }), ?_, ?_⟩
        · have := run_endLoop (P := E.P) g1 (by rw [g3]; exact hbusy)
          rw [← g4]; exact this
        · cases hpd : r.pending with
          | none => rw [hpd] at hpe; cases hpe; exact hfin
          | some c =>
            rw [hpd] at hpe
            cases c <;> first | (simp [exOf] at hpe; done) | skip
            · rename_i i
              have : e = .exit i := by simp [exOf] at hpe; exact hpe.symm
              subst this
              exact wpIn_exit hfin
            · have : e = .ret := by simp [exOf] at hpe; exact hpe.symm
              subst this
              exact wpIn_ret hfin
  refine wpIn_rangeFunc fun fnid _ => ?_
  rcases ent with ⟨rfl, rfl, rfl, rfl⟩ | ⟨l0, r0, rfl, hl0, rfl, rfl, rfl⟩
  · have hroc : roc = none := by cases roc with | none => rfl | some x => exact hror.elim
    subst hroc
    have hpn : p s.n = none := hfr s.n (Nat.le_refl _) (by omega)
    have hr1 := hr.new (k := 0) (o := .deferred) (o' := .deferred (some [])) hpn (by exact rfl)
    rw [← upH_new hsub] at hr1
    refine main fnid [{ target := .collected w.heap.size, args := #[] }] (w.alloc (.deferred (some []))) (newp p s.n w.heap.size 0) w.heap.size (ext_new hpn _ _) hr1 ⟨⟨w.heap.size, 0, by simp [newp], rfl⟩, hsr.d.mono (ext_new hpn _ _).ext⟩ ?_
    rw [run_enterLoop_outer]
    simp
  · obtain ⟨lc, rfl, k, hpl⟩ : ∃ lc, roc = some lc ∧ ∃ k, p l0 = some (lc, k) := by
      cases roc with
      | none => exact hror.elim
      | some x => exact ⟨x, rfl, hror⟩
    obtain ⟨r0', g1, _⟩ := hr.loop (hsub l0 _ hl0) hpl
    refine main fnid [] w p r0'.defers (.refl _ _) (by rw [upH_refl hsub]; exact hr) hsr.d ?_
    rw [run_enterLoop_inner g1]

theorem runOps_mo {E : Env} {ex : Exe} (hE : EnvOk E) (hs : Sound E ex) {lo : Nat} {ops : Array Oper} : ∀ (l : List Oper) (T : Tr Value) (sz : Nat) (D : List Nat) (H : Tr AO) (n : Nat) (s' : St), runOps E ex lo ops l T sz D H n = some s' → lo ≤ n → Wf H n → Mo lo H s'.H n s'.n ∧ s'.sz = sz
  | [], T, sz, D, H, n, s', hr, hlo, hwf => by rw [runOps_nil] at hr; cases hr; exact ⟨.refl _ _ _, rfl⟩
  | o :: l, T, sz, D, H, n, s', hr, hlo, hwf => by
    rw [runOps_cons] at hr
    cases hw : aWanted ops T o with
    | false =>
      rw [hw] at hr; dsimp only at hr
      split at hr
      case h_2 => cases hr
      exact runOps_mo hE hs l _ sz D H n s' hr hlo hwf
    | true =>
      rw [hw] at hr; dsimp only at hr
      split at hr
      case h_2 => cases hr
      rename_i v H1 n1 hrun
      split at hr
      case h_2 => cases hr
      have m1 := (opRun_ok hE hs hrun hlo hwf).1
      obtain ⟨m2, z⟩ := runOps_mo hE hs l _ sz D H1 n1 s' hr (Nat.le_trans hlo m1.le) (hwf.up m1)
      exact ⟨m1.trans m2, z⟩

theorem runDraw_mo {E : Env} {ex : Exe} (hE : EnvOk E) (hs : Sound E ex) {lo : Nat} {ops : Array Oper} {bs : Array Nat} : ∀ (l : List Oper) (i : Nat) (T : Tr Value) (sz : Nat) (D : List Nat) (H : Tr AO) (n : Nat) (R : List (Nat × Nat × Nat)) (F : List (Nat × Nat × Bool)) (s' : St), (∀ q ∈ R, q.2.2 ≤ n) → runDraw E ex lo ops bs l i T sz D H n R F = some s' → lo ≤ n → Wf H n → Mo lo H s'.H n s'.n ∧ s'.sz = sz
  | [], i, T, sz, D, H, n, R, F, s', _, hr, hlo, hwf => by rw [runDraw_nil] at hr; cases hr; exact ⟨.refl _ _ _, rfl⟩
  | o :: l, i, T, sz, D, H, n, R, F, s', hR, hr, hlo, hwf => by
    have grow : ∀ n', n ≤ n' → ∀ q ∈ (Bool.rec R ((i, n, n') :: R) (Nat.blt n n') : List (Nat × Nat × Nat)), q.2.2 ≤ n' := fun n' hn q hq => by
      cases hb : Nat.blt n n' with
      | false => rw [hb] at hq; exact Nat.le_trans (hR q hq) hn
      | true =>
        rw [hb] at hq
        rcases List.mem_cons.1 hq with rfl | hq
        · exact Nat.le_refl _
        · exact Nat.le_trans (hR q hq) hn
    rw [runDraw_cons] at hr
    cases hw : aWanted ops T o with
    | false =>
      rw [hw] at hr; dsimp only at hr
      split at hr
      case h_2 => cases hr
      exact runDraw_mo hE hs l (i + 1) _ sz D H n R F s' hR hr hlo hwf
    | true =>
      rw [hw] at hr; dsimp only at hr
      cases hcall : isCall o.op with
      | false =>
        rw [hcall] at hr; dsimp only at hr
        cases hview : allQ (fun b => !(hidden bs i R).contains b && footOk bs i (isWriter o.op) F b) (view o (evA T)) with
        | false => rw [hview] at hr; cases hr
        | true =>
          rw [hview] at hr; dsimp only at hr
          split at hr
          case h_2 => cases hr
          rename_i v d n' ham
          split at hr
          case h_2 => cases hr
          have m1 := Mo.updT (aMem_dl hlo ham)
          obtain ⟨m2, z⟩ := runDraw_mo hE hs l (i + 1) _ sz D _ n' _ _ s' (grow n' m1.le) hr (Nat.le_trans hlo m1.le) (hwf.up m1)
          exact ⟨m1.trans m2, z⟩
      | true =>
        rw [hcall] at hr; dsimp only at hr
        split at hr
        case h_2 => cases hr
        rename_i v H1 n' hrun
        split at hr
        case h_2 => cases hr
        have hglo : (Bool.rec lo n (guarded ops bs i) : Nat) ≤ n := by cases guarded ops bs i; exact hlo; exact Nat.le_refl _
        have hglo2 : lo ≤ (Bool.rec lo n (guarded ops bs i) : Nat) := by cases guarded ops bs i; exact Nat.le_refl _; exact hlo
        have hvis : ∀ id, (delAll (hidden bs i R) H).get id = if id ∈ hidden bs i R then none else H.get id := delAll_get H _
        have m1 := (opRun_ok hE hs hrun hglo (fun id hid => by rw [hvis]; split; rfl; exact hwf id hid)).1
        have hadd : ∀ id, (addAll H (hidden bs i R) H1).get id = if id ∈ hidden bs i R then H.get id else H1.get id := addAll_get H H1 _
        have hmo : Mo lo H (addAll H (hidden bs i R) H1) n n' := ⟨m1.le, fun id hid h0 => by
            rw [hadd]; split
            · exact h0
            · exact m1.gone id hid (by rw [hvis]; split; rfl; exact h0), fun id hid => by
            rw [hadd]; split
            · rfl
            · rename_i hnm
              rw [m1.keep id (by omega), hvis, if_neg hnm]⟩
        obtain ⟨m2, z⟩ := runDraw_mo hE hs l (i + 1) _ sz D _ n' _ _ s' (grow n' hmo.le) hr (Nat.le_trans hlo hmo.le) (hwf.up hmo)
        exact ⟨hmo.trans m2, z⟩

theorem regX_mo {E : Env} {ex : Exe} (hE : EnvOk E) (hs : Sound E ex) {lo : Nat} {ops : Array Oper} {draw : Bool} {s s' : St} {e : Ex} (hc : regX E ex lo ops draw s = some (e, s')) (hlo : lo ≤ s.n) (hwf : Wf s.H s.n) : Mo lo s.H s'.H s.n s'.n ∧ s'.sz = s.sz := by
  obtain ⟨T, sz, D, H, n⟩ := s
  unfold regX doneX at hc
  cases draw with
  | false =>
    dsimp only at hc
    split at hc
    case h_2 => cases hc
    rename_i s1 hrun
    cases hc
    exact runOps_mo hE hs _ T sz D H n _ hrun hlo hwf
  | true =>
    dsimp only at hc
    split at hc
    case h_2 => cases hc
    rename_i s1 hrun
    cases hc
    exact runDraw_mo hE hs _ 0 T sz D H n [] [] _ (fun q hq => by simp at hq) hrun hlo hwf

theorem wpX_of {P : Program} {ro : Option Nat} {c : Code} {Q : Exit → Act → World → Prop} {a : Act} {w : World} (hc : ∀ c', c ≠ .loop c') (h : c.wpIn (Fw ro) 0 P Q a w) : wpX P ro c Q a w := by
  cases c with
  | loop c' => exact absurd rfl (hc c')
  | _ => exact h

theorem region_ok {E : Env} {ex : Exe} (hE : EnvOk E) (hs : Sound E ex) {lo id : Nat} {ops : Array Oper} {draw : Bool} {s s' : St} {e : Ex} (hc : regX E ex lo ops draw s = some (e, s')) (hlo : lo ≤ s.n) (hwf : Wf s.H s.n) (hck : ck (.region id ops draw) = true) :
    (Mo lo s.H s'.H s.n s'.n ∧ s'.sz = s.sz) ∧ ∀ {B : Nat} {w0 : World} {p : Nat → Option (Nat × Nat)} {h : Hp} {w : World} {a : Act} {roc : Option Nat} {Q : Exit → Act → World → Prop}, Sub s.H h → Fresh p s.n s'.n → HR B w0 p h w → SR p s a →
      (∀ a' w' q, Ext p q s.n s'.n → HR B w0 q (upH h s.H s'.H s.n s'.n) w' → SR q s' a' → Q e.conc a' w') → (Code.region id ops draw).wpIn (Fw roc) 0 E.P Q a w := by
  obtain ⟨T, sz, D, H, n⟩ := s
  simp only [ck, Bool.and_eq_true] at hck
  have hok : ∀ o ∈ ops.toList, opOk o = true := fun o ho => Array.all_eq_true_iff_forall_mem.1 hck.1 o (by simpa using ho)
  unfold regX doneX at hc
  dsimp only at hc hlo hwf ⊢
  cases draw with
  | false =>
    dsimp only at hc
    split at hc
    case h_2 => cases hc
    rename_i s1 hrun
    cases hc
    obtain ⟨h1, h2⟩ := runOps_ok hE hs hok ops.toList 0 T sz D H n _ rfl hrun hlo hwf
    refine ⟨h1, ?_⟩
    intro B w0 p h w a roc Q hsub hfr hr hsr hQ
    refine wpIn_region ?_
    rw [List.range_eq_range', show ops.size = ops.toList.length from by simp]
    exact h2 hsub hfr hr hsr hQ
  | true =>
    dsimp only at hc
    split at hc
    case h_2 => cases hc
    rename_i s1 hrun
    cases hc
    have hdr : drawOk ops = true := by simpa using hck.2
    let rc0 : Nat → Rec := fun _ => ⟨default, false, T, H, undef, n, n, fun _ => false, fun _ => none, fun _ => none⟩
    have g0 : Good E ops lo T sz H n rc0 0 T H n := by
      refine ⟨?_, ?_, ?_, ?_, fun t => rfl, ?_, Nat.le_refl _, ?_, ?_, ?_, ?_, ?_, .refl _ _ _, ?_, fun h0 hh => hh, ?_, ?_⟩ <;> (intros; omega)
    have k0 : Kept ops rc0 0 n [] [] := ⟨fun k hk => by omega, fun q hq => by simp at hq, fun k hk => by omega⟩
    obtain ⟨rc, hg, hD, hsz⟩ := runDraw_good hE hs hdr hok hlo hwf ops.toList 0 T D H n [] [] _ rc0 rfl (by simp) hrun g0 k0
    refine ⟨⟨hg.moN, hsz⟩, ?_⟩
    intro B w0 p h w a roc Q hsub hfr hr hsr hQ
    refine draw_ok hE hdr hok hg hsub hfr hr hsr fun a' w' q hx hr' hsr' => hQ a' w' q hx hr' ?_
    obtain ⟨T1, sz1, D1, H1, n1⟩ := s'
    dsimp only at hD hsz hsr'
    subst hD hsz
    exact hsr'
end Go.Proofs.Ytkjceegmmhnajaa
