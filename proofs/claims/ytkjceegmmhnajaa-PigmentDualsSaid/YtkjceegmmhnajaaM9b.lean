/- The second machine is sound: rounds, operations, regions in the text's order. -/
import Derived.Test.YtkjceegmmhnajaaM9
namespace Go.Proofs.Ytkjceegmmhnajaa
open Go.RowKit

theorem upH_one {h : Hp} {H : Tr AO} (hs : Sub H h) (n i : Nat) (o x : AO) (hi : H.get i = some x) : (fun j => if j = i then some o else h j) = upH h H (H.set i o) n n := (upH_set hs n i o x hi).symm

theorem roundF_ok {E : Env} {ex : Exe} (hE : EnvOk E) (hs : Sound E ex) {lo l : Nat} {args : Array Value} {H H' : Tr AO} {n n' : Nat} {v : Value} (hc : roundF ex lo l args H n = some (v, H', n')) (hlo : lo ≤ n) (hwf : Wf H n) :
    Mo lo H H' n n' ∧ ∀ {B : Nat} {w0 : World} {p : Nat → Option (Nat × Nat)} {h : Hp} {w : World} {args' : Array Value} {R : Ending → World → Prop} {ro : Option Nat} {lc k : Nat}, Sub H h → Fresh p n n' → HR B w0 p h w → AR p args args' → p l = some (lc, k) →
      (∀ v' w' q, VR q v v' → Ext p q n n' → HR B w0 q (upH h H H' n n') w' → R (.returned v') w') →
      ∃ r', w.heap[lc]? = some (.loop r') ∧ args'.size = r'.params.size ∧ RoundIn (Fw ro) 0 E.P lc r'.fn ((r'.params.zip args').foldl (fun tmps (t, a) => tmps.setIfInBounds t a) r'.tmps) r'.assign r'.body w R := by
  unfold roundF at hc
  split at hc
  case isFalse => cases hc
  rename_i hll
  split at hc
  case h_2 => cases hc
  rename_i r hHl
  split at hc
  case isFalse => cases hc
  rename_i hsz
  split at hc
  case h_2 => cases hc
  rename_i s1 hex1
  split at hc
  case h_2 => cases hc
  rename_i r1 hHl1
  split at hc
  case isFalse => cases hc
  rename_i hready
  split at hc
  case h_2 => cases hc
  rename_i e s2 hex2
  split at hc
  case h_2 => cases hc
  rename_i r2 hHl2
  cases hc
  obtain ⟨m1, z1⟩ := hs.mo hex1 hlo hwf
  dsimp only at m1 z1
  have hwf1 := hwf.up m1
  have hlo1 : lo ≤ s1.n := Nat.le_trans hlo m1.le
  have m2 : Mo lo s1.H (s1.H.set l (.loop { r1 with state := .busy })) s1.n s1.n := Mo.set lo s1.H s1.n l _ _ hHl1 hll
  have hwf2 := hwf1.up m2
  obtain ⟨m3, z3⟩ := hs.mo hex2 hlo1 hwf2
  dsimp only at m3 z3
  have m4 : Mo lo s2.H (s2.H.set l (.loop { r2 with state := if (jumpOf e).isNone then .ready else .done, pending := jumpOf e })) s2.n s2.n := Mo.set lo s2.H s2.n l _ _ hHl2 hll
  have mall := ((m1.trans m2).trans m3).trans m4
  refine ⟨mall, ?_⟩
  intro B w0 p h w args' R ro lc k hsub hfr hr har hpl hR
  obtain ⟨r', g1, g2, g3, g4, g5, g6, g7, g8, g9, g10⟩ := hr.loop (hsub l _ hHl) hpl
  have hszs : args'.size = r'.params.size := by rw [g5, ← har.1]; exact hsz
  refine ⟨r', g1, hszs, ?_⟩
  have htm : AR p (setParams r.params.toList args.toList r.tmps) ((r'.params.zip args').foldl (fun tmps (t, a) => tmps.setIfInBounds t a) r'.tmps) := by
    have e1 : (r'.params.zip args').foldl (fun tmps (t, a) => tmps.setIfInBounds t a) r'.tmps = setParams r.params.toList args'.toList r'.tmps := by
      rw [setParams_eq, ← Array.foldl_toList, Array.toList_zip, g5]
    rw [e1]
    exact setParams_ar _ _ _ _ _ (by simpa using har.1) (fun i x x' hx hx' => by
      obtain ⟨u, hu, hvr⟩ := har.get i x (by simpa using hx)
      have : u = x' := by simp at hx'; rw [hx'] at hu; cases hu; rfl
      subst this; exact hvr) g8
  have hTR : TR p (Tr.ofList (setParams r.params.toList args.toList r.tmps).toList 0 .e) r.tmps.size ((r'.params.zip args').foldl (fun tmps (t, a) => tmps.setIfInBounds t a) r'.tmps) := by
    have := TR_of_ar htm
    rw [← htm.1, setParams_size] at this
    exact this
  rw [g6, g7]
  show RoundIn (Fw none) 0 E.P lc r'.fn _ r.assign r.body w R
  refine roundIn_of_wpIn (F := Fw none) trivial ?_
  show r.assign.wpIn (Fw (some lc)) 0 E.P _ _ _
  have hfr1 : Fresh p n s1.n := hfr.left (Nat.le_trans m3.le (Nat.le_refl _))
  refine wpX_wp (hs.ok hex1 g9 hlo hwf (p := p) (h := h) (B := B) (w0 := w0) hsub hfr1 hr ⟨hTR, trivial⟩ (show ROR p (some l) (some lc) from ⟨k, hpl⟩) ?_)
  intro a1 w1 q1 hx1 hr1 hs1
  dsimp only at hx1 hr1
  have hsub1 : Sub s1.H (upH h H s1.H n s1.n) := Sub.up hsub m1
  have hpl1 := hx1.ext l _ hpl
  obtain ⟨b1, c1, c2, c3, c4, c5, c6, c7, c8, c9, c10⟩ := hr1.loop (hsub1 l _ hHl1) hpl1
  have hr2 := hr1.setLoop (st := .busy) (pe := r1.pending) (hsub1 l _ hHl1) hpl1 c1
  have hpend : b1.pending = r1.pending := c4
  refine ⟨w1.putObj lc (.loop { b1 with state := .busy }), run_beginRound c1 (by rw [c3]; exact hready), ?_⟩
  have e2 : ({ b1 with state := .busy, pending := r1.pending } : Loop) = { b1 with state := .busy } := by rw [← hpend]
  rw [e2] at hr2
  rw [upH_one hsub1 s1.n l _ _ hHl1] at hr2
  have hsub2 : Sub (s1.H.set l (.loop { r1 with state := .busy })) (upH (upH h H s1.H n s1.n) s1.H (s1.H.set l (.loop { r1 with state := .busy })) s1.n s1.n) := Sub.up hsub1 m2
  have hfr2 : Fresh q1 s1.n s2.n := hfr.right m1.le hx1
  show r.body.wpIn (Fw (some lc)) 0 E.P _ _ _
  refine wpX_wp (hs.ok hex2 g10 hlo1 hwf2 (p := q1) (B := B) (w0 := w0) hsub2 hfr2 hr2 ⟨hs1.t, hs1.d⟩ (show ROR q1 (some l) (some lc) from ⟨k, hpl1⟩) ?_)
  intro a2 w2 q2 hx2 hr3 hs2
  dsimp only at hx2 hr3
  have hsub3 := Sub.up hsub2 m3
  have hpl2 := hx2.ext l _ hpl1
  obtain ⟨b2, d1, d2, d3⟩ := hr3.loop (hsub3 l _ hHl2) hpl2
  have hr4 := hr3.setLoop (st := if (jumpOf e).isNone then .ready else .done) (pe := jumpOf e) (hsub3 l _ hHl2) hpl2 d1
  rw [upH_one hsub3 s2.n l _ _ hHl2, upH_trans m1 m2, upH_trans (m1.trans m2) m3, upH_trans ((m1.trans m2).trans m3) m4] at hr4
  have hx := hx1.trans hx2 m1.le m3.le
  have hfin := hR (.bool (jumpOf e).isNone) (w2.putObj lc (.loop { b2 with state := if (jumpOf e).isNone then .ready else .done, pending := jumpOf e })) q2 (.bool _) hx hr4
  have hend := run_endRound (P := E.P) (jumpOf e) d1
  cases e with
  | normal => exact ⟨_, _, hend, hfin⟩
  | exit id => exact ⟨_, _, hend, hfin⟩
  | ret => exact ⟨_, _, hend, hfin⟩

theorem callV_ok {E : Env} {ex : Exe} (hE : EnvOk E) (hs : Sound E ex) {lo : Nat} {f : Value} {args : Array Value} {H H' : Tr AO} {n n' : Nat} {v : Value} (hc : callV E ex lo f args H n = some (v, H', n')) (hlo : lo ≤ n) (hwf : Wf H n) :
    Mo lo H H' n n' ∧ ∀ {B : Nat} {w0 : World} {p : Nat → Option (Nat × Nat)} {h : Hp} {w : World} {f' : Value} {args' : Array Value} {ro : Option Nat} {o : Oper} {a : Act} {K : Act → World → Prop} {Q : Exit → Act → World → Prop}, Sub H h → Fresh p n n' → HR B w0 p h w → VR p f f' → AR p args args' →
      (∀ v' w' q, VR q v v' → Ext p q n n' → HR B w0 q (upH h H H' n n') w' → K (a.put o.dst v') w') →
      o.uponIn (Fw ro) 0 E.P a K Q ((do let d ← Deferred.ofValue f' args'; invoke d.target d.args : Sem Next).run E.P w) := by
  unfold callV at hc
  split at hc
  · rename_i g a c
    obtain ⟨m, hcall⟩ := callF_ok hE hs hc hlo hwf
    refine ⟨m, ?_⟩
    intro B w0 p h w f' args' ro o act K Q hsub hfr hr hf har hR
    obtain ⟨a', c', rfl, ha, hcc⟩ : ∃ a' c', f' = .func (.func g) a' c' ∧ AR p a a' ∧ AR p c c' := by
      cases hf with
      | func _ h1 h2 h3 h4 => exact ⟨_, _, rfl, ⟨h1, h3⟩, ⟨h2, h4⟩⟩
    obtain ⟨fi, hfi⟩ : ∃ fi, E.fns g = some fi := by
      unfold callF at hc
      cases e : E.fns g with
      | none => rw [e] at hc; cases hc
      | some fi => exact ⟨fi, rfl⟩
    obtain ⟨fn, f1, f2, _, _, _, f6⟩ := hE.fns g fi hfi
    have hrun : (do let d ← Deferred.ofValue (.func (.func g) a' c') args'; invoke d.target d.args : Sem Next).run E.P w = .ok (.enter g (a' ++ args' ++ c')) w := by
      simp [Deferred.ofValue, invoke, callFunc, f1, f2, show ¬ fn.name = "runtime.NumGoroutine" from by simpa using f6]
    rw [hrun, catQ_eq, catQ_eq] at *
    refine ⟨by simp [Fw], ?_⟩
    refine hcall hsub hfr hr ((ha.append har).append hcc) fun v' w' q hv hx hr' => ?_
    exact hR v' w' q hv hx hr'
  · rename_i l a c
    obtain ⟨m, hround⟩ := roundF_ok hE hs hc hlo hwf
    refine ⟨m, ?_⟩
    intro B w0 p h w f' args' ro o act K Q hsub hfr hr hf har hR
    obtain ⟨l', k, rfl, hl⟩ : ∃ l' k, f' = .func (.yield l') #[] #[] ∧ p l = some (l', k) := by
      cases hf with
      | yield h1 => exact ⟨_, _, rfl, h1⟩
    obtain ⟨r', h1, h2, h3⟩ := hround (R := fun
      | .returned v, w'' => K (act.put o.dst v) w''
      | .panicked chain, w'' => Q (.panic chain) act w''
      | .outgrown, _ => LetsOut Q) (ro := ro) hsub hfr hr har hl (fun v' w' q hv hx hr' => hR v' w' q hv hx hr')
    have hrun : (do let d ← Deferred.ofValue (.func (.yield l') #[] #[]) args'; invoke d.target d.args : Sem Next).run E.P w = .ok (.round l' r'.fn ((r'.params.zip args').foldl (fun tmps (t, a) => tmps.setIfInBounds t a) r'.tmps) r'.assign r'.body) w := by
      have := run_yield (P := E.P) h1 h2
      simp only [Deferred.ofValue, invoke, Sem.run_bind, Sem.run_pure, Result.andThen_ok, Array.empty_append, this]
    rw [hrun]
    exact ⟨by simp [Fw], h3⟩
  · cases hc

theorem about_ok {ro : Option Nat} {P : Program} {o : Oper} {a : Act} {w : World} : ∀ f, o.about P w a.eval = some f → (Fw ro).fn f := fun _ _ => trivial

/-- an operation -/
theorem opRun_ok {E : Env} {ex : Exe} (hE : EnvOk E) (hs : Sound E ex) {lo : Nat} {o : Oper} {T : Tr Value} {H H' : Tr AO} {n n' : Nat} {v : Value} (hc : opRun E ex lo o T H n = some (v, H', n')) (hlo : lo ≤ n) (hwf : Wf H n) :
    Mo lo H H' n n' ∧ ∀ {B : Nat} {w0 : World} {p : Nat → Option (Nat × Nat)} {h : Hp} {w : World} {ro : Option Nat} {a : Act} {K : Act → World → Prop} {Q : Exit → Act → World → Prop}, Sub H h → Fresh p n n' → HR B w0 p h w → (∀ x ∈ o.op.operands, VR p (evA T x) (a.eval x)) →
      (∀ v' w' q, VR q v v' → Ext p q n n' → HR B w0 q (upH h H H' n n') w' → K (a.put o.dst v') w') → o.wpIn (Fw ro) 0 E.P a w K Q := by
  have mem : opMem E lo o T H n = some (v, H', n') → Mo lo H H' n n' ∧ ∀ {B : Nat} {w0 : World} {p : Nat → Option (Nat × Nat)} {h : Hp} {w : World} {ro : Option Nat} {a : Act} {K : Act → World → Prop} {Q : Exit → Act → World → Prop}, Sub H h → Fresh p n n' → HR B w0 p h w → (∀ x ∈ o.op.operands, VR p (evA T x) (a.eval x)) →
      (∀ v' w' q, VR q v v' → Ext p q n n' → HR B w0 q (upH h H H' n n') w' → K (a.put o.dst v') w') → o.wpIn (Fw ro) 0 E.P a w K Q := fun hm => by
    unfold opMem at hm
    split at hm
    case h_2 => cases hm
    rename_i v0 d n0 ham
    cases hm
    have hnd : ∀ c, o.op ≠ .defer c := fun c e => by
      unfold aMem at ham; rw [e] at ham; simp [aSil, e, kept] at ham
    have hdl : DlOk lo H d n n' := aMem_dl hlo ham
    refine ⟨Mo.updT hdl, ?_⟩
    intro B w0 p h w ro a K Q hsub hfr hr hops hR
    obtain ⟨_, v', w', q, hg, hv, hx, hr'⟩ := aMem_ok hE.tv hr hfr hlo (fun b hb y hy => hsub b y hy) hops ham
    rw [← upH_updT hsub hdl] at hr'
    refine ⟨about_ok, ?_⟩
    rw [Oper.semAt_eq _ _ _ hnd]
    rcases hg with hg | ⟨hg, rfl⟩
    · rw [hg]; exact hR v' w' q hv hx hr'
    · rw [hg]; exact hR _ w' q hv hx hr'
  unfold opRun at hc
  split at hc
  · rename_i c hop
    unfold opCall at hc
    split at hc
    · rename_i f args types
      obtain ⟨m, hcall⟩ := callV_ok hE hs hc hlo hwf
      refine ⟨m, ?_⟩
      intro B w0 p h w ro a K Q hsub hfr hr hops hR
      rw [hop] at hops
      refine ⟨about_ok, ?_⟩
      rw [Oper.semAt_eq _ _ _ (fun c e => by rw [e] at hop; cases hop)]
      have hexec : execOp a.eval o = (do let d ← Deferred.ofValue (a.eval f) (args.map a.eval); invoke d.target d.args : Sem Next) := by
        unfold execOp; rw [hop]; rfl
      rw [hexec]
      refine hcall hsub hfr hr (hops f (by simp [Op.operands, Call.operands])) ?_ hR
      rw [arr_map]
      exact AR.map_op args fun x hx => hops x (by simp [Op.operands, Call.operands, hx])
    · exact mem hc
  · exact mem hc

theorem aPut_same {T T' : Tr Value} {sz : Nat} {dst : Option Nat} {v : Value} (h : aPut T sz dst v = some T') : True := trivial

section
variable {E : Env} {ex : Exe}
theorem runOps_nil (lo : Nat) (ops : Array Oper) (T : Tr Value) (sz : Nat) (D : List Nat) (H : Tr AO) (n : Nat) : runOps E ex lo ops [] T sz D H n = some ⟨T, sz, D, H, n⟩ := rfl
theorem runOps_cons (lo : Nat) (ops : Array Oper) (o : Oper) (l : List Oper) (T : Tr Value) (sz : Nat) (D : List Nat) (H : Tr AO) (n : Nat) : runOps E ex lo ops (o :: l) T sz D H n =
    Bool.rec (match aPut T sz o.dst undef with
      | some T => runOps E ex lo ops l T sz D H n
      | none => none)
    (match opRun E ex lo o T H n with
      | some (v, H, n) => match aPut T sz o.dst v with
        | some T => runOps E ex lo ops l T sz D H n
        | none => none
      | none => none) (aWanted ops T o) := rfl

theorem operands_ok {p : Nat → Option (Nat × Nat)} {T : Tr Value} {sz : Nat} {a : Act} (ht : TR p T sz a.tmps) {o : Oper} (hok : opOk o = true) : ∀ x ∈ o.op.operands, VR p (evA T x) (a.eval x) := fun x hx =>
  evA_ok ht x (Array.all_eq_true_iff_forall_mem.1 hok x hx)

/-- a region in the text's order -/
theorem runOps_ok (hE : EnvOk E) (hs : Sound E ex) {lo : Nat} {ops : Array Oper} (hok : ∀ o ∈ ops.toList, opOk o = true) : ∀ (l : List Oper) (i : Nat) (T : Tr Value) (sz : Nat) (D : List Nat) (H : Tr AO) (n : Nat) (s' : St), ops.toList.drop i = l → runOps E ex lo ops l T sz D H n = some s' → lo ≤ n → Wf H n →
    (Mo lo H s'.H n s'.n ∧ s'.sz = sz) ∧ ∀ {B : Nat} {w0 : World} {p : Nat → Option (Nat × Nat)} {h : Hp} {w : World} {ro : Option Nat} {a : Act} {Q : Exit → Act → World → Prop}, Sub H h → Fresh p n s'.n → HR B w0 p h w → SR p ⟨T, sz, D, H, n⟩ a →
      (∀ a' w' q, Ext p q n s'.n → HR B w0 q (upH h H s'.H n s'.n) w' → SR q s' a' → Q .normal a' w') → wpOpsIn (Fw ro) 0 E.P ops Q (List.range' i l.length) a w
  | [], i, T, sz, D, H, n, s', _, hr, hlo, hwf => by
    rw [runOps_nil] at hr
    cases hr
    refine ⟨⟨.refl _ _ _, rfl⟩, ?_⟩
    intro B w0 p h w ro a Q hsub hfr hhr hsr hQ
    exact hQ a w p (.refl _ _) (by rw [upH_refl hsub]; exact hhr) hsr
  | o :: l, i, T, sz, D, H, n, s', hd, hr, hlo, hwf => by
    have hoi : ops[i]? = some o := by
      have : ops.toList[i]? = some o := by rw [← List.head?_drop, hd]; rfl
      simpa using this
    have hom : o ∈ ops.toList := List.mem_of_getElem? (by simpa using hoi : ops.toList[i]? = some o)
    have hd' : ops.toList.drop (i + 1) = l := by rw [← List.drop_drop, hd]; rfl
    have hrange : List.range' i (o :: l).length = i :: List.range' (i + 1) l.length := by rw [List.length_cons, List.range'_succ]
    rw [runOps_cons] at hr
    cases hw : aWanted ops T o with
    | false =>
      rw [hw] at hr
      dsimp only at hr
      split at hr
      case h_2 => cases hr
      rename_i T' hput
      obtain ⟨h1, h2⟩ := runOps_ok hE hs hok l (i + 1) T' sz D H n s' hd' hr hlo hwf
      refine ⟨h1, ?_⟩
      intro B w0 p h w ro a Q hsub hfr hhr hsr hQ
      rw [hrange]
      unfold wpOpsIn
      simp only [hoi, aWanted_ok hsr.t, hw, Bool.false_eq_true, if_false]
      exact ⟨about_ok, h2 hsub hfr hhr ⟨aPut_ok hsr.t hput (.und p), by cases o.dst <;> exact hsr.d⟩ hQ⟩
    | true =>
      rw [hw] at hr
      dsimp only at hr
      split at hr
      case h_2 => cases hr
      rename_i v H1 n1 hrun
      split at hr
      case h_2 => cases hr
      rename_i T' hput
      obtain ⟨m1, hop⟩ := opRun_ok hE hs hrun hlo hwf
      obtain ⟨h1, h2⟩ := runOps_ok hE hs hok l (i + 1) T' sz D H1 n1 s' hd' hr (Nat.le_trans hlo m1.le) (hwf.up m1)
      refine ⟨⟨m1.trans h1.1, h1.2⟩, ?_⟩
      intro B w0 p h w ro a Q hsub hfr hhr hsr hQ
      rw [hrange]
      unfold wpOpsIn
      simp only [hoi, aWanted_ok hsr.t, hw, if_true]
      refine hop hsub (hfr.left h1.1.le) hhr (operands_ok hsr.t (hok o hom)) fun v' w' q hv hx hr' => ?_
      refine h2 (Sub.up hsub m1) (hfr.right m1.le hx) hr' ⟨aPut_ok (hsr.t.mono hx.ext) hput hv, by cases o.dst <;> exact hsr.d.mono hx.ext⟩ fun a' w'' q' hx' hr'' hsr' => ?_
      rw [upH_trans m1 h1.1] at hr''
      exact hQ a' w'' q' (hx.trans hx' m1.le h1.1.le) hr'' hsr'
end
end Go.Proofs.Ytkjceegmmhnajaa
