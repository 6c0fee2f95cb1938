/- Regions that draw their order: the second machine is sound. -/
import Derived.Test.YtkjceegmmhnajaaM9e
namespace Go.Proofs.Ytkjceegmmhnajaa
open Go.RowKit
section
variable {E : Env} {ex : Exe} {ops : Array Oper} {lo : Nat} {T0 : Tr Value} {sz : Nat} {H0 : Tr AO} {n0 : Nat}

theorem runDraw_nil (bs : Array Nat) (i : Nat) (T : Tr Value) (sz : Nat) (D : List Nat) (H : Tr AO) (n : Nat) (R : List (Nat × Nat × Nat)) (F : List (Nat × Nat × Bool)) : runDraw E ex lo ops bs [] i T sz D H n R F = some ⟨T, sz, D, H, n⟩ := rfl
theorem runDraw_cons (bs : Array Nat) (o : Oper) (l : List Oper) (i : Nat) (T : Tr Value) (sz : Nat) (D : List Nat) (H : Tr AO) (n : Nat) (R : List (Nat × Nat × Nat)) (F : List (Nat × Nat × Bool)) : runDraw E ex lo ops bs (o :: l) i T sz D H n R F =
    Bool.rec (match aPut T sz o.dst undef with
      | some T => runDraw E ex lo ops bs l (i + 1) T sz D H n R F
      | none => none)
    (Bool.rec
      (Bool.rec none
        (match aMem E.P E.tv lo o (evA T) H n with
          | some (v, d, n') => match aPut T sz o.dst v with
            | some T' => runDraw E ex lo ops bs l (i + 1) T' sz D (updT H d) n' (Bool.rec R ((i, n, n') :: R) (Nat.blt n n')) (appQ (mapQ (fun b => (i, b, isWriter o.op)) (view o (evA T))) F)
            | none => none
          | none => none)
        (allQ (fun b => !(hidden bs i R).contains b && footOk bs i (isWriter o.op) F b) (view o (evA T))))
      (match opRun E ex (Bool.rec lo n (guarded ops bs i)) o T (delAll (hidden bs i R) H) n with
        | some (v, H', n') => match aPut T sz o.dst v with
          | some T => runDraw E ex lo ops bs l (i + 1) T sz D (addAll H (hidden bs i R) H') n' (Bool.rec R ((i, n, n') :: R) (Nat.blt n n')) F
          | none => none
        | none => none)
      (isCall o.op))
    (aWanted ops T o) := rfl

/-- what the lists kept by the way say of what is done -/
structure Kept (ops : Array Oper) (rc : Nat → Rec) (i : Nat) (n : Nat) (R : List (Nat × Nat × Nat)) (F : List (Nat × Nat × Bool)) : Prop where
  r1 : ∀ k, k < i → (rc k).n < (rc k).m → (k, (rc k).n, (rc k).m) ∈ R
  r2 : ∀ q ∈ R, q.2.2 ≤ n
  jk : ∀ k, k < i → (rc k).wd = true →
    (isCall (rc k).o.op = false ∧ (∀ id y, (rc k).need id = some y → (k, id, isWriter (rc k).o.op) ∈ F) ∧ (∀ id, (rc k).tch id = true → ((rc k).n ≤ id ∧ id < (rc k).m) ∨ (isWriter (rc k).o.op = true ∧ (k, id, true) ∈ F)) ∧
      (kindOf (rc k).o.op = .silent → (∀ id, (rc k).need id = none) ∧ ∀ id, (rc k).tch id = false)) ∨
    (isCall (rc k).o.op = true ∧ ∀ id, (rc k).tch id = true → ((rc k).n ≤ id ∧ id < (rc k).m) ∨ guarded ops (Region.before ops) k = false)

theorem guarded_of {bs : Array Nat} {i k : Nat} {o : Oper} (hk : ops[k]? = some o) (hne : k ≠ i) (h1 : isBefore bs k i = false) (h2 : isBefore bs i k = false) (hs : kindOf o.op ≠ .silent) : guarded ops bs i = true := by
  unfold guarded
  rw [List.any_eq_true]
  refine ⟨k, by simpa using (Array.getElem?_eq_some_iff.1 hk).1, ?_⟩
  rw [h1, h2, hk]
  simp [hne, hs]

theorem pair_kinds (hp : ∀ i j, i < j → j < ops.size → pairOk ops (Region.before ops) i j = true) {k i : Nat} {ok oi : Oper} (hk : ops[k]? = some ok) (hi : ops[i]? = some oi) (hlt : k < i) (hb : isBefore (Region.before ops) k i = false) :
    (kindOf ok.op = .call → isWriter oi.op = false) ∧ (kindOf oi.op = .call → isWriter ok.op = false) := by
  have := hp k i hlt (Array.getElem?_eq_some_iff.1 hi).1
  unfold pairOk at this
  rw [hk, hi] at this
  simp only [hb, Bool.false_or, Bool.and_eq_true] at this
  have h2 := this.2
  unfold isWriter
  refine ⟨fun h => ?_, fun h => ?_⟩
  · rw [h] at h2
    cases e : kindOf oi.op <;> rw [e] at h2 <;> first | rfl | cases h2
  · rw [h] at h2
    cases e : kindOf ok.op <;> rw [e] at h2 <;> first | rfl | cases h2

theorem foot_no {bs : Array Nat} {i : Nat} {wr : Bool} {F : List (Nat × Nat × Bool)} {b : Nat} (h : footOk bs i wr F b = true) {k : Nat} {w : Bool} (hm : (k, b, w) ∈ F) (hb : isBefore bs k i = false) : w = false ∧ wr = false := by
  unfold footOk at h
  have := List.all_eq_true.1 h _ hm
  simp only [bne_self_eq_false, Bool.false_or, hb, Bool.or_false, Bool.not_eq_true', Bool.or_eq_false_iff] at this
  exact this

theorem runDraw_good (hE : EnvOk E) (hs : Sound E ex) (hdr : drawOk ops = true) (hok : ∀ o ∈ ops.toList, opOk o = true) (hlo0 : lo ≤ n0) (hwf0 : Wf H0 n0) : ∀ (l : List Oper) (i : Nat) (T : Tr Value) (D : List Nat) (H : Tr AO) (n : Nat) (R : List (Nat × Nat × Nat)) (F : List (Nat × Nat × Bool)) (s' : St) (rc : Nat → Rec),
    ops.toList.drop i = l → i + l.length = ops.size → runDraw E ex lo ops (Region.before ops) l i T sz D H n R F = some s' → Good E ops lo T0 sz H0 n0 rc i T H n → Kept ops rc i n R F →
    ∃ rc', Good E ops lo T0 sz H0 n0 rc' ops.size s'.T s'.H s'.n ∧ s'.D = D ∧ s'.sz = sz
  | [], i, T, D, H, n, R, F, s', rc, _, hil, hr, hg, _ => by
    rw [runDraw_nil] at hr; cases hr
    have : i = ops.size := by simpa using hil
    subst this
    exact ⟨rc, hg, rfl, rfl⟩
  | o :: l, i, T, D, H, n, R, F, s', rc, hd, hil, hr, hg, hK => by
    obtain ⟨hac, hpair⟩ := drawOk_spec hdr
    have hoi : ops[i]? = some o := by
      have : ops.toList[i]? = some o := by rw [← List.head?_drop, hd]; rfl
      simpa using this
    have hom : o ∈ ops.toList := List.mem_of_getElem? (by simpa using hoi : ops.toList[i]? = some o)
    have hd' : ops.toList.drop (i + 1) = l := by rw [← List.drop_drop, hd]; rfl
    have hil' : i + 1 + l.length = ops.size := by simp at hil; omega
    have hlo : lo ≤ n := Nat.le_trans hlo0 hg.le0
    have hwf : Wf H n := hwf0.up hg.moN
    have below : ∀ k, k < i → ∀ id, (rc k).tch id = true → id < n := fun k hk id ht => by
      have := hg.nle k hk
      rcases hg.c3 k hk id ht with h1 | h1
      · rcases Nat.lt_or_ge id (rc k).n with h2 | h2
        · omega
        · rw [hwf0.up (hg.mo k hk) id h2] at h1; cases h1
      · omega
    have needlt : ∀ k, k < i → ∀ id y, (rc k).need id = some y → id < n := fun k hk id y hy => by
      have := hg.nle k hk
      have h1 := hg.c4 k hk id y hy
      rcases Nat.lt_or_ge id (rc k).n with h2 | h2
      · omega
      · rw [hwf0.up (hg.mo k hk) id h2] at h1; cases h1
    rw [runDraw_cons] at hr
    cases hw : aWanted ops T o with
    | false =>
      rw [hw] at hr
      dsimp only at hr
      split at hr
      case h_2 => cases hr
      rename_i T' hput
      let r : Rec := ⟨o, false, T, H, undef, n, n, fun _ => false, fun _ => none, fun _ => none⟩
      have hg' := hg.ext r hoi rfl rfl rfl rfl hput hw.symm (fun _ => ⟨rfl, fun _ => rfl, fun _ => rfl⟩) (.refl lo H n) (fun id h => by cases h) (fun id y h => by cases h) (fun hh hsub => by simpa using hsub) (fun h => by cases h)
        (fun k hk _ _ id => ⟨fun _ => ⟨rfl, rfl⟩, fun h => by cases h⟩)
      refine runDraw_good hE hs hdr hok hlo0 hwf0 l (i + 1) T' D H n R F s' (upd1 rc i r) hd' hil' hr hg' ⟨fun k hk h => ?_, hK.r2, fun k hk h => ?_⟩
      · by_cases e : k = i
        · subst e; rw [upd1_same] at h; exact absurd h (Nat.lt_irrefl _)
        · rw [upd1_lt rc r (by omega)] at h ⊢; exact hK.r1 k (by omega) h
      · by_cases e : k = i
        · subst e; rw [upd1_same] at h; cases h
        · rw [upd1_lt rc r (by omega)] at h ⊢; exact hK.jk k (by omega) h
    | true =>
      rw [hw] at hr
      dsimp only at hr
      cases hcall : isCall o.op with
      | false =>
        rw [hcall] at hr
        dsimp only at hr
        cases hview : allQ (fun b => !(hidden (Region.before ops) i R).contains b && footOk (Region.before ops) i (isWriter o.op) F b) (view o (evA T)) with
        | false => rw [hview] at hr; cases hr
        | true =>
        rw [hview] at hr
        dsimp only at hr
        rw [allQ_eq] at hview
        have chk : ∀ b ∈ view o (evA T), b ∉ hidden (Region.before ops) i R ∧ footOk (Region.before ops) i (isWriter o.op) F b = true := fun b hb => by
          have := List.all_eq_true.1 hview b hb
          simpa using this
        split at hr
        case h_2 => cases hr
        rename_i v d n' ham
        split at hr
        case h_2 => cases hr
        rename_i T' hput
        have hdl := aMem_dl hlo ham
        let r : Rec := ⟨o, true, T, H, v, n, n', fun id => d.any (·.1 == id), fun id => upd H.get d id, fun id => if id ∈ view o (evA T) then H.get id else none⟩
        have tkey : ∀ id, r.tch id = true ↔ ∃ e ∈ d, e.1 = id := fun id => by
          show d.any (·.1 == id) = true ↔ _
          rw [List.any_eq_true]; simp
        have hupd : ∀ hh : Hp, (fun id => if r.tch id then r.val id else hh id) = upd hh d := fun hh => by
          funext id
          cases ht : r.tch id with
          | true => simp only [if_true]; exact upd_key H.get hh d id ((tkey id).1 ht)
          | false =>
            simp only [Bool.false_eq_true, if_false]
            exact (upd_not hh d id fun e he h1 => by rw [(tkey id).2 ⟨e, he, h1⟩] at ht; cases ht).symm
        have htw : ∀ id, r.tch id = true → (n ≤ id ∧ id < n') ∨ (isWriter o.op = true ∧ id ∈ view o (evA T)) := fun id ht => by
          obtain ⟨e, he, rfl⟩ := (tkey id).1 ht
          exact aMem_writes hlo ham e he
        have hneed : ∀ id y, r.need id = some y → id ∈ view o (evA T) ∧ H.get id = some y := fun id y hy => by
          have hy : (if id ∈ view o (evA T) then H.get id else none) = some y := hy
          split at hy
          · exact ⟨by assumption, hy⟩
          · cases hy
        -- what this one looks at, none that is not ordered with it has touched
        have key : ∀ k, k < i → isBefore (Region.before ops) i k = false → isBefore (Region.before ops) k i = false → ∀ id ∈ view o (evA T), (rc k).tch id = false := fun k hk h1 h2 id hid => by
          cases ht : (rc k).tch id with
          | false => rfl
          | true =>
            obtain ⟨c1, c2⟩ := chk id hid
            cases hwk : (rc k).wd with
            | false => have := (hg.un k hk hwk).2.1 id; rw [ht] at this; cases this
            | true =>
              have rng : ¬((rc k).n ≤ id ∧ id < (rc k).m) := fun h3 => c1 ((hidden_mem _ i id R).2 ⟨_, hK.r1 k hk (by omega), h2, h3.1, h3.2⟩)
              rcases hK.jk k hk hwk with ⟨_, _, j3, _⟩ | ⟨j1, j2⟩
              · rcases j3 id ht with h3 | ⟨_, h3⟩
                · exact absurd h3 rng
                · have := (foot_no c2 h3 h2).1; cases this
              · rcases j2 id ht with h3 | h3
                · exact absurd h3 rng
                · have hsil : kindOf o.op ≠ .silent := fun e => by rw [view_silent e] at hid; simp at hid
                  rw [guarded_of hoi (by omega) h1 h2 hsil] at h3; cases h3
        have hg' := hg.ext r hoi rfl rfl rfl rfl hput hw.symm (fun h => by cases h) (Mo.updT hdl) (fun id ht => by
            obtain ⟨e, he, rfl⟩ := (tkey id).1 ht
            exact (hdl.key e he).2) (fun id y hy => (hneed id y hy).2) (fun hh hsub => by
            rw [hupd, ← upH_updT hsub hdl]; exact Sub.up hsub (Mo.updT hdl)) (fun _ B w0 p hh w ro a K Q hn hfr hhr hops hR => by
            have hnd : ∀ c, o.op ≠ .defer c := fun c e => by
              unfold aMem at ham; rw [e] at ham; simp [aSil, e, kept] at ham
            obtain ⟨_, v', w', q, hgv, hv, hx, hr'⟩ := aMem_ok hE.tv hhr hfr hlo (fun b hb y hy => hn b y (by show (if b ∈ view o (evA T) then H.get b else none) = some y; rw [if_pos hb]; exact hy)) hops ham
            rw [← hupd] at hr'
            refine ⟨about_ok, ?_⟩
            rw [Oper.semAt_eq _ _ _ hnd]
            rcases hgv with hgv | ⟨hgv, rfl⟩
            · rw [hgv]; exact hR v' w' q hv hx hr'
            · rw [hgv]; exact hR _ w' q hv hx hr')
          (fun k hk h1 h2 id => by
            have n1 := hg.nle k hk
            have two : (rc k).tch id = true → r.tch id = true → False := fun ht hti => by
              rcases htw id hti with h3 | ⟨_, h3⟩
              · have := below k hk id ht; omega
              · rw [key k hk h1 h2 id h3] at ht; cases ht
            refine ⟨fun ht => ⟨?_, ?_⟩, fun hti => ⟨?_, ?_⟩⟩
            · cases hy : r.need id with
              | none => rfl
              | some y => rw [key k hk h1 h2 id (hneed id y hy).1] at ht; cases ht
            · cases hti : r.tch id with
              | false => rfl
              | true => exact (two ht hti).elim
            · cases hy : (rc k).need id with
              | none => rfl
              | some y =>
                exfalso
                have hlt := needlt k hk id y hy
                rcases htw id hti with h3 | ⟨hwr, h3⟩
                · omega
                · cases hwk : (rc k).wd with
                  | false => have := (hg.un k hk hwk).2.2 id; rw [hy] at this; cases this
                  | true =>
                    rcases hK.jk k hk hwk with ⟨_, j2, _, _⟩ | ⟨j1, _⟩
                    · have := (foot_no (chk id h3).2 (j2 id y hy) h2).2
                      rw [hwr] at this; cases this
                    · have := (pair_kinds hpair (hg.op k hk) hoi hk h2).1 (kind_of_call j1)
                      rw [hwr] at this; cases this
            · cases ht : (rc k).tch id with
              | false => rfl
              | true => exact (two ht hti).elim)
        have hnn := hdl.le
        refine runDraw_good hE hs hdr hok hlo0 hwf0 l (i + 1) T' D _ n' _ _ s' (upd1 rc i r) hd' hil' hr hg' ⟨fun k hk h => ?_, fun q hq => ?_, fun k hk h => ?_⟩
        · by_cases e : k = i
          · subst e
            rw [upd1_same] at h ⊢
            have hlt : n < n' := h
            rw [show Nat.blt n n' = true from Nat.blt_eq.symm ▸ hlt]
            exact List.mem_cons_self ..
          · rw [upd1_lt rc r (by omega)] at h ⊢
            have := hK.r1 k (by omega) h
            cases Nat.blt n n'
            · exact this
            · exact List.mem_cons_of_mem _ this
        · cases hb : Nat.blt n n' with
          | false => rw [hb] at hq; exact Nat.le_trans (hK.r2 q hq) hnn
          | true =>
            rw [hb] at hq
            rcases List.mem_cons.1 hq with rfl | hq
            · exact Nat.le_refl _
            · exact Nat.le_trans (hK.r2 q hq) hnn
        · rw [appQ_eq, mapQ_eq]
          by_cases e : k = i
          · subst e
            rw [upd1_same]
            refine .inl ⟨hcall, fun id y hy => ?_, fun id ht => ?_, fun hsil => ?_⟩
            · exact List.mem_append_left _ (List.mem_map.2 ⟨id, (hneed id y hy).1, rfl⟩)
            · rcases htw id ht with h3 | ⟨h3, h4⟩
              · exact .inl h3
              · exact .inr ⟨h3, List.mem_append_left _ (List.mem_map.2 ⟨id, h4, by rw [h3]⟩)⟩
            · obtain ⟨e1, _⟩ := aMem_silent hsil ham
              refine ⟨fun id => ?_, fun id => ?_⟩
              · show (if id ∈ view o (evA T) then H.get id else none) = none
                rw [view_silent hsil]; simp
              · show d.any (·.1 == id) = false
                rw [e1]; rfl
          · rw [upd1_lt rc r (by omega)] at h ⊢
            rcases hK.jk k (by omega) h with ⟨j1, j2, j3, j4⟩ | j
            · refine .inl ⟨j1, fun id y hy => List.mem_append_right _ (j2 id y hy), fun id ht => ?_, j4⟩
              rcases j3 id ht with h3 | ⟨h3, h4⟩
              · exact .inl h3
              · exact .inr ⟨h3, List.mem_append_right _ h4⟩
            · exact .inr j
      | true =>
        rw [hcall] at hr
        dsimp only at hr
        split at hr
        case h_2 => cases hr
        rename_i v H1 n' hrun
        split at hr
        case h_2 => cases hr
        rename_i T' hput
        have hkc := kind_of_call hcall
        have hglo : (Bool.rec lo n (guarded ops (Region.before ops) i) : Nat) ≤ n := by cases guarded ops (Region.before ops) i; exact hlo; exact Nat.le_refl _
        have hglo2 : lo ≤ (Bool.rec lo n (guarded ops (Region.before ops) i) : Nat) := by cases guarded ops (Region.before ops) i; exact Nat.le_refl _; exact hlo
        have hvis : ∀ id, (delAll (hidden (Region.before ops) i R) H).get id = if id ∈ hidden (Region.before ops) i R then none else H.get id := delAll_get H _
        have hwfv : Wf (delAll (hidden (Region.before ops) i R) H) n := fun id hid => by rw [hvis]; split; rfl; exact hwf id hid
        obtain ⟨m1, hop⟩ := opRun_ok hE hs hrun hglo hwfv
        have hidlt : ∀ id ∈ hidden (Region.before ops) i R, id < n := fun id hid => by
          obtain ⟨q, hq, _, _, h3⟩ := (hidden_mem _ i id R).1 hid
          have := hK.r2 q hq; omega
        let Hv := delAll (hidden (Region.before ops) i R) H
        let r : Rec := ⟨o, true, T, H, v, n, n', fun id => (decide (n ≤ id) && decide (id < n')) || (!guarded ops (Region.before ops) i && (Hv.get id).isSome), fun id => H1.get id, fun id => Hv.get id⟩
        have tkey : ∀ id, r.tch id = true ↔ (n ≤ id ∧ id < n') ∨ (guarded ops (Region.before ops) i = false ∧ (Hv.get id).isSome = true) := fun id => by
          show ((decide (n ≤ id) && decide (id < n')) || (!guarded ops (Region.before ops) i && (Hv.get id).isSome)) = true ↔ _
          simp
        have hfun : ∀ hh : Hp, Sub Hv hh → (fun id => if r.tch id then r.val id else hh id) = upH hh Hv H1 n n' := fun hh hsub => by
          funext id
          unfold upH
          cases hgd : guarded ops (Region.before ops) i with
          | false =>
            have : r.tch id = ((Hv.get id).isSome || (decide (n ≤ id) && decide (id < n'))) := by
              show ((decide (n ≤ id) && decide (id < n')) || (!guarded ops (Region.before ops) i && (Hv.get id).isSome)) = _
              rw [hgd]; simp [Bool.or_comm]
            rw [this]
          | true =>
            have e1 : r.tch id = (decide (n ≤ id) && decide (id < n')) := by
              show ((decide (n ≤ id) && decide (id < n')) || (!guarded ops (Region.before ops) i && (Hv.get id).isSome)) = _
              rw [hgd]; simp
            rw [e1]
            cases hin : (decide (n ≤ id) && decide (id < n')) with
            | true => simp; rfl
            | false =>
              cases hv : Hv.get id with
              | none => simp
              | some y =>
                simp only [Option.isSome_some, Bool.true_or, if_true, Bool.false_eq_true, if_false]
                have hlt : id < n := by
                  rcases Nat.lt_or_ge id n with h | h
                  · exact h
                  · rw [hwfv id h] at hv; cases hv
                have := m1.keep id (by rw [hgd]; exact hlt)
                rw [this]
                rw [hsub id y hv]; exact hv.symm
        have hadd : ∀ id, (addAll H (hidden (Region.before ops) i R) H1).get id = if id ∈ hidden (Region.before ops) i R then H.get id else H1.get id := addAll_get H H1 _
        have hmo : Mo lo H (addAll H (hidden (Region.before ops) i R) H1) n n' := ⟨m1.le, fun id hid h0 => by
            rw [hadd]; split
            · exact h0
            · exact m1.gone id hid (by rw [hvis]; split; rfl; exact h0), fun id hid => by
            rw [hadd]; split
            · rfl
            · rename_i hnm
              rw [m1.keep id (by omega), hvis, if_neg hnm]⟩
        -- none that is not ordered with the call has touched what it sees
        have key : ∀ k, k < i → isBefore (Region.before ops) i k = false → isBefore (Region.before ops) k i = false → ∀ id, (rc k).tch id = true → Hv.get id = none := fun k hk h1 h2 id ht => by
          have rng : ((rc k).n ≤ id ∧ id < (rc k).m) → Hv.get id = none := fun h3 => by
            have : id ∈ hidden (Region.before ops) i R := (hidden_mem _ i id R).2 ⟨_, hK.r1 k hk (by omega), h2, h3.1, h3.2⟩
            show (delAll (hidden (Region.before ops) i R) H).get id = none
            rw [hvis, if_pos this]
          cases hwk : (rc k).wd with
          | false => have := (hg.un k hk hwk).2.1 id; rw [ht] at this; cases this
          | true =>
            rcases hK.jk k hk hwk with ⟨_, _, j3, _⟩ | ⟨j1, j2⟩
            · rcases j3 id ht with h3 | ⟨h3, _⟩
              · exact rng h3
              · have := (pair_kinds hpair (hg.op k hk) hoi hk h2).2 hkc
                rw [h3] at this; cases this
            · rcases j2 id ht with h3 | h3
              · exact rng h3
              · rw [guarded_of hoi (by omega) h1 h2 (by rw [hkc]; simp)] at h3; cases h3
        have hg' := hg.ext r hoi rfl rfl rfl rfl hput hw.symm (fun h => by cases h) hmo (fun id ht => by
            rcases (tkey id).1 ht with h3 | ⟨_, h3⟩
            · exact .inr h3
            · refine .inl ?_
              have h3 : ((delAll (hidden (Region.before ops) i R) H).get id).isSome = true := h3
              rw [hvis] at h3
              split at h3
              · cases h3
              · exact h3) (fun id y hy => by
            have hy : (delAll (hidden (Region.before ops) i R) H).get id = some y := hy
            rw [hvis] at hy
            split at hy
            · cases hy
            · exact hy) (fun hh hsub id y hy => by
            have hsubv : Sub Hv hh := fun j x hj => by
              have hj : (delAll (hidden (Region.before ops) i R) H).get j = some x := hj
              rw [hvis] at hj
              split at hj
              · cases hj
              · exact hsub j x hj
            have := congrFun (hfun hh hsubv) id
            refine this.trans ?_
            rw [hadd] at hy
            split at hy
            · rename_i hm
              have h0 : (delAll (hidden (Region.before ops) i R) H).get id = none := by rw [hvis, if_pos hm]
              unfold upH
              rw [if_neg (by show ¬ (((delAll (hidden (Region.before ops) i R) H).get id).isSome || _) = true; rw [h0]; have := hidlt id hm; simp; omega)]
              exact hsub id y hy
            · exact Sub.up hsubv m1 id y hy) (fun _ B w0 p hh w ro a K Q hn hfr hhr hops hR => by
            have hsubv : Sub Hv hh := fun j x hj => hn j x hj
            refine hop hsubv hfr hhr hops fun v' w' q hv hx hr' => hR v' w' q hv hx ?_
            rw [hfun hh hsubv]; exact hr')
          (fun k hk h1 h2 id => by
            have one : (rc k).tch id = true → Hv.get id = none := key k hk h1 h2 id
            have two : (rc k).tch id = true → r.tch id = true → False := fun ht hti => by
              rcases (tkey id).1 hti with h3 | ⟨_, h3⟩
              · have := below k hk id ht; omega
              · rw [one ht] at h3; cases h3
            refine ⟨fun ht => ⟨one ht, ?_⟩, fun hti => ⟨?_, ?_⟩⟩
            · cases hti : r.tch id with
              | false => rfl
              | true => exact (two ht hti).elim
            · cases hy : (rc k).need id with
              | none => rfl
              | some y =>
                exfalso
                have hlt := needlt k hk id y hy
                rcases (tkey id).1 hti with h3 | ⟨h3, _⟩
                · omega
                · cases hwk : (rc k).wd with
                  | false => have := (hg.un k hk hwk).2.2 id; rw [hy] at this; cases this
                  | true =>
                    have hsil : kindOf (rc k).o.op = .silent := by
                      by_cases e : kindOf (rc k).o.op = .silent
                      · exact e
                      · rw [guarded_of (hg.op k hk) (by omega) h2 h1 e] at h3; cases h3
                    rcases hK.jk k hk hwk with ⟨_, _, _, j4⟩ | ⟨j1, _⟩
                    · have := (j4 hsil).1 id; rw [hy] at this; cases this
                    · rw [kind_of_call j1] at hsil; cases hsil
            · cases ht : (rc k).tch id with
              | false => rfl
              | true => exact (two ht hti).elim)
        have hnn := m1.le
        refine runDraw_good hE hs hdr hok hlo0 hwf0 l (i + 1) T' D _ n' _ _ s' (upd1 rc i r) hd' hil' hr hg' ⟨fun k hk h => ?_, fun q hq => ?_, fun k hk h => ?_⟩
        · by_cases e : k = i
          · subst e
            rw [upd1_same] at h ⊢
            have hlt : n < n' := h
            rw [show Nat.blt n n' = true from Nat.blt_eq.symm ▸ hlt]
            exact List.mem_cons_self ..
          · rw [upd1_lt rc r (by omega)] at h ⊢
            have := hK.r1 k (by omega) h
            cases Nat.blt n n'
            · exact this
            · exact List.mem_cons_of_mem _ this
        · cases hb : Nat.blt n n' with
          | false => rw [hb] at hq; exact Nat.le_trans (hK.r2 q hq) hnn
          | true =>
            rw [hb] at hq
            rcases List.mem_cons.1 hq with rfl | hq
            · exact Nat.le_refl _
            · exact Nat.le_trans (hK.r2 q hq) hnn
        · by_cases e : k = i
          · subst e
            rw [upd1_same]
            refine .inr ⟨hcall, fun id ht => ?_⟩
            rcases (tkey id).1 ht with h3 | ⟨h3, _⟩
            · exact .inl h3
            · exact .inr h3
          · rw [upd1_lt rc r (by omega)] at h ⊢
            exact hK.jk k (by omega) h
end
end Go.Proofs.Ytkjceegmmhnajaa
