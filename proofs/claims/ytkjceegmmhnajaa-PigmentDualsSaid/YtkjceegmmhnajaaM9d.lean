/- A region that draws its order: whatever the order, it comes to what the text's order comes to, if no operation touches what another one, not ordered with it, looks at. -/
import Derived.Test.YtkjceegmmhnajaaM9c
namespace Go.Proofs.Ytkjceegmmhnajaa
open Go.RowKit

/-! ### an invariant over what is done -/
def undone (listed : Array Bool) : Nat := (listed.toList.filter (fun b => !b)).length

theorem undone_set : ∀ (l : List Bool) (i : Nat), l[i]? = some false → ((l.set i true).filter (fun b => !b)).length + 1 = (l.filter (fun b => !b)).length
  | [], i, h => by simp at h
  | b :: l, 0, h => by simp at h; subst h; simp
  | b :: l, i + 1, h => by
    have := undone_set l i (by simpa using h)
    cases b <;> simp at * <;> omega

def stepIn (F : Fence) (P : Program) (ops : Array Oper) (Q : Exit → Act → World → Prop) (i : Nat) (K : Act → World → Prop) (a : Act) (w : World) : Prop :=
  match ops[i]? with
  | none => K a w
  | some o => if Region.wanted o (yielded ops a.tmps) then o.wpIn F 0 P a w K Q else (∀ f, o.about P w a.eval = some f → F.fn f) ∧ K (a.put o.dst undef) w

theorem wpOpsIn_cons (F : Fence) (P : Program) (ops : Array Oper) (Q : Exit → Act → World → Prop) (i : Nat) (l : List Nat) (a : Act) (w : World) : wpOpsIn F 0 P ops Q (i :: l) a w = stepIn F P ops Q i (wpOpsIn F 0 P ops Q l) a w := rfl

section
variable {F : Fence} {P : Program} {ops : Array Oper} {Q : Exit → Act → World → Prop}

theorem lin_inv (hac : ∀ (i : Nat) (o : Oper), ops[i]? = some o → ∀ e ∈ o.after, Region.binds .any e = true → e.on < i) (Inv : (Nat → Bool) → Act → World → Prop)
    (hstep : ∀ (D : Nat → Bool) (a : Act) (w : World) (i : Nat) (o : Oper) (K : Act → World → Prop), ops[i]? = some o → D i = false → (∀ e ∈ o.after, Region.binds .any e = true → D e.on = true) → Inv D a w →
      (∀ a' w', Inv (fun j => D j || j == i) a' w' → K a' w') → stepIn F P ops Q i K a w)
    (hend : ∀ (D : Nat → Bool) (a : Act) (w : World), (∀ i < ops.size, D i = true) → Inv D a w → Q .normal a w) :
    ∀ (fuel t : Nat) (listed : Array Bool) (a : Act) (w : World), listed.size = ops.size → undone listed ≤ fuel → Inv (fun j => listed.getD j false) a w → wpOpsIn F 0 P ops Q (Region.linearise.go .any ops fuel t listed []) a w := by
  have hall : ∀ listed : Array Bool, listed.size = ops.size → Region.ready .any ops listed = [] → ∀ i, i < ops.size → listed.getD i false = true := by
    intro listed hsz hr i
    induction i using Nat.strongRecOn with
    | _ i ih =>
      intro hi
      cases hd : listed.getD i false
      · have hmem : i ∈ Region.ready .any ops listed := by
          refine mem_ready.2 ⟨?_, ops[i], Array.getElem?_eq_getElem hi, fun e he hb => ?_⟩
          · simp [hsz, hi] at hd ⊢; exact hd
          · have := hac i _ (Array.getElem?_eq_getElem hi) e he hb
            exact ih e.on this (by omega)
        rw [hr] at hmem; cases hmem
      · rfl
  have hstepL : ∀ (listed : Array Bool) (a : Act) (w : World) (i : Nat) (K : Act → World → Prop), listed.size = ops.size → i ∈ Region.ready .any ops listed → Inv (fun j => listed.getD j false) a w →
      (∀ a' w', Inv (fun j => (listed.setIfInBounds i true).getD j false) a' w' → K a' w') → stepIn F P ops Q i K a w := by
    intro listed a w i K hsz hi hinv hK
    obtain ⟨h1, o, ho, h2⟩ := mem_ready.1 hi
    have hlt : i < ops.size := (Array.getElem?_eq_some_iff.1 ho).1
    have hd : listed.getD i false = false := by simp [hsz, hlt] at h1 ⊢; exact h1
    have hfun : (fun j => (listed.setIfInBounds i true).getD j false) = (fun j => listed.getD j false || j == i) := by
      funext j
      by_cases hj : i = j
      · subst hj; simp [hsz, hlt]
      · rw [getD_set_ne false hj]; have : (j == i) = false := by rw [beq_eq_false_iff_ne]; exact fun e => hj e.symm
        simp [this]
    rw [hfun] at hK
    exact hstep _ a w i o K ho hd h2 hinv hK
  have hleft : ∀ (listed : Array Bool) (i : Nat), listed.size = ops.size → i ∈ Region.ready .any ops listed → undone (listed.setIfInBounds i true) + 1 = undone listed := by
    intro listed i hsz hi
    obtain ⟨h1, o, ho, h2⟩ := mem_ready.1 hi
    have hlt : i < ops.size := (Array.getElem?_eq_some_iff.1 ho).1
    have hd : listed.getD i false = false := by simp [hsz, hlt] at h1 ⊢; exact h1
    have hl : listed.toList[i]? = some false := by
      have hi' : i < listed.size := by omega
      simp [hi'] at hd ⊢; exact hd
    have := undone_set listed.toList i hl
    unfold undone
    rw [Array.toList_setIfInBounds]; exact this
  intro fuel
  induction fuel with
  | zero =>
    intro t listed a w hsz hl hinv
    have hr : Region.ready .any ops listed = [] := by
      rcases hrd : Region.ready .any ops listed with _ | ⟨i, r⟩
      · rfl
      · have := hleft listed i hsz (by rw [hrd]; simp)
        omega
    simp only [Region.linearise.go, List.reverse_nil]
    exact hend _ a w (hall listed hsz hr) hinv
  | succ fuel ih =>
    intro t listed a w hsz hl hinv
    simp only [Region.linearise.go]
    change wpOpsIn F 0 P ops Q (match (Region.ready .any ops listed)[t % (Region.ready .any ops listed).length]? with
      | some i => Region.linearise.go .any ops fuel (t / (Region.ready .any ops listed).length) (listed.setIfInBounds i true) [i]
      | none => [].reverse) a w
    cases hi : (Region.ready .any ops listed)[t % (Region.ready .any ops listed).length]? with
    | none =>
      have hnil : Region.ready .any ops listed = [] := by
        cases hr : Region.ready .any ops listed with
        | nil => rfl
        | cons x xs =>
          rw [hr] at hi
          have hlt : t % (x :: xs).length < (x :: xs).length := Nat.mod_lt _ (by simp)
          simp at hi
          simp at hlt
          omega
      exact hend _ a w (hall listed hsz hnil) hinv
    | some i =>
      dsimp only
      have him := List.mem_of_getElem? hi
      rw [linearise_go_acc, List.reverse_singleton, List.singleton_append, wpOpsIn_cons]
      exact hstepL listed a w i _ hsz him hinv fun a' w' hinv' => ih _ _ a' w' (by simp [hsz]) (by have := hleft listed i hsz him; omega) hinv'
end

/-! ### what each operation looks at and touches -/
structure Rec where
  o : Oper
  wd : Bool
  T : Tr Value
  H : Tr AO
  v : Value
  n : Nat
  m : Nat
  tch : Nat → Bool
  val : Nat → Option AO
  need : Nat → Option AO

def RecOk (E : Env) (r : Rec) : Prop :=
  ∀ ⦃B : Nat⦄ ⦃w0 : World⦄ ⦃p : Nat → Option (Nat × Nat)⦄ ⦃hh : Hp⦄ ⦃w : World⦄ ⦃ro : Option Nat⦄ ⦃a : Act⦄ ⦃K : Act → World → Prop⦄ ⦃Q : Exit → Act → World → Prop⦄,
    (∀ id y, r.need id = some y → hh id = some y) → Fresh p r.n r.m → HR B w0 p hh w → (∀ x ∈ r.o.op.operands, VR p (evA r.T x) (a.eval x)) →
    (∀ v' w' q, VR q r.v v' → Ext p q r.n r.m → HR B w0 q (fun id => if r.tch id then r.val id else hh id) w' → K (a.put r.o.dst v') w') → r.o.wpIn (Fw ro) 0 E.P a w K Q

/-- memory, seen from one name: what the first k operations have made of it -/
def seenH (rc : Nat → Rec) (h0 : Hp) (D : Nat → Bool) (N : Nat) : Hp := fun id => lastD D (fun k => (rc k).tch id) (fun k => (rc k).val id) (h0 id) N
noncomputable def seenT (rc : Nat → Rec) (T0 : Tr Value) (D : Nat → Bool) (N : Nat) (t : Nat) : Value := lastD D (fun k => (rc k).o.dst == some t) (fun k => (rc k).v) (tget T0 t) N

structure Good (E : Env) (ops : Array Oper) (lo : Nat) (T0 : Tr Value) (sz : Nat) (H0 : Tr AO) (n0 : Nat) (rc : Nat → Rec) (N : Nat) (T : Tr Value) (H : Tr AO) (n : Nat) : Prop where
  op : ∀ k, k < N → ops[k]? = some (rc k).o
  dst : ∀ k, k < N → ∀ d, (rc k).o.dst = some d → d < sz
  wd : ∀ k, k < N → (rc k).wd = aWanted ops (rc k).T (rc k).o
  tl : ∀ k, k < N → ∀ t, tget (rc k).T t = seenT rc T0 (fun _ => true) k t
  tlN : ∀ t, tget T t = seenT rc T0 (fun _ => true) N t
  un : ∀ k, k < N → (rc k).wd = false → (rc k).v = undef ∧ (∀ id, (rc k).tch id = false) ∧ ∀ id, (rc k).need id = none
  le0 : n0 ≤ n
  nle : ∀ k, k < N → n0 ≤ (rc k).n ∧ (rc k).n ≤ (rc k).m ∧ (rc k).m ≤ n
  nlt : ∀ j k, j < k → k < N → (rc j).m ≤ (rc k).n
  c3 : ∀ k, k < N → ∀ id, (rc k).tch id = true → ((rc k).H.get id).isSome = true ∨ ((rc k).n ≤ id ∧ id < (rc k).m)
  c4 : ∀ k, k < N → ∀ id y, (rc k).need id = some y → (rc k).H.get id = some y
  mo : ∀ k, k < N → Mo lo H0 (rc k).H n0 (rc k).n
  moN : Mo lo H0 H n0 n
  hs : ∀ k, k < N → ∀ h0, Sub H0 h0 → Sub (rc k).H (seenH rc h0 (fun _ => true) k)
  hsN : ∀ h0, Sub H0 h0 → Sub H (seenH rc h0 (fun _ => true) N)
  ok : ∀ k, k < N → (rc k).wd = true → RecOk E (rc k)
  c1 : ∀ i k, i < N → k < N → i ≠ k → isBefore (Region.before ops) i k = false → isBefore (Region.before ops) k i = false → ∀ id, (rc k).tch id = true → (rc i).need id = none ∧ (rc i).tch id = false

theorem aWanted_ok' {p : Nat → Option (Nat × Nat)} {ops : Array Oper} {T : Tr Value} {tm : Array Value} {o : Oper} (h : ∀ t ∈ o.looksAt ops, VR p (tget T t) (tm.getD t undef)) : Region.wanted o (yielded ops tm) = aWanted ops T o := by
  unfold Region.wanted aWanted
  cases hg : o.guard with
  | none => rfl
  | some g =>
    obtain ⟨j, want⟩ := g
    simp only
    have hy : yielded ops tm j = aYield ops T j := by
      unfold yielded aYield
      rw [getQ_eq]
      have : ops.toList[j]? = ops[j]? := by simp
      rw [this]
      cases hj : ops[j]? with
      | none => rfl
      | some oj =>
        simp only [Option.bind_some]
        cases hd : oj.dst with
        | none => rfl
        | some t =>
          simp only [Option.bind_some]
          have hv := h t (by simp [Oper.looksAt, hg, hj, hd])
          by_cases ht : t < tm.size
          · have e1 : tm.getD t undef = tm[t] := by simp [Array.getD, ht]
            rw [e1] at hv
            have e2 : tm[t]? = some tm[t] := Array.getElem?_eq_getElem ht
            rw [e2]
            generalize tm[t] = u at hv
            generalize tget T t = x at hv
            cases hv <;> rfl
          · have e1 : tm.getD t undef = undef := by simp [Array.getD, ht]
            rw [e1] at hv
            rw [Array.getElem?_eq_none (Nat.le_of_not_lt ht)]
            generalize hx : tget T t = x at hv
            generalize hu : undef = u at hv
            cases hv <;> first | rfl | (simp [undef] at hu; done)
    rw [hy]
    cases aYield ops T j with
    | none => rfl
    | some b => cases b <;> cases want <;> rfl

theorem put_get {a : Act} {dst : Option Nat} {v : Value} {sz : Nat} (hs : a.tmps.size = sz) (hd : ∀ d, dst = some d → d < sz) (t : Nat) : (a.put dst v).tmps.getD t undef = if dst == some t then v else a.tmps.getD t undef := by
  cases dst with
  | none => rfl
  | some d =>
    simp only [Act.put]
    by_cases ht : d = t
    · subst ht
      rw [Array.getD_eq_getD_getElem?, Array.getElem?_setIfInBounds_self_of_lt (by rw [hs]; exact hd d rfl)]
      simp
    · rw [Array.getD_eq_getD_getElem?, Array.getElem?_setIfInBounds_ne ht, ← Array.getD_eq_getD_getElem?]
      have : (some d == some t) = false := by simpa using ht
      rw [this]; rfl

theorem pair_apart {ops : Array Oper} (hp : ∀ i j, i < j → j < ops.size → pairOk ops (Region.before ops) i j = true) {i k : Nat} {oi ok : Oper} (hi : ops[i]? = some oi) (hk : ops[k]? = some ok) (hne : i ≠ k)
    (h1 : isBefore (Region.before ops) i k = false) (h2 : isBefore (Region.before ops) k i = false) : (∀ d, ok.dst = some d → d ∉ oi.looksAt ops) ∧ (∀ d, ok.dst = some d → oi.dst ≠ some d) := by
  have hil := (Array.getElem?_eq_some_iff.1 hi).1
  have hkl := (Array.getElem?_eq_some_iff.1 hk).1
  rcases Nat.lt_or_gt_of_ne hne with h | h
  · have := hp i k h hkl
    unfold pairOk at this
    rw [hi, hk] at this
    simp only [h1, Bool.false_or, Bool.and_eq_true] at this
    obtain ⟨a1, a2, a3⟩ := Oper.apart_spec this.1
    exact ⟨a3, fun d hd e => a2 d e hd⟩
  · have := hp k i h hil
    unfold pairOk at this
    rw [hi, hk] at this
    simp only [h2, Bool.false_or, Bool.and_eq_true] at this
    obtain ⟨a1, a2, a3⟩ := Oper.apart_spec this.1
    exact ⟨a1, a2⟩

/-- **whatever the order** -/
theorem draw_ok {E : Env} (hE : EnvOk E) {id : Nat} {ops : Array Oper} (hdr : drawOk ops = true) (hok : ∀ o ∈ ops.toList, opOk o = true) {lo : Nat} {T0 : Tr Value} {sz : Nat} {H0 : Tr AO} {n0 : Nat} {rc : Nat → Rec} {T : Tr Value} {H : Tr AO} {n : Nat} {Dl : List Nat}
    (hg : Good E ops lo T0 sz H0 n0 rc ops.size T H n) {B : Nat} {w0 : World} {p : Nat → Option (Nat × Nat)} {h : Hp} {w : World} {ro : Option Nat} {a : Act} {Q : Exit → Act → World → Prop}
    (hsub : Sub H0 h) (hfr : Fresh p n0 n) (hr : HR B w0 p h w) (hsr : SR p ⟨T0, sz, Dl, H0, n0⟩ a)
    (hQ : ∀ a' w' q, Ext p q n0 n → HR B w0 q (upH h H0 H n0 n) w' → SR q ⟨T, sz, Dl, H, n⟩ a' → Q .normal a' w') : (Code.region id ops true).wpIn (Fw ro) 0 E.P Q a w := by
  obtain ⟨hac, hpair⟩ := drawOk_spec hdr
  refine wpIn_region_draw fun t => ?_
  simp only [Region.schedule, hE.mixed, Bool.true_or, if_true, Region.linearise]
  let Inv : (Nat → Bool) → Act → World → Prop := fun D a w => Closed ops D ∧ (∀ j, D j = true → j < ops.size) ∧ ∃ p', (∀ i b, p i = some b → p' i = some b) ∧ (∀ i, ¬(n0 ≤ i ∧ i < n) → p' i = p i) ∧ (∀ k, k < ops.size → D k = false → Fresh p' (rc k).n (rc k).m) ∧
    HR B w0 p' (seenH rc h D ops.size) w ∧ a.tmps.size = sz ∧ (∀ t, VR p' (seenT rc T0 D ops.size t) (a.tmps.getD t undef)) ∧ DR p' Dl a.defers
  have noneT : ∀ (D : Nat → Bool), (∀ j, D j = false) → ∀ {X : Type} (t : Nat → Bool) (f : Nat → X) (x0 : X) (N : Nat), lastD D t f x0 N = x0 := by
    intro D hD X t f x0 N
    induction N with
    | zero => rfl
    | succ k ih => simp [lastD, hD, ih]
  refine lin_inv hac Inv ?_ ?_ ops.size t (Array.replicate ops.size false) a _ (by simp) (by unfold undone; simp) ?_
  · -- one operation
    intro D a w i o K hoi hDi hpre hinv hK
    obtain ⟨hcl, hbd, p', e1, e2, e3, e4, e5, e6, e7⟩ := hinv
    have hiN : i < ops.size := (Array.getElem?_eq_some_iff.1 hoi).1
    have hro : (rc i).o = o := by have := hg.op i hiN; rw [hoi] at this; cases this; rfl
    -- ordered with i: done exactly if earlier
    have ord : ∀ k, k < ops.size → (isBefore (Region.before ops) k i = true ∨ isBefore (Region.before ops) i k = true ∨ k = i) → (D k = true ↔ k < i) := by
      intro k hk hor
      rcases hor with hb | hb | rfl
      · have := ready_before hac hcl hoi hpre hb
        have := before_lt hac i k hb
        simp_all
      · have h1 := before_lt hac k i hb
        constructor
        · intro hd
          have := closed_before hac hcl k i hd hb
          rw [hDi] at this; cases this
        · intro h2; omega
      · rw [hDi]; simp
    have unord : ∀ k, k < ops.size → (D k = true ↔ k < i) ∨ (k ≠ i ∧ isBefore (Region.before ops) i k = false ∧ isBefore (Region.before ops) k i = false) := by
      intro k hk
      by_cases hki : k = i
      · exact .inl (ord k hk (.inr (.inr hki)))
      · cases h1 : isBefore (Region.before ops) k i with
        | true => exact .inl (ord k hk (.inl h1))
        | false =>
          cases h2 : isBefore (Region.before ops) i k with
          | true => exact .inl (ord k hk (.inr (.inl h2)))
          | false => exact .inr ⟨hki, rfl, rfl⟩
    have later : ∀ k, i < k → k < ops.size → D k = true → k ≠ i ∧ isBefore (Region.before ops) i k = false ∧ isBefore (Region.before ops) k i = false := by
      intro k hik hk hd
      rcases unord k hk with h1 | h1
      · have := h1.1 hd; omega
      · exact h1
    have look : ∀ t ∈ o.looksAt ops, VR p' (tget (rc i).T t) (a.tmps.getD t undef) := by
      intro t ht
      have : seenT rc T0 D ops.size t = tget (rc i).T t := by
        rw [hg.tl i hiN t]
        refine lastD_seq (by omega) fun k hk hd => ?_
        rcases unord k hk with h1 | ⟨h1, h2, h3⟩
        · exact h1
        · have hd' : (rc k).o.dst = some t := by simpa using hd
          exact absurd ht ((pair_apart hpair hoi (hg.op k hk) (Ne.symm h1) h2 h3).1 t hd')
      rw [← this]; exact e6 t
    have hops : ∀ x ∈ o.op.operands, VR p' (evA (rc i).T x) (a.eval x) := by
      intro x hx
      have hxok := Array.all_eq_true_iff_forall_mem.1 (hok o (List.mem_of_getElem? (by simpa using hoi : ops.toList[i]? = some o))) x hx
      cases x with
      | tmp t => exact look t (List.mem_append_left _ (List.mem_filterMap.2 ⟨.tmp t, by simpa using hx, rfl⟩))
      | const v => exact VR.of_ground p' 2 v hxok
      | global g => simp [operandOk] at hxok
      | func f => exact .func f rfl rfl (fun i => by simpa using VR.und p') (fun i => by simpa using VR.und p')
    -- what stands behind it
    have fin : ∀ (v' : Value) (w' : World) (q : Nat → Option (Nat × Nat)), VR q (rc i).v v' → Ext p' q (rc i).n (rc i).m → HR B w0 q (fun id => if (rc i).tch id then (rc i).val id else seenH rc h D ops.size id) w' → Inv (fun j => D j || j == i) (a.put o.dst v') w' := by
      intro v' w' q hv hx hr'
      refine ⟨fun j oj hj hd e he hb => ?_, fun j hj => ?_, q, fun i b hb => hx.ext i b (e1 i b hb), fun j hj => ?_, fun k hk hd => ?_, ?_, ?_, fun t => ?_, ?_⟩
      · simp only [Bool.or_eq_true, beq_iff_eq] at hd ⊢
        rcases hd with hd | rfl
        · exact .inl (hcl j oj hj hd e he hb)
        · rw [hoi] at hj; cases hj; exact .inl (hpre e he hb)
      · simp only [Bool.or_eq_true, beq_iff_eq] at hj
        rcases hj with hj | rfl
        · exact hbd j hj
        · exact hiN
      · have := hg.nle i hiN
        rw [hx.out j (by omega)]; exact e2 j hj
      · simp only [Bool.or_eq_false_iff, beq_eq_false_iff_ne] at hd
        intro j h1 h2
        have hdis : ¬((rc i).n ≤ j ∧ j < (rc i).m) := by
          rcases Nat.lt_or_gt_of_ne hd.2 with hl | hl
          · have := hg.nlt k i hl hiN; omega
          · have := hg.nlt i k hl hk; omega
        rw [hx.out j hdis]; exact e3 k hk hd.1 j h1 h2
      · have : seenH rc h (fun j => D j || j == i) ops.size = fun id => if (rc i).tch id then (rc i).val id else seenH rc h D ops.size id := by
          funext id
          exact lastD_add hDi ops.size hiN fun k h1 h2 h3 h4 => by
            obtain ⟨g1, g2, g3⟩ := later k h1 h2 h3
            exact (hg.c1 i k hiN h2 (Ne.symm g1) g2 g3 id h4).2
        rw [this]; exact hr'
      · cases o.dst <;> simp [Act.put, e5]
      · have hdst : ∀ d, o.dst = some d → d < sz := by rw [← hro]; exact hg.dst i hiN
        rw [put_get e5 hdst]
        have : seenT rc T0 (fun j => D j || j == i) ops.size t = if (rc i).o.dst == some t then (rc i).v else seenT rc T0 D ops.size t := by
          exact lastD_add hDi ops.size hiN fun k h1 h2 h3 h4 => by
            obtain ⟨g1, g2, g3⟩ := later k h1 h2 h3
            have h4' : (rc k).o.dst = some t := by simpa using h4
            have := (pair_apart hpair hoi (hg.op k h2) (Ne.symm g1) g2 g3).2 t h4'
            rw [hro]; simpa using this
        rw [this, hro]
        split
        · exact hv
        · exact (e6 t).mono hx.ext
      · have : (a.put o.dst v').defers = a.defers := by cases o.dst <;> rfl
        rw [this]; exact e7.mono hx.ext
    unfold stepIn
    simp only [hoi]
    have hwant : Region.wanted o (yielded ops a.tmps) = (rc i).wd := by
      rw [hg.wd i hiN, hro]; exact aWanted_ok' look
    cases hwd : (rc i).wd with
    | true =>
      rw [hwant, hwd]
      simp only [if_true]
      have hro' := hg.ok i hiN hwd
      unfold RecOk at hro'
      rw [hro] at hro'
      refine hro' (hh := seenH rc h D ops.size) (fun id y hy => ?_) (e3 i hiN hDi) e4 hops (fun v' w' q hv hx hr' => hK _ _ (fin v' w' q hv hx hr'))
      have h1 := hg.hs i hiN h hsub id y (hg.c4 i hiN id y hy)
      rw [← h1]
      refine lastD_seq (by omega) fun k hk ht => ?_
      rcases unord k hk with h2 | ⟨h2, h3, h4⟩
      · exact h2
      · have := (hg.c1 i k hiN hk (Ne.symm h2) h3 h4 id ht).1
        rw [hy] at this; cases this
    | false =>
      rw [hwant, hwd]
      simp only [Bool.false_eq_true, if_false]
      obtain ⟨u1, u2, _⟩ := hg.un i hiN hwd
      refine ⟨about_ok, hK _ _ (fin undef w p' (by rw [u1]; exact .und p') ⟨fun _ _ hh => hh, fun _ _ => rfl⟩ ?_)⟩
      simp only [u2, Bool.false_eq_true, if_false]
      exact e4
  · -- all is done
    intro D a w hall hinv
    obtain ⟨_, _, p', e1, e2, e3, e4, e5, e6, e7⟩ := hinv
    have hHD : seenH rc h D ops.size = seenH rc h (fun _ => true) ops.size := by
      funext id; exact lastD_congr _ fun k hk _ => hall k hk
    rw [hHD] at e4
    refine hQ a w p' ⟨e1, e2⟩ (e4.sub fun id x hx => ?_) ⟨⟨e5, fun t => ?_⟩, e7⟩
    · unfold upH at hx
      split at hx
      · exact hg.hsN h hsub id x hx
      · rename_i hc
        simp only [Bool.or_eq_true, Bool.and_eq_true, decide_eq_true_eq, not_or] at hc
        have h0 : H0.get id = none := by cases e : H0.get id with | none => rfl | some o => simp [e] at hc
        have hno : ∀ N, N ≤ ops.size → seenH rc h (fun _ => true) N id = h id := by
          intro N
          induction N with
          | zero => intro _; rfl
          | succ k ih =>
            intro hk
            have hkN : k < ops.size := by omega
            have ht : (rc k).tch id = false := by
              cases htt : (rc k).tch id with
              | false => rfl
              | true =>
                have hn := hg.nle k hkN
                rcases hg.c3 k hkN id htt with h1 | h1
                · rw [(hg.mo k hkN).gone id (by omega) h0] at h1; cases h1
                · exact absurd (show n0 ≤ id ∧ id < n by omega) hc.2
            show (if true && (rc k).tch id then (rc k).val id else seenH rc h (fun _ => true) k id) = h id
            rw [ht]; exact ih (by omega)
        rw [hno ops.size (Nat.le_refl _)]; exact hx
    · rw [hg.tlN t]
      have : seenT rc T0 D ops.size t = seenT rc T0 (fun _ => true) ops.size t := lastD_congr _ fun k hk _ => hall k hk
      rw [← this]; exact e6 t
  · -- nothing is done
    have hD : ∀ j, (Array.replicate ops.size false).getD j false = false := fun j => by
      simp [Array.getElem?_replicate]; split <;> rfl
    have hf : (fun j => (Array.replicate ops.size false).getD j false) = fun _ => false := funext hD
    rw [hf]
    refine ⟨fun j o _ hd => (by cases hd), fun j hd => (by cases hd), p, fun _ _ hh => hh, fun _ _ => rfl, fun k hk _ => ?_, ?_, hsr.t.size, fun t => ?_, hsr.d⟩
    · have := hg.nle k hk
      exact fun j h1 h2 => hfr j (by omega) (by omega)
    · have : seenH rc h (fun _ => false) ops.size = h := by funext id; exact noneT _ (fun _ => rfl) _ _ _ _
      rw [this]; exact hr.drew
    · have : seenT rc T0 (fun _ => false) ops.size t = tget T0 t := noneT _ (fun _ => rfl) _ _ _ _
      rw [this]; exact hsr.t.get t
end Go.Proofs.Ytkjceegmmhnajaa
