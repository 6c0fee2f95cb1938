/- A region in which vectors are reckoned by calls, laid in new blocks and stored there, in any order: what it leaves. -/
import Derived.Test.YtkjceegmmhnajaaG07
import Derived.Test.YtkjceegmmhnajaaG08

set_option linter.unusedVariables false
set_option linter.unusedSimpArgs false

namespace Go.Proofs.Ytkjceegmmhnajaa
open Go.RowKit

/-- a frame: t0, but for the slots ds, which hold V -/
def canon (t0 : Array Value) (ds : List Nat) (V : Nat → Value) : Array Value := ds.foldl (fun t d => t.setIfInBounds d (V d)) t0
theorem canon_size (ds : List Nat) (V : Nat → Value) : ∀ t0 : Array Value, (canon t0 ds V).size = t0.size := by
  induction ds with
  | nil => intro t0; rfl
  | cons d ds ih => intro t0; simp only [canon, List.foldl_cons] at *; rw [ih]; simp
theorem canon_get (ds : List Nat) (V : Nat → Value) (k : Nat) : ∀ t0 : Array Value, (canon t0 ds V)[k]? = if k ∈ ds ∧ k < t0.size then some (V k) else t0[k]? := by
  induction ds with
  | nil => intro t0; simp [canon]
  | cons d ds ih =>
    intro t0
    simp only [canon, List.foldl_cons] at *
    rw [ih]
    simp only [Array.size_setIfInBounds, List.mem_cons]
    by_cases h1 : k < t0.size
    · by_cases h2 : k ∈ ds
      · simp [h1, h2]
      · by_cases h3 : k = d
        · subst h3; simp [h1, h2]
        · have : d ≠ k := fun e => h3 e.symm
          rw [if_neg (fun h => h2 h.1), if_neg (fun h => by rcases h.1 with h | h; exact h3 h; exact h2 h), Array.getElem?_setIfInBounds_ne this]
    · have h4 : (t0.setIfInBounds d (V d))[k]? = none := Array.getElem?_eq_none (by simp; omega)
      have h5 : t0[k]? = none := Array.getElem?_eq_none (by omega)
      simp [h1, h4, h5]
def updV (V : Nat → Value) (d : Nat) (v : Value) : Nat → Value := fun k => if k = d then v else V k
theorem updV_same (V : Nat → Value) (d : Nat) (v : Value) : updV V d v d = v := if_pos rfl
theorem updV_other (V : Nat → Value) {d k : Nat} (v : Value) (h : k ≠ d) : updV V d v k = V k := if_neg h
theorem canon_set {t0 : Array Value} {ds : List Nat} {V : Nat → Value} {d : Nat} (v : Value) (hd : d ∈ ds) : (canon t0 ds V).setIfInBounds d v = canon t0 ds (updV V d v) := by
  apply Array.ext_getElem?
  intro k
  rw [canon_get]
  by_cases h : d = k
  · subst h
    by_cases hs : d < t0.size
    · rw [Array.getElem?_setIfInBounds_self_of_lt (by rw [canon_size]; exact hs)]; simp [hd, hs, updV]
    · rw [Array.getElem?_eq_none (by simp [canon_size]; omega)]; simp [hs]
  · rw [Array.getElem?_setIfInBounds_ne h, canon_get]
    simp only [updV, if_neg (fun e : k = d => h e.symm)]
theorem canon_start (t0 : Array Value) (ds : List Nat) : canon t0 ds (fun k => t0.getD k undef) = t0 := by
  apply Array.ext_getElem?
  intro k
  rw [canon_get]
  split
  · rename_i h; simp [h.2]
  · rfl
theorem canon_at {t0 : Array Value} {ds : List Nat} {V : Nat → Value} {k : Nat} (hk : k ∈ ds) (hs : k < t0.size) : (canon t0 ds V).getD k undef = V k := by
  have := canon_get ds V k t0
  rw [if_pos ⟨hk, hs⟩] at this
  rw [Array.getD_eq_getD_getElem?, this]; rfl
/-- one vector: its call, its block, its store; their places in the region, their slots; its numbers -/
structure Vj where
  c : Nat
  p : Nat
  s : Nat
  kc : Nat
  kp : Nat
  args : Array Value
  x : Int
  y : Int
  z : Int
def Vj.row (v : Vj) : Array Value := #[.int .i64 v.x, .int .i64 v.y, .int .i64 v.z]
def zero3 : Array Value := #[.int .i64 0, .int .i64 0, .int .i64 0]

section
variable {P : Program} {ops : Array Oper} {Q : Exit → Act → World → Prop} {S : World → Prop}
/-- what the operations of a vector are -/
structure VjOk (P : Program) (ops : Array Oper) (T : Array Value) (ds : List Nat) (f : FuncId) (v : Vj) : Prop where
  kc : v.kc ∈ ds
  kp : v.kp ∈ ds
  kcl : v.kc < T.size
  kpl : v.kp < T.size
  call : ∃ o, ops[v.c]? = some o ∧ o.guard = none ∧ o.dst = some v.kc ∧ ∀ V w, (execOp (Act.eval { tmps := canon T ds V, defers := [] }) o).run P w = .ok (.enter f v.args) w
  alloc : ∃ o, ops[v.p]? = some o ∧ o.guard = none ∧ o.dst = some v.kp ∧ ∀ (a : Act) w, (execOp a.eval o).run P w = .ok (.value (.pointer (some ⟨w.heap.size, 0, none⟩))) (w.alloc (.cells zero3 84))
  store : ∃ o, ops[v.s]? = some o ∧ o.guard = none ∧ o.dst = none ∧ (o.after.any fun e => e.on == v.c && Region.binds .any e) = true ∧ (o.after.any fun e => e.on == v.p && Region.binds .any e) = true ∧
    ∀ (a : Act) w b, a.tmps.getD v.kp undef = .pointer (some ⟨b, 0, none⟩) → a.tmps.getD v.kc undef = .agg v.row → Bk w b 84 zero3 →
      ∃ w' nx, (execOp a.eval o).run P w = .ok nx w' ∧ (nx = .skip ∨ ∃ u, nx = .value u) ∧ w' = ((w.setCell ⟨b, 0, none⟩ (.int .i64 v.x)).setCell ⟨b, 1, none⟩ (.int .i64 v.y)).setCell ⟨b, 2, none⟩ (.int .i64 v.z)

theorem dep_of {o : Oper} {k : Nat} (h : (o.after.any fun e => e.on == k && Region.binds .any e) = true) : ∃ e ∈ o.after, e.on = k ∧ Region.binds .any e = true := by
  rw [Array.any_eq_true'] at h
  obtain ⟨e, he, h⟩ := h
  rw [Bool.and_eq_true, beq_iff_eq] at h
  exact ⟨e, he, h.1, h.2⟩
def acB (ops : Array Oper) : Bool := (List.range ops.size).all fun i => match ops[i]? with | some o => o.after.all (fun e => decide (e.on < i)) | none => true
theorem acB_spec {ops : Array Oper} (h : acB ops = true) (i : Nat) (o : Oper) (ho : ops[i]? = some o) : ∀ e ∈ o.after, e.on < i := by
  have hi : i < ops.size := (Array.getElem?_eq_some_iff.1 ho).1
  have := List.all_eq_true.1 h i (by simpa using hi)
  rw [ho] at this
  intro e he
  simpa using Array.all_eq_true'.1 this e he
def hlB (n : Nat) (listed : Array Bool) (vs : List Vj) : Bool := (List.range n).all fun i => listed.getD i false || vs.any fun v => i == v.c || (i == v.p || i == v.s)
theorem hlB_spec {n : Nat} {listed : Array Bool} {vs : List Vj} (h : hlB n listed vs = true) (i : Nat) (hi : i < n) (hf : listed.getD i false = false) : ∃ v ∈ vs, i = v.c ∨ i = v.p ∨ i = v.s := by
  have := List.all_eq_true.1 h i (by simpa using hi)
  rw [hf, Bool.false_or, List.any_eq_true] at this
  obtain ⟨v, hv, h⟩ := this
  simp only [Bool.or_eq_true, beq_iff_eq] at h
  exact ⟨v, hv, h⟩
theorem bk_set3 {w : World} {b : Nat} {v : Vj} (h : Bk w b 84 zero3) : Bk (((w.setCell ⟨b, 0, none⟩ (.int .i64 v.x)).setCell ⟨b, 1, none⟩ (.int .i64 v.y)).setCell ⟨b, 2, none⟩ (.int .i64 v.z)) b 84 v.row := ((h.set 0 _).set 1 _).set 2 _
theorem bk_far3 {w : World} {b g : Nat} {t : TypeId} {cs : Array Value} {v : Vj} (h : Bk w g t cs) (hne : g ≠ b) : Bk (((w.setCell ⟨b, 0, none⟩ (.int .i64 v.x)).setCell ⟨b, 1, none⟩ (.int .i64 v.y)).setCell ⟨b, 2, none⟩ (.int .i64 v.z)) g t cs :=
  ((h.far hne _).far hne _).far hne _

theorem vectors_laid {T : Array Value} {ds : List Nat} {f : FuncId} {vs : List Vj} (hv : ∀ v ∈ vs, VjOk P ops T ds f v) (hd : vs.Pairwise fun a b => a.c ≠ b.c ∧ a.p ≠ b.p ∧ a.s ≠ b.s ∧ a.kc ≠ b.kc ∧ a.kp ≠ b.kp) (hcp : ∀ a ∈ vs, ∀ b ∈ vs, a.kc ≠ b.kp)
    (hpos : ∀ a ∈ vs, ∀ b ∈ vs, a.c ≠ b.p ∧ a.c ≠ b.s ∧ a.p ≠ b.s)
    (hac : ∀ (i : Nat) (o : Oper), ops[i]? = some o → ∀ e ∈ o.after, e.on < i) {w0 : World} {B : Nat} (hB : B ≤ w0.heap.size) (hS : ∀ W, Below B w0 W → S W) (hcalls : ∀ v ∈ vs, ∀ W, Below B w0 W → Calls P f v.args W fun e w' => e = .returned (.agg v.row) ∧ Below W.heap.size W w')
    (hQ : ∀ V W, Below B w0 W → (∀ v ∈ vs, V v.kc = .agg v.row) → (∃ g : Nat → Nat, (∀ v ∈ vs, V v.kp = .pointer (some ⟨g v.kp, 0, none⟩) ∧ B ≤ g v.kp ∧ Bk W (g v.kp) 84 v.row)) → (∀ k, (∀ v ∈ vs, k ≠ v.kc ∧ k ≠ v.kp) → V k = T.getD k undef) → Q .normal { tmps := canon T ds V, defers := [] } W)
    {listed : Array Bool} (hsz : listed.size = ops.size) (hl : ∀ i, i < ops.size → listed.getD i false = false → ∃ v ∈ vs, i = v.c ∨ i = v.p ∨ i = v.s) (hl2 : ∀ v ∈ vs, listed.getD v.c false = false ∧ listed.getD v.p false = false ∧ listed.getD v.s false = false)
    {fuel : Nat} (hfuel : left listed ≤ fuel) (hsl : ∀ v ∈ vs, v.c < ops.size ∧ v.p < ops.size ∧ v.s < ops.size) : wpAnyH P .any ops Q S fuel listed { tmps := T, defers := [] } w0 := by
  -- different vectors differ
  have hdiff : ∀ a ∈ vs, ∀ b ∈ vs, (a.c = b.c ∨ a.p = b.p ∨ a.s = b.s ∨ a.kc = b.kc ∨ a.kp = b.kp) → a = b := by
    intro a ha b hb h
    obtain ⟨i, hi, rfl⟩ := List.mem_iff_getElem.1 ha
    obtain ⟨j, hj, rfl⟩ := List.mem_iff_getElem.1 hb
    rw [List.pairwise_iff_getElem] at hd
    rcases Nat.lt_trichotomy i j with hlt | heq | hlt
    · have := hd i j hi hj hlt; omega
    · subst heq; rfl
    · have := hd j i hj hi hlt; omega
  let Inv : (Nat → Bool) → Act → World → Prop := fun D a w => Below B w0 w ∧ (∀ i, i < ops.size → listed.getD i false = true → D i = true) ∧ ∃ V : Nat → Value, a = { tmps := canon T ds V, defers := [] } ∧ (∀ v ∈ vs, D v.c = true → V v.kc = .agg v.row) ∧ (∀ v ∈ vs, D v.s = true → D v.c = true ∧ D v.p = true) ∧
    (∃ g : Nat → Nat, (∀ v ∈ vs, D v.p = true → V v.kp = .pointer (some ⟨g v.kp, 0, none⟩) ∧ B ≤ g v.kp ∧ g v.kp < w.heap.size ∧ Bk w (g v.kp) 84 (bif D v.s then v.row else zero3)) ∧ (∀ u ∈ vs, ∀ v ∈ vs, D u.p = true → D v.p = true → g u.kp = g v.kp → u = v)) ∧
    (∀ k, (∀ v ∈ vs, k ≠ v.kc ∧ k ≠ v.kp) → V k = T.getD k undef)
  refine wpAnyH_inv hac Inv ?_ ?_ fuel listed _ w0 hsz hfuel ?_
  · intro D a w i o ho hDi hdep ⟨hb, hold, V, ha, hc, hst, ⟨g, hg, hgi⟩, hrest⟩
    subst ha
    have hi : i < ops.size := (Array.getElem?_eq_some_iff.1 ho).1
    have hnl : listed.getD i false = false := by
      cases hx : listed.getD i false with
      | false => rfl
      | true => have := hold i hi hx; rw [hDi] at this; cases this
    have hbs := hb.size
    obtain ⟨v, hvm, hiv⟩ := hl i hi hnl
    have ok := hv v hvm
    have hold' : ∀ i', ∀ i, i < ops.size → listed.getD i false = true → (D i || i == i') = true := fun i' i h1 h2 => by rw [hold i h1 h2]; rfl
    rcases hiv with rfl | rfl | rfl
    · -- a call
      obtain ⟨o', e1, e2, e3, e4⟩ := ok.call
      rw [ho] at e1; cases e1
      refine held_plain ho e2 (oper_call (e4 V w) (hcalls v hvm w hb) fun e w' ⟨he, hb'⟩ => ⟨_, he, ?_⟩)
      have hb2 : Below B w0 w' := hb.trans (hb'.mono (by omega))
      refine ⟨hS w' hb2, hb2, hold' _, updV V v.kc (.agg v.row), ?_, fun u hu h => ?_, fun u hu h => ?_, ⟨g, fun u hu h => ?_, fun u hu u2 hu2 h1 h2 h3 => ?_⟩, fun k hk => ?_⟩
      · rw [e3]
        simp only [Act.put, canon_set _ ok.kc]
      · by_cases huv : u = v
        · subst huv; exact updV_same _ _ _
        · have hne : u.kc ≠ v.kc := fun e => huv (hdiff u hu v hvm (by simp [e]))
          have hcne : u.c ≠ v.c := fun e => huv (hdiff u hu v hvm (by simp [e]))
          rw [updV_other _ _ hne]
          refine hc u hu ?_
          simpa [hcne] using h
      · have hne : u.s ≠ v.c := fun e => (hpos v hvm u hu).2.1 e.symm
        have h1 : D u.s = true := by simpa [hne] using h
        obtain ⟨h2, h3⟩ := hst u hu h1
        exact ⟨by simp [h2], by simp [h3]⟩
      · have hne : u.p ≠ v.c := fun e => (hpos v hvm u hu).1 e.symm
        have hne2 : u.s ≠ v.c := fun e => (hpos v hvm u hu).2.1 e.symm
        have h1 : D u.p = true := by simpa [hne] using h
        obtain ⟨g1, g2, g3, g4⟩ := hg u hu h1
        have hds : (D u.s || u.s == v.c) = D u.s := by simp [hne2]
        dsimp only
        rw [hds]
        have hkne : u.kp ≠ v.kc := fun e => hcp v hvm u hu e.symm
        rw [updV_other _ _ hkne]
        exact ⟨g1, g2, Nat.lt_of_lt_of_le g3 hb'.size, g4.below hb' g3⟩
      · have n1 : u.p ≠ v.c := fun e => (hpos v hvm u hu).1 e.symm
        have n2 : u2.p ≠ v.c := fun e => (hpos v hvm u2 hu2).1 e.symm
        exact hgi u hu u2 hu2 (by simpa [n1] using h1) (by simpa [n2] using h2) h3
      · rw [updV_other _ _ (hk v hvm).1]; exact hrest k hk
    · -- a block
      obtain ⟨o', e1, e2, e3, e4⟩ := ok.alloc
      rw [ho] at e1; cases e1
      refine held_plain ho e2 (oper_run (e4 _ w) ?_)
      have hb2 : Below B w0 (w.alloc (.cells zero3 84)) := hb.alloc (by omega) _
      refine ⟨hS _ hb2, hb2, hold' _, updV V v.kp (.pointer (some ⟨w.heap.size, 0, none⟩)), ?_, fun u hu h => ?_, fun u hu h => ?_, ⟨fun k => if k = v.kp then w.heap.size else g k, fun u hu h => ?_, fun u hu u2 hu2 h1 h2 h3 => ?_⟩, fun k hk => ?_⟩
      · rw [e3]
        simp only [Act.put, canon_set _ ok.kp]
      · have hkne : u.kc ≠ v.kp := hcp u hu v hvm
        have hne : u.c ≠ v.p := (hpos u hu v hvm).1
        rw [updV_other _ _ hkne]
        exact hc u hu (by simpa [hne] using h)
      · have hne : u.s ≠ v.p := fun e => (hpos v hvm u hu).2.2 e.symm
        have h1 : D u.s = true := by simpa [hne] using h
        obtain ⟨h2, h3⟩ := hst u hu h1
        exact ⟨by simp [h2], by simp [h3]⟩
      · have hne2 : u.s ≠ v.p := fun e => (hpos v hvm u hu).2.2 e.symm
        have hds : (D u.s || u.s == v.p) = D u.s := by simp [hne2]
        dsimp only
        rw [hds]
        by_cases huv : u = v
        · subst huv
          have hns : D u.s = false := by
            cases hx : D u.s with
            | false => rfl
            | true => have := (hst u hu hx).2; rw [hDi] at this; cases this
          rw [hns]
          refine ⟨by rw [updV_same, if_pos rfl], by rw [if_pos rfl]; omega, by rw [if_pos rfl, World.size_alloc]; omega, ?_⟩
          rw [if_pos rfl]
          exact Bk.new w 84 zero3
        · have hkn : u.kp ≠ v.kp := fun e => huv (hdiff u hu v hvm (by simp [e]))
          have hpn : u.p ≠ v.p := fun e => huv (hdiff u hu v hvm (by simp [e]))
          obtain ⟨g1, g2, g3, g4⟩ := hg u hu (by simpa [hpn] using h)
          rw [updV_other _ _ hkn, if_neg hkn]
          exact ⟨g1, g2, by rw [World.size_alloc]; omega, g4.alloc _⟩
      · by_cases huv : u = v
        · by_cases huv2 : u2 = v
          · rw [huv, huv2]
          · exfalso
            have hkn : u2.kp ≠ v.kp := fun e => huv2 (hdiff u2 hu2 v hvm (by simp [e]))
            have hpn : u2.p ≠ v.p := fun e => huv2 (hdiff u2 hu2 v hvm (by simp [e]))
            obtain ⟨_, _, g3, _⟩ := hg u2 hu2 (by simpa [hpn] using h2)
            subst huv
            simp only [if_pos, if_neg hkn] at h3
            omega
        · have hkn : u.kp ≠ v.kp := fun e => huv (hdiff u hu v hvm (by simp [e]))
          have hpn : u.p ≠ v.p := fun e => huv (hdiff u hu v hvm (by simp [e]))
          have h1' : D u.p = true := by simpa [hpn] using h1
          by_cases huv2 : u2 = v
          · exfalso
            obtain ⟨_, _, g3, _⟩ := hg u hu h1'
            subst huv2
            simp only [if_pos, if_neg hkn] at h3
            omega
          · have hkn2 : u2.kp ≠ v.kp := fun e => huv2 (hdiff u2 hu2 v hvm (by simp [e]))
            have hpn2 : u2.p ≠ v.p := fun e => huv2 (hdiff u2 hu2 v hvm (by simp [e]))
            simp only [if_neg hkn, if_neg hkn2] at h3
            exact hgi u hu u2 hu2 h1' (by simpa [hpn2] using h2) h3
      · rw [updV_other _ _ (hk v hvm).2]; exact hrest k hk
    · -- a store
      obtain ⟨o', e1, e2, e3, hdc, hdp, e4⟩ := ok.store
      obtain ⟨ec, hec, hec1, hec2⟩ := dep_of hdc
      obtain ⟨ep, hep, hep1, hep2⟩ := dep_of hdp
      rw [ho] at e1; cases e1
      have dc : D v.c = true := by rw [← hec1]; exact hdep ec hec hec2
      have dp : D v.p = true := by rw [← hep1]; exact hdep ep hep hep2
      obtain ⟨g1, g2, g3, g4⟩ := hg v hvm dp
      have hzero : Bk w (g v.kp) 84 zero3 := by
        rw [hDi] at g4
        exact g4
      obtain ⟨w', nx, hrun, hnx, hw'⟩ := e4 { tmps := canon T ds V, defers := [] } w (g v.kp) (by rw [canon_at ok.kp ok.kpl]; exact g1) (by rw [canon_at ok.kc ok.kcl]; exact hc v hvm dc) hzero
      have hb2 : Below B w0 w' := by
        rw [hw']
        exact ((hb.setCell (p := ⟨g v.kp, 0, none⟩) g2 _).setCell (p := ⟨g v.kp, 1, none⟩) g2 _).setCell (p := ⟨g v.kp, 2, none⟩) g2 _
      have hsize : w'.heap.size = w.heap.size := by rw [hw']; simp
      have fin : S w' ∧ Inv (fun j => D j || j == v.s) { tmps := canon T ds V, defers := [] } w' := by
        refine ⟨hS w' hb2, hb2, hold' _, V, rfl, fun u hu h => ?_, fun u hu h => ?_, ⟨g, fun u hu h => ?_, fun u hu u2 hu2 h1 h2 h3 => ?_⟩, hrest⟩
        · have hne : u.c ≠ v.s := (hpos u hu v hvm).2.1
          exact hc u hu (by simpa [hne] using h)
        · by_cases huv : u = v
          · subst huv; exact ⟨by simp [dc], by simp [dp]⟩
          · have hne : u.s ≠ v.s := fun e => huv (hdiff u hu v hvm (by simp [e]))
            have h1 : D u.s = true := by simpa [hne] using h
            obtain ⟨h2, h3⟩ := hst u hu h1
            exact ⟨by simp [h2], by simp [h3]⟩
        · have hne : u.p ≠ v.s := (hpos u hu v hvm).2.2
          have h1 : D u.p = true := by simpa [hne] using h
          obtain ⟨k1, k2, k3, k4⟩ := hg u hu h1
          refine ⟨k1, k2, by rw [hsize]; exact k3, ?_⟩
          by_cases huv : u = v
          · subst huv
            have : (D u.s || u.s == u.s) = true := by simp
            dsimp only
            rw [this, hw']
            exact bk_set3 hzero
          · have hsn : u.s ≠ v.s := fun e => huv (hdiff u hu v hvm (by simp [e]))
            have : (D u.s || u.s == v.s) = D u.s := by simp [hsn]
            dsimp only
            rw [this, hw']
            exact bk_far3 k4 (fun e => huv (hgi u hu v hvm h1 dp e))
        · have n1 : u.p ≠ v.s := (hpos u hu v hvm).2.2
          have n2 : u2.p ≠ v.s := (hpos u2 hu2 v hvm).2.2
          exact hgi u hu u2 hu2 (by simpa [n1] using h1) (by simpa [n2] using h2) h3
      rcases hnx with rfl | ⟨x, rfl⟩
      · refine held_plain ho e2 (oper_skip hrun ?_)
        rw [e3]; exact fin
      · refine held_plain ho e2 (oper_run hrun ?_)
        rw [e3]; exact fin
  · intro D a w hall ⟨hb, _, V, ha, hc, _, ⟨g, hg, _⟩, hrest⟩
    subst ha
    refine hQ V w hb (fun v hvm => hc v hvm (hall _ (hsl v hvm).1)) ⟨g, fun v hvm => ?_⟩ hrest
    obtain ⟨g1, g2, _, g4⟩ := hg v hvm (hall _ (hsl v hvm).2.1)
    rw [hall _ (hsl v hvm).2.2] at g4
    exact ⟨g1, g2, g4⟩
  · refine ⟨Below.refl _ _, fun i _ h => h, fun k => T.getD k undef, by rw [canon_start], fun v hvm h => ?_, fun v hvm h => ?_, ⟨fun _ => 0, fun v hvm h => ?_, fun u hu u2 _ h => ?_⟩, fun _ _ => rfl⟩
    · dsimp only at h; rw [(hl2 v hvm).1] at h; cases h
    · dsimp only at h; rw [(hl2 v hvm).2.2] at h; cases h
    · dsimp only at h; rw [(hl2 v hvm).2.1] at h; cases h
    · dsimp only at h; rw [(hl2 u hu).2.1] at h; cases h
end
end Go.Proofs.Ytkjceegmmhnajaa

namespace Go.Proofs.Ytkjceegmmhnajaa
open Go.RowKit

theorem gcd3_pos (x y z : Int) (h : y ≠ 0) : 1 ≤ (gcdL [x, y, z] : Int) ∧ (gcdL [x, y, z] : Int) ≤ y.natAbs := by
  have hd : gcdL [x, y, z] ∣ y.natAbs := Nat.dvd_trans (Nat.gcd_dvd_left ..) (Nat.gcd_dvd_right ..)
  have hp : 0 < y.natAbs := by omega
  have h1 := Nat.pos_of_dvd_of_pos hd hp
  have h2 := Nat.le_of_dvd hp hd
  omega

set_option maxRecDepth 100000 in
set_option maxHeartbeats 4000000 in
theorem weights3 (a p q x : Vc) (ad : Addr) (c : Nat) (w : World) (hb : ad.block < w.heap.size) (h0 : vecAt w ad a) (h3 : vecAt w ⟨ad.block, ad.off + 3, none⟩ p) (h6 : vecAt w ⟨ad.block, ad.off + 6, none⟩ q) (ha : shadeV a) (hp : shadeV p) (hq : shadeV q) (hx : shadeV x) :
    Calls Try.prog 86 #[.slice (some ad) 3 c, x.agg] w (WEnd (pwts [a, p, q] x) w) := by
  have hu := vb_sub hx ha
  have hd := vb_sub hp ha
  have hf := vb_sub hq ha
  obtain ⟨a1, a2, a3⟩ := a
  obtain ⟨p1, p2, p3⟩ := p
  obtain ⟨q1, q2, q3⟩ := q
  obtain ⟨x1, x2, x3⟩ := x
  dsimp only at hu hd hf
  have HMu : Hid (∀ W, Calls Try.prog 75 #[.agg #[.int .i64 x1, .int .i64 x2, .int .i64 x3], .agg #[.int .i64 a1, .int .i64 a2, .int .i64 a3]] W fun e w' => e = .returned (.agg #[.int .i64 (x1 - a1), .int .i64 (x2 - a2), .int .i64 (x3 - a3)]) ∧ Below W.heap.size W w') := fun W => minus_any _ _ _ _ _ _ W (ab_big hu.1 (by omega)) (ab_big hu.2.1 (by omega)) (ab_big hu.2.2 (by omega))
  have HMd : Hid (∀ W, Calls Try.prog 75 #[.agg #[.int .i64 p1, .int .i64 p2, .int .i64 p3], .agg #[.int .i64 a1, .int .i64 a2, .int .i64 a3]] W fun e w' => e = .returned (.agg #[.int .i64 (p1 - a1), .int .i64 (p2 - a2), .int .i64 (p3 - a3)]) ∧ Below W.heap.size W w') := fun W => minus_any _ _ _ _ _ _ W (ab_big hd.1 (by omega)) (ab_big hd.2.1 (by omega)) (ab_big hd.2.2 (by omega))
  have HMf : Hid (∀ W, Calls Try.prog 75 #[.agg #[.int .i64 q1, .int .i64 q2, .int .i64 q3], .agg #[.int .i64 a1, .int .i64 a2, .int .i64 a3]] W fun e w' => e = .returned (.agg #[.int .i64 (q1 - a1), .int .i64 (q2 - a2), .int .i64 (q3 - a3)]) ∧ Below W.heap.size W w') := fun W => minus_any _ _ _ _ _ _ W (ab_big hf.1 (by omega)) (ab_big hf.2.1 (by omega)) (ab_big hf.2.2 (by omega))
  have HE : Hid (∀ u1 u2 u3 d1 d2 d3 f1 f2 f3 n1 n2 n3 y t e1 e2 e3 xx k1 k2 k3 z : Int, (x1 - a1 = u1 ∧ x2 - a2 = u2 ∧ x3 - a3 = u3) → (p1 - a1 = d1 ∧ p2 - a2 = d2 ∧ p3 - a3 = d3) → (q1 - a1 = f1 ∧ q2 - a2 = f2 ∧ q3 - a3 = f3) →
      (n1 = d2 * f3 - d3 * f2 ∧ n2 = d3 * f1 - d1 * f3 ∧ n3 = d1 * f2 - d2 * f1) → y = n1 * n1 + n2 * n2 + n3 * n3 → t = u1 * n1 + u2 * n2 + u3 * n3 →
      (e1 = u2 * f3 - u3 * f2 ∧ e2 = u3 * f1 - u1 * f3 ∧ e3 = u1 * f2 - u2 * f1) → xx = e1 * n1 + e2 * n2 + e3 * n3 → (k1 = d2 * u3 - d3 * u2 ∧ k2 = d3 * u1 - d1 * u3 ∧ k3 = d1 * u2 - d2 * u1) → z = k1 * n1 + k2 * n2 + k3 * n3 →
      pwts [⟨a1, a2, a3⟩, ⟨p1, p2, p3⟩, ⟨q1, q2, q3⟩] ⟨x1, x2, x3⟩ = if y = 0 ∨ t ≠ 0 then none else some [(y - xx - z).tdiv (gcdL [xx, y, z] : Nat), xx.tdiv (gcdL [xx, y, z] : Nat), z.tdiv (gcdL [xx, y, z] : Nat)]) := by
    rintro _ _ _ _ _ _ _ _ _ _ _ _ _ _ _ _ _ _ _ _ _ _ ⟨rfl, rfl, rfl⟩ ⟨rfl, rfl, rfl⟩ ⟨rfl, rfl, rfl⟩ ⟨rfl, rfl, rfl⟩ rfl rfl ⟨rfl, rfl, rfl⟩ rfl ⟨rfl, rfl, rfl⟩ rfl
    simp only [pwts, Vc.sub, Vc.dot, Vc.crs]
    rfl
  generalize hu1 : x1 - a1 = u1 at *
  generalize hu2 : x2 - a2 = u2 at *
  generalize hu3 : x3 - a3 = u3 at *
  generalize hd1 : p1 - a1 = d1 at *
  generalize hd2 : p2 - a2 = d2 at *
  generalize hd3 : p3 - a3 = d3 at *
  generalize hf1 : q1 - a1 = f1 at *
  generalize hf2 : q2 - a2 = f2 at *
  generalize hf3 : q3 - a3 = f3 at *
  have HE2 := Lib.hid (fun n1 n2 n3 y t e1 e2 e3 xx k1 k2 k3 z => HE.out u1 u2 u3 d1 d2 d3 f1 f2 f3 n1 n2 n3 y t e1 e2 e3 xx k1 k2 k3 z ⟨rfl, rfl, rfl⟩ ⟨rfl, rfl, rfl⟩ ⟨rfl, rfl, rfl⟩)
  clear hu1 hu2 hu3 hd1 hd2 hd3 hf1 hf2 hf3 HE
  have H0 := Lib.hid h0
  have H3 := Lib.hid h3
  have H6 := Lib.hid h6
  have Hu := Lib.hid hu
  have Hd := Lib.hid hd
  have Hf := Lib.hid hf
  unfold vecAt at h0 h3 h6
  obtain ⟨h00, h01, h02⟩ := h0
  dsimp only at *
  clear ha hp hq hx h3 h6 hu hd hf
  go_enter Try.func86, Try.ntmps86
  go_wp2_with (go_at_call 75; refine (HMu.out _).mono ?_; rintro e w1 ⟨rfl, hb1⟩; have hB1 : Below w.heap.size w w1 := (Below.trans (by repeat (first | with_reducible exact Below.refl _ _ | with_reducible assumption | with_reducible refine Below.drew ?_ | with_reducible refine below_drewN ?_ _ | (with_reducible refine Below.alloc ?_ ?_ _; rotate_left; (try simp) <;> omega) | (with_reducible refine Below.setCell ?_ ?_ _; rotate_left; (try simp) <;> omega))) (hb1.mono (by first | omega | (simp; omega) | simp))); have xa1 := (Bk.new (w.alloc (.cells #[.int .i64 x1, .int .i64 x2, .int .i64 x3] 84)) 84 #[.int .i64 a1, .int .i64 a2, .int .i64 a3]).below hb1 (by simp); rw [World.size_alloc] at xa1; have l1 := xa1.lt)
  have xu := Bk.new w1 84 #[.int .i64 u1, .int .i64 u2, .int .i64 u3]
  have xa := xa1.alloc (.cells #[.int .i64 u1, .int .i64 u2, .int .i64 u3] 84)
  have hBa : Below w.heap.size w (w1.alloc (.cells #[.int .i64 u1, .int .i64 u2, .int .i64 u3] 84)) := hB1.alloc hB1.size _
  have l2 := xu.lt
  have l3 := xa.lt
  clear xa1 hb1 l1
  go_wp2
  obtain ⟨wa, hwa⟩ : ∃ wa, wa = w1.alloc (.cells #[.int .i64 u1, .int .i64 u2, .int .i64 u3] 84) := ⟨_, rfl⟩
  have hsza : wa.heap.size = w1.heap.size + 1 := by rw [hwa]; simp
  rw [← hwa] at xu xa hBa l2 l3 ⊢
  clear hwa h00 h01 h02
  have k30 : wa.cell? ⟨ad.block, ad.off + 3, none⟩ = some (.int .i64 p1) := (H3.out.below hBa hb).1
  have k31 : wa.cell? ⟨ad.block, ad.off + 3 + 1, none⟩ = some (.int .i64 p2) := (H3.out.below hBa hb).2.1
  have k32 : wa.cell? ⟨ad.block, ad.off + 3 + 2, none⟩ = some (.int .i64 p3) := (H3.out.below hBa hb).2.2
  have k60 : wa.cell? ⟨ad.block, ad.off + 6, none⟩ = some (.int .i64 q1) := (H6.out.below hBa hb).1
  have k61 : wa.cell? ⟨ad.block, ad.off + 6 + 1, none⟩ = some (.int .i64 q2) := (H6.out.below hBa hb).2.1
  have k62 : wa.cell? ⟨ad.block, ad.off + 6 + 2, none⟩ = some (.int .i64 q3) := (H6.out.below hBa hb).2.2
  have la : ad.block < wa.heap.size := Nat.lt_of_lt_of_le hb hBa.size
  have a0 := xa.cell 0 rfl
  have a1' := xa.cell 1 rfl
  have a2' := xa.cell 2 rfl
  refine wp_region_held_drew (S := fun w' => (w'.cell? ⟨w.heap.size + 1, 0, none⟩ = some (.int .i64 a1) ∧ w'.cell? ⟨w.heap.size + 1, 1, none⟩ = some (.int .i64 a2) ∧ w'.cell? ⟨w.heap.size + 1, 2, none⟩ = some (.int .i64 a3)) ∧ (w'.cell? ⟨ad.block, ad.off + 3, none⟩ = some (.int .i64 p1) ∧ w'.cell? ⟨ad.block, ad.off + 3 + 1, none⟩ = some (.int .i64 p2) ∧ w'.cell? ⟨ad.block, ad.off + 3 + 2, none⟩ = some (.int .i64 p3)) ∧ (w'.cell? ⟨ad.block, ad.off + 6, none⟩ = some (.int .i64 q1) ∧ w'.cell? ⟨ad.block, ad.off + 6 + 1, none⟩ = some (.int .i64 q2) ∧ w'.cell? ⟨ad.block, ad.off + 6 + 2, none⟩ = some (.int .i64 q3))) (by kernel_rfl) ?_ (fun hHeld => ?_)
  · exact ⟨⟨a0, a1', a2'⟩, ⟨k30, k31, k32⟩, ⟨k60, k61, k62⟩⟩
  (refine held_take 0 (some 70) ?_ rfl (by kernel_rfl) (by kernel_rfl) (by kernel_rfl) (by rfl) (fun _ _ _ h => h) (by assumption) (fun w hSw => ?_) ?_; rotate_left; ((try dsimp only at hSw); simp only [List.getElem?_toArray, List.getElem?_cons_zero, List.getElem?_cons_succ, Option.map_some]; refine congrArg some ?_; go_simp; (try with_reducible rfl)); (try simp only [Act.put, List.setIfInBounds_toArray, List.set_cons_zero, List.set_cons_succ]))
  (refine held_take 1 (some 71) ?_ rfl (by kernel_rfl) (by kernel_rfl) (by kernel_rfl) (by rfl) (fun _ _ _ h => h) (by assumption) (fun w hSw => ?_) ?_; rotate_left; ((try dsimp only at hSw); simp only [List.getElem?_toArray, List.getElem?_cons_zero, List.getElem?_cons_succ, Option.map_some]; refine congrArg some ?_; go_simp; (try with_reducible rfl)); (try simp only [Act.put, List.setIfInBounds_toArray, List.set_cons_zero, List.set_cons_succ]))
  (refine held_take 2 (some 72) ?_ rfl (by kernel_rfl) (by kernel_rfl) (by kernel_rfl) (by rfl) (fun _ _ _ h => h) (by assumption) (fun w hSw => ?_) ?_; rotate_left; ((try dsimp only at hSw); simp only [List.getElem?_toArray, List.getElem?_cons_zero, List.getElem?_cons_succ, Option.map_some]; refine congrArg some ?_; go_simp; (try with_reducible rfl)); (try simp only [Act.put, List.setIfInBounds_toArray, List.set_cons_zero, List.set_cons_succ]))
  (refine held_take 3 (some 73) ?_ rfl (by kernel_rfl) (by kernel_rfl) (by kernel_rfl) (by rfl) (fun _ _ _ h => h) (by assumption) (fun w hSw => ?_) ?_; rotate_left; ((try dsimp only at hSw); simp only [List.getElem?_toArray, List.getElem?_cons_zero, List.getElem?_cons_succ, Option.map_some]; refine congrArg some ?_; go_simp; (try with_reducible rfl)); (try simp only [Act.put, List.setIfInBounds_toArray, List.set_cons_zero, List.set_cons_succ]))
  (refine held_take 5 (some 75) ?_ rfl (by kernel_rfl) (by kernel_rfl) (by kernel_rfl) (by rfl) (fun _ _ _ h => h) (by assumption) (fun w hSw => ?_) ?_; rotate_left; ((try dsimp only at hSw); simp only [List.getElem?_toArray, List.getElem?_cons_zero, List.getElem?_cons_succ, Option.map_some]; refine congrArg some ?_; go_simp; (try with_reducible rfl)); (try simp only [Act.put, List.setIfInBounds_toArray, List.set_cons_zero, List.set_cons_succ]))
  (refine held_take 6 (some 76) ?_ rfl (by kernel_rfl) (by kernel_rfl) (by kernel_rfl) (by rfl) (fun _ _ _ h => h) (by assumption) (fun w hSw => ?_) ?_; rotate_left; ((try dsimp only at hSw); simp only [List.getElem?_toArray, List.getElem?_cons_zero, List.getElem?_cons_succ, Option.map_some]; refine congrArg some ?_; go_simp; (try with_reducible rfl)); (try simp only [Act.put, List.setIfInBounds_toArray, List.set_cons_zero, List.set_cons_succ]))
  (refine held_take 7 (some 77) ?_ rfl (by kernel_rfl) (by kernel_rfl) (by kernel_rfl) (by rfl) (fun _ _ _ h => h) (by assumption) (fun w hSw => ?_) ?_; rotate_left; ((try dsimp only at hSw); simp only [List.getElem?_toArray, List.getElem?_cons_zero, List.getElem?_cons_succ, Option.map_some]; refine congrArg some ?_; go_simp; (try with_reducible rfl)); (try simp only [Act.put, List.setIfInBounds_toArray, List.set_cons_zero, List.set_cons_succ]))
  (refine held_take 8 (some 78) ?_ rfl (by kernel_rfl) (by kernel_rfl) (by kernel_rfl) (by rfl) (fun _ _ _ h => h) (by assumption) (fun w hSw => ?_) ?_; rotate_left; ((try dsimp only at hSw); simp only [List.getElem?_toArray, List.getElem?_cons_zero, List.getElem?_cons_succ, Option.map_some]; refine congrArg some ?_; go_simp; (try with_reducible rfl)); (try simp only [Act.put, List.setIfInBounds_toArray, List.set_cons_zero, List.set_cons_succ]))
  refine vectors_laid (ds := [74, 79, 11, 12]) (f := 75) (vs := [⟨4, 10, 12, 74, 11, #[.agg #[.int .i64 p1, .int .i64 p2, .int .i64 p3], .agg #[.int .i64 a1, .int .i64 a2, .int .i64 a3]], d1, d2, d3⟩, ⟨9, 11, 13, 79, 12, #[.agg #[.int .i64 q1, .int .i64 q2, .int .i64 q3], .agg #[.int .i64 a1, .int .i64 a2, .int .i64 a3]], f1, f2, f3⟩]) (B := wa.heap.size) ?hv (by simp) (by simp) (by simp) ?hac ?hB ?hS ?hcalls ?hQ ?hsz ?hl ?hl2 ?hfuel ?hsl
  case hv =>
    intro v hv
    rcases List.mem_cons.1 hv with rfl | hv
    · refine ⟨by simp, by simp, by simp, by simp, ⟨_, rfl, rfl, rfl, fun V W => ?_⟩, ⟨_, rfl, rfl, rfl, fun a W => ?_⟩, ⟨_, rfl, rfl, rfl, by kernel_rfl, by kernel_rfl, fun a W b g1 g2 g3 => ?_⟩⟩
      · go_simp
        constructor <;> (rw [canon_get, if_neg (by simp)]; simp)
      · go_simp
        rfl
      · simp only [Vj.row] at g1 g2
        have t0 := g3.cell 0 rfl
        have t1 := g3.cell 1 rfl
        have t2 := g3.cell 2 rfl
        have r0 := g3.fro 0
        have r1 := g3.fro 1
        have r2 := g3.fro 2
        refine ⟨_, _, ?_, .inl rfl, rfl⟩
        go_simp
    obtain rfl := List.mem_singleton.1 hv
    · refine ⟨by simp, by simp, by simp, by simp, ⟨_, rfl, rfl, rfl, fun V W => ?_⟩, ⟨_, rfl, rfl, rfl, fun a W => ?_⟩, ⟨_, rfl, rfl, rfl, by kernel_rfl, by kernel_rfl, fun a W b g1 g2 g3 => ?_⟩⟩
      · go_simp
        constructor <;> (rw [canon_get, if_neg (by simp)]; simp)
      · go_simp
        rfl
      · simp only [Vj.row] at g1 g2
        have t0 := g3.cell 0 rfl
        have t1 := g3.cell 1 rfl
        have t2 := g3.cell 2 rfl
        have r0 := g3.fro 0
        have r1 := g3.fro 1
        have r2 := g3.fro 2
        refine ⟨_, _, ?_, .inl rfl, rfl⟩
        go_simp
  case hac =>
    exact acB_spec (by kernel_rfl)
  case hB => exact Nat.le_refl _
  case hsz => simp
  case hS =>
    intro W hW
    have hW' : Below wa.heap.size wa W := (Below.drew (Below.refl _ _)).trans hW
    exact ⟨⟨(hW'.cell l3).trans a0, (hW'.cell l3).trans a1', (hW'.cell l3).trans a2'⟩, ⟨(hW'.cell (p := ⟨ad.block, ad.off + 3, none⟩) la).trans k30, (hW'.cell (p := ⟨ad.block, ad.off + 3 + 1, none⟩) la).trans k31, (hW'.cell (p := ⟨ad.block, ad.off + 3 + 2, none⟩) la).trans k32⟩, ⟨(hW'.cell (p := ⟨ad.block, ad.off + 6, none⟩) la).trans k60, (hW'.cell (p := ⟨ad.block, ad.off + 6 + 1, none⟩) la).trans k61, (hW'.cell (p := ⟨ad.block, ad.off + 6 + 2, none⟩) la).trans k62⟩⟩
  case hcalls =>
    intro v hv W hW
    rcases List.mem_cons.1 hv with rfl | hv
    · exact HMd.out W
    · obtain rfl := List.mem_singleton.1 hv
      exact HMf.out W
  case hl =>
    exact hlB_spec (by kernel_rfl)
  case hl2 => simp
  case hfuel => simp [left]
  case hsl => simp
  case hQ =>
    intro V W hW hV ⟨g, hg⟩ hrest
    have e74 := hV _ (List.mem_cons_self ..)
    have e79 := hV _ (List.mem_cons_of_mem _ (List.mem_singleton.2 rfl))
    obtain ⟨e11, b11, k11⟩ := hg _ (List.mem_cons_self ..)
    obtain ⟨e12, b12, k12⟩ := hg _ (List.mem_cons_of_mem _ (List.mem_singleton.2 rfl))
    dsimp only [Vj.row] at e74 e79 e11 e12 b11 b12 k11 k12
    simp only [canon, List.foldl_cons, List.foldl_nil]
    rw [e74, e79, e11, e12]
    simp only [List.setIfInBounds_toArray, List.set_cons_zero, List.set_cons_succ]
    generalize g 11 = g1 at *
    generalize g 12 = g2 at *
    have hW' : Below wa.heap.size wa W := (Below.drew (Below.refl _ _)).trans hW
    have hBW : Below w.heap.size w W := hBa.trans (hW'.mono hBa.size)
    have yu := xu.below hW' l2
    clear hrest hV hg e74 e79 e11 e12 hW hW' xu xa a0 a1' a2' k30 k31 k32 k60 k61 k62 hHeld HMu HMd HMf H0 H3 H6 hB1 hBa l2 l3 la hsza b11 b12
    have lu := yu.lt
    have l11 := k11.lt
    have l12 := k12.lt
    have u0 := yu.cell 0 rfl
    have u1' := yu.cell 1 rfl
    have u2' := yu.cell 2 rfl
    have d0 := k11.cell 0 rfl
    have d1' := k11.cell 1 rfl
    have d2' := k11.cell 2 rfl
    have f0 := k12.cell 0 rfl
    have f1' := k12.cell 1 rfl
    have f2' := k12.cell 2 rfl
    go_wp2_with fail
    refine (cross_b (A := 1000) (B := 1000) _ Hd.out Hf.out (by omega)).mono ?_
    rintro e w2 ⟨n1, n2, n3, rfl, HN, hvn, hb2, hz2⟩
    clear hz2
    have HK : Hid (∀ W', Below (w2.alloc (.cells #[.int .i64 n1, .int .i64 n2, .int .i64 n3] 84)).heap.size (w2.alloc (.cells #[.int .i64 n1, .int .i64 n2, .int .i64 n3] 84)) W' → (W'.cell? ⟨w1.heap.size, 0, none⟩ = some (.int .i64 u1) ∧ W'.cell? ⟨w1.heap.size, 1, none⟩ = some (.int .i64 u2) ∧ W'.cell? ⟨w1.heap.size, 2, none⟩ = some (.int .i64 u3)) ∧ (W'.cell? ⟨g1, 0, none⟩ = some (.int .i64 d1) ∧ W'.cell? ⟨g1, 1, none⟩ = some (.int .i64 d2) ∧ W'.cell? ⟨g1, 2, none⟩ = some (.int .i64 d3)) ∧ (W'.cell? ⟨g2, 0, none⟩ = some (.int .i64 f1) ∧ W'.cell? ⟨g2, 1, none⟩ = some (.int .i64 f2) ∧ W'.cell? ⟨g2, 2, none⟩ = some (.int .i64 f3)) ∧ (W'.cell? ⟨w2.heap.size, 0, none⟩ = some (.int .i64 n1) ∧ W'.cell? ⟨w2.heap.size, 1, none⟩ = some (.int .i64 n2) ∧ W'.cell? ⟨w2.heap.size, 2, none⟩ = some (.int .i64 n3))) := fun W' hW' => by
      have hb' : Below W.heap.size W W' := (hb2.alloc hb2.size _).trans (hW'.mono (by have := hb2.size; simp; omega))
      have z1 := yu.below hb' lu
      have z2 := k11.below hb' l11
      have z3 := k12.below hb' l12
      have z4 := (Bk.new w2 84 #[.int .i64 n1, .int .i64 n2, .int .i64 n3]).below hW' (by simp)
      exact ⟨⟨z1.cell 0 rfl, z1.cell 1 rfl, z1.cell 2 rfl⟩, ⟨z2.cell 0 rfl, z2.cell 1 rfl, z2.cell 2 rfl⟩, ⟨z3.cell 0 rfl, z3.cell 1 rfl, z3.cell 2 rfl⟩, ⟨z4.cell 0 rfl, z4.cell 1 rfl, z4.cell 2 rfl⟩⟩
    have hBn : Below w.heap.size w (w2.alloc (.cells #[.int .i64 n1, .int .i64 n2, .int .i64 n3] 84)) := (hBW.trans (hb2.mono hBW.size)).alloc (Nat.le_trans hBW.size hb2.size) _
    have s1 : w1.heap.size < w2.heap.size := Nat.lt_of_lt_of_le lu hb2.size
    have s2 : g1 < w2.heap.size := Nat.lt_of_lt_of_le l11 hb2.size
    have s3 : g2 < w2.heap.size := Nat.lt_of_lt_of_le l12 hb2.size
    clear hBW hb2 lu l11 l12 u0 u1' u2' d0 d1' d2' f0 f1' f2' yu k11 k12
    go_wp2_with fail
    obtain ⟨wn, hwn⟩ : ∃ wn, wn = w2.alloc (.cells #[.int .i64 n1, .int .i64 n2, .int .i64 n3] 84) := ⟨_, rfl⟩
    rw [← hwn] at HK hBn ⊢
    have hszn : wn.heap.size = w2.heap.size + 1 := by rw [hwn]; simp
    clear hwn
    refine (times_b (A := 2000000) (B := 2000000) (a := n1) _ hvn hvn (by omega)).mono ?_
    rintro e w3 ⟨y, rfl, HY, hvy, hb3, hz3⟩
    clear hz3
    have hB3 : Below w.heap.size w w3 := hBn.trans (hb3.mono hBn.size)
    have hyb : -12000000000000 ≤ y ∧ y ≤ 12000000000000 := by have := hvy; unfold ab at this; omega
    obtain ⟨⟨u0, u1', u2'⟩, ⟨d0, d1', d2'⟩, ⟨f0, f1', f2'⟩, ⟨n0, n1', n2'⟩⟩ := HK.out w3 hb3
    have t1 : w1.heap.size < w3.heap.size := by have := hb3.size; omega
    have t2 : g1 < w3.heap.size := by have := hb3.size; omega
    have t3 : g2 < w3.heap.size := by have := hb3.size; omega
    have t4 : w2.heap.size < w3.heap.size := by have := hb3.size; omega
    have HE3 := Lib.hid (fun t e1 e2 e3 xx k1 k2 k3 z => HE2.out n1 n2 n3 y t e1 e2 e3 xx k1 k2 k3 z HN.out HY.out)
    clear HE2 hvy
    by_cases hy0 : y = 0
    · have hyn : (y == 0) = true := by rw [hy0]; rfl
      have HY0 := Lib.hid hy0
      clear hy0
      go_wp2
      go_ret2
      refine w_none (by rw [HE3.out _ _ _ _ _ _ _ _ _ rfl ⟨rfl, rfl, rfl⟩ rfl ⟨rfl, rfl, rfl⟩ rfl, if_pos (.inl HY0.out)]) (by omega) (by omega) ?_
      exact (by repeat (first | with_reducible exact Below.refl _ _ | with_reducible assumption | with_reducible refine Below.drew ?_ | with_reducible refine below_drewN ?_ _ | (with_reducible refine Below.alloc ?_ ?_ _; rotate_left; (try simp) <;> omega) | (with_reducible refine Below.setCell ?_ ?_ _; rotate_left; (try simp) <;> omega)))
    · have hyn : (y == 0) = false := by rw [beq_eq_false_iff_ne]; exact hy0
      have HY0 := Lib.hid hy0
      clear hy0
      go_wp2_with fail
      refine (times_b (A := 1000) (B := 2000000) (a := u1) _ Hu.out hvn (by omega)).mono ?_
      rintro e w4 ⟨t, rfl, HT, hvt, hb4, hz4⟩
      clear hz4
      have hR4 : Below wn.heap.size wn w4 := hb3.trans (hb4.mono hb3.size)
      have hB4 : Below w.heap.size w w4 := hB3.trans (hb4.mono hB3.size)
      clear u0 u1' u2' d0 d1' d2' f0 f1' f2' n0 n1' n2' hvt
      obtain ⟨⟨u0, u1', u2'⟩, ⟨d0, d1', d2'⟩, ⟨f0, f1', f2'⟩, ⟨n0, n1', n2'⟩⟩ := HK.out w4 hR4
      have t1 : w1.heap.size < w4.heap.size := by have := hR4.size; omega
      have t2 : g1 < w4.heap.size := by have := hR4.size; omega
      have t3 : g2 < w4.heap.size := by have := hR4.size; omega
      have t4 : w2.heap.size < w4.heap.size := by have := hR4.size; omega
      by_cases ht0 : t = 0
      · have htn : (t != 0) = false := by rw [ht0]; rfl
        have HT0 := Lib.hid ht0
        clear ht0
        go_wp2
        go_region_held3 (fun w' => (w'.cell? ⟨w1.heap.size, 0, none⟩ = some (.int .i64 u1) ∧ w'.cell? ⟨w1.heap.size, 1, none⟩ = some (.int .i64 u2) ∧ w'.cell? ⟨w1.heap.size, 2, none⟩ = some (.int .i64 u3)) ∧ (w'.cell? ⟨g1, 0, none⟩ = some (.int .i64 d1) ∧ w'.cell? ⟨g1, 1, none⟩ = some (.int .i64 d2) ∧ w'.cell? ⟨g1, 2, none⟩ = some (.int .i64 d3)) ∧ (w'.cell? ⟨g2, 0, none⟩ = some (.int .i64 f1) ∧ w'.cell? ⟨g2, 1, none⟩ = some (.int .i64 f2) ∧ w'.cell? ⟨g2, 2, none⟩ = some (.int .i64 f3)) ∧ (w'.cell? ⟨w2.heap.size, 0, none⟩ = some (.int .i64 n1) ∧ w'.cell? ⟨w2.heap.size, 1, none⟩ = some (.int .i64 n2) ∧ w'.cell? ⟨w2.heap.size, 2, none⟩ = some (.int .i64 n3)))
          (first | go_keep | (refine ⟨⟨?_, ?_, ?_⟩, ⟨?_, ?_, ?_⟩, ⟨?_, ?_, ?_⟩, ⟨?_, ?_, ?_⟩⟩ <;> first | assumption | go_keep))
          (first | (go_at_call 82; ((with_reducible refine (cross_b (A := 1000) (B := 1000) (a := u1) _ Hu.out Hf.out (by omega)).mono ?_); rintro e w5 ⟨e1, e2, e3, rfl, HC1, hv5, hb5, hz5⟩); clear hz5; have hR5 : Below wn.heap.size wn w5 := hR4.trans (Below.mono (Below.trans (by repeat (first | with_reducible exact Below.refl _ _ | with_reducible assumption | with_reducible refine Below.drew ?_ | with_reducible refine below_drewN ?_ _ | (with_reducible refine Below.alloc ?_ ?_ _; rotate_left; (try simp) <;> omega) | (with_reducible refine Below.setCell ?_ ?_ _; rotate_left; (try simp) <;> omega))) hb5) hR4.size); have r5 := hR5.size; obtain ⟨⟨c0, c1, c2⟩, ⟨c3, c4, c5⟩, ⟨c6, c7, c8⟩, ⟨c9, c10, c11⟩⟩ := HK.out w5 hR5) | (go_at_call 82; ((with_reducible refine (cross_b (A := 1000) (B := 1000) (a := d1) _ Hd.out Hu.out (by omega)).mono ?_); rintro e w7 ⟨k1, k2, k3, rfl, HC2, hv7, hb7, hz7⟩); clear hz7; have hR7 : Below wn.heap.size wn w7 := hR6.trans (Below.mono (Below.trans (by repeat (first | with_reducible exact Below.refl _ _ | with_reducible assumption | with_reducible refine Below.drew ?_ | with_reducible refine below_drewN ?_ _ | (with_reducible refine Below.alloc ?_ ?_ _; rotate_left; (try simp) <;> omega) | (with_reducible refine Below.setCell ?_ ?_ _; rotate_left; (try simp) <;> omega))) hb7) hR6.size); have r7 := hR7.size; obtain ⟨⟨c0, c1, c2⟩, ⟨c3, c4, c5⟩, ⟨c6, c7, c8⟩, ⟨c9, c10, c11⟩⟩ := HK.out w7 hR7) | (go_at_call 46; ((with_reducible refine (times_b (A := 2000000) (B := 2000000) (a := e1) _ hv5 hvn (by omega)).mono ?_); rintro e w6 ⟨xx, rfl, HX, hv6, hb6, hz6⟩); clear hz6; have hR6 : Below wn.heap.size wn w6 := hR5.trans (Below.mono (Below.trans (by repeat (first | with_reducible exact Below.refl _ _ | with_reducible assumption | with_reducible refine Below.drew ?_ | with_reducible refine below_drewN ?_ _ | (with_reducible refine Below.alloc ?_ ?_ _; rotate_left; (try simp) <;> omega) | (with_reducible refine Below.setCell ?_ ?_ _; rotate_left; (try simp) <;> omega))) hb6) hR5.size); have r6 := hR6.size; obtain ⟨⟨c0, c1, c2⟩, ⟨c3, c4, c5⟩, ⟨c6, c7, c8⟩, ⟨c9, c10, c11⟩⟩ := HK.out w6 hR6) | (go_at_call 46; ((with_reducible refine (times_b (A := 2000000) (B := 2000000) (a := k1) _ hv7 hvn (by omega)).mono ?_); rintro e w8 ⟨z, rfl, HZ, hv8, hb8, hz8⟩); clear hz8; have hR8 : Below wn.heap.size wn w8 := hR7.trans (Below.mono (Below.trans (by repeat (first | with_reducible exact Below.refl _ _ | with_reducible assumption | with_reducible refine Below.drew ?_ | with_reducible refine below_drewN ?_ _ | (with_reducible refine Below.alloc ?_ ?_ _; rotate_left; (try simp) <;> omega) | (with_reducible refine Below.setCell ?_ ?_ _; rotate_left; (try simp) <;> omega))) hb8) hR7.size); have r8 := hR8.size; obtain ⟨⟨c0, c1, c2⟩, ⟨c3, c4, c5⟩, ⟨c6, c7, c8⟩, ⟨c9, c10, c11⟩⟩ := HK.out w8 hR8))
        all_goals
          have HE4 := Lib.hid (HE3.out t _ _ _ xx _ _ _ z HT.out HC1.out HX.out HC2.out HZ.out)
          have hxb : -12000000000000 ≤ xx ∧ xx ≤ 12000000000000 := by have := hv6; unfold ab at this; omega
          have hzb : -12000000000000 ≤ z ∧ z ≤ 12000000000000 := by have := hv8; unfold ab at this; omega
          have hB8 : Below w.heap.size w w8 := hBn.trans (hR8.mono hBn.size)
          have hgp := gcd3_pos xx y z HY0.out
          have hD : ∀ W : World, Lies W W.heap.size (some ⟨w8.heap.size, 0, none⟩) (ints [xx, y, z]) → Calls Try.prog 61 #[.slice (some ⟨w8.heap.size, 0, none⟩) 3 3] W fun e w' => e = .returned (.int .i64 (gcdL [xx, y, z])) ∧ ∃ n, w' = W.drewN n := fun W hL =>
            divisor_aux [xx, y, z] _ 3 W hL (by intro n hn; simp at hn; unfold bigP; rcases hn with rfl | rfl | rfl <;> omega) (by simp)
          generalize (gcdL [xx, y, z] : Int) = G at HE4 hgp hD
          have HD := Lib.hid hD
          obtain ⟨hg1, hg2⟩ := hgp
          have hgn : (G == 0) = false := by rw [beq_eq_false_iff_ne]; omega
          have t1 := tdiv_range (y - xx - z) G (by unfold bigP; omega) hg1
          have t2 := tdiv_range xx G (by unfold bigP; omega) hg1
          have t3 := tdiv_range z G (by unfold bigP; omega) hg1
          have p1 : -24000000000000 ≤ y - xx ∧ y - xx ≤ 24000000000000 := by omega
          have p2 : -36000000000000 ≤ y - xx - z ∧ y - xx - z ≤ 36000000000000 := by omega
          clear hD HK HC1 HC2 HX HZ HT HE3 HN HY hv5 hv6 hv7 hv8 hvn Hu Hd Hf hR4 hR5 hR6 hR7 hR8 hb3 hb4 hb5 hb6 hb7 hb8 c0 c1 c2 c3 c4 c5 c6 c7 c8 c9 c10 c11 u0 u1' u2' d0 d1' d2' f0 f1' f2' n0 n1' n2'
          obtain ⟨p11, p12⟩ := p1
          obtain ⟨p21, p22⟩ := p2
          obtain ⟨t11, t12⟩ := t1
          obtain ⟨t21, t22⟩ := t2
          obtain ⟨t31, t32⟩ := t3
          go_wp2_with (go_at_call 61; refine (HD.out _ (Lies.fresh rfl (by simp) (by simp) rfl)).mono ?_; rintro e w9 ⟨rfl, n, rfl⟩)
          go_region
          all_goals
            go_wp2
            go_ret2
            refine w_end (l := [(y - xx - z).tdiv G, xx.tdiv G, z.tdiv G]) ?hE rfl ?hL (by omega) (by omega) ?hB
            case hE => rw [HE4.out, if_neg (by intro h; rcases h with h | h; exact HY0.out h; exact h HT0.out)]; rfl
            case hL => exact Lies.fresh rfl (by simp) (by simp) rfl
            case hB =>
              have hz8 := hB8.size
              exact (by repeat (first | with_reducible exact Below.refl _ _ | with_reducible assumption | with_reducible refine Below.drew ?_ | with_reducible refine below_drewN ?_ _ | (with_reducible refine Below.alloc ?_ ?_ _; rotate_left; (try simp) <;> omega) | (with_reducible refine Below.setCell ?_ ?_ _; rotate_left; (try simp) <;> omega)))
      · have htn : (t != 0) = true := by rw [bne_iff_ne]; exact ht0
        have HT0 := Lib.hid ht0
        clear ht0
        go_wp2
        go_ret2
        refine w_none (by rw [HE3.out _ _ _ _ _ _ _ _ _ HT.out ⟨rfl, rfl, rfl⟩ rfl ⟨rfl, rfl, rfl⟩ rfl, if_pos (.inr HT0.out)]) (by omega) (by omega) ?_
        exact (by repeat (first | with_reducible exact Below.refl _ _ | with_reducible assumption | with_reducible refine Below.drew ?_ | with_reducible refine below_drewN ?_ _ | (with_reducible refine Below.alloc ?_ ?_ _; rotate_left; (try simp) <;> omega) | (with_reducible refine Below.setCell ?_ ?_ _; rotate_left; (try simp) <;> omega)))
end Go.Proofs.Ytkjceegmmhnajaa
