/- A region in which vectors are reckoned by calls, laid in new blocks and stored there, in any order: what it leaves. -/
import Derived.Test.YtkjceegmmhnajaaA6
namespace Go.Proofs.Ytkjceegmmhnajaa
open Go.RowKit

/-- a frame: t0, but for the slots ds, which hold V -/
def canon (t0 : Array Value) (ds : List Nat) (V : Nat → Value) : Array Value := ds.foldl (fun t d => t.setIfInBounds d (V d)) t0
theorem canon_size (ds : List Nat) (V : Nat → Value) : ∀ t0 : Array Value, (canon t0 ds V).size = t0.size := by
  induction ds with
  | nil => intro t0; rfl
  | cons d ds ih => intro t0; simp only [canon, List.foldl_cons] at *; rw [ih]; simp
theorem canon_get (ds : List Nat) (V : Nat → Value) (k : Nat) : ∀ t0 : Array Value, (canon t0 ds V)[k]? = if k ∈ ds ∧ k < t0.size then some (V k) else t0[k]? := by
  induction ds with
  | nil => intro t0; simp [canon]
  | cons d ds ih =>
    intro t0
    simp only [canon, List.foldl_cons] at *
    rw [ih]
    simp only [Array.size_setIfInBounds, List.mem_cons]
    by_cases h1 : k < t0.size
    · by_cases h2 : k ∈ ds
      · simp [h1, h2]
      · by_cases h3 : k = d
        · subst h3; simp [h1, h2]
        · have : d ≠ k := fun e => h3 e.symm
          rw [if_neg (fun h => h2 h.1), if_neg (fun h => by rcases h.1 with h | h; exact h3 h; exact h2 h), Array.getElem?_setIfInBounds_ne this]
    · have h4 : (t0.setIfInBounds d (V d))[k]? = none := Array.getElem?_eq_none (by simp; omega)
      have h5 : t0[k]? = none := Array.getElem?_eq_none (by omega)
      simp [h1, h4, h5]
def updV (V : Nat → Value) (d : Nat) (v : Value) : Nat → Value := fun k => if k = d then v else V k
theorem updV_same (V : Nat → Value) (d : Nat) (v : Value) : updV V d v d = v := if_pos rfl
theorem updV_other (V : Nat → Value) {d k : Nat} (v : Value) (h : k ≠ d) : updV V d v k = V k := if_neg h
theorem canon_set {t0 : Array Value} {ds : List Nat} {V : Nat → Value} {d : Nat} (v : Value) (hd : d ∈ ds) : (canon t0 ds V).setIfInBounds d v = canon t0 ds (updV V d v) := by
  apply Array.ext_getElem?
  intro k
  rw [canon_get]
  by_cases h : d = k
  · subst h
    by_cases hs : d < t0.size
    · rw [Array.getElem?_setIfInBounds_self_of_lt (by rw [canon_size]; exact hs)]; simp [hd, hs, updV]
    · rw [Array.getElem?_eq_none (by simp [canon_size]; omega)]; simp [hs]
  · rw [Array.getElem?_setIfInBounds_ne h, canon_get]
    simp only [updV, if_neg (fun e : k = d => h e.symm)]
theorem canon_start (t0 : Array Value) (ds : List Nat) : canon t0 ds (fun k => t0.getD k undef) = t0 := by
  apply Array.ext_getElem?
  intro k
  rw [canon_get]
  split
  · rename_i h; simp [h.2]
  · rfl
theorem canon_at {t0 : Array Value} {ds : List Nat} {V : Nat → Value} {k : Nat} (hk : k ∈ ds) (hs : k < t0.size) : (canon t0 ds V).getD k undef = V k := by
  have := canon_get ds V k t0
  rw [if_pos ⟨hk, hs⟩] at this
  rw [Array.getD_eq_getD_getElem?, this]; rfl
theorem canon_off {t0 : Array Value} {ds : List Nat} {V : Nat → Value} {k : Nat} (hk : k ∉ ds) : (canon t0 ds V).getD k undef = t0.getD k undef := by
  have := canon_get ds V k t0
  rw [if_neg (fun h => hk h.1)] at this
  rw [Array.getD_eq_getD_getElem?, this, Array.getD_eq_getD_getElem?]

/-- one vector: its call, its block, its store; their places in the region, their slots; its numbers -/
structure Vj where
  c : Nat
  p : Nat
  s : Nat
  kc : Nat
  kp : Nat
  args : Array Value
  x : Int
  y : Int
  z : Int
def Vj.row (v : Vj) : Array Value := #[.int .i64 v.x, .int .i64 v.y, .int .i64 v.z]
def zero3 : Array Value := #[.int .i64 0, .int .i64 0, .int .i64 0]

section
variable {P : Program} {ops : Array Oper} {Q : Exit → Act → World → Prop} {S : World → Prop}
/-- what the operations of a vector are -/
structure VjOk (P : Program) (ops : Array Oper) (T : Array Value) (ds : List Nat) (f : FuncId) (v : Vj) : Prop where
  kc : v.kc ∈ ds
  kp : v.kp ∈ ds
  kcl : v.kc < T.size
  kpl : v.kp < T.size
  call : ∃ o, ops[v.c]? = some o ∧ o.guard = none ∧ o.dst = some v.kc ∧ ∀ V w, (execOp (Act.eval { tmps := canon T ds V, defers := [] }) o).run P w = .ok (.enter f v.args) w
  alloc : ∃ o, ops[v.p]? = some o ∧ o.guard = none ∧ o.dst = some v.kp ∧ ∀ (a : Act) w, (execOp a.eval o).run P w = .ok (.value (.pointer (some ⟨w.heap.size, 0, none⟩))) (w.alloc (.cells zero3 84))
  store : ∃ o, ops[v.s]? = some o ∧ o.guard = none ∧ o.dst = none ∧ (o.after.any fun e => e.on == v.c && Region.binds .any e) = true ∧ (o.after.any fun e => e.on == v.p && Region.binds .any e) = true ∧
    ∀ (a : Act) w b, a.tmps.getD v.kp undef = .pointer (some ⟨b, 0, none⟩) → a.tmps.getD v.kc undef = .agg v.row → Bk w b 84 zero3 →
      ∃ w' nx, (execOp a.eval o).run P w = .ok nx w' ∧ (nx = .skip ∨ ∃ u, nx = .value u) ∧ w' = ((w.setCell ⟨b, 0, none⟩ (.int .i64 v.x)).setCell ⟨b, 1, none⟩ (.int .i64 v.y)).setCell ⟨b, 2, none⟩ (.int .i64 v.z)

theorem dep_of {o : Oper} {k : Nat} (h : (o.after.any fun e => e.on == k && Region.binds .any e) = true) : ∃ e ∈ o.after, e.on = k ∧ Region.binds .any e = true := by
  rw [Array.any_eq_true'] at h
  obtain ⟨e, he, h⟩ := h
  rw [Bool.and_eq_true, beq_iff_eq] at h
  exact ⟨e, he, h.1, h.2⟩
def acB (ops : Array Oper) : Bool := (List.range ops.size).all fun i => match ops[i]? with | some o => o.after.all (fun e => decide (e.on < i)) | none => true
theorem acB_spec {ops : Array Oper} (h : acB ops = true) (i : Nat) (o : Oper) (ho : ops[i]? = some o) : ∀ e ∈ o.after, e.on < i := by
  have hi : i < ops.size := (Array.getElem?_eq_some_iff.1 ho).1
  have := List.all_eq_true.1 h i (by simpa using hi)
  rw [ho] at this
  intro e he
  simpa using Array.all_eq_true'.1 this e he
def hlB (n : Nat) (listed : Array Bool) (vs : List Vj) : Bool := (List.range n).all fun i => listed.getD i false || vs.any fun v => i == v.c || (i == v.p || i == v.s)
theorem hlB_spec {n : Nat} {listed : Array Bool} {vs : List Vj} (h : hlB n listed vs = true) (i : Nat) (hi : i < n) (hf : listed.getD i false = false) : ∃ v ∈ vs, i = v.c ∨ i = v.p ∨ i = v.s := by
  have := List.all_eq_true.1 h i (by simpa using hi)
  rw [hf, Bool.false_or, List.any_eq_true] at this
  obtain ⟨v, hv, h⟩ := this
  simp only [Bool.or_eq_true, beq_iff_eq] at h
  exact ⟨v, hv, h⟩
theorem bk_set3 {w : World} {b : Nat} {v : Vj} (h : Bk w b 84 zero3) : Bk (((w.setCell ⟨b, 0, none⟩ (.int .i64 v.x)).setCell ⟨b, 1, none⟩ (.int .i64 v.y)).setCell ⟨b, 2, none⟩ (.int .i64 v.z)) b 84 v.row := ((h.set 0 _).set 1 _).set 2 _
theorem bk_far3 {w : World} {b g : Nat} {t : TypeId} {cs : Array Value} {v : Vj} (h : Bk w g t cs) (hne : g ≠ b) : Bk (((w.setCell ⟨b, 0, none⟩ (.int .i64 v.x)).setCell ⟨b, 1, none⟩ (.int .i64 v.y)).setCell ⟨b, 2, none⟩ (.int .i64 v.z)) g t cs :=
  ((h.far hne _).far hne _).far hne _

theorem vectors_laid {T : Array Value} {ds : List Nat} {f : FuncId} {vs : List Vj} (hv : ∀ v ∈ vs, VjOk P ops T ds f v) (hd : vs.Pairwise fun a b => a.c ≠ b.c ∧ a.p ≠ b.p ∧ a.s ≠ b.s ∧ a.kc ≠ b.kc ∧ a.kp ≠ b.kp) (hcp : ∀ a ∈ vs, ∀ b ∈ vs, a.kc ≠ b.kp)
    (hpos : ∀ a ∈ vs, ∀ b ∈ vs, a.c ≠ b.p ∧ a.c ≠ b.s ∧ a.p ≠ b.s)
    (hac : ∀ (i : Nat) (o : Oper), ops[i]? = some o → ∀ e ∈ o.after, e.on < i) {w0 : World} {B : Nat} (hB : B ≤ w0.heap.size) (hS : ∀ W, Below B w0 W → S W) (hcalls : ∀ v ∈ vs, ∀ W, Below B w0 W → Calls P f v.args W fun e w' => e = .returned (.agg v.row) ∧ Below W.heap.size W w')
    (hQ : ∀ V W, Below B w0 W → (∀ v ∈ vs, V v.kc = .agg v.row) → (∃ g : Nat → Nat, (∀ v ∈ vs, V v.kp = .pointer (some ⟨g v.kp, 0, none⟩) ∧ B ≤ g v.kp ∧ Bk W (g v.kp) 84 v.row)) → (∀ k, (∀ v ∈ vs, k ≠ v.kc ∧ k ≠ v.kp) → V k = T.getD k undef) → Q .normal { tmps := canon T ds V, defers := [] } W)
    {listed : Array Bool} (hsz : listed.size = ops.size) (hl : ∀ i, i < ops.size → listed.getD i false = false → ∃ v ∈ vs, i = v.c ∨ i = v.p ∨ i = v.s) (hl2 : ∀ v ∈ vs, listed.getD v.c false = false ∧ listed.getD v.p false = false ∧ listed.getD v.s false = false)
    {fuel : Nat} (hfuel : left listed ≤ fuel) (hsl : ∀ v ∈ vs, v.c < ops.size ∧ v.p < ops.size ∧ v.s < ops.size) : wpAnyH P .any ops Q S fuel listed { tmps := T, defers := [] } w0 := by
  -- different vectors differ
  have hdiff : ∀ a ∈ vs, ∀ b ∈ vs, (a.c = b.c ∨ a.p = b.p ∨ a.s = b.s ∨ a.kc = b.kc ∨ a.kp = b.kp) → a = b := by
    intro a ha b hb h
    obtain ⟨i, hi, rfl⟩ := List.mem_iff_getElem.1 ha
    obtain ⟨j, hj, rfl⟩ := List.mem_iff_getElem.1 hb
    rw [List.pairwise_iff_getElem] at hd
    rcases Nat.lt_trichotomy i j with hlt | heq | hlt
    · have := hd i j hi hj hlt; omega
    · subst heq; rfl
    · have := hd j i hj hi hlt; omega
  let Inv : (Nat → Bool) → Act → World → Prop := fun D a w => Below B w0 w ∧ (∀ i, i < ops.size → listed.getD i false = true → D i = true) ∧ ∃ V : Nat → Value, a = { tmps := canon T ds V, defers := [] } ∧ (∀ v ∈ vs, D v.c = true → V v.kc = .agg v.row) ∧ (∀ v ∈ vs, D v.s = true → D v.c = true ∧ D v.p = true) ∧
    (∃ g : Nat → Nat, (∀ v ∈ vs, D v.p = true → V v.kp = .pointer (some ⟨g v.kp, 0, none⟩) ∧ B ≤ g v.kp ∧ g v.kp < w.heap.size ∧ Bk w (g v.kp) 84 (bif D v.s then v.row else zero3)) ∧ (∀ u ∈ vs, ∀ v ∈ vs, D u.p = true → D v.p = true → g u.kp = g v.kp → u = v)) ∧
    (∀ k, (∀ v ∈ vs, k ≠ v.kc ∧ k ≠ v.kp) → V k = T.getD k undef)
  refine wpAnyH_inv hac Inv ?_ ?_ fuel listed _ w0 hsz hfuel ?_
  · intro D a w i o ho hDi hdep ⟨hb, hold, V, ha, hc, hst, ⟨g, hg, hgi⟩, hrest⟩
    subst ha
    have hi : i < ops.size := (Array.getElem?_eq_some_iff.1 ho).1
    have hnl : listed.getD i false = false := by
      cases hx : listed.getD i false with
      | false => rfl
      | true => have := hold i hi hx; rw [hDi] at this; cases this
    have hbs := hb.size
    obtain ⟨v, hvm, hiv⟩ := hl i hi hnl
    have ok := hv v hvm
    have hold' : ∀ i', ∀ i, i < ops.size → listed.getD i false = true → (D i || i == i') = true := fun i' i h1 h2 => by rw [hold i h1 h2]; rfl
    rcases hiv with rfl | rfl | rfl
    · -- a call
      obtain ⟨o', e1, e2, e3, e4⟩ := ok.call
      rw [ho] at e1; cases e1
      refine held_plain ho e2 (oper_call (e4 V w) (hcalls v hvm w hb) fun e w' ⟨he, hb'⟩ => ⟨_, he, ?_⟩)
      have hb2 : Below B w0 w' := hb.trans (hb'.mono (by omega))
      refine ⟨hS w' hb2, hb2, hold' _, updV V v.kc (.agg v.row), ?_, fun u hu h => ?_, fun u hu h => ?_, ⟨g, fun u hu h => ?_, fun u hu u2 hu2 h1 h2 h3 => ?_⟩, fun k hk => ?_⟩
      · rw [e3]
        simp only [Act.put, canon_set _ ok.kc]
      · by_cases huv : u = v
        · subst huv; exact updV_same _ _ _
        · have hne : u.kc ≠ v.kc := fun e => huv (hdiff u hu v hvm (by simp [e]))
          have hcne : u.c ≠ v.c := fun e => huv (hdiff u hu v hvm (by simp [e]))
          rw [updV_other _ _ hne]
          refine hc u hu ?_
          simpa [hcne] using h
      · have hne : u.s ≠ v.c := fun e => (hpos v hvm u hu).2.1 e.symm
        have h1 : D u.s = true := by simpa [hne] using h
        obtain ⟨h2, h3⟩ := hst u hu h1
        exact ⟨by simp [h2], by simp [h3]⟩
      · have hne : u.p ≠ v.c := fun e => (hpos v hvm u hu).1 e.symm
        have hne2 : u.s ≠ v.c := fun e => (hpos v hvm u hu).2.1 e.symm
        have h1 : D u.p = true := by simpa [hne] using h
        obtain ⟨g1, g2, g3, g4⟩ := hg u hu h1
        have hds : (D u.s || u.s == v.c) = D u.s := by simp [hne2]
        dsimp only
        rw [hds]
        have hkne : u.kp ≠ v.kc := fun e => hcp v hvm u hu e.symm
        rw [updV_other _ _ hkne]
        exact ⟨g1, g2, Nat.lt_of_lt_of_le g3 hb'.size, g4.below hb' g3⟩
      · have n1 : u.p ≠ v.c := fun e => (hpos v hvm u hu).1 e.symm
        have n2 : u2.p ≠ v.c := fun e => (hpos v hvm u2 hu2).1 e.symm
        exact hgi u hu u2 hu2 (by simpa [n1] using h1) (by simpa [n2] using h2) h3
      · rw [updV_other _ _ (hk v hvm).1]; exact hrest k hk
    · -- a block
      obtain ⟨o', e1, e2, e3, e4⟩ := ok.alloc
      rw [ho] at e1; cases e1
      refine held_plain ho e2 (oper_run (e4 _ w) ?_)
      have hb2 : Below B w0 (w.alloc (.cells zero3 84)) := hb.alloc (by omega) _
      refine ⟨hS _ hb2, hb2, hold' _, updV V v.kp (.pointer (some ⟨w.heap.size, 0, none⟩)), ?_, fun u hu h => ?_, fun u hu h => ?_, ⟨fun k => if k = v.kp then w.heap.size else g k, fun u hu h => ?_, fun u hu u2 hu2 h1 h2 h3 => ?_⟩, fun k hk => ?_⟩
      · rw [e3]
        simp only [Act.put, canon_set _ ok.kp]
      · have hkne : u.kc ≠ v.kp := hcp u hu v hvm
        have hne : u.c ≠ v.p := (hpos u hu v hvm).1
        rw [updV_other _ _ hkne]
        exact hc u hu (by simpa [hne] using h)
      · have hne : u.s ≠ v.p := fun e => (hpos v hvm u hu).2.2 e.symm
        have h1 : D u.s = true := by simpa [hne] using h
        obtain ⟨h2, h3⟩ := hst u hu h1
        exact ⟨by simp [h2], by simp [h3]⟩
      · have hne2 : u.s ≠ v.p := fun e => (hpos v hvm u hu).2.2 e.symm
        have hds : (D u.s || u.s == v.p) = D u.s := by simp [hne2]
        dsimp only
        rw [hds]
        by_cases huv : u = v
        · subst huv
          have hns : D u.s = false := by
            cases hx : D u.s with
            | false => rfl
            | true => have := (hst u hu hx).2; rw [hDi] at this; cases this
          rw [hns]
          refine ⟨by rw [updV_same, if_pos rfl], by rw [if_pos rfl]; omega, by rw [if_pos rfl, World.size_alloc]; omega, ?_⟩
          rw [if_pos rfl]
          exact Bk.new w 84 zero3
        · have hkn : u.kp ≠ v.kp := fun e => huv (hdiff u hu v hvm (by simp [e]))
          have hpn : u.p ≠ v.p := fun e => huv (hdiff u hu v hvm (by simp [e]))
          obtain ⟨g1, g2, g3, g4⟩ := hg u hu (by simpa [hpn] using h)
          rw [updV_other _ _ hkn, if_neg hkn]
          exact ⟨g1, g2, by rw [World.size_alloc]; omega, g4.alloc _⟩
      · by_cases huv : u = v
        · by_cases huv2 : u2 = v
          · rw [huv, huv2]
          · exfalso
            have hkn : u2.kp ≠ v.kp := fun e => huv2 (hdiff u2 hu2 v hvm (by simp [e]))
            have hpn : u2.p ≠ v.p := fun e => huv2 (hdiff u2 hu2 v hvm (by simp [e]))
            obtain ⟨_, _, g3, _⟩ := hg u2 hu2 (by simpa [hpn] using h2)
            subst huv
            simp only [if_pos, if_neg hkn] at h3
            omega
        · have hkn : u.kp ≠ v.kp := fun e => huv (hdiff u hu v hvm (by simp [e]))
          have hpn : u.p ≠ v.p := fun e => huv (hdiff u hu v hvm (by simp [e]))
          have h1' : D u.p = true := by simpa [hpn] using h1
          by_cases huv2 : u2 = v
          · exfalso
            obtain ⟨_, _, g3, _⟩ := hg u hu h1'
            subst huv2
            simp only [if_pos, if_neg hkn] at h3
            omega
          · have hkn2 : u2.kp ≠ v.kp := fun e => huv2 (hdiff u2 hu2 v hvm (by simp [e]))
            have hpn2 : u2.p ≠ v.p := fun e => huv2 (hdiff u2 hu2 v hvm (by simp [e]))
            simp only [if_neg hkn, if_neg hkn2] at h3
            exact hgi u hu u2 hu2 h1' (by simpa [hpn2] using h2) h3
      · rw [updV_other _ _ (hk v hvm).2]; exact hrest k hk
    · -- a store
      obtain ⟨o', e1, e2, e3, hdc, hdp, e4⟩ := ok.store
      obtain ⟨ec, hec, hec1, hec2⟩ := dep_of hdc
      obtain ⟨ep, hep, hep1, hep2⟩ := dep_of hdp
      rw [ho] at e1; cases e1
      have dc : D v.c = true := by rw [← hec1]; exact hdep ec hec hec2
      have dp : D v.p = true := by rw [← hep1]; exact hdep ep hep hep2
      obtain ⟨g1, g2, g3, g4⟩ := hg v hvm dp
      have hzero : Bk w (g v.kp) 84 zero3 := by
        rw [hDi] at g4
        exact g4
      obtain ⟨w', nx, hrun, hnx, hw'⟩ := e4 { tmps := canon T ds V, defers := [] } w (g v.kp) (by rw [canon_at ok.kp ok.kpl]; exact g1) (by rw [canon_at ok.kc ok.kcl]; exact hc v hvm dc) hzero
      have hb2 : Below B w0 w' := by
        rw [hw']
        exact ((hb.setCell (p := ⟨g v.kp, 0, none⟩) g2 _).setCell (p := ⟨g v.kp, 1, none⟩) g2 _).setCell (p := ⟨g v.kp, 2, none⟩) g2 _
      have hsize : w'.heap.size = w.heap.size := by rw [hw']; simp
      have fin : S w' ∧ Inv (fun j => D j || j == v.s) { tmps := canon T ds V, defers := [] } w' := by
        refine ⟨hS w' hb2, hb2, hold' _, V, rfl, fun u hu h => ?_, fun u hu h => ?_, ⟨g, fun u hu h => ?_, fun u hu u2 hu2 h1 h2 h3 => ?_⟩, hrest⟩
        · have hne : u.c ≠ v.s := (hpos u hu v hvm).2.1
          exact hc u hu (by simpa [hne] using h)
        · by_cases huv : u = v
          · subst huv; exact ⟨by simp [dc], by simp [dp]⟩
          · have hne : u.s ≠ v.s := fun e => huv (hdiff u hu v hvm (by simp [e]))
            have h1 : D u.s = true := by simpa [hne] using h
            obtain ⟨h2, h3⟩ := hst u hu h1
            exact ⟨by simp [h2], by simp [h3]⟩
        · have hne : u.p ≠ v.s := (hpos u hu v hvm).2.2
          have h1 : D u.p = true := by simpa [hne] using h
          obtain ⟨k1, k2, k3, k4⟩ := hg u hu h1
          refine ⟨k1, k2, by rw [hsize]; exact k3, ?_⟩
          by_cases huv : u = v
          · subst huv
            have : (D u.s || u.s == u.s) = true := by simp
            dsimp only
            rw [this, hw']
            exact bk_set3 hzero
          · have hsn : u.s ≠ v.s := fun e => huv (hdiff u hu v hvm (by simp [e]))
            have : (D u.s || u.s == v.s) = D u.s := by simp [hsn]
            dsimp only
            rw [this, hw']
            exact bk_far3 k4 (fun e => huv (hgi u hu v hvm h1 dp e))
        · have n1 : u.p ≠ v.s := (hpos u hu v hvm).2.2
          have n2 : u2.p ≠ v.s := (hpos u2 hu2 v hvm).2.2
          exact hgi u hu u2 hu2 (by simpa [n1] using h1) (by simpa [n2] using h2) h3
      rcases hnx with rfl | ⟨x, rfl⟩
      · refine held_plain ho e2 (oper_skip hrun ?_)
        rw [e3]; exact fin
      · refine held_plain ho e2 (oper_run hrun ?_)
        rw [e3]; exact fin
  · intro D a w hall ⟨hb, _, V, ha, hc, _, ⟨g, hg, _⟩, hrest⟩
    subst ha
    refine hQ V w hb (fun v hvm => hc v hvm (hall _ (hsl v hvm).1)) ⟨g, fun v hvm => ?_⟩ hrest
    obtain ⟨g1, g2, _, g4⟩ := hg v hvm (hall _ (hsl v hvm).2.1)
    rw [hall _ (hsl v hvm).2.2] at g4
    exact ⟨g1, g2, g4⟩
  · refine ⟨Below.refl _ _, fun i _ h => h, fun k => T.getD k undef, by rw [canon_start], fun v hvm h => ?_, fun v hvm h => ?_, ⟨fun _ => 0, fun v hvm h => ?_, fun u hu u2 _ h => ?_⟩, fun _ _ => rfl⟩
    · dsimp only at h; rw [(hl2 v hvm).1] at h; cases h
    · dsimp only at h; rw [(hl2 v hvm).2.2] at h; cases h
    · dsimp only at h; rw [(hl2 v hvm).2.1] at h; cases h
    · dsimp only at h; rw [(hl2 u hu).2.1] at h; cases h
end
end Go.Proofs.Ytkjceegmmhnajaa
