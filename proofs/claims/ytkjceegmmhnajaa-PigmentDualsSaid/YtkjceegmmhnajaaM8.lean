/- The second machine and the model: what is to be shown; a function's end. -/
import Derived.Test.YtkjceegmmhnajaaM7
namespace Go.Proofs.Ytkjceegmmhnajaa
open Go.RowKit

def Fw (ro : Option Nat) : Fence := { fn := fun _ => True, depth := none, alive := false, round := ro }

section loops
variable {F : Fence} {P : Program} {c : Code} {Q : Exit → Act → World → Prop} {a : Act} {w : World}

/-- within a loop, at its head -/
def LoopOK (F : Fence) (P : Program) (c : Code) (Q : Exit → Act → World → Prop) (a : Act) (w : World) : Prop :=
  ∀ (b : Frame) (k : List Item) (cs : List Frame), b.roundOf = F.round → F.fn b.fn → F.room (cs.length + 1 + 0) →
    ∃ e a' w', Q e a' w' ∧ ArrivesIn (Machine.fenced P F) P (lone (b.atR a (.code c :: .inLoop c :: k)) cs w) b k cs e a' w'

theorem loopOK_wp (h : LoopOK F P c Q a w) : (Code.loop c).wpIn F 0 P Q a w := fun b k cs hro hb hr => by
  obtain ⟨e, a', w', hq, harr⟩ := h b k cs hro hb hr
  exact ⟨e, a', w', hq, .of_steps (.one (fenced_calm hb hr rfl) stepR_loop) harr⟩

theorem loopOK_step (h : c.wpIn F 0 P (Exit.then (LoopOK F P c Q) Q) a w) : LoopOK F P c Q a w := fun b k cs hro hb hr => by
  obtain ⟨e, a₁, w₁, hq, harr⟩ := h b (.inLoop c :: k) cs hro hb hr
  cases e with
  | normal =>
    obtain ⟨e₂, a₂, w₂, hq₂, harr₂⟩ := hq b k cs hro hb hr
    exact ⟨e₂, a₂, w₂, hq₂, .of_steps (StepsIn.trans harr (.one (fenced_calm hb hr rfl) stepR_inLoop)) harr₂⟩
  | exit id => exact ⟨_, a₁, w₁, hq, .pass (x := .inLoop c) rfl (fun _ _ => .inl (by simp)) harr⟩
  | goto l => exact ⟨_, a₁, w₁, hq, .pass (x := .inLoop c) rfl (fun _ _ => .inl (by simp)) harr⟩
  | ret => exact ⟨_, a₁, w₁, hq, .pass (x := .inLoop c) rfl (fun _ _ => .inl (by simp)) harr⟩
  | panic ch => exact ⟨_, a₁, w₁, hq, .pass (x := .inLoop c) rfl (fun _ _ => .inl (by simp)) harr⟩
  | outgrown => exact ⟨_, a₁, w₁, hq, .pass (x := .inLoop c) rfl (fun _ _ => .inl (by simp)) harr⟩
end loops

def wpX (P : Program) (ro : Option Nat) (c : Code) (Q : Exit → Act → World → Prop) (a : Act) (w : World) : Prop :=
  match c with
  | .loop c' => LoopOK (Fw ro) P c' Q a w
  | c => c.wpIn (Fw ro) 0 P Q a w

theorem wpX_wp {P : Program} {ro : Option Nat} {c : Code} {Q : Exit → Act → World → Prop} {a : Act} {w : World} (h : wpX P ro c Q a w) : c.wpIn (Fw ro) 0 P Q a w := by
  cases c with
  | loop c' => exact loopOK_wp h
  | _ => exact h

section
variable {p q : Nat → Option (Nat × Nat)}
def DR (p : Nat → Option (Nat × Nat)) : List Nat → List Deferred → Prop
  | [], [] => True
  | i :: D, d :: ds => (∃ b k, p i = some (b, k) ∧ d = { target := .collected b, args := #[] }) ∧ DR p D ds
  | _, _ => False
theorem DR.mono (hq : ∀ i b, p i = some b → q i = some b) : ∀ (D : List Nat) (ds : List Deferred), DR p D ds → DR q D ds
  | [], [], _ => trivial
  | [], _ :: _, h => h.elim
  | _ :: _, [], h => h.elim
  | i :: D, d :: ds, ⟨⟨b, k, h1, h2⟩, h3⟩ => ⟨⟨b, k, hq _ _ h1, h2⟩, DR.mono hq D ds h3⟩

structure TR (p : Nat → Option (Nat × Nat)) (T : Tr Value) (sz : Nat) (tm : Array Value) : Prop where
  size : tm.size = sz
  get : ∀ i, VR p (tget T i) (tm.getD i undef)
theorem TR.mono (hq : ∀ i b, p i = some b → q i = some b) {T : Tr Value} {sz : Nat} {tm : Array Value} (h : TR p T sz tm) : TR q T sz tm := ⟨h.size, fun i => (h.get i).mono hq⟩

structure SR (p : Nat → Option (Nat × Nat)) (s : St) (a : Act) : Prop where
  t : TR p s.T s.sz a.tmps
  d : DR p s.D a.defers
theorem SR.mono (hq : ∀ i b, p i = some b → q i = some b) {s : St} {a : Act} (h : SR p s a) : SR q s a := ⟨h.t.mono hq, h.d.mono hq⟩

def ROR (p : Nat → Option (Nat × Nat)) : Option Nat → Option Nat → Prop
  | none, none => True
  | some l, some lc => ∃ k, p l = some (lc, k)
  | _, _ => False
theorem ROR.mono (hq : ∀ i b, p i = some b → q i = some b) : ∀ {r rc : Option Nat}, ROR p r rc → ROR q r rc
  | none, none, _ => trivial
  | some _, some _, ⟨k, h⟩ => ⟨k, hq _ _ h⟩
  | none, some _, h => h.elim
  | some _, none, h => h.elim

theorem evA_ok {T : Tr Value} {sz : Nat} {a : Act} (h : TR p T sz a.tmps) (x : Operand) (hx : operandOk x = true) : VR p (evA T x) (a.eval x) := by
  cases x with
  | tmp t => exact h.get t
  | const v => exact VR.of_ground p 2 v hx
  | global g => simp [operandOk] at hx
  | func f => exact .func f rfl rfl (fun i => by simpa using VR.und p) (fun i => by simpa using VR.und p)

theorem tget_set (T : Tr Value) (d : Nat) (v : Value) (i : Nat) : tget (T.set d v) i = if i = d then v else tget T i := by
  unfold tget
  rw [Tr.get_set]
  by_cases h : i = d
  · simp [h]
  · simp [h]

theorem aPut_ok {T T' : Tr Value} {sz : Nat} {a : Act} (h : TR p T sz a.tmps) {dst : Option Nat} {v v' : Value} (hp : aPut T sz dst v = some T') (hv : VR p v v') : TR p T' sz (a.put dst v').tmps := by
  cases dst with
  | none => cases hp; exact h
  | some d =>
    unfold aPut at hp
    dsimp only at hp
    cases hlt : Nat.blt d sz with
    | false => rw [hlt] at hp; cases hp
    | true =>
      rw [hlt] at hp
      cases hp
      have hd : d < a.tmps.size := by rw [h.size]; simp [Nat.blt] at hlt; omega
      refine ⟨by simp [Act.put, h.size], fun i => ?_⟩
      rw [tget_set]
      simp only [Act.put]
      by_cases hi : i = d
      · subst hi
        simp only [if_true]
        rw [Array.getD_eq_getD_getElem?, Array.getElem?_setIfInBounds_self_of_lt hd]
        exact hv
      · rw [if_neg hi, Array.getD_eq_getD_getElem?, Array.getElem?_setIfInBounds_ne (Ne.symm hi), ← Array.getD_eq_getD_getElem?]
        exact h.get i

theorem aYield_ok {ops : Array Oper} {T : Tr Value} {sz : Nat} {a : Act} (h : TR p T sz a.tmps) (j : Nat) : yielded ops a.tmps j = aYield ops T j := by
  unfold yielded aYield
  rw [getQ_eq]
  have : ops.toList[j]? = ops[j]? := by simp
  rw [this]
  cases ops[j]? with
  | none => rfl
  | some o =>
    simp only [Option.bind_some]
    cases o.dst with
    | none => rfl
    | some t =>
      simp only [Option.bind_some]
      have hv := h.get t
      by_cases ht : t < a.tmps.size
      · have e1 : a.tmps.getD t undef = a.tmps[t] := by simp [Array.getD, ht]
        rw [e1] at hv
        have e2 : a.tmps[t]? = some a.tmps[t] := Array.getElem?_eq_getElem ht
        rw [e2]
        generalize a.tmps[t] = u at hv
        generalize tget T t = x at hv
        cases hv <;> rfl
      · have e1 : a.tmps.getD t undef = undef := by simp [Array.getD, ht]
        rw [e1] at hv
        rw [Array.getElem?_eq_none (Nat.le_of_not_lt ht)]
        generalize hx : tget T t = x at hv
        generalize hu : undef = u at hv
        cases hv <;> first | rfl | (simp [undef] at hu; done)

theorem aWanted_ok {ops : Array Oper} {T : Tr Value} {sz : Nat} {a : Act} (h : TR p T sz a.tmps) (o : Oper) : Region.wanted o (yielded ops a.tmps) = aWanted ops T o := by
  unfold Region.wanted aWanted
  cases o.guard with
  | none => rfl
  | some g =>
    obtain ⟨j, want⟩ := g
    simp only
    rw [aYield_ok h]
    cases aYield ops T j with
    | none => rfl
    | some b => cases b <;> cases want <;> rfl
end

def Wf (H : Tr AO) (n : Nat) : Prop := ∀ i, n ≤ i → H.get i = none
theorem Wf.up {lo : Nat} {H H' : Tr AO} {n n' : Nat} (h : Wf H n) (m : Mo lo H H' n n') : Wf H' n' := fun i hi => m.gone i (by omega) (h i (by have := m.le; omega))

/-! ### a function's end -/
section
variable {P : Program} {tv : Nat → Option TV} {p : Nat → Option (Nat × Nat)} {B : Nat} {w0 w : World} {h : Hp}

theorem HR.kill (hr : HR B w0 p h w) {w' : World} {i b k : Nat} {x : AO} (hi : h i = some x) (hb : p i = some (b, k))
    (hs : w'.heap.size = w.heap.size) (hsame : ∀ k, k ≠ b → w'.heap[k]? = w.heap[k]?) (h1 : w'.os = w.os) (h2 : w'.tape = w.tape) (h3 : w'.output = w.output) :
    HR B w0 p (fun j => if j = i then none else h j) w' := by
  obtain ⟨b', kk, x', k1, k2, _, _⟩ := hr.ob i x hi
  rw [hb] at k1; cases k1
  refine ⟨hr.hB, hr.low.trans ⟨h1, h2, h3, by omega, fun k hk => hsame k (by omega)⟩, fun j y hj => ?_, fun j l c m m' hj hk e1 e2 => ?_⟩
  · by_cases e : j = i
    · simp [e] at hj
    · rw [if_neg e] at hj
      obtain ⟨c, m, y', g1, g2, g3, g4⟩ := hr.ob j y hj
      refine ⟨c, m, y', g1, g2, ?_, g4⟩
      rw [hsame c]; exact g3
      intro ec; subst ec
      exact e (hr.inj j i c m k (by simp [hj]) (by simp [hi]) g1 hb)
  · have up : ∀ j, ((fun j => if j = i then none else h j) j).isSome = true → (h j).isSome = true := fun j hj => by
      by_cases e : j = i
      · simp [e] at hj
      · simpa [e] using hj
    exact hr.inj j l c m m' (up j hj) (up l hk) e1 e2

def resSem (tm : Array Value) (x : ResultVar) : Sem Value := match x with | .tmp t => pure (tm.getD t undef) | .cell a t => do loadVar t (← asAddr (tm.getD a undef))
theorem results_eq (fn : Func) (tm : Array Value) : results fn tm = (do let vs ← fn.results.mapM (resSem tm); pure (if h : vs.size = 1 then vs[0] else .tuple vs)) := by
  unfold results
  congr 1

theorem aResult_ok (hT : TvOk P tv) (hr : HR B w0 p h w) {T : Tr Value} {sz : Nat} {tm : Array Value} (ht : TR p T sz tm) {H : Tr AO} (hs : Sub H h) {x : ResultVar} {v : Value} (hx : aResult tv T H x = some v) :
    ∃ v', (resSem tm x).run P w = .ok v' w ∧ VR p v v' := by
  cases x with
  | tmp t => cases hx; exact ⟨_, rfl, ht.get t⟩
  | cell a t =>
    have hl : aLoad tv t (tget T a) H = some v := hx
    have hva := ht.get a
    obtain ⟨v', h1, h2⟩ := aLoad_ok hT hr (H := H) (fun b o e y hb => hs b y hb) hva hl
    refine ⟨v', ?_, h2⟩
    unfold aLoad at hl
    split at hl
    · rename_i b o hb
      rw [hb] at hva
      obtain ⟨b', k, e, _⟩ := hva.ptr_inv
      rw [e] at h1
      unfold resSem
      dsimp only
      rw [e]
      simpa [Instr.loadAt, Instr.sureAddr, asAddr] using h1
    · cases hl

theorem aResults_ok (hT : TvOk P tv) (hr : HR B w0 p h w) {T : Tr Value} {sz : Nat} {tm : Array Value} (ht : TR p T sz tm) {H : Tr AO} (hs : Sub H h) : ∀ (l : List ResultVar) (vs : List Value), aResults tv T H l = some vs →
    ∃ vs' : List Value, (l.mapM (resSem tm)).run P w = .ok vs' w ∧ vs.length = vs'.length ∧ ∀ (i : Nat) (v v' : Value), vs[i]? = some v → vs'[i]? = some v' → VR p v v'
  | [], vs, hl => by cases hl; exact ⟨[], by simp, rfl, fun i v v' hv => by simp at hv⟩
  | x :: l, vs, hl => by
    change (match aResult tv T H x, aResults tv T H l with
      | some v, some r => some (v :: r)
      | _, _ => none) = some vs at hl
    split at hl
    · rename_i v r h1 h2
      cases hl
      obtain ⟨v', hv', hvr⟩ := aResult_ok hT hr ht hs h1
      obtain ⟨vs', hvs', hlen, hall⟩ := aResults_ok hT hr ht hs l r h2
      refine ⟨v' :: vs', ?_, by simp [hlen], fun i u u' hu hu' => ?_⟩
      · rw [List.mapM_cons, Sem.run_bind, hv']
        simp only [Result.andThen_ok, Sem.run_bind, hvs', Sem.run_pure]
      · cases i with
        | zero => simp at hu hu'; subst hu; subst hu'; exact hvr
        | succ i => exact hall i u u' (by simpa using hu) (by simpa using hu')
    · cases hl

theorem results_ok (hT : TvOk P tv) (hr : HR B w0 p h w) {T : Tr Value} {sz : Nat} {tm : Array Value} (ht : TR p T sz tm) {H : Tr AO} (hs : Sub H h) {fn : Func} {l : List ResultVar} (hl : fn.results.toList = l) {vs : List Value} (hv : aResults tv T H l = some vs) :
    ∃ v', (results fn tm).run P w = .ok v' w ∧ VR p (tupled vs) v' := by
  obtain ⟨vs', h1, h2, h3⟩ := aResults_ok hT hr ht hs l vs hv
  have hrun : (results fn tm).run P w = .ok (if h : vs'.toArray.size = 1 then vs'.toArray[0] else .tuple vs'.toArray) w := by
    rw [results_eq, Array.mapM_eq_mapM_toList, hl]
    simp only [Sem.run_bind, Sem.run_map]
    have h1' := h1
    rw [h1']
    simp only [Result.andThen_ok, Sem.run_pure]
  refine ⟨_, hrun, ?_⟩
  match vs, vs', h2, h3 with
  | [v], [v'], _, h3 => simpa [tupled] using h3 0 v v' rfl rfl
  | [], [], _, h3 => exact .tuple rfl (fun i hi => by simp at hi)
  | v :: u :: r, v' :: u' :: r', h2, h3 =>
    simp only [tupled]
    rw [dif_neg (by simp)]
    have : AR p ⟨v :: u :: r⟩ ⟨v' :: u' :: r'⟩ := AR.of_get (by simpa using h2) fun i x x' hx hx' => h3 i x x' (by simpa using hx) (by simpa using hx')
    exact .tuple this.1 (fun i _ => this.2 i)

theorem undefer_get {lo : Nat} : ∀ (D : List Nat) (H H1 : Tr AO), undefer lo D H = some H1 → (∀ j ∈ D, lo ≤ j ∧ H.get j = some .deferred) ∧ ∀ j, H1.get j = if j ∈ D then none else H.get j
  | [], H, H1, hd => by cases hd; exact ⟨fun j hj => by simp at hj, fun j => by simp⟩
  | i :: D, H, H1, hd => by
    change (match H.get i with
      | some .deferred => Bool.rec none (undefer lo D (H.del i)) (Nat.ble lo i)
      | _ => none) = some H1 at hd
    split at hd
    · rename_i hi
      cases e : Nat.ble lo i with
      | false => rw [e] at hd; cases hd
      | true =>
        rw [e] at hd
        obtain ⟨g1, g2⟩ := undefer_get D _ H1 hd
        refine ⟨fun j hj => ?_, fun j => ?_⟩
        · rcases List.mem_cons.1 hj with rfl | hj
          · exact ⟨Nat.le_of_ble_eq_true e, hi⟩
          · obtain ⟨k1, k2⟩ := g1 j hj
            rw [Tr.get_del] at k2
            split at k2
            · cases k2
            · exact ⟨k1, k2⟩
        · rw [g2, Tr.get_del]
          by_cases e1 : j ∈ D
          · simp [e1]
          · by_cases e2 : j = i
            · simp [e2]
            · simp [e1, e2]
    · cases hd

/-- the frame's own rounds' blocks are shut; the results are read -/
theorem leaves_ok (hT : TvOk P tv) {fn : Func} {l : List ResultVar} (hl : fn.results.toList = l) {R : Ending → World → Prop} {lo : Nat} {ro : Option Nat} {T : Tr Value} {sz : Nat} {tm : Array Value} (ht : TR p T sz tm) {vs : List Value} :
    ∀ (D : List Nat) (ds : List Deferred) (H H1 : Tr AO) (h : Hp) (w : World), DR p D ds → undefer lo D H = some H1 → aResults tv T H1 l = some vs → Sub H h → HR B w0 p h w →
      (∀ v' w', VR p (tupled vs) v' → HR B w0 p (fun j => if j ∈ D then none else h j) w' → R (.returned v') w') → LeavesInM (Fw ro) 0 P fn tm R ds .returning w
  | [], [], H, H1, h, w, _, hu, hv, hs, hr, hR => by
    cases hu
    obtain ⟨v', h1, h2⟩ := results_ok hT hr ht hs hl hv
    exact ⟨v', h1, hR v' w h2 (by simpa using hr)⟩
  | [], _ :: _, _, _, _, _, hd, _, _, _, _, _ => hd.elim
  | _ :: _, [], _, _, _, _, hd, _, _, _, _, _ => hd.elim
  | i :: D, d :: ds, H, H1, h, w, hd, hu, hv, hs, hr, hR => by
    obtain ⟨⟨b, k, hb, rfl⟩, hd⟩ := hd
    change (match H.get i with
      | some .deferred => Bool.rec none (undefer lo D (H.del i)) (Nat.ble lo i)
      | _ => none) = some H1 at hu
    split at hu
    · rename_i hi
      cases e : Nat.ble lo i with
      | false => rw [e] at hu; cases hu
      | true =>
        rw [e] at hu
        have hhi := hs i _ hi
        obtain ⟨b', k', o', g1, _, g3, g4⟩ := hr.ob i _ hhi
        rw [hb] at g1; cases g1
        cases o' with
        | deferred x =>
          have hx : x = some [] := g4
          subst hx
          have hlt : b < w.heap.size := (Array.getElem?_eq_some_iff.1 g3).1
          refine ⟨by simp, .inl ⟨b, _, rfl, run_takeDeferred g3, ?_⟩⟩
          have hr' := hr.kill (w' := w.putObj b (.deferred none)) hhi hb (by simp) (fun k hk => World.putObj_heap_other hk) rfl rfl rfl
          refine leaves_ok hT hl ht D ds _ H1 _ _ hd hu hv (fun j x hj => ?_) hr' (fun v' w' h1 h2 => hR v' w' h1 (h2.sub fun j x hj => ?_))
          · rw [Tr.get_del] at hj
            by_cases e2 : j = i
            · simp [e2] at hj
            · rw [if_neg e2] at hj ⊢; exact hs j x hj
          · by_cases e2 : j = i
            · simp [e2] at hj
            · by_cases e3 : j ∈ D
              · simp [e3] at hj
              · simpa [e2, e3] using hj
        | _ => exact g4.elim
    · cases hu
end
end Go.Proofs.Ytkjceegmmhnajaa
