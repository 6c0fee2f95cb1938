/- The second machine's operations on memory: load, the makers, store. -/
import Derived.Test.YtkjceegmmhnajaaM3c
namespace Go.Proofs.Ytkjceegmmhnajaa
open Go.RowKit

section
variable {P : Program} {tv : Nat → Option TV} {p : Nat → Option (Nat × Nat)} {r r' : Operand → Value}

/-- a row of which a beginning is known -/
def PreR (p : Nat → Option (Nat × Nat)) (c c' : Array Value) : Prop := c.size ≤ c'.size ∧ ∀ i, i < c.size → VR p (c.getD i undef) (c'.getD i undef)

theorem PreR.get {c c' : Array Value} (h : PreR p c c') {i : Nat} {v : Value} (hv : c[i]? = some v) : ∃ v', c'[i]? = some v' ∧ VR p v v' := by
  have hi : i < c.size := (Array.getElem?_eq_some_iff.1 hv).1
  have hi' : i < c'.size := Nat.lt_of_lt_of_le hi h.1
  refine ⟨c'[i], Array.getElem?_eq_getElem hi', ?_⟩
  have := h.2 i hi
  have e : c[i] = v := (Array.getElem?_eq_some_iff.1 hv).2
  simpa [Array.getD, hi, hi', e] using this
theorem PreR.of_get {c c' : Array Value} (hs : c.size ≤ c'.size) (h : ∀ (i : Nat) (v v' : Value), c[i]? = some v → c'[i]? = some v' → VR p v v') : PreR p c c' :=
  ⟨hs, fun i hi => by
    have hi' : i < c'.size := Nat.lt_of_lt_of_le hi hs
    simpa [Array.getD, hi, hi'] using h i _ _ (Array.getElem?_eq_getElem hi) (Array.getElem?_eq_getElem hi')⟩
theorem PreR.of_ar {c c' : Array Value} (h : AR p c c') : PreR p c c' := ⟨by rw [h.1]; exact Nat.le_refl _, fun i _ => h.2 i⟩
theorem PreR.extract {c c' : Array Value} (h : PreR p c c') {i j : Nat} (hj : j ≤ c.size) : AR p (c.extract i j) (c'.extract i j) :=
  AR.of_get (by have := h.1; simp; omega) fun k v v' hv hv' => by
    rw [Array.getElem?_extract] at hv hv'
    have hs := h.1
    by_cases hk : k < min j c.size - i
    · rw [if_pos hk] at hv; rw [if_pos (by omega)] at hv'
      obtain ⟨u, hu, hr⟩ := h.get hv; rw [hu] at hv'; cases hv'; exact hr
    · rw [if_neg hk] at hv; cases hv
theorem PreR.set {c c' : Array Value} (h : PreR p c c') {v v' : Value} (hv : VR p v v') (i : Nat) (hi : i < c.size) : PreR p (c.setIfInBounds i v) (c'.setIfInBounds i v') :=
  PreR.of_get (by simpa using h.1) fun k u u' hu hu' => by
    have hs := h.1
    rw [Array.getElem?_setIfInBounds] at hu hu'
    by_cases hk : i = k
    · subst hk
      simp only [if_true] at hu hu'
      rw [if_pos hi] at hu; rw [if_pos (by omega)] at hu'; cases hu; cases hu'; exact hv
    · rw [if_neg hk] at hu hu'
      obtain ⟨x, hx, hr⟩ := h.get hu; rw [hx] at hu'; cases hu'; exact hr

theorem cell_of {w : World} {b o : Nat} {c : Array Value} {e : TypeId} {fr : Nat × Nat} (hb : w.heap[b]? = some (.cells c e fr)) : w.cell? ⟨b, o, none⟩ = c[o]? := by simp [World.cell?, hb]

theorem run_loadCellsFrom {w : World} {b o : Nat} {c : Array Value} {e : TypeId} {fr : Nat × Nat} (hb : w.heap[b]? = some (.cells c e fr)) : ∀ (n i : Nat) (acc : Array Value), o + i + n ≤ c.size →
    (loadCellsFrom ⟨b, o, none⟩ i n acc).run P w = .ok (acc ++ c.extract (o + i) (o + i + n)) w
  | 0, i, acc, h => by simp [loadCellsFrom]; omega
  | n + 1, i, acc, h => by
    have hlt : o + i < c.size := by omega
    have hc : w.cell? ⟨b, o + i, none⟩ = some c[o + i] := by rw [cell_of hb]; exact Array.getElem?_eq_getElem hlt
    simp only [loadCellsFrom, Sem.run_bind, add_eq, run_load, hc, Result.andThen_ok]
    rw [run_loadCellsFrom hb n (i + 1) _ (by omega)]
    congr 1
    apply Array.ext_getElem?
    intro k
    simp only [Array.getElem?_append, Array.getElem?_extract, Array.size_push, Array.getElem?_push]
    by_cases h1 : k < acc.size
    · simp [h1, show k < acc.size + 1 by omega, show ¬ k = acc.size by omega]
    · by_cases h2 : k = acc.size
      · subst h2
        simp [hlt]
        omega
      · simp [h1, show ¬ k < acc.size + 1 by omega]
        by_cases h3 : k - acc.size < min (o + i + (n + 1)) c.size - (o + i)
        · rw [if_pos h3, if_pos (by omega)]
          congr 1; omega
        · rw [if_neg h3, if_neg (by omega)]

theorem run_loadCells' {w : World} {b o n : Nat} {c : Array Value} {e : TypeId} {fr : Nat × Nat} (hb : w.heap[b]? = some (.cells c e fr)) (h : o + n ≤ c.size) :
    (loadCells ⟨b, o, none⟩ n).run P w = .ok (c.extract o (o + n)) w := by
  have := run_loadCellsFrom (P := P) hb n 0 #[] (by omega)
  simpa [loadCells] using this

/-! ### load -/
noncomputable def sizeQ (a : Array Value) : Nat := lenQ a.toList
theorem sizeQ_eq (a : Array Value) : sizeQ a = a.size := by unfold sizeQ; rw [lenQ_eq]; simp
noncomputable def aLoad2 (T : Option TV) (ob : Option AO) (o : Nat) : Option Value :=
  match ob, T with
  | some (.cells c _ _), some T => Bool.rec (getQ c.toList o) (Bool.rec none (some (.agg (extQ c o T.size))) (Nat.ble (Nat.add o T.size) (sizeQ c))) T.agg
  | _, _ => none
noncomputable def aLoad (tv : Nat → Option TV) (t : Nat) (a : Value) (H : Tr AO) : Option Value :=
  match a with
  | .pointer (some ⟨b, o, none⟩) => aLoad2 (tv t) (H.get b) o
  | _ => none

/-- a block of which a name is known -/
theorem HR.cells {B : Nat} {w0 w : World} {h : Hp} (hr : HR B w0 p h w) {i b k : Nat} {c : Array Value} {e : TypeId} {sz : Option Nat} (hi : h i = some (.cells c e sz)) (hb : p i = some (b, k)) :
    B ≤ b ∧ ∃ c', w.heap[b]? = some (.cells c' e (0, 0)) ∧ PreR p c c' ∧ ∀ s, sz = some s → k * s ≤ c'.size := by
  obtain ⟨b', k', o', h1, h2, h3, h4⟩ := hr.ob i _ hi
  rw [hb] at h1; cases h1
  cases o' with
  | cells c' e' fr =>
    obtain ⟨rfl, rfl, h5, h6, h7⟩ := h4
    exact ⟨h2, c', h3, ⟨h5, h7⟩, h6⟩
  | _ => exact h4.elim

theorem aLoad_ok (hT : TvOk P tv) {B : Nat} {w0 w : World} {h : Hp} (hr : HR B w0 p h w) {H : Tr AO} {t : Nat} {a a' v : Value} (hS : ∀ b o, a = .pointer (some ⟨b, o, none⟩) → ∀ y, H.get b = some y → h b = some y) (ha : VR p a a')
    (hl : aLoad tv t a H = some v) : ∃ v', (Instr.loadAt t a').run P w = .ok v' w ∧ VR p v v' := by
  unfold aLoad at hl
  split at hl
  · rename_i b o
    obtain ⟨b', k, rfl, hb⟩ := ha.ptr_inv
    unfold aLoad2 at hl
    split at hl
    · rename_i c e sz T hc hTt
      obtain ⟨_, c', hblk, hpre, _⟩ := hr.cells (hS b o rfl _ hc) hb
      rw [extQ_eq, getQ_eq, sizeQ_eq] at hl
      cases hag : T.agg with
      | true =>
        simp only [hag] at hl
        cases hle : Nat.ble (Nat.add o T.size) c.size with
        | true =>
          rw [hle] at hl
          have hle : o + T.size ≤ c.size := Nat.le_of_ble_eq_true hle
          cases hl
          have hx := hpre.extract (i := o) hle
          refine ⟨.agg (c'.extract o (o + T.size)), ?_, .agg hx.1 hx.2⟩
          simp only [Instr.loadAt, Instr.sureAddr, loadVar, Sem.run_bind, Sem.run_pure, Result.andThen_ok, run_isAgg' hT hTt w, hag, if_true, run_sizeOf' hT hTt w]
          simp [run_isAgg' hT hTt w, hag, run_sizeOf' hT hTt w, run_loadCells' hblk (show o + T.size ≤ c'.size from Nat.le_trans hle hpre.1)]
        | false => rw [hle] at hl; cases hl
      | false =>
        simp only [hag] at hl
        obtain ⟨v', h1, h2⟩ := hpre.get (show c[o]? = some v by simpa using hl)
        refine ⟨v', ?_, h2⟩
        have hcell : w.cell? ⟨b', o, none⟩ = some v' := by rw [cell_of hblk]; exact h1
        simp only [Instr.loadAt, Instr.sureAddr, loadVar, Sem.run_bind, Sem.run_pure, Result.andThen_ok]
        simp [run_isAgg' hT hTt w, hag, hcell]
    · cases hl
  · cases hl

/-! ### store -/
def setAll (o : Nat) : List Value → Nat → Array Value → Array Value
  | [], _, c => c
  | v :: l, i, c => setAll o l (i + 1) (c.setIfInBounds (o + i) v)

theorem setAll_size (o : Nat) : ∀ (l : List Value) (i : Nat) (c : Array Value), (setAll o l i c).size = c.size
  | [], _, _ => rfl
  | v :: l, i, c => by rw [setAll, setAll_size o l]; simp

theorem PreR.setAll {o : Nat} : ∀ (l l' : List Value) (i : Nat) (c c' : Array Value), l.length = l'.length → (∀ (j : Nat) (v v' : Value), l[j]? = some v → l'[j]? = some v' → VR p v v') → o + i + l.length ≤ c.size → PreR p c c' →
    PreR p (setAll o l i c) (setAll o l' i c')
  | [], [], i, c, c', _, _, _, h => h
  | [], _ :: _, i, c, c', hl, _, _, h => by simp at hl
  | _ :: _, [], i, c, c', hl, _, _, h => by simp at hl
  | v :: l, v' :: l', i, c, c', hl, hv, hs, h => by
    simp only [Go.Proofs.Ytkjceegmmhnajaa.setAll]
    exact PreR.setAll l l' (i + 1) _ _ (by simpa using hl) (fun j u u' hu hu' => hv (j + 1) u u' (by simpa using hu) (by simpa using hu')) (by simp at hs ⊢; omega) (h.set (hv 0 v v' (by simp) (by simp)) _ (by simp at hs; omega))

theorem setCell_put {w : World} {b o : Nat} {c : Array Value} {e : TypeId} {fr : Nat × Nat} (hb : w.heap[b]? = some (.cells c e fr)) (v : Value) : w.setCell ⟨b, o, none⟩ v = w.putObj b (.cells (c.setIfInBounds o v) e fr) := by
  have hlt : b < w.heap.size := (Array.getElem?_eq_some_iff.1 hb).1
  unfold World.setCell World.putObj
  congr 1
  apply Array.ext_getElem?
  intro k
  simp only [Array.getElem?_modify, Array.getElem?_setIfInBounds]
  by_cases hk : b = k
  · subst hk
    have := (Array.getElem?_eq_some_iff.1 hb).2
    simp [hlt, this]
  · simp [hk]

theorem putObj_putObj (w : World) (b : Nat) (x y : Obj) : (w.putObj b x).putObj b y = w.putObj b y := by
  unfold World.putObj
  congr 1
  apply Array.ext_getElem?
  intro k
  simp only [Array.getElem?_setIfInBounds, Array.size_setIfInBounds]
  by_cases hk : b = k
  · subst hk; simp
  · simp [hk]

theorem run_storeCells' {b o : Nat} {e : TypeId} : ∀ (l : List Value) (i : Nat) (c : Array Value) (w : World), w.heap[b]? = some (.cells c e (0, 0)) → (∀ v ∈ l, v.oneCell' = true) → o + i + l.length ≤ c.size →
    (storeCells ⟨b, o, none⟩ l i).run P w = .ok () (w.putObj b (.cells (setAll o l i c) e (0, 0)))
  | [], i, c, w, hb, _, _ => by
    simp only [storeCells, setAll, Sem.run_pure]
    congr 1
    unfold World.putObj
    have : w.heap.setIfInBounds b (.cells c e (0, 0)) = w.heap := by
      apply Array.ext_getElem?
      intro k
      simp only [Array.getElem?_setIfInBounds]
      by_cases hk : b = k
      · subst hk; simp [hb, (Array.getElem?_eq_some_iff.1 hb).1]
        have := (Array.getElem?_eq_some_iff.1 hb).2
        exact this.symm
      · simp [hk]
    rw [this]
  | v :: l, i, c, w, hb, h1, hs => by
    have hlt : o + i < c.size := by simp at hs; omega
    have hb1 : b < w.heap.size := (Array.getElem?_eq_some_iff.1 hb).1
    have hc : w.cell? ⟨b, o + i, none⟩ = some c[o + i] := by rw [cell_of hb]; exact Array.getElem?_eq_getElem hlt
    have hf : w.frozen? ⟨b, o + i, none⟩ = false := by simp [World.frozen?, hb]
    simp only [storeCells, Sem.run_bind, add_eq, run_store P w _ v .plain (h1 v (by simp)), hc, hf]
    simp only [Bool.false_eq_true, if_false, Result.andThen_ok, setCell_put hb]
    rw [run_storeCells' l (i + 1) _ _ (World.putObj_heap_same hb1) (fun u hu => h1 u (by simp [hu])) (by simp at hs ⊢; omega), putObj_putObj]
    rfl

theorem VR.oneCell {v v' : Value} (h : VR p v v') : v'.oneCell' = v.oneCell' := by cases h <;> rfl

/-- the same, for the kernel's reckoning -/
noncomputable def setAllQ (o : Nat) (l : List Value) (c : Array Value) : Array Value := ⟨appQ (takeQ c.toList o) (appQ l (dropQ c.toList (Nat.add o (lenQ l))))⟩
theorem setAll_fold (o : Nat) : ∀ (l : List Value) (i : Nat) (c : Array Value), setAll o l i c = (l.zipIdx i).foldl (fun cs (c, j) => cs.setIfInBounds (o + j) c) c
  | [], _, _ => rfl
  | v :: l, i, c => by rw [setAll, setAll_fold o l (i + 1)]; rfl
theorem setAllQ_eq {o : Nat} {l : List Value} {c : Array Value} (h : o + l.length ≤ c.size) : setAllQ o l c = setAll o l 0 c := by
  rw [setAll_fold, foldSet_splice o l 0 c (by omega)]
  unfold setAllQ
  rw [appQ_eq, appQ_eq, takeQ_eq, dropQ_eq, lenQ_eq]
  simp
noncomputable def allOne (a : Array Value) : Bool := allQ Value.oneCell' a.toList
theorem allOne_eq (a : Array Value) : allOne a = a.toList.all (·.oneCell') := allQ_eq _ _

noncomputable def aStore2 (lo : Nat) (T : Option TV) (ob : Option AO) (b o : Nat) (xs : Array Value) : Option Dl :=
  match ob, T with
  | some (.cells c e sz), some T => Bool.rec none (some [(b, some (.cells (setAllQ o xs.toList c) e sz))])
      (Bool.rec false (Bool.rec false (Bool.rec false (Nat.ble (Nat.add o T.size) (sizeQ c)) (Nat.beq (sizeQ xs) T.size)) (allOne xs)) (Nat.ble lo b))
  | _, _ => none

noncomputable def aStore0 (tv : Nat → Option TV) (lo t : Nat) (a x : Value) (H : Tr AO) : Option Dl :=
  match a with
  | .pointer (some ⟨b, o, none⟩) => match H.get b, tv t with
    | some (.cells c e sz), some T => if lo ≤ b ∧ x.cells.size = T.size ∧ o + T.size ≤ c.size ∧ x.cells.toList.all (·.oneCell') = true then some [(b, some (.cells (setAll o x.cells.toList 0 c) e sz))] else none
    | _, _ => none
  | _ => none

noncomputable def aStore (tv : Nat → Option TV) (lo t : Nat) (a x : Value) (H : Tr AO) : Option Dl :=
  match a with
  | .pointer (some ⟨b, o, none⟩) => aStore2 lo (tv t) (H.get b) b o x.cells
  | _ => none
theorem aStore_eq {tv : Nat → Option TV} {lo t : Nat} {a x : Value} {H : Tr AO} {d : Dl} (h : aStore tv lo t a x H = some d) : aStore0 tv lo t a x H = some d := by
  unfold aStore at h
  unfold aStore0
  split at h
  · unfold aStore2 at h
    split at h
    · rename_i b o _ _ c e sz T h1 h2
      try rw [h1, h2]
      try dsimp only
      cases e1 : Nat.ble lo _ with
      | false => rw [e1] at h; cases h
      | true =>
        rw [e1] at h; dsimp only at h
        cases e2 : allOne x.cells with
        | false => rw [e2] at h; cases h
        | true =>
          rw [e2] at h; dsimp only at h
          rw [sizeQ_eq, sizeQ_eq] at h
          cases e3 : Nat.beq x.cells.size T.size with
          | false => rw [e3] at h; cases h
          | true =>
            rw [e3] at h; dsimp only at h
            cases e4 : Nat.ble (Nat.add o T.size) c.size with
            | false => rw [e4] at h; cases h
            | true =>
              rw [e4] at h; dsimp only at h
              have g1 := Nat.le_of_ble_eq_true e1
              have g3 := Nat.eq_of_beq_eq_true e3
              have g4 : o + T.size ≤ c.size := Nat.le_of_ble_eq_true e4
              rw [allOne_eq] at e2
              rw [if_pos ⟨g1, g3, g4, e2⟩, ← setAllQ_eq (by simp [g3]; exact g4)]
              exact h
    · cases h
  · cases h

theorem aStore_ok (hT : TvOk P tv) {B : Nat} {w0 w : World} {h : Hp} (hr : HR B w0 p h w) {H : Tr AO} {d : Dl} {lo t : Nat} {a a' x x' : Value} (hS : ∀ b o, a = .pointer (some ⟨b, o, none⟩) → ∀ y, H.get b = some y → h b = some y) (ha : VR p a a') (hx : VR p x x')
    (hl : aStore tv lo t a x H = some d) : ∃ b o c w', a = .pointer (some ⟨b, o, none⟩) ∧ lo ≤ b ∧ H.get b = some c ∧ (∃ o', d = [(b, some o')] ∧ (Instr.storeAt t a' x').run P w = .ok () w' ∧ HR B w0 p (upd h d) w') := by
  replace hl := aStore_eq hl
  unfold aStore0 at hl
  split at hl
  · rename_i b o
    obtain ⟨b', k, rfl, hb⟩ := ha.ptr_inv
    split at hl
    · rename_i c e sz T hc hTt
      have hh := hS b o rfl _ hc
      obtain ⟨hBb, c', hblk, hpre, hsz⟩ := hr.cells hh hb
      split at hl
      · rename_i hcond
        obtain ⟨h1, h2, h3, h4⟩ := hcond
        cases hl
        have hcells := hx.cells
        have hone : ∀ v ∈ x'.cells.toList, v.oneCell' = true := fun v' hv' => by
          obtain ⟨i, hi, e1⟩ := List.mem_iff_getElem.1 hv'
          have hi' : i < x.cells.size := by rw [hcells.1]; simpa using hi
          obtain ⟨u, hu, hvr⟩ := hcells.get i _ (Array.getElem?_eq_getElem hi')
          have : u = v' := by
            have h5 : x'.cells[i]? = some v' := by rw [← e1]; simp
            rw [h5] at hu; cases hu; rfl
          subst this
          rw [hvr.oneCell]
          exact List.all_eq_true.1 h4 _ (by simp)
        have hrun := run_storeCells' (P := P) (o := o) x'.cells.toList 0 c' w hblk hone (by have := hpre.1; have := hcells.1; simp; omega)
        have hb1 : b' < w.heap.size := (Array.getElem?_eq_some_iff.1 hblk).1
        refine ⟨b, o, _, w.putObj b' (.cells (setAll o x'.cells.toList 0 c') e (0, 0)), rfl, h1, hc, _, rfl, ?_, ?_⟩
        · simp only [Instr.storeAt, Instr.sureAddr, storeVar, Sem.run_bind, Sem.run_pure, Result.andThen_ok, run_sizeOf' hT hTt w]
          have : ¬ (x'.cells.size ≠ T.size) := by rw [← hcells.1]; simpa using h2
          simp only [if_neg this, Sem.run_bind, Sem.run_pure, Result.andThen_ok, hrun]
        · refine hr.put hh hb ?_ (by simp) (fun k hk => World.putObj_heap_other hk) (World.putObj_heap_same hb1) rfl rfl rfl
          have hp := PreR.setAll (p := p) (o := o) x.cells.toList x'.cells.toList 0 c c' (by simpa using hcells.1) (fun j v v' hv hv' => by
            obtain ⟨u, hu, hvr⟩ := hcells.get j v (by simpa using hv)
            have : u = v' := by simp at hv'; rw [hv'] at hu; cases hu; rfl
            subst this; exact hvr) (by simp; omega) hpre
          exact ⟨rfl, rfl, hp.1, fun s hs => by rw [setAll_size]; exact hsz s hs, hp.2⟩
      · cases hl
    · cases hl
  · cases hl
end
end Go.Proofs.Ytkjceegmmhnajaa
