/- The second machine's operations that make memory, but append. -/
import Derived.Test.YtkjceegmmhnajaaM4
namespace Go.Proofs.Ytkjceegmmhnajaa
open Go.RowKit

section
variable {P : Program} {tv : Nat → Option TV} {p : Nat → Option (Nat × Nat)} {r r' : Operand → Value}

def zr (z : Array Value) (n : Nat) : Array Value := (Array.range n).map (fun i => z[i % z.size]!)

theorem VR.dflt (p : Nat → Option (Nat × Nat)) : VR p (default : Value) (default : Value) := VR.bool _

theorem AR.zr {z : Array Value} (h : AR p z z) (n : Nat) : AR p (zr z n) (zr z n) :=
  AR.of_get rfl fun i v v' hv hv' => by
    rw [hv] at hv'; cases hv'
    unfold Go.Proofs.Ytkjceegmmhnajaa.zr at hv
    simp only [Array.getElem?_map] at hv
    cases e : (Array.range n)[i]? with
    | none => simp [e] at hv
    | some k =>
      simp only [e, Option.map_some, Option.some.injEq] at hv
      subst hv
      by_cases hk : k % z.size < z.size
      · rw [getElem!_pos z _ hk]
        obtain ⟨u, hu, hvr⟩ := h.get (k % z.size) _ (Array.getElem?_eq_getElem hk)
        rw [Array.getElem?_eq_getElem hk] at hu; cases hu; exact hvr
      · rw [getElem!_neg z _ hk]; exact .dflt p

/-- the same, for the kernel's reckoning -/
noncomputable def repQ (z : List Value) (k : Nat) : List Value := Nat.rec [] (fun _ ih => appQ z ih) k
theorem repQ_get (z : List Value) (hz : 0 < z.length) : ∀ (k i : Nat), (repQ z k)[i]? = if i < k * z.length then z[i % z.length]? else none
  | 0, i => by show ([] : List Value)[i]? = _; simp
  | k + 1, i => by
    have : repQ z (k + 1) = z ++ repQ z k := appQ_eq _ _
    rw [this]
    by_cases h : i < z.length
    · rw [List.getElem?_append_left h, Nat.mod_eq_of_lt h, if_pos]
      rw [Nat.add_mul]; omega
    · rw [List.getElem?_append_right (by omega), repQ_get z hz k]
      by_cases h2 : i - z.length < k * z.length
      · rw [if_pos h2, if_pos (by rw [Nat.add_mul]; omega)]
        rw [show i % z.length = (i - z.length) % z.length from by rw [Nat.mod_eq_sub_mod (by omega)]]
      · rw [if_neg h2, if_neg (by rw [Nat.add_mul]; omega)]
noncomputable def zrQ (z : Array Value) (size len : Nat) : List Value := Nat.rec [] (fun _ _ => repQ z.toList len) size
theorem zrQ_eq {z : Array Value} {size len : Nat} (hz : z.size = size) : (⟨zrQ z size len⟩ : Array Value) = if len * size = 0 then #[] else zr z (len * size) := by
  cases size with
  | zero => rfl
  | succ s =>
    show (⟨repQ z.toList len⟩ : Array Value) = _
    apply Array.ext_getElem?
    intro i
    have hg := repQ_get z.toList (by simp [hz]) len i
    simp only [Array.length_toList, hz] at hg
    rw [show (⟨repQ z.toList len⟩ : Array Value)[i]? = (repQ z.toList len)[i]? from by simp, hg]
    by_cases h0 : len * (s + 1) = 0
    · rw [if_pos h0, if_neg (by omega)]; simp
    · rw [if_neg h0]
      unfold zr
      simp only [Array.getElem?_map, hz]
      by_cases h : i < len * (s + 1)
      · rw [if_pos h]
        have hm : i % (s + 1) < z.size := by rw [hz]; exact Nat.mod_lt _ (by omega)
        rw [Array.getElem?_eq_getElem (by simpa using h)]
        simp only [Array.getElem_range, Option.map_some]
        rw [getElem!_pos z _ hm]
        simp [hm]
      · rw [if_neg h, Array.getElem?_eq_none (by simp; omega)]; rfl

noncomputable def aMake0 (tv : Nat → Option TV) (op : Op) (r : Operand → Value) (n : Nat) : Option (Value × AO) :=
  match op with
  | .alloc e => match tv e with
    | some T => some (.pointer (some ⟨n, 0, none⟩), .cells T.zero.cells e none)
    | none => none
  | .box e x => some (.pointer (some ⟨n, 0, none⟩), .cells (r x).cells e none)
  | .buildSlice t len parts => match tv t with
    | some T => match T.und with
      | .slice e => match tv e with
        | some E => if len * E.size > 2 ^ 24 ∨ unk ≤ len then none else
          (Instr.fill (fun i => some (i * E.size, E.size)) (if len * E.size = 0 then #[] else zr E.zero.cells (len * E.size)) (parts.map fun (i, x) => (i, r x)).toList).map fun c => (.slice (some ⟨n, 0, none⟩) len len, .cells c e none)
        | none => none
      | _ => none
    | none => none
  | .makeSlice t l c => match tv t, r l, r c with
    | some T, .int _ li, .int _ ci => match T.und with
      | .slice e => match tv e with
        | some E => if 0 ≤ li ∧ li ≤ ci ∧ ci < 4611686018427387904 ∧ (E.bytes : Int) * ci ≤ 2 ^ 48 then
            some (.slice (some ⟨n, 0, none⟩) li.toNat ci.toNat, .cells (if ci.toNat * E.size = 0 then #[] else zr E.zero.cells (ci.toNat * E.size)) e none)
          else none
        | none => none
      | _ => none
    | _, _, _ => none
  | _ => none

theorem or_new {q : Nat → Option (Nat × Nat)} {c c' : Array Value} (h : AR q c c') (k : Nat) (e : Nat) : OR q k (.cells c e none) (.cells c' e) :=
  ⟨rfl, rfl, by rw [h.1]; exact Nat.le_refl _, fun s hs => (by cases hs), fun i _ => h.2 i⟩

theorem wrap_in {x : Int} (h0 : 0 ≤ x) (h1 : x < 4611686018427387904) : IntKind.i64.wrap x = x := by
  unfold IntKind.wrap IntKind.signed IntKind.bits
  simp
  omega

theorem aMake0_ok (hT : TvOk P tv) {o : Oper} {n : Nat} {w : World} (hn : p n = none) (hr : ∀ x ∈ o.op.operands, VR p (r x) (r' x)) {v : Value} {ob : AO} (h : aMake0 tv o.op r n = some (v, ob)) :
    ∃ v' o', (execOp r' o).run P w = .ok (.value v') (w.alloc o') ∧ VR (newp p n w.heap.size 0) v v' ∧ OR (newp p n w.heap.size 0) 0 ob o' := by
  have hx := (ext_new hn w.heap.size 0).ext
  have hself : newp p n w.heap.size 0 n = some (w.heap.size, 0) := by simp [newp]
  obtain ⟨dst, op, type, pos, after, guard⟩ := o
  cases op <;> simp only [Op.operands] at hr <;> (try (simp only [aMake0, reduceCtorEq] at h; done)) <;> simp only [aMake0] at h
  case alloc e =>
    split at h
    · rename_i T hTt
      cases h
      refine ⟨.pointer (some ⟨w.heap.size, 0, none⟩), .cells T.zero.cells e, ?_, .ptr hself, or_new ((zeroVR hT hTt _).cells) _ _⟩
      simp [execOp, Instr.alloc, run_zero' hT hTt w, newVar, newRow]
    · cases h
  case box e x =>
    cases h
    refine ⟨.pointer (some ⟨w.heap.size, 0, none⟩), .cells (r' x).cells e, ?_, .ptr hself, or_new (((hr x (by simp)).mono hx).cells) _ _⟩
    simp [execOp, Instr.box, newVar, newRow]
  case buildSlice t len parts =>
    split at h
    · rename_i T hTt
      split at h
      · rename_i e hund
        split at h
        · rename_i E hE
          split at h
          · cases h
          · rename_i hcond
            simp only [Option.map_eq_some_iff] at h
            obtain ⟨c, hf, he⟩ := h
            cases he
            have hpr : PR (newp p n w.heap.size 0) _ _ := PR.ops (r := r) (r' := r') parts (fun x hx' => (hr x (by simpa using hx')).mono hx)
            have hz : AR (newp p n w.heap.size 0) (if len * E.size = 0 then #[] else zr E.zero.cells (len * E.size)) (if len * E.size = 0 then #[] else zr E.zero.cells (len * E.size)) := by
              split
              · exact AR.empty _
              · exact AR.zr (zeroVR hT hE _).cells _
            obtain ⟨c', hf', hc⟩ := fill_ok _ _ _ _ _ _ hpr hz hf
            refine ⟨.slice (some ⟨w.heap.size, 0, none⟩) len len, .cells c' e, ?_, .slice hself (.inl ⟨by omega, rfl⟩), or_new hc _ _⟩
            simp only [execOp, Instr.buildSlice, Sem.run_bind, run_und hT hTt w, Result.andThen_ok, hund, run_sizeOf' hT hE w]
            rw [if_neg (by omega)]
            have hcells : (Array.range (len * E.size)).map (fun x => (if len * E.size = 0 then (#[] : Array Value) else E.zero.cells)[x % (if len * E.size = 0 then (#[] : Array Value) else E.zero.cells).size]!) = (if len * E.size = 0 then #[] else zr E.zero.cells (len * E.size)) := by
              split
              · rename_i h0; simp [h0]
              · rfl
            by_cases h0 : len * E.size = 0
            · simp only [h0, if_true] at hf' hcells ⊢
              simp only [Sem.run_bind, Sem.run_pure, Result.andThen_ok, hcells, hf', newRow, run_newObj, World.alloc_eq]
            · simp only [h0, if_false] at hf' hcells ⊢
              simp only [Sem.run_bind, Sem.run_pure, Result.andThen_ok, run_zero' hT hE w, hcells, hf', newRow, run_newObj, World.alloc_eq]
        · cases h
      · cases h
    · cases h
  case makeSlice t l c =>
    split at h
    · rename_i T k li k2 ci hTt hl hc
      have h1 := hr l (by simp)
      rw [hl] at h1
      have el := h1.int_inv
      have h2 := hr c (by simp)
      rw [hc] at h2
      have ec := h2.int_inv
      split at h
      · rename_i e hund
        split at h
        · rename_i E hE
          split at h
          · rename_i hcond
            obtain ⟨c1, c2, c3, c4⟩ := hcond
            cases h
            obtain ⟨inf, hinf, hbytes⟩ := run_bytes' hT hE w
            have w1 := wrap_in c1 (show li < 4611686018427387904 by omega)
            have w2 := wrap_in (show 0 ≤ ci by omega) c3
            have hz : AR (newp p n w.heap.size 0) (if ci.toNat * E.size = 0 then #[] else zr E.zero.cells (ci.toNat * E.size)) (if ci.toNat * E.size = 0 then #[] else zr E.zero.cells (ci.toNat * E.size)) := by
              split
              · exact AR.empty _
              · exact AR.zr (zeroVR hT hE _).cells _
            refine ⟨.slice (some ⟨w.heap.size, 0, none⟩) li.toNat ci.toNat, .cells (if ci.toNat * E.size = 0 then #[] else zr E.zero.cells (ci.toNat * E.size)) e, ?_, .slice hself (.inl ⟨by unfold unk; omega, rfl⟩), or_new hz _ _⟩
            have hc1 : (decide (ci < 0) || decide ((E.bytes : Int) * ci > 2 ^ 48) || decide (li < 0) || decide (li > ci)) = false := by
              simp only [Bool.or_eq_false_iff, decide_eq_false_iff_not]
              refine ⟨⟨⟨by omega, by omega⟩, by omega⟩, by omega⟩
            have hcells : (Array.range (ci.toNat * E.size)).map (fun x => (if ci.toNat * E.size = 0 then (#[] : Array Value) else E.zero.cells)[x % (if ci.toNat * E.size = 0 then (#[] : Array Value) else E.zero.cells).size]!) = (if ci.toNat * E.size = 0 then #[] else zr E.zero.cells (ci.toNat * E.size)) := by
              split
              · rename_i h0; simp [h0]
              · rfl
            simp only [execOp, Instr.makeSlice, el, ec, asInt, asIntOf, Sem.run_bind, Sem.run_pure, run_und hT hTt w, Result.andThen_ok, hund, hinf, hbytes, w1, w2, hc1, Bool.false_eq_true, if_false, run_askRoom, run_sizeOf' hT hE w]
            by_cases h0 : ci.toNat * E.size = 0
            · simp only [h0, if_true] at hcells ⊢
              simp only [Sem.run_bind, Sem.run_pure, Result.andThen_ok, hcells, newRow, run_newObj, World.alloc_eq]
            · simp only [h0, if_false] at hcells ⊢
              simp only [Sem.run_bind, Sem.run_pure, Result.andThen_ok, run_zero' hT hE w, hcells, newRow, run_newObj, World.alloc_eq]
          · cases h
        · cases h
      · cases h
    · cases h

noncomputable def mkBox (n : Nat) (c : Array Value) (e : Nat) : Option (Value × AO) := some (.pointer (some ⟨n, 0, none⟩), .cells c e none)
noncomputable def mkAlloc (T : Option TV) (n e : Nat) : Option (Value × AO) := match T with
  | some T => mkBox n T.zero.cells e
  | none => none
noncomputable def mkRow (tv : Nat → Option TV) (T : Option TV) (n len : Nat) (parts : List (Nat × Value)) : Option (Value × AO) := match T with
  | some T => match T.und with
    | .slice e => match tv e with
      | some E => Bool.rec none (match fillQ (fun i => some (Nat.mul i E.size, E.size)) parts (zrQ E.zero.cells E.size len) with
        | some c => some (.slice (some ⟨n, 0, none⟩) len len, .cells ⟨c⟩ e none)
        | none => none) (Bool.rec false (Nat.blt len unk) (Nat.ble (Nat.mul len E.size) 16777216))
      | none => none
    | _ => none
  | none => none
noncomputable def mkMade (tv : Nat → Option TV) (T : Option TV) (n : Nat) (l c : Value) : Option (Value × AO) := match T, l, c with
  | some T, .int _ (.ofNat li), .int _ (.ofNat ci) => match T.und with
    | .slice e => match tv e with
      | some E => Bool.rec none (some (.slice (some ⟨n, 0, none⟩) li ci, .cells ⟨zrQ E.zero.cells E.size ci⟩ e none))
        (Bool.rec false (Bool.rec false (Nat.ble (Nat.mul E.bytes ci) 281474976710656) (Nat.blt ci 4611686018427387904)) (Nat.ble li ci))
      | none => none
    | _ => none
  | _, _, _ => none
noncomputable def aMake (tv : Nat → Option TV) (op : Op) (r : Operand → Value) (n : Nat) : Option (Value × AO) :=
  match op with
  | .alloc e => mkAlloc (tv e) n e
  | .box e x => mkBox n (r x).cells e
  | .buildSlice t len parts => mkRow tv (tv t) n len (partsQ r parts)
  | .makeSlice t l c => mkMade tv (tv t) n (r l) (r c)
  | _ => none

theorem aMake_eq (hT : TvOk P tv) {op : Op} {n : Nat} {v : Value} {ob : AO} (h : aMake tv op r n = some (v, ob)) : aMake0 tv op r n = some (v, ob) := by
  cases op <;> (try (simp only [aMake, reduceCtorEq] at h; done)) <;> simp only [aMake] at h <;> simp only [aMake0]
  case alloc e =>
    unfold mkAlloc at h
    split at h
    · rename_i T hTt; (try rw [hTt]); exact h
    · cases h
  case box e x => exact h
  case buildSlice t len parts =>
    unfold mkRow at h
    split at h
    · rename_i T hTt
      try rw [hTt]
      try dsimp only
      split at h
      · rename_i e hund
        try rw [hund]
        try dsimp only
        split at h
        · rename_i E hE
          try rw [hE]
          try dsimp only
          cases e1 : Nat.ble (Nat.mul len E.size) 16777216 with
          | false => rw [e1] at h; cases h
          | true =>
            rw [e1] at h; dsimp only at h
            cases e2 : Nat.blt len unk with
            | false => rw [e2] at h; cases h
            | true =>
              rw [e2] at h; dsimp only at h
              have g1 : len * E.size ≤ 16777216 := Nat.le_of_ble_eq_true e1
              have g2 : len < unk := by simp [Nat.blt] at e2; omega
              rw [if_neg (by omega)]
              split at h
              · rename_i c hf
                cases h
                have hf := fillQ_eq _ _ _ _ hf
                rw [zrQ_eq (zeroSize hT hE), partsQ_eq] at hf
                have hf' : Instr.fill (fun i => some (i * E.size, E.size)) (if len * E.size = 0 then #[] else zr E.zero.cells (len * E.size)) (parts.map fun (i, x) => (i, r x)).toList = some ⟨c⟩ := hf
                rw [hf']; rfl
              · cases h
        · cases h
      · cases h
    · cases h
  case makeSlice t l c =>
    unfold mkMade at h
    split at h
    · rename_i T k li k2 ci hTt hl hc
      try rw [hTt]
      try rw [hl]
      try rw [hc]
      try dsimp only
      split at h
      · rename_i e hund
        try rw [hund]
        try dsimp only
        split at h
        · rename_i E hE
          try rw [hE]
          try dsimp only
          cases e1 : Nat.ble li ci with
          | false => rw [e1] at h; cases h
          | true =>
            rw [e1] at h; dsimp only at h
            cases e2 : Nat.blt ci 4611686018427387904 with
            | false => rw [e2] at h; cases h
            | true =>
              rw [e2] at h; dsimp only at h
              cases e3 : Nat.ble (Nat.mul E.bytes ci) 281474976710656 with
              | false => rw [e3] at h; cases h
              | true =>
                rw [e3] at h; dsimp only at h
                have g1 := Nat.le_of_ble_eq_true e1
                have g2 : ci < 4611686018427387904 := by simp [Nat.blt] at e2; omega
                have g3 : E.bytes * ci ≤ 281474976710656 := Nat.le_of_ble_eq_true e3
                rw [if_pos ⟨Int.natCast_nonneg _, by show (li : Int) ≤ ci; omega, by show (ci : Int) < _; omega, by show (E.bytes : Int) * (ci : Int) ≤ _; omega⟩]
                cases h
                rw [zrQ_eq (zeroSize hT hE)]; rfl
        · cases h
      · cases h
    · cases h

theorem aMake_ok (hT : TvOk P tv) {o : Oper} {n : Nat} {w : World} (hn : p n = none) (hr : ∀ x ∈ o.op.operands, VR p (r x) (r' x)) {v : Value} {ob : AO} (h : aMake tv o.op r n = some (v, ob)) :
    ∃ v' o', (execOp r' o).run P w = .ok (.value v') (w.alloc o') ∧ VR (newp p n w.heap.size 0) v v' ∧ OR (newp p n w.heap.size 0) 0 ob o' :=
  aMake0_ok hT hn hr (aMake_eq hT h)
end
end Go.Proofs.Ytkjceegmmhnajaa
