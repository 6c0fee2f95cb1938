/- The second machine's operations on values alone do what the model's do. -/
import Derived.Test.YtkjceegmmhnajaaM3b
namespace Go.Proofs.Ytkjceegmmhnajaa
open Go.RowKit
section
variable {P : Program} {tv : Nat → Option TV} {p : Nat → Option (Nat × Nat)} {r r' : Operand → Value} {t : Nat}

theorem AR.map_op (xs : Array Operand) (h : ∀ x ∈ xs, VR p (r x) (r' x)) : AR p (xs.map r) (xs.map r') :=
  AR.of_get (by simp) fun i v v' hv hv' => by
    simp only [Array.getElem?_map] at hv hv'
    cases e : xs[i]? with
    | none => simp [e] at hv
    | some x => simp [e] at hv hv'; subst hv; subst hv'; exact h x (Array.mem_of_getElem? e)

theorem AR.fields {a a' : Array Value} (h : AR p a a') : a.size = a'.size ∧ ∀ i, VR p (a.getD i undef) (a'.getD i undef) := h

theorem PR.ops (parts : Array (Nat × Operand)) (h : ∀ x ∈ parts.map (·.2), VR p (r x) (r' x)) : PR p (parts.map fun (i, x) => (i, r x)).toList (parts.map fun (i, x) => (i, r' x)).toList := by
  rw [Array.toList_map, Array.toList_map]
  refine PR.map _ _ _ fun x hx => ⟨rfl, ?_⟩
  exact h x.2 (Array.mem_map.2 ⟨x, by simpa using hx, rfl⟩)

theorem eq_slice_nil {t e : Nat} {x : TypeDesc} {a : Addr} {l c l2 c2 : Nat} {w : World} (hu : (underlying t).run P w = .ok x w) (hx : x = .slice e) (_u : Unit) (d : Nat) :
    (Op.equalIn (d + 1) t (.slice (some a) l c) (.slice none l2 c2)).run P w = .ok false w := by
  subst hx
  rw [Op.equalIn]
  simp only [Sem.run_bind, hu, Result.andThen_ok, Sem.run_pure]

theorem arr_map (xs : Array Operand) (f : Operand → Value) : (⟨mapQ f xs.toList⟩ : Array Value) = xs.map f := by
  apply Array.toList_inj.1; simp [mapQ_eq]

theorem int2_ok {op : BinOp} {a b : Int} {v : Value} (h : aInt2 op .i64 a b = some v) (w : World) : (binOp op t (.int .i64 a) (.int .i64 b)).run P w = .ok v w ∧ VR p v v := by
  cases op <;> simp only [aInt2, retI_eq, eqI_eq, ltI_eq, reduceCtorEq] at h <;> cases h
  case add => exact ⟨by simp [binOp, Op.intArith], .int _ _⟩
  case sub => exact ⟨by simp [binOp, Op.intArith], .int _ _⟩
  case mul => exact ⟨by simp [binOp, Op.intArith], .int _ _⟩
  case eql => exact ⟨by simp [binOp, Op.intCmp], .bool _⟩
  case neq => exact ⟨by simp [binOp, Op.intCmp, bne], .bool _⟩
  case lss => exact ⟨by simp [binOp, Op.intCmp], .bool _⟩
  case leq => exact ⟨by simp [binOp, Op.intCmp, ← Int.not_lt], .bool _⟩
  case gtr => exact ⟨by simp [binOp, Op.intCmp], .bool _⟩
  case geq => exact ⟨by simp [binOp, Op.intCmp, ← Int.not_lt], .bool _⟩

theorem aSil_ok (hT : TvOk P tv) {o : Oper} (hr : ∀ x ∈ o.op.operands, VR p (r x) (r' x)) {v : Value} (h : aSil P tv o r = some v) : ∃ v', Same P (execOp r' o) v' ∧ VR p v v' := by
  have G : aGround P o r = some v → (∀ cs b, o.op ≠ .select cs b) → ∃ v', Same P (execOp r' o) v' ∧ VR p v v' := fun hg hs => ⟨v, aGround_ok hs hr hg⟩
  obtain ⟨dst, op, type, pos, after, guard⟩ := o
  cases op <;> simp only [Op.operands] at hr <;> (try (simp only [aSil, reduceCtorEq] at h; done)) <;> (try simp only [aSil] at h)
  case move x => cases h; exact ⟨r' x, fun w => rfl, hr x (by simp)⟩
  case assign x => cases h; exact ⟨r' x, fun w => rfl, hr x (by simp)⟩
  case pick c a b =>
    unfold aPick at h
    split at h
    · rename_i t hc
      have h1 := hr c (by simp)
      rw [hc] at h1
      have e := h1.bool_inv
      cases h
      refine ⟨if t then r' a else r' b, fun w => ?_, ?_⟩
      · simp [execOp, e, asBool]
      · cases t
        · exact hr b (by simp)
        · exact hr a (by simp)
    · cases h
  case build t parts =>
    unfold aBuild1 at h
    split at h
    · rename_i T hTt
      have hpr : PR p _ _ := PR.ops parts (fun x hx => hr x (by simpa using hx))
      have hz := (zeroVR hT hTt p).cells
      unfold aBuild at h
      rw [partsQ_eq] at h
      split at h
      · rename_i fs hund
        split at h
        · rename_i pl hpl
          split at h
          · rename_i c hf
            cases h
            have hf := fillQ_eq _ _ _ _ hf
            rw [placeQ_eq] at hf
            obtain ⟨c', hf', hc⟩ := fill_ok _ _ _ _ _ _ hpr hz hf
            refine ⟨.agg c', fun w => ?_, .agg hc.1 hc.2⟩
            have h1 := run_und hT hTt w
            have h2 := run_zero' hT hTt w
            have h3 := places_ok hT w fs.toList pl hpl
            unfold placeOf at hf'
            simp only [execOp, Instr.build, Sem.run_bind, h2, Result.andThen_ok, h1, hund, Array.mapM_eq_mapM_toList, Sem.run_map, h3, hf', Sem.run_pure]
          · cases h
        · cases h
      · rename_i n e hund
        split at h
        · rename_i E hE
          split at h
          · rename_i c hf
            cases h
            have hf := fillQ_eq _ _ _ _ hf
            obtain ⟨c', hf', hc⟩ := fill_ok _ _ _ _ _ _ hpr hz hf
            refine ⟨.agg c', fun w => ?_, .agg hc.1 hc.2⟩
            have h1 := run_und hT hTt w
            have h2 := run_zero' hT hTt w
            have h3 := run_sizeOf' hT hE w
            have hf2 : Instr.fill (fun i => some (i * E.size, E.size)) T.zero.cells (parts.map fun (i, x) => (i, r' x)).toList = some c' := hf'
            simp only [execOp, Instr.build, Sem.run_bind, h2, Result.andThen_ok, h1, hund, h3, hf2, Sem.run_pure]
          · cases h
        · cases h
      · cases h
    · cases h
  case makeFunc fn first captured =>
    unfold aMkFunc at h
    cases fn with
    | func f =>
      dsimp only at h
      cases h
      have h1 := AR.map_op first (fun x hx => hr x (by simp [hx]))
      have h2 := AR.map_op captured (fun x hx => hr x (by simp [hx]))
      rw [arr_map, arr_map]
      exact ⟨.func (.func f) (first.map r') (captured.map r'), fun w => rfl, .func f h1.1 h2.1 h1.2 h2.2⟩
    | _ => simp at h
  case fieldAddr s x f =>
    unfold aFieldAddr at h
    split at h
    · rename_i S b o hS hx
      have h1 := hr x (by simp)
      rw [hx] at h1
      obtain ⟨b', kk, e, hb⟩ := h1.ptr_inv
      split at h
      · rename_i fs hund
        split at h
        · rename_i fl hfl
          rw [getQ_eq] at hfl
          have hfl : fs[f]? = some fl := by simpa using hfl
          split at h
          · rename_i F hF
            cases hs : F.size with
            | zero => rw [hs] at h; cases h
            | succ j =>
              rw [hs] at h
              cases h
              refine ⟨.pointer (some ⟨b', o + fl.offset, none⟩), fun w => ?_, .ptr hb⟩
              simp only [execOp, Instr.fieldAt, Sem.run_bind, run_und hT hS w, Result.andThen_ok, hund, hfl, e, Instr.sureAddr, fieldPlace, Sem.run_pure, run_sizeOf' hT hF w, add_eq]
              simp [hs, run_sizeOf' hT hF w]
          · cases h
        · cases h
      · cases h
    · cases h
  case indexAddr t x ix =>
    unfold aIndexAddr at h
    split at h
    · rename_i T k i hTt hix
      have h1 := hr ix (by simp)
      rw [hix] at h1
      have ei := h1.int_inv
      split at h
      · rename_i len e b o hund hx
        have h2 := hr x (by simp)
        rw [hx] at h2
        obtain ⟨b', kk, ex, hb⟩ := h2.ptr_inv
        split at h
        · rename_i E m hE hm
          obtain ⟨hc, rfl⟩ := inB_some hm
          cases h
          refine ⟨.pointer (some ⟨b', o + i.toNat * E.size, none⟩), fun w => ?_, .ptr hb⟩
          simp only [execOp, Instr.indexAt, ei, ex, asIntOf, Sem.run_bind, Sem.run_pure, Result.andThen_ok, run_und hT hTt w, hund, Instr.sureAddr, hc, and_self, if_true, run_sizeOf' hT hE w, add_eq]
        · cases h
      · rename_i e b o len c hund hx
        have h2 := hr x (by simp)
        rw [hx] at h2
        obtain ⟨b', c', kk, ex, hb, _⟩ := h2.slice_inv
        split at h
        · rename_i E m hE hm
          obtain ⟨hc, rfl⟩ := inB_some hm
          cases h
          refine ⟨.pointer (some ⟨b', o + i.toNat * E.size, none⟩), fun w => ?_, .ptr hb⟩
          simp only [execOp, Instr.indexAt, ei, ex, asIntOf, Sem.run_bind, Sem.run_pure, Result.andThen_ok, run_und hT hTt w, hund, hc, and_self, if_true, run_sizeOf' hT hE w, add_eq]
        · cases h
      · cases h
    · cases h
  case index t x ix =>
    unfold aIx at h
    split at h
    · rename_i cs hx
      have h2 := hr x (by simp)
      rw [hx] at h2
      obtain ⟨cs', ex, hcs⟩ := h2.agg_inv
      unfold aIndex at h
      split at h
      · rename_i T k i hTt hix
        have h1 := hr ix (by simp)
        rw [hix] at h1
        have ei := h1.int_inv
        split at h
        · rename_i len e hund
          split at h
          · rename_i E m hE hm
            obtain ⟨hc, rfl⟩ := inB_some hm
            obtain ⟨v', hv, hvr⟩ := aPart_ok hT hcs h
            have hv' : ∀ w, (part e cs' (i.toNat * E.size)).run P w = .ok v' w := hv
            refine ⟨v', fun w => ?_, hvr⟩
            simp only [execOp, Instr.index, ei, ex, asIntOf, Sem.run_bind, Sem.run_pure, Result.andThen_ok, run_und hT hTt w, hund, hc, and_self, if_true, run_sizeOf' hT hE w, hv' w]
          · cases h
        · cases h
      · cases h
    · exact G h (by simp)
  case field t x f =>
    unfold aField at h
    split at h
    · rename_i T cs hTt hx
      have h2 := hr x (by simp)
      rw [hx] at h2
      obtain ⟨cs', ex, hcs⟩ := h2.agg_inv
      split at h
      · rename_i fs hund
        split at h
        · rename_i fl hfl
          rw [getQ_eq] at hfl
          have hfl : fs[f]? = some fl := by simpa using hfl
          obtain ⟨v', hv, hvr⟩ := aPart_ok hT hcs h
          refine ⟨v', fun w => ?_, hvr⟩
          simp only [execOp, Instr.field, ex, Sem.run_bind, run_und hT hTt w, Result.andThen_ok, hund, hfl, asAgg, Sem.run_pure, hv w]
        · cases h
      · cases h
    · cases h
  case extract x i =>
    unfold aExtract at h
    split at h
    · rename_i vs hx
      have h2 := hr x (by simp)
      rw [hx] at h2
      obtain ⟨vs', ex, hvs⟩ := h2.tuple_inv
      rw [getQ_eq] at h
      obtain ⟨v', h1, h3⟩ := hvs.get i v (by simpa using h)
      refine ⟨v', fun w => ?_, h3⟩
      simp only [execOp, Instr.extract, ex, h1, Sem.run_bind, Sem.run_pure, Result.andThen_ok]
    · cases h
  case nilCheck x =>
    unfold aNil at h
    split at h
    · rename_i a hx
      have h2 := hr x (by simp)
      rw [hx] at h2
      cases h
      generalize hz : r' x = z at h2
      cases h2 with
      | ptr hb =>
        exact ⟨_, fun w => by simp only [execOp, hz, Sem.run_pure], .ptr hb⟩
    · cases h
  case binOp op t x y yt =>
    unfold aBin at h
    split at h
    · rename_i a b hx hy
      have h1 := hr x (by simp)
      rw [hx] at h1
      have ex := h1.int_inv
      have h2 := hr y (by simp)
      rw [hy] at h2
      have ey := h2.int_inv
      split at h
      · rename_i u hu
        cases h
        refine ⟨v, fun w => ?_, (int2_ok (P := P) (t := t) (p := p) hu (default : World)).2⟩
        have hg : (eqGuard op t x y (.int .i64 a) (.int .i64 b)).run P w = .ok () w := by cases op <;> rfl
        show ((do eqGuard op t x y (r' x) (r' y); binOp op t (r' x) (r' y) : Sem Value) >>= fun v => pure (Next.value v)).run P w = _
        rw [ex, ey]
        simp only [Sem.run_bind, hg, (int2_ok (P := P) (t := t) (p := p) hu w).1, Result.andThen_ok, Sem.run_pure]
      · exact G h (by simp)
    · rename_i a l c l2 c2 hx hy
      unfold aNilSlice at h
      split at h
      · rename_i T hTt
        split at h
        · rename_i e hund
          have h1 := hr x (by simp)
          rw [hx] at h1
          obtain ⟨a', c', ex⟩ := h1.slice_inv'
          have h2 := hr y (by simp)
          rw [hy] at h2
          have ey : r' y = .slice none l2 c2 := by generalize r' y = z at h2; cases h2; rfl
          have hu := fun w => run_und hT hTt w
          have heq : ∀ w, (Op.equal t (.slice (some a') l c') (.slice none l2 c2)).run P w = .ok false w := fun w => eq_slice_nil (hu w) hund () 9999
          split at h
          · cases h
            refine ⟨.bool false, fun w => ?_, .bool _⟩
            have hg : (eqGuard .eql t x y (.slice (some a') l c') (.slice none l2 c2)).run P w = .ok () w := rfl
            have hb : binOp .eql t (.slice (some a') l c') (.slice none l2 c2) = (do pure (.bool (← Op.equal t (.slice (some a') l c') (.slice none l2 c2)))) := rfl
            show ((do eqGuard .eql t x y (r' x) (r' y); binOp .eql t (r' x) (r' y) : Sem Value) >>= fun v => pure (Next.value v)).run P w = _
            rw [ex, ey, hb]
            simp only [Sem.run_bind, hg, heq w, Result.andThen_ok, Sem.run_pure]
          · cases h
            refine ⟨.bool true, fun w => ?_, .bool _⟩
            have hg : (eqGuard .neq t x y (.slice (some a') l c') (.slice none l2 c2)).run P w = .ok () w := rfl
            have hb : binOp .neq t (.slice (some a') l c') (.slice none l2 c2) = (do pure (.bool (!(← Op.equal t (.slice (some a') l c') (.slice none l2 c2))))) := rfl
            show ((do eqGuard .neq t x y (r' x) (r' y); binOp .neq t (r' x) (r' y) : Sem Value) >>= fun v => pure (Next.value v)).run P w = _
            rw [ex, ey, hb]
            simp only [Sem.run_bind, hg, heq w, Result.andThen_ok, Sem.run_pure]
            rfl
          · cases h
        · cases h
      · cases h
    · exact G h (by simp)
  case unOp => exact G h (by simp)
  case convert => exact G h (by simp)
  case slice t x lo hi mx =>
    have S : aSlice tv t (r x) lo hi mx r = some v → ∃ v', Same P (execOp r' { dst, op := .slice t x lo hi mx, type, pos, after, guard }) v' ∧ VR p v v' := fun h => by
      obtain ⟨v', hv, hvr⟩ := aSlice_ok hT (hr x (by simp)) (fun y hy => hr y (by simp [hy])) (fun y hy => hr y (by simp [hy])) (fun y hy => hr y (by simp [hy])) h
      exact ⟨v', fun w => by simp only [execOp, Sem.run_bind, hv w, Result.andThen_ok, Sem.run_pure], hvr⟩
    unfold aSl at h
    split at h
    · exact S h
    · exact S h
    · exact G h (by simp)
  case call c =>
    obtain ⟨callee, args, argTypes⟩ := c
    cases callee with
    | builtin b =>
      cases b <;> (try (simp only [aCallee, aBuiltin, reduceCtorEq] at h; done)) <;> (try simp only [aCallee, aBuiltin] at h)
      case len =>
        unfold aLen at h
        split at h
        · rename_i x _ t _ hx ht
          have hx : args[0]? = some x := by rw [← Array.getElem?_toList, hx]; rfl
          have ht : argTypes[0]? = some t := by rw [← Array.getElem?_toList, ht]; rfl
          split at h
          · rename_i a l c hrx
            unfold aLenOf at h
            split at h
            · rename_i T hTt
              split at h
              · rename_i e hund
                cases h
                have h1 := hr x (by simp [Call.operands]; exact Array.mem_of_getElem? hx)
                rw [hrx] at h1
                obtain ⟨a', c', ex⟩ := h1.slice_inv'
                refine ⟨.int .i64 l, fun w => ?_, .int _ _⟩
                simp [execOp, resolve, invoke, builtin, Builtin.len_, ht, hx, ex, run_und hT hTt w, hund, goInt]
              · cases h
            · cases h
          · exact G h (by simp)
        · cases h
      case max => exact G h (by simp)
      case min => exact G h (by simp)
    | value f => simp [aSil, aCallee] at h
    | invoke a b => simp [aSil, aCallee] at h
end
end Go.Proofs.Ytkjceegmmhnajaa
