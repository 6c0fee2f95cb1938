/- The second machine's operations that touch no memory do what the model's do. -/
import Derived.Test.YtkjceegmmhnajaaM3
namespace Go.Proofs.Ytkjceegmmhnajaa
open Go.RowKit
section
variable {P : Program} {tv : Nat → Option TV} {p : Nat → Option (Nat × Nat)} {r r' : Operand → Value}

theorem sl_none (r' : Operand → Value) : Option.map r' none = none := rfl

theorem bound_run {d l y : Nat} {m : Option Operand} {code : BoundsCode} (hr : ∀ x, m = some x → VR p (r x) (r' x)) (h : boundOf r d m = some l) (hly : l ≤ y) (w : World) :
    (m = none ∧ l = d) ∨ (∃ x k i, m = some x ∧ r' x = .int k i ∧ (Instr.sliceBound (.int k i) y code).run P w = .ok l w) := by
  cases m with
  | none => simp [boundOf] at h; exact .inl ⟨rfl, h.symm⟩
  | some x =>
    simp only [boundOf] at h
    split at h
    · rename_i k i hx
      have := hr x rfl
      rw [hx] at this
      have e := this.int_inv
      cases h
      refine .inr ⟨x, k, _, rfl, e, ?_⟩
      simp only [Instr.sliceBound, asIntOf]
      simp
      intro h1; omega
    · cases h

theorem bounds_run {isSlice : Bool} {len cap l h : Nat} {lo hi : Option Operand} (hlo : ∀ x, lo = some x → VR p (r x) (r' x)) (hhi : ∀ x, hi = some x → VR p (r x) (r' x))
    (h1 : boundOf r 0 lo = some l) (h2 : boundOf r len hi = some h) (hlh : l ≤ h) (hc : h ≤ cap) (w : World) :
    (Instr.sliceBounds isSlice len cap (lo.map r') (hi.map r') none).run P w = .ok (l, h, cap) w := by
  unfold Instr.sliceBounds
  rcases bound_run (P := P) (y := cap) (code := if isSlice then .sliceAcap else .sliceAlen) hhi h2 hc w with ⟨rfl, rfl⟩ | ⟨x, k, i, rfl, e, hrun⟩
  · rcases bound_run (P := P) (y := h) (code := .sliceB) hlo h1 hlh w with ⟨rfl, rfl⟩ | ⟨x, k, i, rfl, e, hrun⟩
    · simp
    · simp only [Option.map_some, Option.map_none, e, Option.isSome_none, Bool.false_eq_true, if_false]
      simp [hrun]
  · rcases bound_run (P := P) (y := h) (code := .sliceB) hlo h1 hlh w with ⟨rfl, rfl⟩ | ⟨x', k', i', rfl, e', hrun'⟩
    · simp only [Option.map_some, Option.map_none, e]
      simp [hrun]
    · simp only [Option.map_some, e, e', Option.isSome_none, Bool.false_eq_true, if_false]
      simp [hrun, hrun']

theorem bounds3_run {len cap l h m : Nat} {lo hi mx : Option Operand} (hlo : ∀ x, lo = some x → VR p (r x) (r' x)) (hhi : ∀ x, hi = some x → VR p (r x) (r' x)) (hmx : ∀ x, mx = some x → VR p (r x) (r' x))
    (h1 : boundOf r 0 lo = some l) (h2 : boundOf r len hi = some h) (h3 : boundOf r 0 mx = some m) (hmx' : mx.isSome = true) (hhi' : hi.isSome = true) (hlh : l ≤ h) (hc : h ≤ m) (hm : m ≤ cap) (w : World) :
    (Instr.sliceBounds true len cap (lo.map r') (hi.map r') (mx.map r')).run P w = .ok (l, h, m) w := by
  unfold Instr.sliceBounds
  rcases bound_run (P := P) (y := cap) (code := .slice3Acap) hmx h3 hm w with ⟨rfl, rfl⟩ | ⟨x, k, i, rfl, e, hrun⟩
  · simp at hmx'
  rcases bound_run (P := P) (y := m) (code := .slice3B) hhi h2 hc w with ⟨rfl, rfl⟩ | ⟨x2, k2, i2, rfl, e2, hrun2⟩
  · simp at hhi'
  rcases bound_run (P := P) (y := h) (code := .slice3C) hlo h1 hlh w with ⟨rfl, rfl⟩ | ⟨x3, k3, i3, rfl, e3, hrun3⟩
  · simp only [Option.map_some, Option.map_none, e, e2]
    simp [hrun, hrun2]
  · simp only [Option.map_some, e, e2, e3, Option.isSome_some]
    simp [hrun, hrun2, hrun3]

theorem unk_pos : unk = 4611686018427387904 := rfl

theorem aSlice_ok (hT : TvOk P tv) {t : Nat} {x x' : Value} {lo hi mx : Option Operand} (hx : VR p x x') (hlo : ∀ x, lo = some x → VR p (r x) (r' x)) (hhi : ∀ x, hi = some x → VR p (r x) (r' x)) (hmx : ∀ x, mx = some x → VR p (r x) (r' x))
    {v : Value} (h : aSlice tv t x lo hi mx r = some v) : ∃ v', (∀ w, (Instr.sliceAt t x' (lo.map r') (hi.map r') (mx.map r')).run P w = .ok v' w) ∧ VR p v v' := by
  unfold aSlice at h
  split at h
  · cases h
  rename_i T hTt
  split at h
  · -- a slice
    rename_i e b o len cap hund
    obtain ⟨b', cap', kk, rfl, hb, hcap⟩ := hx.slice_inv
    split at h
    · rename_i E l hh hE hl hhh
      split at h
      · -- two bounds
        split at h
        · rename_i hc
          obtain ⟨c1, c2, c3, c4, c6, c7⟩ := hc
          cases h
          have hle : len ≤ cap' := by rcases hcap with ⟨_, rfl⟩ | ⟨_, h, _⟩ <;> omega
          refine ⟨.slice (some (if cap' = l then ⟨b', o, none⟩ else (⟨b', o, none⟩ : Addr).add (l * E.size))) (hh - l) (cap' - l), fun w => ?_, ?_⟩
          · have h1 := run_und hT hTt w
            have h2 := bounds_run (P := P) (isSlice := true) hlo hhi hl hhh c1 (by omega : hh ≤ cap') w
            simp only [Instr.sliceAt, Instr.slice, Sem.run_bind, h1, Result.andThen_ok, hund, Option.map_none, h2, run_sizeOf' hT hE w, Sem.run_pure]
            split <;> simp
          · rw [add_eq]
            rcases hcap with ⟨hlt, rfl⟩ | ⟨rfl, hc', hk⟩
            · rw [if_neg (show ¬ cap = unk by omega)]
              by_cases hcl : cap = l
              · rw [if_pos hcl, if_pos hcl]; exact .slice hb (.inl ⟨by omega, rfl⟩)
              · rw [if_neg hcl, if_neg hcl]; exact .slice hb (.inl ⟨by omega, rfl⟩)
            · simp only [if_true]
              have hl' : ¬ (unk = l) := by
                intro e0
                rcases c4 with c4 | c4 | c4
                · omega
                · subst c4; exact absurd e0 (by decide)
                · exact c4 rfl
              rw [if_neg hl']
              by_cases h0 : l = 0
              · subst h0
                simp only [Nat.zero_mul, Nat.add_zero, ite_self, Nat.sub_zero]
                exact .slice hb (.inr ⟨rfl, by omega, hk⟩)
              · have hcl : ¬ cap' = l := by
                  rcases c4 with c4 | c4 | c4
                  · omega
                  · exact absurd c4 h0
                  · exact absurd rfl c4
                have hE0 : 0 < E.size := (c6 rfl).resolve_left h0
                have : 0 < l * E.size := Nat.mul_pos (by omega) hE0
                rw [if_neg hcl]; exact .slice hb (.inr ⟨rfl, by omega, fun e => by omega⟩)
        · cases h
      · -- three bounds
        rename_i q
        split at h
        · rename_i m hm
          split at h
          · rename_i hc
            obtain ⟨c1, c2, c3, c4, c5, c8⟩ := hc
            cases h
            have hle : len ≤ cap' := by rcases hcap with ⟨_, rfl⟩ | ⟨_, h, _⟩ <;> omega
            refine ⟨.slice (some (if m = l then ⟨b', o, none⟩ else (⟨b', o, none⟩ : Addr).add (l * E.size))) (hh - l) (m - l), fun w => ?_, ?_⟩
            · have h1 := run_und hT hTt w
              have h2 := bounds3_run (P := P) hlo hhi hmx hl hhh hm rfl c5 c1 c2 (by omega : m ≤ cap') w
              simp only [Instr.sliceAt, Instr.slice, Sem.run_bind, h1, Result.andThen_ok, hund, h2, run_sizeOf' hT hE w, Sem.run_pure]
              split <;> simp
            · rw [add_eq]
              by_cases hcl : m = l
              · rw [if_pos hcl, if_pos hcl]; exact .slice hb (.inl ⟨by omega, rfl⟩)
              · rw [if_neg hcl, if_neg hcl]; exact .slice hb (.inl ⟨by omega, rfl⟩)
          · cases h
        · cases h
    · cases h
  · -- an array's address
    rename_i n e b o hund
    obtain ⟨b', kk, rfl, hb⟩ := hx.ptr_inv
    split at h
    · rename_i mq E l hh hE hl hhh
      split at h
      · rename_i hc
        obtain ⟨c1, c2, c3⟩ := hc
        cases h
        refine ⟨.slice (some (if n = l then ⟨b', o, none⟩ else (⟨b', o, none⟩ : Addr).add (l * E.size))) (hh - l) (n - l), fun w => ?_, ?_⟩
        · have h1 := run_und hT hTt w
          have h2 := bounds_run (P := P) (isSlice := false) hlo hhi hl hhh c1 c2 w
          simp only [Instr.sliceAt, Instr.sureAddr, Sem.run_bind, h1, Result.andThen_ok, hund, Option.map_none, Sem.run_pure, h2, run_sizeOf' hT hE w]
        · rw [add_eq]
          by_cases hcl : n = l
          · rw [if_pos hcl, if_pos hcl]; exact .slice hb (.inl ⟨by omega, rfl⟩)
          · rw [if_neg hcl, if_neg hcl]; exact .slice hb (.inl ⟨by omega, rfl⟩)
      · cases h
    · cases h
  · cases h
end
end Go.Proofs.Ytkjceegmmhnajaa
