/- Replan's search finds the best days, and so does the reference. -/
import Derived.Test.YtjgnikmnadmheaaG02
import Derived.Test.YtjgnikmnadmheaaG61
import Derived.Test.YtjgnikmnadmheaaG62
import Derived.Test.YtjgnikmnadmheaaG64
import Derived.Test.YtjgnikmnadmheaaG65
import Derived.Test.YtjgnikmnadmheaaG90

namespace Go.Proofs.Ytjgnikmnadmheaa
open Go.RowKit

def endL (D : List Int) : Int := D.getD (D.length - 1) 0
/-- the key that orders sequences: the end, the changes, the days -/
def key3 (old : List Tu) (done : Nat) (D : List Int) : List Int := endL D :: cntC old done D :: D
def betB (a b : List Int) : Bool := decide (b = []) || lexB a b
abbrev St2 := Int × List Int
def leafS (Y : Yd) (l : List Tk) (f : Int) (ds : List Int) (E : Int) (fx : Nat → Option Int) (s : St2) : St2 :=
  if szK fx l.length < s.1 then s else match est Y l f fx (l.length - ds.length) ds with
    | none => s
    | some D => if D ≠ [] ∧ endL D ≠ E then s else if s.1 < szK fx l.length ∨ betB D s.2 = true then (szK fx l.length, D) else s
def fput (fx : Nat → Option Int) (t : Nat) (d : Int) : Nat → Option Int := fun i => if i = t then some d else fx i
def visit (Y : Yd) (l : List Tk) (f : Int) (old : List Tu) (ds : List Int) (E : Int) : Nat → (Nat → Option Int) → St2 → St2
  | 0, fx, s => leafS Y l f ds E fx s
  | m + 1, fx, s => visit Y l f old ds E m fx (match dayAt old (l.length - (m + 1)) with
    | some d => visit Y l f old ds E m (fput fx (l.length - (m + 1)) d) s
    | none => s)
/-- a state that is at least as good -/
def leS (a b : St2) : Prop := b.1 < a.1 ∨ (b.1 = a.1 ∧ b.2.length = a.2.length ∧ lexB b.2 a.2 = false)
theorem leS_refl (a : St2) : leS a a := .inr ⟨rfl, rfl, lexB_irr _⟩
theorem leS_trans {a b c : St2} (h1 : leS a b) (h2 : leS b c) : leS a c := by
  rcases h1 with h1 | ⟨h1, h3, h5⟩ <;> rcases h2 with h2 | ⟨h2, h4, h6⟩
  · left; omega
  · left; omega
  · left; omega
  · exact .inr ⟨by omega, by omega, lexB_le_trans h3.symm h5 h6⟩
def SOK (n : Nat) (s : St2) : Prop := s = (-1, []) ∨ (0 ≤ s.1 ∧ s.2.length = n)
def GoodS (Y : Yd) (l : List Tk) (f : Int) (ds : List Int) (E : Int) (fx : Nat → Option Int) (D : List Int) : Prop := est Y l f fx (l.length - ds.length) ds = some D ∧ (D ≠ [] → endL D = E)
section
variable {Y : Yd} {l : List Tk} {f : Int} {old : List Tu} {ds : List Int} {E : Int}
theorem est_length {fx : Nat → Option Int} {D : List Int} (hd : ds.length ≤ l.length) (h : est Y l f fx (l.length - ds.length) ds = some D) : D.length = l.length := by
  have := (est_steps _ _ _ h).1
  omega
theorem leafS_spec {fx : Nat → Option Int} {s : St2} (hd : ds.length ≤ l.length) (hs : SOK l.length s) :
    SOK l.length (leafS Y l f ds E fx s) ∧ leS (leafS Y l f ds E fx s) s ∧ (∀ D, GoodS Y l f ds E fx D → leS (leafS Y l f ds E fx s) (szK fx l.length, D)) ∧ (leafS Y l f ds E fx s = s ∨ ∃ D, GoodS Y l f ds E fx D ∧ leafS Y l f ds E fx s = (szK fx l.length, D)) := by
  unfold leafS
  by_cases h1 : szK fx l.length < s.1
  · rw [if_pos h1]
    exact ⟨hs, leS_refl _, fun D _ => .inl h1, .inl rfl⟩
  rw [if_neg h1]
  cases he : est Y l f fx (l.length - ds.length) ds with
  | none => exact ⟨hs, leS_refl _, fun D hD => (by rw [hD.1] at he; cases he), .inl rfl⟩
  | some D =>
    have hl := est_length hd he
    dsimp only
    by_cases h2 : D ≠ [] ∧ endL D ≠ E
    · rw [if_pos h2]
      refine ⟨hs, leS_refl _, fun D' hD => ?_, .inl rfl⟩
      have e := hD.1
      rw [he] at e
      cases e
      exact absurd (hD.2 h2.1) h2.2
    rw [if_neg h2]
    have hg : GoodS Y l f ds E fx D := ⟨he, fun h => Classical.byContradiction fun hn => h2 ⟨h, hn⟩⟩
    have hz := szK_nonneg fx l.length
    by_cases h3 : s.1 < szK fx l.length ∨ betB D s.2 = true
    · rw [if_pos h3]
      refine ⟨.inr ⟨hz, hl⟩, ?_, fun D' hD => ?_, .inr ⟨D, hg, rfl⟩⟩
      · by_cases h4 : s.1 < szK fx l.length
        · exact .inl h4
        · have h5 : betB D s.2 = true := h3.resolve_left h4
          have h6 : s.1 = szK fx l.length := by omega
          have h7 : s.2.length = l.length := by
            rcases hs with e | e
            · rw [e] at h6; simp at h6; omega
            · exact e.2
          refine .inr ⟨h6, by simp only; omega, ?_⟩
          unfold betB at h5
          rw [Bool.or_eq_true, decide_eq_true_eq] at h5
          rcases h5 with h5 | h5
          · have : D = [] := by
              rw [h5] at h7
              exact List.length_eq_zero_iff.1 (by rw [hl, ← h7]; rfl)
            simp only
            rw [h5, this]; rfl
          · exact lexB_asym h5
      · have e := hD.1
        rw [he] at e
        cases e
        exact leS_refl _
    · rw [if_neg h3]
      have h4 : ¬ s.1 < szK fx l.length := fun h => h3 (.inl h)
      have h5 : betB D s.2 = false := by rw [Bool.eq_false_iff]; exact fun h => h3 (.inr h)
      have h6 : s.1 = szK fx l.length := by omega
      have h7 : s.2.length = l.length := by
        rcases hs with e | e
        · rw [e] at h6; simp at h6; omega
        · exact e.2
      refine ⟨hs, leS_refl _, fun D' hD => ?_, .inl rfl⟩
      have e := hD.1
      rw [he] at e
      cases e
      unfold betB at h5
      rw [Bool.or_eq_false_iff] at h5
      exact .inr ⟨h6.symm, by simp only; omega, h5.2⟩
theorem visit_spec (hd : ds.length ≤ l.length) : ∀ (m : Nat) (fx : Nat → Option Int) (s : St2), m ≤ l.length - ds.length → FxOK old ds.length l.length fx → (∀ i, l.length - m ≤ i → fx i = none) → SOK l.length s →
    SOK l.length (visit Y l f old ds E m fx s) ∧ leS (visit Y l f old ds E m fx s) s
    ∧ (∀ fx' D, FxOK old ds.length l.length fx' → (∀ i, i < l.length - m → fx' i = fx i) → GoodS Y l f ds E fx' D → leS (visit Y l f old ds E m fx s) (szK fx' l.length, D))
    ∧ (visit Y l f old ds E m fx s = s ∨ ∃ fx' D, FxOK old ds.length l.length fx' ∧ GoodS Y l f ds E fx' D ∧ visit Y l f old ds E m fx s = (szK fx' l.length, D))
  | 0, fx, s, _, hf, hn, hs => by
    obtain ⟨h1, h2, h3, h4⟩ := leafS_spec (Y := Y) (f := f) (E := E) (fx := fx) hd hs
    refine ⟨h1, h2, fun fx' D hf' he hg => ?_, h4.imp id fun ⟨D, a, b⟩ => ⟨fx, D, hf, a, b⟩⟩
    have e : fx' = fx := funext fun i => by
      by_cases hi : i < l.length
      · exact he i (by omega)
      · cases hx : fx' i with
        | none => exact (hn i (by omega)).symm
        | some d => exact absurd (hf' i d hx).2.1 hi
    rw [e] at hg ⊢
    exact h3 D hg
  | m + 1, fx, s, hm, hf, hn, hs => by
    have ht : l.length - (m + 1) < l.length := by omega
    have hn1 : ∀ i, l.length - m ≤ i → fx i = none := fun i hi => hn i (by omega)
    show SOK l.length (visit Y l f old ds E m fx _) ∧ leS (visit Y l f old ds E m fx _) s ∧ (∀ fx' D, _ → _ → _ → leS (visit Y l f old ds E m fx _) _) ∧ (visit Y l f old ds E m fx _ = s ∨ ∃ fx' D, _ ∧ _ ∧ visit Y l f old ds E m fx _ = _)
    cases hq : dayAt old (l.length - (m + 1)) with
    | none =>
      dsimp only
      obtain ⟨h1, h2, h3, h4⟩ := visit_spec hd m fx s (by omega) hf hn1 hs
      refine ⟨h1, h2, fun fx' D hf' he hg => h3 fx' D hf' (fun i hi => ?_) hg, h4⟩
      by_cases e : i = l.length - (m + 1)
      · subst e
        rw [hn _ (Nat.le_refl _)]
        cases hx : fx' (l.length - (m + 1)) with
        | none => rfl
        | some d => have := (hf' _ d hx).2.2; rw [hq] at this; cases this
      · exact he i (by omega)
    | some d =>
      dsimp only
      have hfp : FxOK old ds.length l.length (fput fx (l.length - (m + 1)) d) := fun i x hx => by
        unfold fput at hx
        by_cases e : i = l.length - (m + 1)
        · rw [if_pos e] at hx
          cases hx
          subst e
          exact ⟨by omega, ht, hq⟩
        · rw [if_neg e] at hx; exact hf i x hx
      have hnp : ∀ i, l.length - m ≤ i → fput fx (l.length - (m + 1)) d i = none := fun i hi => by
        unfold fput
        rw [if_neg (by omega)]
        exact hn1 i hi
      obtain ⟨g1, g2, g3, g4⟩ := visit_spec hd m (fput fx (l.length - (m + 1)) d) s (by omega) hfp hnp hs
      obtain ⟨h1, h2, h3, h4⟩ := visit_spec hd m fx _ (by omega) hf hn1 g1
      refine ⟨h1, leS_trans h2 g2, fun fx' D hf' he hg => ?_, ?_⟩
      · cases hx : fx' (l.length - (m + 1)) with
        | none =>
          refine h3 fx' D hf' (fun i hi => ?_) hg
          by_cases e : i = l.length - (m + 1)
          · subst e; rw [hx, hn _ (Nat.le_refl _)]
          · exact he i (by omega)
        | some d' =>
          have hd' := (hf' _ d' hx).2.2
          rw [hq] at hd'
          cases hd'
          refine leS_trans h2 (g3 fx' D hf' (fun i hi => ?_) hg)
          unfold fput
          by_cases e : i = l.length - (m + 1)
          · rw [if_pos e, e, hx]
          · rw [if_neg e]; exact he i (by omega)
      · rcases h4 with h4 | h4
        · rcases g4 with g4 | g4
          · left; rw [h4, g4]
          · right; obtain ⟨fx', D, a, b, c⟩ := g4; exact ⟨fx', D, a, b, by rw [h4, c]⟩
        · exact .inr h4
end

/-! the result of Replan's search -/
def noFx : Nat → Option Int := fun _ => none
def rplS (Y : Yd) (l : List Tk) (f : Int) (old : List Tu) (ds : List Int) (L : List Int) : St2 := visit Y l f old ds (endL L) (l.length - ds.length) noFx (-1, [])
def rplD (Y : Yd) (l : List Tk) (f : Int) (old : List Tu) (ds : List Int) : Option (List Int) := match est Y l f noFx (l.length - ds.length) ds with
  | none => none
  | some L => some (rplS Y l f old ds L).2
theorem noFx_ok (old : List Tu) (done n : Nat) : FxOK old done n noFx := fun i d h => by cases h
theorem szK_none (k : Nat) : szK noFx k = 0 := by
  induction k with
  | zero => rfl
  | succ k ih => show szK noFx k + _ = 0; rw [ih]; rfl
section
variable {Y : Yd} {l : List Tk} {f : Int} {old : List Tu} {ds : List Int}
theorem getD_pre {D : List Int} (h : ds <+: D) (j : Nat) (hj : j < ds.length) : ds.getD j 0 = D.getD j 0 := by
  obtain ⟨r, rfl⟩ := h
  rw [List.getD_eq_getElem?_getD, List.getD_eq_getElem?_getD, List.getElem?_append_left hj]
/-- no sequence ends ahead of the least one -/
theorem end_least {D L : List Int} (hd : ds.length ≤ l.length) (hD : LSx Y l f old ds D) (hL : est Y l f noFx (l.length - ds.length) ds = some L) : endL L ≤ endL D := by
  have hlen := hD.len
  obtain ⟨L', h1, h2⟩ := est_low (fx := noFx) (Y := Y) (f := f) hlen (fun i d h => by cases h) (l.length - ds.length) ds (by omega) (fun j hj => by rw [getD_pre hD.pre j hj]; exact Int.le_refl _) (ls_days hD)
  rw [hL] at h1
  cases h1
  have hl := est_length hd hL
  unfold endL
  rw [hlen, hl]
  by_cases h0 : l.length = 0
  · rw [List.getD_eq_getElem?_getD, List.getD_eq_getElem?_getD, List.getElem?_eq_none (by omega), List.getElem?_eq_none (by omega)]
    exact Int.le_refl _
  · exact h2 _ (by omega)
theorem cnt_kept {D : List Int} (hd : ds.length ≤ l.length) (hl : D.length = l.length) : cntC old ds.length D + szK (fxOf old ds.length D) l.length = ((l.length - ds.length : Nat) : Int) := by
  have := cnt_eq (old := old) (done := ds.length) (D := D) D.length (Nat.le_refl _)
  rw [hl, if_pos hd] at this
  unfold cntC
  rw [hl]
  exact this
theorem cnt_fx {D : List Int} {fx : Nat → Option Int} (hd : ds.length ≤ l.length) (hf : FxOK old ds.length l.length fx) (h : est Y l f fx (l.length - ds.length) ds = some D) : cntC old ds.length D + szK fx l.length ≤ ((l.length - ds.length : Nat) : Int) := by
  have hl := est_length hd h
  have hst := (est_steps _ _ _ h).2.2
  have := cnt_le (old := old) (done := ds.length) (D := D) (fx := fx) (fun i d hx => by
    obtain ⟨h1, h2, h3⟩ := hf i d hx
    refine ⟨h1, ?_⟩
    have h4 := hst i h1 (by omega)
    have hk : (D.take i).length = i := by rw [List.length_take]; omega
    rw [stepE_fix (d := d) (by omega) (by rw [hk]; exact hx)] at h4
    split at h4
    · rw [h3, ← Option.some.inj h4]
    · cases h4) l.length
  rw [if_pos hd] at this
  unfold cntC
  rw [hl]
  exact this
/-- what the search finds is the best of all sequences -/
theorem rpl_opt {P : List Int} (hd : ds.length ≤ l.length) (h : rplD Y l f old ds = some P) : LSx Y l f old ds P ∧ ∀ D, LSx Y l f old ds D → lexB (key3 old ds.length D) (key3 old ds.length P) = false := by
  unfold rplD at h
  cases hL : est Y l f noFx (l.length - ds.length) ds with
  | none => rw [hL] at h; cases h
  | some L =>
    rw [hL] at h
    cases h
    obtain ⟨_, _, h3, h4⟩ := visit_spec (Y := Y) (f := f) (old := old) (E := endL L) hd (l.length - ds.length) noFx (-1, []) (Nat.le_refl _) (noFx_ok _ _ _) (fun _ _ => rfl) (.inl rfl)
    change (∀ fx' D, _ → _ → _ → leS (rplS Y l f old ds L) _) at h3
    change (rplS Y l f old ds L = _ ∨ ∃ fx' D, _ ∧ _ ∧ rplS Y l f old ds L = _) at h4
    have hsc : ∀ fx' : Nat → Option Int, FxOK old ds.length l.length fx' → ∀ i, i < l.length - (l.length - ds.length) → fx' i = noFx i := fun fx' hf i hi => by
      cases hx : fx' i with
      | none => rfl
      | some d => have := (hf i d hx).1; omega
    have hgl : GoodS Y l f ds (endL L) noFx L := ⟨hL, fun _ => rfl⟩
    have hlow := h3 noFx L (noFx_ok _ _ _) (fun i hi => rfl) hgl
    obtain ⟨fx, P, hf, hg, e⟩ : ∃ fx' D, FxOK old ds.length l.length fx' ∧ GoodS Y l f ds (endL L) fx' D ∧ rplS Y l f old ds L = (szK fx' l.length, D) := by
      rcases h4 with e | e
      · rw [e] at hlow
        rcases hlow with h | ⟨h, _⟩
        · simp only at h; rw [szK_none] at h; omega
        · simp only at h; rw [szK_none] at h; omega
      · exact e
    rw [e] at h3 ⊢
    have hP := ls_of_est hd hf hg.1
    have hPl := hP.len
    have hPe : endL P = endL L := by
      by_cases h0 : P = []
      · have : L = [] := List.length_eq_zero_iff.1 (by rw [est_length hd hL, ← hPl, h0]; rfl)
        rw [h0, this]
      · exact hg.2 h0
    have hPE := est_of_ls hd hP
    have hfP : FxOK old ds.length l.length (fxOf old ds.length P) := by have := fxOf_ok old ds.length P; rw [hPl] at this; exact this
    have k1 := h3 _ P hfP (hsc _ hfP) ⟨hPE, fun _ => hPe⟩
    have k2 := cnt_kept (old := old) hd hPl
    have k3 := cnt_fx hd hf hg.1
    have k4 : cntC old ds.length P = ((l.length - ds.length : Nat) : Int) - szK fx l.length := by
      rcases k1 with h | ⟨h, _⟩ <;> (simp only at h; omega)
    refine ⟨hP, fun D hD => ?_⟩
    show lexB (key3 old ds.length D) (key3 old ds.length P) = false
    rw [Bool.eq_false_iff]
    intro hlt
    have hDl := hD.len
    have hDe := end_least hd hD hL
    unfold key3 at hlt
    rw [lexB_cons, lexB_cons] at hlt
    have hDE := est_of_ls hd hD
    have hfD : FxOK old ds.length l.length (fxOf old ds.length D) := by have := fxOf_ok old ds.length D; rw [hDl] at this; exact this
    have k5 := cnt_kept (old := old) hd hDl
    rcases hlt with h | ⟨he, hlt⟩
    · omega
    · have k6 := h3 _ D hfD (hsc _ hfD) ⟨hDE, fun _ => by omega⟩
      rcases k6 with k6 | ⟨k6, _, k7⟩
      · simp only at k6
        rcases hlt with h | ⟨h, _⟩ <;> omega
      · simp only at k6 k7
        rcases hlt with h | ⟨h, h'⟩
        · omega
        · rw [h'] at k7; cases k7
theorem rpl_none (h : rplD Y l f old ds = none) : est Y l f noFx (l.length - ds.length) ds = none := by
  unfold rplD at h
  cases hL : est Y l f noFx (l.length - ds.length) ds with
  | none => rfl
  | some L => rw [hL] at h; cases h
end

/-! the reference -/
def refB (Y : Yd) (l : List Tk) (f : Int) (old : List Tu) (done : Nat) : Nat → List Int → Option (List Int)
  | 0, ds => some ds
  | m + 1, ds => match (nextL Y l f ds).head? with
    | none => none
    | some d => match dayAt old ds.length with
      | none => refB Y l f old done m (ds ++ [d])
      | some o => if d < o ∧ o ∈ nextL Y l f ds then (match refB Y l f old done m (ds ++ [o]) with
          | none => refB Y l f old done m (ds ++ [d])
          | some b => match refB Y l f old done m (ds ++ [d]) with
            | none => some b
            | some a => if lexB (key3 old done b) (key3 old done a) = true then some b else some a)
        else refB Y l f old done m (ds ++ [d])
section
variable {Y : Yd} {l : List Tk} {f : Int} {old : List Tu} {ds : List Int}
theorem ls_cons {d : Int} {D : List Int} (h0 : ds.length < l.length) (h : LSx Y l f old (ds ++ [d]) D) (hd : (nextL Y l f ds).head? = some d ∨ (dayAt old ds.length = some d ∧ d ∈ nextL Y l f ds)) : LSx Y l f old ds D := by
  have hp : ds <+: D := (List.prefix_append _ _).trans h.pre
  refine ⟨h.len, hp, fun i hi hl => ?_⟩
  by_cases e : i = ds.length
  · subst e
    have ht : D.take ds.length = ds := (List.prefix_iff_eq_take.1 hp).symm
    have hx : D.getD ds.length 0 = d := by
      obtain ⟨r, e⟩ := h.pre
      rw [← e]
      simp [List.getD_eq_getElem?_getD]
    rw [ht, hx]
    exact hd
  · exact h.at_ i (by simp; omega) hl
theorem ls_next {D : List Int} (h0 : ds.length < l.length) (h : LSx Y l f old ds D) : LSx Y l f old (ds ++ [D.getD ds.length 0]) D ∧ ((nextL Y l f ds).head? = some (D.getD ds.length 0) ∨ (dayAt old ds.length = some (D.getD ds.length 0) ∧ D.getD ds.length 0 ∈ nextL Y l f ds)) := by
  have hlen := h.len
  have ht : D.take ds.length = ds := (List.prefix_iff_eq_take.1 h.pre).symm
  have hk : ds.length < D.length := by omega
  have hp : ds ++ [D.getD ds.length 0] <+: D := by
    have e : ds ++ [D.getD ds.length 0] = D.take (ds.length + 1) := by
      rw [List.take_succ_eq_append_getElem hk, ht, List.getD_eq_getElem?_getD, List.getElem?_eq_getElem hk]; rfl
    rw [e]
    exact List.take_prefix _ _
  have h1 := h.at_ ds.length (Nat.le_refl _) h0
  rw [ht] at h1
  exact ⟨⟨hlen, hp, fun i hi hl => h.at_ i (by simp at hi; omega) hl⟩, h1⟩
theorem key3_len {done : Nat} {a b : List Int} (h : a.length = b.length) : (key3 old done a).length = (key3 old done b).length := by unfold key3; simp [h]
theorem ref_opt (done : Nat) : ∀ (m : Nat) (ds : List Int), ds.length + m = l.length → match refB Y l f old done m ds with
    | none => ∀ D, ¬ LSx Y l f old ds D
    | some R => LSx Y l f old ds R ∧ ∀ D, LSx Y l f old ds D → lexB (key3 old done D) (key3 old done R) = false
  | 0, ds, h => by
    show LSx Y l f old ds ds ∧ ∀ D, LSx Y l f old ds D → lexB (key3 old done D) (key3 old done ds) = false
    refine ⟨⟨by omega, List.prefix_refl _, fun i hi hl => by omega⟩, fun D hD => ?_⟩
    have : ds = D := hD.pre.eq_of_length (by have := hD.len; omega)
    rw [this]; exact lexB_irr _
  | m + 1, ds, h => by
    have h0 : ds.length < l.length := by omega
    unfold refB
    cases hh : (nextL Y l f ds).head? with
    | none =>
      dsimp only
      intro D hD
      obtain ⟨_, h1 | h1⟩ := ls_next h0 hD
      · rw [hh] at h1; cases h1
      · have h2 := h1.2
        cases hL : nextL Y l f ds with
        | nil => rw [hL] at h2; cases h2
        | cons x xs => rw [hL] at hh; cases hh
    | some d =>
      dsimp only
      have ia := ref_opt done m (ds ++ [d]) (by simp; omega)
      have hmin : ∀ o, o ∈ nextL Y l f ds → d ≤ o := fun o ho => by
        rw [nextL_at h0] at hh ho
        exact suitK_head hh ho
      -- only the first way is open
      have only : (∀ o, dayAt old ds.length = some o → ¬ (d < o ∧ o ∈ nextL Y l f ds)) → match refB Y l f old done m (ds ++ [d]) with
          | none => ∀ D, ¬ LSx Y l f old ds D
          | some R => LSx Y l f old ds R ∧ ∀ D, LSx Y l f old ds D → lexB (key3 old done D) (key3 old done R) = false := by
        intro hno
        have hall : ∀ D, LSx Y l f old ds D → LSx Y l f old (ds ++ [d]) D := fun D hD => by
          obtain ⟨h2, h1 | h1⟩ := ls_next h0 hD
          · rw [hh] at h1; rw [← Option.some.inj h1] at h2; exact h2
          · have h3 := hno _ h1.1
            have h4 := hmin _ h1.2
            have : D.getD ds.length 0 = d := by
              by_cases e : d < D.getD ds.length 0
              · exact absurd ⟨e, h1.2⟩ h3
              · omega
            rw [this] at h2; exact h2
        cases hr : refB Y l f old done m (ds ++ [d]) with
        | none => rw [hr] at ia; exact fun D hD => ia D (hall D hD)
        | some R => rw [hr] at ia; exact ⟨ls_cons h0 ia.1 (.inl hh), fun D hD => ia.2 D (hall D hD)⟩
      cases ho : dayAt old ds.length with
      | none => exact only (fun o e => by rw [ho] at e; cases e)
      | some o =>
        dsimp only
        by_cases hc : d < o ∧ o ∈ nextL Y l f ds
        · rw [if_pos hc]
          have ib := ref_opt done m (ds ++ [o]) (by simp; omega)
          have hall : ∀ D, LSx Y l f old ds D → LSx Y l f old (ds ++ [d]) D ∨ LSx Y l f old (ds ++ [o]) D := fun D hD => by
            obtain ⟨h2, h1 | h1⟩ := ls_next h0 hD
            · rw [hh] at h1; rw [← Option.some.inj h1] at h2; exact .inl h2
            · have h3 := h1.1
              rw [ho] at h3
              rw [← Option.some.inj h3] at h2; exact .inr h2
          have wb : dayAt old ds.length = some o ∧ o ∈ nextL Y l f ds := ⟨ho, hc.2⟩
          cases hb : refB Y l f old done m (ds ++ [o]) with
          | none =>
            rw [hb] at ib
            dsimp only at ib ⊢
            cases ha : refB Y l f old done m (ds ++ [d]) with
            | none => rw [ha] at ia; exact fun D hD => (hall D hD).elim (ia D) (ib D)
            | some R => rw [ha] at ia; exact ⟨ls_cons h0 ia.1 (.inl hh), fun D hD => (hall D hD).elim (ia.2 D) (fun e => absurd e (ib D))⟩
          | some b =>
            rw [hb] at ib
            dsimp only at ib ⊢
            cases ha : refB Y l f old done m (ds ++ [d]) with
            | none => rw [ha] at ia; exact ⟨ls_cons h0 ib.1 (.inr wb), fun D hD => (hall D hD).elim (fun e => absurd e (ia D)) (ib.2 D)⟩
            | some a =>
              rw [ha] at ia
              dsimp only at ia ⊢
              have hab : (key3 old done a).length = (key3 old done b).length := key3_len (by rw [ia.1.len, ib.1.len])
              by_cases hx : lexB (key3 old done b) (key3 old done a) = true
              · rw [if_pos hx]
                refine ⟨ls_cons h0 ib.1 (.inr wb), fun D hD => (hall D hD).elim (fun e => ?_) (ib.2 D)⟩
                exact lexB_le_trans hab.symm (lexB_asym hx) (ia.2 D e)
              · rw [if_neg hx]
                refine ⟨ls_cons h0 ia.1 (.inl hh), fun D hD => (hall D hD).elim (ia.2 D) (fun e => ?_)⟩
                exact lexB_le_trans hab (Bool.eq_false_iff.2 hx) (ib.2 D e)
        · rw [if_neg hc]
          exact only (fun o' e => by rw [ho] at e; cases e; exact hc)
/-- the reference finds what the search finds -/
theorem ref_rpl (hd : ds.length ≤ l.length) : refB Y l f old ds.length (l.length - ds.length) ds = rplD Y l f old ds := by
  have h1 := ref_opt (Y := Y) (f := f) (old := old) ds.length (l.length - ds.length) ds (l := l) (by omega)
  cases hr : refB Y l f old ds.length (l.length - ds.length) ds with
  | none =>
    rw [hr] at h1
    cases hp : rplD Y l f old ds with
    | none => rfl
    | some P => exact absurd (rpl_opt hd hp).1 (h1 P)
  | some R =>
    rw [hr] at h1
    dsimp only at h1
    cases hp : rplD Y l f old ds with
    | none =>
      obtain ⟨L, hL, _⟩ := est_low (fx := noFx) (Y := Y) (f := f) h1.1.len (fun i d h => by cases h) (l.length - ds.length) ds (by omega) (fun j hj => by rw [getD_pre h1.1.pre j hj]; exact Int.le_refl _) (ls_days h1.1)
      rw [rpl_none hp] at hL; cases hL
    | some P =>
      obtain ⟨h2, h3⟩ := rpl_opt hd hp
      have e := lexB_total (key3_len (old := old) (done := ds.length) (by rw [h1.1.len, h2.len])) (h3 R h1.1) (h1.2 P h2)
      unfold key3 at e
      injection e with _ e
      injection e with _ e
      rw [e]
end
end Go.Proofs.Ytjgnikmnadmheaa

namespace Go.Proofs.Ytjgnikmnadmheaa
open Go.RowKit

def cmpI (x y : Int) : Int := if x < y then -1 else if y < x then 1 else 0
set_option maxHeartbeats 400000 in
theorem nan_any (x : Int) (w : World) : Calls Try.prog 129 #[.int .i64 x] w fun e w' => e = .returned (.bool false) ∧ w' = w := by
  go_enter Try.func129, Try.ntmps129
  go_wp2
  go_ret
  exact ⟨by simp, rfl⟩
set_option maxHeartbeats 400000 in
theorem cmpInt_any (x y : Int) (w : World) : Calls Try.prog 131 #[.int .i64 x, .int .i64 y] w fun e w' => e = .returned (.int .i64 (cmpI x y)) ∧ w' = w := by
  have HN := Lib.hid nan_any
  unfold cmpI
  by_cases h1 : x < y
  · rw [if_pos h1]
    go_enter Try.func131, Try.ntmps131
    go_wp2_with (go_at_call 129; refine (HN.out _ _).mono ?_; rintro e w1 ⟨rfl, rfl⟩)
    go_ret
    exact ⟨rfl, rfl⟩
  · rw [if_neg h1]
    by_cases h2 : y < x
    · rw [if_pos h2]
      go_enter Try.func131, Try.ntmps131
      go_wp2_with (go_at_call 129; refine (HN.out _ _).mono ?_; rintro e w1 ⟨rfl, rfl⟩)
      go_ret
      exact ⟨rfl, rfl⟩
    · rw [if_neg h2]
      go_enter Try.func131, Try.ntmps131
      go_wp2_with (go_at_call 129; refine (HN.out _ _).mono ?_; rintro e w1 ⟨rfl, rfl⟩)
      go_ret
      exact ⟨rfl, rfl⟩
theorem lexB_at {a b : List Int} {k : Nat} (ha : k < a.length) (hb : k < b.length) : lexB (a.drop k) (b.drop k) = (decide (a[k] < b[k]) || (decide (a[k] = b[k]) && lexB (a.drop (k + 1)) (b.drop (k + 1)))) := by
  rw [List.drop_eq_getElem_cons ha, List.drop_eq_getElem_cons hb]; rfl
set_option maxRecDepth 100000 in
set_option maxHeartbeats 1000000 in
theorem compare_any (a b : List Int) (A B : Option Addr) (c d : Nat) (w : World) (hA : Lies w w.heap.size A (ints a)) (hB : Lies w w.heap.size B (ints b)) (hl : a.length = b.length) (hn : a.length ≤ 1000) :
    Calls Try.prog 119 #[.slice A a.length c, .slice B b.length d] w fun e w' => ∃ n : Int, e = .returned (.int .i64 n) ∧ decide (n < 0) = lexB a b ∧ Below w.heap.size w w' := by
  have HC := Lib.hid cmpInt_any
  have HAW := Lib.hid (fun W (hb : Below w.heap.size w W) => hA.below hb (Nat.le_refl _))
  have HBW := Lib.hid (fun W (hb : Below w.heap.size w W) => hB.below hb (Nat.le_refl _))
  have hl1 : a.length ≤ b.length := by omega
  have hl2 : b.length ≤ a.length := by omega
  have hl3 : ¬ (a.length : Int) < (b.length : Int) := by omega
  have HS : Hid (lexB (a.drop 0) (b.drop 0) = lexB a b) := rfl
  clear hA hB hl
  go_enter Try.func119, Try.ntmps119
  go_wp2
  go_loopw [11] (fun y wr => ∃ k : Nat, k ≤ a.length ∧ y = .int .i64 (k : Int) ∧ Hid (lexB (a.drop k) (b.drop k) = lexB a b) ∧ Below w.heap.size w wr) (fun y _ => a.length - (intOf y).toNat)
  case atStart => exact ⟨0, Nat.zero_le _, rfl, HS, Below.refl _ _⟩
  case round =>
  clear HS
  obtain ⟨k, hk, rfl, HK, hbw⟩ := hrel
  by_cases hlt : k < a.length
  · have hlt2 : k < b.length := by omega
    have hkI : (k : Int) < (a.length : Int) := by omega
    have hkJ : (k : Int) < (b.length : Int) := by omega
    have hkN : ¬ (b.length : Int) ≤ (k : Int) := by omega
    have hk0 : 0 ≤ (k : Int) := by omega
    obtain ⟨a1, rfl, _, t0⟩ := int_at (HAW.out wr hbw) hlt
    obtain ⟨a2, rfl, _, s0⟩ := int_at (HBW.out wr hbw) hlt2
    have HL := Lib.hid (lexB_at hlt hlt2)
    generalize a[k] = x at *
    generalize b[k] = y at *
    by_cases h1 : x < y
    · have hc : Hid (cmpI x y = -1) := by show _ = _; unfold cmpI; rw [if_pos h1]
      have hr : Hid (lexB a b = true) := by show _ = _; rw [← HK.out, HL.out]; simp [h1]
      clear h1
      go_wp2_with (go_at_call 131; refine (HC.out _ _ _).mono ?_; rintro e w1 ⟨rfl, rfl⟩; rw [hc.out])
      go_ret
      exact ⟨_, rfl, by rw [hr.out]; rfl, hbw⟩
    · by_cases h2 : y < x
      · have hc : Hid (cmpI x y = 1) := by show _ = _; unfold cmpI; rw [if_neg h1, if_pos h2]
        have hr : Hid (lexB a b = false) := by show _ = _; rw [← HK.out, HL.out, decide_eq_false h1, decide_eq_false (show ¬ x = y by omega)]; rfl
        clear h1 h2
        go_wp2_with (go_at_call 131; refine (HC.out _ _ _).mono ?_; rintro e w1 ⟨rfl, rfl⟩; rw [hc.out])
        go_ret
        exact ⟨_, rfl, by rw [hr.out]; rfl, hbw⟩
      · have hc : Hid (cmpI x y = 0) := by show _ = _; unfold cmpI; rw [if_neg h1, if_neg h2]
        have hr : Hid (lexB (a.drop (k + 1)) (b.drop (k + 1)) = lexB a b) := by show _ = _; rw [← HK.out, HL.out, decide_eq_false h1, decide_eq_true (show x = y by omega)]; simp
        clear h1 h2
        go_wp2_with (go_at_call 131; refine (HC.out _ _ _).mono ?_; rintro e w1 ⟨rfl, rfl⟩; rw [hc.out])
        go_roundw
        case rel => exact ⟨k + 1, by omega, by go_num, hr, hbw⟩
        case measure => simp [intOf] <;> omega
  · obtain rfl : k = a.length := by omega
    have hr : Hid (lexB a b = false) := by
      show _ = _
      rw [← HK.out, List.drop_length, List.drop_eq_nil_of_le hl2]; rfl
    go_wp2
    go_ret
    exact ⟨_, rfl, by rw [hr.out]; rfl, hbw⟩
set_option maxRecDepth 100000 in
set_option maxHeartbeats 1000000 in
theorem better_any (a b : List Int) (A B : Option Addr) (c d : Nat) (w : World) (hA : Lies w w.heap.size A (ints a)) (hB : Lies w w.heap.size B (ints b)) (hl : b ≠ [] → a.length = b.length) (hn : a.length ≤ 1000) :
    Calls Try.prog 88 #[.slice A a.length c, .slice B b.length d] w (ShEnd (betB a b) w) := by
  by_cases hb : b = []
  · have hr : Hid (betB a b = true) := by show _ = _; unfold betB; rw [decide_eq_true hb]; rfl
    subst hb
    clear hA hB hl hn
    go_enter Try.func88, Try.ntmps88
    go_wp2
    go_ret
    exact sh_ret hr.out.symm (Below.refl _ _)
  · have hl' := hl hb
    have HC := Lib.hid (compare_any a b A B c d w hA hB hl' hn)
    have hr : Hid (betB a b = lexB a b) := by show _ = _; unfold betB; rw [decide_eq_false hb]; rfl
    have hb0 : ((b.length : Int) == 0) = false := by
      rw [beq_eq_false_iff_ne]
      intro e
      exact hb (List.length_eq_zero_iff.1 (by omega))
    clear hA hB hl hn hb hl'
    generalize lexB a b = r at *
    go_enter Try.func88, Try.ntmps88
    go_wp2_with (go_at_call 119; refine HC.out.mono ?_; rintro e w1 ⟨n, rfl, hn, hb1⟩)
    go_ret
    exact sh_ret (by first | (rw [hr.out]; done) | (rw [hr.out]; exact hn)) hb1
end Go.Proofs.Ytjgnikmnadmheaa

namespace Go.Proofs.Ytjgnikmnadmheaa
open Go.RowKit

set_option maxRecDepth 100000 in
set_option maxHeartbeats 4000000 in
theorem earliest_fix (bj : Nat) (C : Array Value) (Y : Yd) (l : List Tk) (A : Option Addr) (c : Nat) (f : Int) (days : List Int) (D : Option Addr) (cd : Nat) (bm n sz : Nat) (g : Int → Option Int) (w : World) (hj : JobAt w w.heap.size bj C Y l A c f) (hv : Valid Y) (ht : ValidT l) (hm : tame l) (hf : 0 ≤ f ∧ f ≤ 100000)
    (hD : Lies w w.heap.size D (ints days)) (hn : days.length ≤ l.length) (hd : ∀ x ∈ days, -1000 ≤ x ∧ x ≤ 200000) (hM : MapC w bm n sz g) :
    Calls Try.prog 83 #[.pointer (some ⟨bj, 0, none⟩), .slice D days.length cd, .map (some bm)] w (EstEnd (est Y l f (fun i => g (i : Int)) (l.length - days.length) days) w) := by
  have hlj := hj.lt
  have hl12 := ht.n
  have hlm := hM.lt
  have HJ := Lib.hid (fun W (hb : Below w.heap.size w W) => (hj.below hb (Nat.le_refl _)))
  have HCL := Lib.hid (clone_ints days D cd w hD (by omega))
  have HLO : Hid (∀ W : World, Below w.heap.size w W → ∀ (ds : List Int) (v : Value) (A2 : Option Addr) (c2 : Nat) (h : ds.length < l.length), W.ownsRow w.heap.size 3 1 (.slice A2 ds.length c2) ds.length (ints ds) → (∀ x ∈ ds, -1000 ≤ x ∧ x ≤ 200000) → Calls Try.prog 96 #[.pointer (some ⟨bj, 0, none⟩), .slice A2 ds.length c2] W (IntEnd (lowS Y.dry f l[ds.length].af ds) W)) :=
    fun W hb ds v A2 c2 h ho hx => lower_any bj C Y l A c f ds A2 c2 W ((hj.below hb (Nat.le_refl _)).more hb.size) hv ht hm hf (ownsRow_lies ho) h hx
  have HFI : Hid (∀ W : World, Below w.heap.size w W → ∀ (ds : List Int) (h : ds.length < l.length) (d : Int), 0 ≤ d ∧ d ≤ 1000000 → Calls Try.prog 117 #[.pointer (some ⟨bj, 0, none⟩), .int .i64 ds.length, .int .i64 d] W (FirstEnd (suitK Y l[ds.length] ds.length d (f + 400 - d).toNat) W)) :=
    fun W hb ds h d hd => first_any bj C Y l A c ds.length f d W ((hj.below hb (Nat.le_refl _)).more hb.size) hv hm.1 h hf hd
  have HSU : Hid (∀ W : World, Below w.heap.size w W → ∀ (ds : List Int) (h : ds.length < l.length) (d : Int), Calls Try.prog 97 #[.agg C, .slice A l.length c, .int .i64 ds.length, .int .i64 d] W (ShEnd (suitB Y l[ds.length] ds.length d) W)) :=
    fun W hb ds h d => suits_any C Y l A c ds.length d W ((hj.yat.below hb (Nat.le_refl _)).more hb.size) hv ((hj.tat.below hb (Nat.le_refl _)).more hb.size) hm.1 h
  have HUN : Hid (∀ W : World, Below w.heap.size w W → Calls Try.prog 95 #[.pointer (some ⟨bj, 0, none⟩)] W fun e w' => e = .returned (.int .i64 (f + 400)) ∧ W = w') := fun W hb => until_any bj f W (hj.below hb (Nat.le_refl _)).from_ (by omega)
  have HML := Lib.hid (fun W (hb : Below w.heap.size w W) => hM.below hb hlm)
  have HLB : Hid (∀ (ds : List Int) (h : ds.length < l.length), (∀ x ∈ ds, -1000 ≤ x ∧ x ≤ 200000) → f ≤ lowS Y.dry f l[ds.length].af ds ∧ lowS Y.dry f l[ds.length].af ds ≤ 200031) := fun ds h hx => lowK_bd hf hv.dry hx _ (Nat.le_refl _)
  have c28 := hj.tasks
  have hu29 := Try.underlying29
  have h28 : C.toList.length = 28 := hj.yat.len
  have hi29 : (Try.prog.info? 29).map (·.size) = some C.toList.length := by rw [h28]; exact info29
  clear h28
  have HB := Lib.hid hd
  generalize hE : est Y l f (fun i => g (i : Int)) (l.length - days.length) days = E at *
  have HE := Lib.hid hE
  obtain ⟨i0, hi0, hz0, hz1, hz2⟩ := info_parts info3
  have I3 := Lib.hid (And.intro hi0 (And.intro hz0 (And.intro hz1 hz2))); clear hi0 hz0 hz1 hz2
  clear hj hv ht hm hD hd hE hM
  have hlI : (l.length : Int) ≤ 12 := by omega
  go_enter Try.func83, Try.ntmps83
  go_wp2_with (go_at_call 78; refine HCL.out.mono ?_; rintro e w1 ⟨v1, rfl, ho1, hb1⟩; obtain ⟨A1, c1, rfl, _, _⟩ := ownsSlice ho1)
  go_loopw [1, 8] (fun v y wr => ∃ ds : List Int, days.length ≤ ds.length ∧ ds.length ≤ l.length ∧ y = .int .i64 ds.length ∧ wr.ownsRow w.heap.size 3 1 v ds.length (ints ds) ∧ Hid (est Y l f (fun i => g (i : Int)) (l.length - ds.length) ds = E) ∧ Hid (∀ x ∈ ds, -1000 ≤ x ∧ x ≤ 200000) ∧ Below w.heap.size w wr) (fun _ y _ => l.length - (intOf y).toNat)
  case atStart => exact ⟨days, Nat.le_refl _, hn, rfl, ho1, HE, HB, hb1⟩
  case round =>
  clear ho1 hb1
  obtain ⟨ds, hn1, hn2, rfl, hown, HEd, HBd, hbw⟩ := hrel
  obtain ⟨A2, c2, rfl, _, _⟩ := ownsSlice hown
  have hbs := hbw.size
  have b28 := (HJ.out wr hbw).tasks
  by_cases hlt : ds.length < l.length
  · have hltI : (ds.length : Int) < (l.length : Int) := by omega
    have hds0 : 0 ≤ (ds.length : Int) := by omega
    have HL1 := Lib.hid (HLO.out wr hbw ds (.slice A2 ds.length c2) A2 c2 hlt hown HBd.out)
    have hlb := HLB.out ds hlt HBd.out
    have HFI1 := Lib.hid (fun W hb => HFI.out W hb ds hlt)
    have HSU1 := Lib.hid (fun W hb => HSU.out W hb ds hlt)
    have HNL := Lib.hid (nextL_at (f := f) (Y := Y) hlt)
    have HNM := Lib.hid (fun x => nextL_mem (Y := Y) (f := f) (x := x) hlt)
    have HS1 := Lib.hid (fun d (h : stepE Y l f (fun i => g (i : Int)) ds = some d) => est_some hlt h)
    have HS0 := Lib.hid (fun (h : stepE Y l f (fun i => g (i : Int)) ds = none) => est_none hlt h)
    have HSF := Lib.hid (fun d (h : g (ds.length : Int) = some d) => stepE_fix (Y := Y) (f := f) (fx := fun i => g (i : Int)) hlt h)
    have HSE := Lib.hid (fun (h : g (ds.length : Int) = none) => stepE_free (Y := Y) (l := l) (f := f) (fx := fun i => g (i : Int)) h)
    have hiv : i64v (ds.length : Int) := by unfold i64v; omega
    generalize l[ds.length] = t at *
    generalize lowS Y.dry f t.af ds = low at *
    obtain ⟨hlb1, hlb2⟩ := hlb
    cases hg : g (ds.length : Int) with
    | none =>
      have HST := Lib.hid (HSE.out hg)
      have HLK : Hid (∀ W : World, Below w.heap.size w W → (Instr.lookup 108 (.map (some bm)) (.int .i64 (ds.length : Int)) true).run Try.prog W = .ok (.tuple #[.int .i64 0, .bool false]) W) := fun W hb => by
        have := (HML.out W hb).look_ok hiv
        rw [hg] at this
        exact this
      cases hN : nextL Y l f ds with
      | nil =>
        have HEE : Hid (E = none) := by
          show _ = _
          rw [← HEd.out]; exact HS0.out (by rw [HST.out, hN]; rfl)
        rw [hN] at HNL
        clear HS1 HS0 HST hN HNM hg HSF HSE HML HSU HUN HSU1
        go_wp2_with (first | (go_at_call 96; refine HL1.out.mono ?_; rintro e w3 ⟨rfl, hb3⟩; have hB3 : Below w.heap.size w w3 := hbw.trans (hb3.mono hbs); have b28' := (HJ.out w3 hB3).tasks; have byd := (HJ.out w3 hB3).yard; have hlk := HLK.out w3 hB3) | (go_at_call 117; refine (HFI1.out _ hB3 low (by omega)).mono ?_; rintro e w4 ⟨rfl, hb4⟩; rw [← HNL.out]; have hB4 : Below w.heap.size w w4 := hB3.trans (hb4.mono hB3.size); have hown4 := ownsRow_below hown (hb3.trans (hb4.mono hb3.size)) (Nat.le_refl _); have hz4 := hB4.size))
        go_ret2
        rw [HEE.out]
        exact ⟨rfl, hB4⟩
      | cons x r =>
        have hx := HNM.out x (by rw [hN]; exact List.mem_cons_self ..)
        have HSX : Hid (stepE Y l f (fun i => g (i : Int)) ds = some x) := by show _ = _; rw [HST.out, hN]; rfl
        have HEE : Hid (est Y l f (fun i => g (i : Int)) (l.length - (ds ++ [x]).length) (ds ++ [x]) = E) := by
          show _ = _
          rw [← HEd.out]; exact (HS1.out x HSX.out).symm
        have HXB : Hid (∀ y ∈ ds ++ [x], -1000 ≤ y ∧ y ≤ 200000) := fun y hy => by
          rcases List.mem_append.1 hy with h | h
          · exact HBd.out y h
          · rw [List.mem_singleton.1 h]; omega
        rw [hN] at HNL
        clear HS1 HS0 HST hN HNM hx hg HSF HSE HML HSU HUN HSU1 HSX
        go_wp2_with (first | (go_at_call 96; refine HL1.out.mono ?_; rintro e w3 ⟨rfl, hb3⟩; have hB3 : Below w.heap.size w w3 := hbw.trans (hb3.mono hbs); have b28' := (HJ.out w3 hB3).tasks; have byd := (HJ.out w3 hB3).yard; have hlk := HLK.out w3 hB3) | (go_at_call 117; refine (HFI1.out _ hB3 low (by omega)).mono ?_; rintro e w4 ⟨rfl, hb4⟩; rw [← HNL.out]; have hB4 : Below w.heap.size w w4 := hB3.trans (hb4.mono hB3.size); have hown4 := ownsRow_below hown (hb3.trans (hb4.mono hb3.size)) (Nat.le_refl _); have hz4 := hB4.size) | (at_builtin; refine wpList_append_own _ rfl (.tmp 66) (.tmp 68) 25 rfl (w.heap.size) 3 i0 (.int .i64 0) 1 8 Try.underlying25 I3.out.1 I3.out.2.1 I3.out.2.2.1 I3.out.2.2.2 rfl (by decide) _ ds.length (ints ds) rfl (hown4.alloc _) ⟨w4.heap.size, 0, none⟩ 1 1 [.int .i64 x] rfl rfl ?_ ?_ ?_ ?_ ?_ ?_; (exact cell_one_new _ _ _); (intro u hu; simp at hu; subst hu; rfl); (unfold maxLen; omega); (omega); (have := hB4.size; simp; omega); intro v5 w5 hown5 hgrow5 _; have hB5 : Below w.heap.size w w5 := below_own (by exact (by repeat (first | with_reducible exact Below.refl _ _ | with_reducible assumption | with_reducible refine Below.drew ?_ | with_reducible refine below_drewN ?_ _ | (with_reducible refine Below.alloc ?_ ?_ _; rotate_left; (try simp) <;> omega) | (with_reducible refine Below.setCell ?_ ?_ _; rotate_left; (try simp) <;> omega)))) (hown4.alloc _) hgrow5 (Nat.le_refl _) (by have := hB4.size; simp; omega); clear hgrow5))
        rw [ints_snoc] at hown5
        have hlen : Hid (ds.length + 1 = (ds ++ [x]).length) := by show _ = _; simp
        rw [hlen.out] at hown5
        go_wp2
        go_roundw
        case rel => exact ⟨ds ++ [x], by simp; omega, by simp; omega, by rw [← hlen.out]; go_num, hown5, HEE, HXB, hB5⟩
        case measure => simp [intOf]; omega
    | some x =>
      have HST := Lib.hid (HSF.out x hg)
      have HLK : Hid (∀ W : World, Below w.heap.size w W → (Instr.lookup 108 (.map (some bm)) (.int .i64 (ds.length : Int)) true).run Try.prog W = .ok (.tuple #[.int .i64 x, .bool true]) W) := fun W hb => by
        have := (HML.out W hb).look_ok hiv
        rw [hg] at this
        exact this
      clear HNL HNM HSF HSE HFI1
      have hf4 : ∀ W : World, Below w.heap.size w W → W.rangeAt bj 0 C.toList ∧ W.cell? ⟨bj, 28, none⟩ = some (.slice A l.length c) := fun W hb => ⟨(HJ.out W hb).yard, (HJ.out W hb).tasks⟩
      have HF4 := Lib.hid hf4; clear hf4
      by_cases h1 : low ≤ x
      · by_cases h2 : x < f + 400
        · cases hsu : suitB Y t ds.length x with
          | false =>
            have HSB := Lib.hid hsu
            have HEE : Hid (E = none) := by
              show _ = _
              rw [← HEd.out]; exact HS0.out (by rw [HST.out, if_neg (by intro h; rw [hsu] at h; exact absurd h.2.2 (by decide))])
            clear HS1 HS0 HST hg HML HSU
            clear hsu
            go_upto_region 8 with (first | (go_at_call 96; refine HL1.out.mono ?_; rintro e w3 ⟨rfl, hb3⟩; have hB3 : Below w.heap.size w w3 := hbw.trans (hb3.mono hbs); have b28' := (HJ.out w3 hB3).tasks; have byd := (HJ.out w3 hB3).yard; have hlk := HLK.out w3 hB3))
            refine wp_region_held_drew (S := (fun w' => w'.rangeAt bj 0 C.toList ∧ w'.cell? ⟨bj, 28, none⟩ = some (.slice A l.length c))) (by kernel_rfl) ?_ (fun hHeld => ?_)
            · exact HF4.out _ (by exact (by repeat (first | with_reducible exact Below.refl _ _ | with_reducible assumption | with_reducible refine Below.drew ?_ | with_reducible refine below_drewN ?_ _ | (with_reducible refine Below.alloc ?_ ?_ _; rotate_left; (try simp) <;> omega) | (with_reducible refine Below.setCell ?_ ?_ _; rotate_left; (try simp) <;> omega))))
            refine tk 0 35 ?_
            refine tk 1 36 ?_
            refine tk 2 37 ?_
            refine tk 3 38 ?_
            refine tk 4 39 ?_
            refine tk 5 40 ?_
            (refine held_call 6 (some 41) 95 _ rfl (by kernel_rfl) (by rfl) ?_ (HUN.out _ (by exact (by repeat (first | with_reducible exact Below.refl _ _ | with_reducible assumption | with_reducible refine Below.drew ?_ | with_reducible refine below_drewN ?_ _ | (with_reducible refine Below.alloc ?_ ?_ _; rotate_left; (try simp) <;> omega) | (with_reducible refine Below.setCell ?_ ?_ _; rotate_left; (try simp) <;> omega))))) ?_; rotate_left; rotate_left; (simp only [List.getElem?_toArray, List.getElem?_cons_zero, List.getElem?_cons_succ, Option.map_some]; refine congrArg some ?_; go_simp))
            rintro e wu ⟨rfl, rfl⟩
            refine ⟨_, rfl, HF4.out _ (by exact (by repeat (first | with_reducible exact Below.refl _ _ | with_reducible assumption | with_reducible refine Below.drew ?_ | with_reducible refine below_drewN ?_ _ | (with_reducible refine Below.alloc ?_ ?_ _; rotate_left; (try simp) <;> omega) | (with_reducible refine Below.setCell ?_ ?_ _; rotate_left; (try simp) <;> omega)))), fun hHeld => ?_⟩
            (try simp only [Act.put, List.setIfInBounds_toArray, List.set_cons_zero, List.set_cons_succ])
            refine tk 7 42 ?_
            refine tk 8 43 ?_
            refine tk 9 44 ?_
            refine tk 10 45 ?_
            refine tk 11 46 ?_
            refine tk 12 47 ?_
            (refine held_row 13 (some 48) 29 (.tmp 47) (bj) 0 C.toList _ rfl rfl (by kernel_rfl) (by kernel_rfl) (by kernel_rfl) (by rfl) rfl (fun _ _ _ h => h) (by assumption) (fun _ hS => hS.1) Try.underlying29 rfl (by assumption) ?_; (try simp only [Act.put, List.setIfInBounds_toArray, List.set_cons_zero, List.set_cons_succ]))
            refine tk 14 49 ?_
            refine tk 15 50 ?_
            refine tk 16 51 ?_
            refine tk 17 52 ?_
            refine tk 18 53 ?_
            refine tk 19 54 ?_
            (refine held_call 20 (some 55) 97 _ rfl (by kernel_rfl) (by rfl) ?_ (HSU1.out _ (by exact (by repeat (first | with_reducible exact Below.refl _ _ | with_reducible assumption | with_reducible refine Below.drew ?_ | with_reducible refine below_drewN ?_ _ | (with_reducible refine Below.alloc ?_ ?_ _; rotate_left; (try simp) <;> omega) | (with_reducible refine Below.setCell ?_ ?_ _; rotate_left; (try simp) <;> omega)))) x) ?_; rotate_left; rotate_left; (simp only [List.getElem?_toArray, List.getElem?_cons_zero, List.getElem?_cons_succ, Option.map_some]; refine congrArg some ?_; go_simp))
            rintro e w4 ⟨rfl, hb4⟩
            rw [HSB.out]
            have hB4 : Below w.heap.size w w4 := Below.trans (by exact (by repeat (first | with_reducible exact Below.refl _ _ | with_reducible assumption | with_reducible refine Below.drew ?_ | with_reducible refine below_drewN ?_ _ | (with_reducible refine Below.alloc ?_ ?_ _; rotate_left; (try simp) <;> omega) | (with_reducible refine Below.setCell ?_ ?_ _; rotate_left; (try simp) <;> omega)))) (hb4.mono (by first | exact hB3.size | (simp; exact hB3.size)))
            have h34 : Below w3.heap.size w3 w4 := Below.trans (by exact (by repeat (first | with_reducible exact Below.refl _ _ | with_reducible assumption | with_reducible refine Below.drew ?_ | with_reducible refine below_drewN ?_ _ | (with_reducible refine Below.alloc ?_ ?_ _; rotate_left; (try simp) <;> omega) | (with_reducible refine Below.setCell ?_ ?_ _; rotate_left; (try simp) <;> omega)))) (hb4.mono (by first | exact Nat.le_refl _ | simp))
            refine ⟨_, rfl, HF4.out _ hB4, fun hHeld => ?_⟩
            (try simp only [Act.put, List.setIfInBounds_toArray, List.set_cons_zero, List.set_cons_succ])
            refine tk 21 56 ?_
            refine tk 22 11 ?_
            refine wpAnyH_done (by kernel_rfl) ?_ _
            clear hHeld
            go_wp2
            go_ret2
            rw [HEE.out]
            exact ⟨rfl, hB4⟩
          | true =>
            have HSB := Lib.hid hsu
            have HSX : Hid (stepE Y l f (fun i => g (i : Int)) ds = some x) := by show _ = _; rw [HST.out, if_pos ⟨h1, h2, hsu⟩]
            have HEE : Hid (est Y l f (fun i => g (i : Int)) (l.length - (ds ++ [x]).length) (ds ++ [x]) = E) := by
              show _ = _
              rw [← HEd.out]; exact (HS1.out x HSX.out).symm
            have HXB : Hid (∀ y ∈ ds ++ [x], -1000 ≤ y ∧ y ≤ 200000) := fun y hy => by
              rcases List.mem_append.1 hy with h | h
              · exact HBd.out y h
              · rw [List.mem_singleton.1 h]; omega
            clear HS1 HS0 HST hg HML HSU HSX hsu
            go_upto_region 8 with (first | (go_at_call 96; refine HL1.out.mono ?_; rintro e w3 ⟨rfl, hb3⟩; have hB3 : Below w.heap.size w w3 := hbw.trans (hb3.mono hbs); have b28' := (HJ.out w3 hB3).tasks; have byd := (HJ.out w3 hB3).yard; have hlk := HLK.out w3 hB3))
            refine wp_region_held_drew (S := (fun w' => w'.rangeAt bj 0 C.toList ∧ w'.cell? ⟨bj, 28, none⟩ = some (.slice A l.length c))) (by kernel_rfl) ?_ (fun hHeld => ?_)
            · exact HF4.out _ (by exact (by repeat (first | with_reducible exact Below.refl _ _ | with_reducible assumption | with_reducible refine Below.drew ?_ | with_reducible refine below_drewN ?_ _ | (with_reducible refine Below.alloc ?_ ?_ _; rotate_left; (try simp) <;> omega) | (with_reducible refine Below.setCell ?_ ?_ _; rotate_left; (try simp) <;> omega))))
            refine tk 0 35 ?_
            refine tk 1 36 ?_
            refine tk 2 37 ?_
            refine tk 3 38 ?_
            refine tk 4 39 ?_
            refine tk 5 40 ?_
            (refine held_call 6 (some 41) 95 _ rfl (by kernel_rfl) (by rfl) ?_ (HUN.out _ (by exact (by repeat (first | with_reducible exact Below.refl _ _ | with_reducible assumption | with_reducible refine Below.drew ?_ | with_reducible refine below_drewN ?_ _ | (with_reducible refine Below.alloc ?_ ?_ _; rotate_left; (try simp) <;> omega) | (with_reducible refine Below.setCell ?_ ?_ _; rotate_left; (try simp) <;> omega))))) ?_; rotate_left; rotate_left; (simp only [List.getElem?_toArray, List.getElem?_cons_zero, List.getElem?_cons_succ, Option.map_some]; refine congrArg some ?_; go_simp))
            rintro e wu ⟨rfl, rfl⟩
            refine ⟨_, rfl, HF4.out _ (by exact (by repeat (first | with_reducible exact Below.refl _ _ | with_reducible assumption | with_reducible refine Below.drew ?_ | with_reducible refine below_drewN ?_ _ | (with_reducible refine Below.alloc ?_ ?_ _; rotate_left; (try simp) <;> omega) | (with_reducible refine Below.setCell ?_ ?_ _; rotate_left; (try simp) <;> omega)))), fun hHeld => ?_⟩
            (try simp only [Act.put, List.setIfInBounds_toArray, List.set_cons_zero, List.set_cons_succ])
            refine tk 7 42 ?_
            refine tk 8 43 ?_
            refine tk 9 44 ?_
            refine tk 10 45 ?_
            refine tk 11 46 ?_
            refine tk 12 47 ?_
            (refine held_row 13 (some 48) 29 (.tmp 47) (bj) 0 C.toList _ rfl rfl (by kernel_rfl) (by kernel_rfl) (by kernel_rfl) (by rfl) rfl (fun _ _ _ h => h) (by assumption) (fun _ hS => hS.1) Try.underlying29 rfl (by assumption) ?_; (try simp only [Act.put, List.setIfInBounds_toArray, List.set_cons_zero, List.set_cons_succ]))
            refine tk 14 49 ?_
            refine tk 15 50 ?_
            refine tk 16 51 ?_
            refine tk 17 52 ?_
            refine tk 18 53 ?_
            refine tk 19 54 ?_
            (refine held_call 20 (some 55) 97 _ rfl (by kernel_rfl) (by rfl) ?_ (HSU1.out _ (by exact (by repeat (first | with_reducible exact Below.refl _ _ | with_reducible assumption | with_reducible refine Below.drew ?_ | with_reducible refine below_drewN ?_ _ | (with_reducible refine Below.alloc ?_ ?_ _; rotate_left; (try simp) <;> omega) | (with_reducible refine Below.setCell ?_ ?_ _; rotate_left; (try simp) <;> omega)))) x) ?_; rotate_left; rotate_left; (simp only [List.getElem?_toArray, List.getElem?_cons_zero, List.getElem?_cons_succ, Option.map_some]; refine congrArg some ?_; go_simp))
            rintro e w4 ⟨rfl, hb4⟩
            rw [HSB.out]
            have hB4 : Below w.heap.size w w4 := Below.trans (by exact (by repeat (first | with_reducible exact Below.refl _ _ | with_reducible assumption | with_reducible refine Below.drew ?_ | with_reducible refine below_drewN ?_ _ | (with_reducible refine Below.alloc ?_ ?_ _; rotate_left; (try simp) <;> omega) | (with_reducible refine Below.setCell ?_ ?_ _; rotate_left; (try simp) <;> omega)))) (hb4.mono (by first | exact hB3.size | (simp; exact hB3.size)))
            have h34 : Below w3.heap.size w3 w4 := Below.trans (by exact (by repeat (first | with_reducible exact Below.refl _ _ | with_reducible assumption | with_reducible refine Below.drew ?_ | with_reducible refine below_drewN ?_ _ | (with_reducible refine Below.alloc ?_ ?_ _; rotate_left; (try simp) <;> omega) | (with_reducible refine Below.setCell ?_ ?_ _; rotate_left; (try simp) <;> omega)))) (hb4.mono (by first | exact Nat.le_refl _ | simp))
            refine ⟨_, rfl, HF4.out _ hB4, fun hHeld => ?_⟩
            (try simp only [Act.put, List.setIfInBounds_toArray, List.set_cons_zero, List.set_cons_succ])
            refine tk 21 56 ?_
            refine tk 22 11 ?_
            refine wpAnyH_done (by kernel_rfl) ?_ _
            have hown4 := ownsRow_below hown (hb3.trans (h34.mono hb3.size)) (Nat.le_refl _)
            have hz4 := hB4.size
            clear hHeld
            go_wp2_with (first | (at_builtin; refine wpList_append_own _ rfl (.tmp 66) (.tmp 68) 25 rfl (w.heap.size) 3 i0 (.int .i64 0) 1 8 Try.underlying25 I3.out.1 I3.out.2.1 I3.out.2.2.1 I3.out.2.2.2 rfl (by decide) _ ds.length (ints ds) rfl (hown4.alloc _) ⟨w4.heap.size, 0, none⟩ 1 1 [.int .i64 x] rfl rfl ?_ ?_ ?_ ?_ ?_ ?_; (exact cell_one_new _ _ _); (intro u hu; simp at hu; subst hu; rfl); (unfold maxLen; omega); (omega); (have := hB4.size; simp; omega); intro v5 w5 hown5 hgrow5 _; have hB5 : Below w.heap.size w w5 := below_own (by exact (by repeat (first | with_reducible exact Below.refl _ _ | with_reducible assumption | with_reducible refine Below.drew ?_ | with_reducible refine below_drewN ?_ _ | (with_reducible refine Below.alloc ?_ ?_ _; rotate_left; (try simp) <;> omega) | (with_reducible refine Below.setCell ?_ ?_ _; rotate_left; (try simp) <;> omega)))) (hown4.alloc _) hgrow5 (Nat.le_refl _) (by have := hB4.size; simp; omega); clear hgrow5))
            rw [ints_snoc] at hown5
            have hlen : Hid (ds.length + 1 = (ds ++ [x]).length) := by show _ = _; simp
            rw [hlen.out] at hown5
            go_wp2
            go_roundw
            case rel => exact ⟨ds ++ [x], by simp; omega, by simp; omega, by rw [← hlen.out]; go_num, hown5, HEE, HXB, hB5⟩
            case measure => simp [intOf]; omega
        · have HEE : Hid (E = none) := by
            show _ = _
            rw [← HEd.out]; exact HS0.out (by rw [HST.out, if_neg (by exact fun h => h2 h.2.1)])
          clear HS1 HS0 HST hg HML HSU
          have hd2 : decide (x < f + 400) = false := decide_eq_false h2
          go_upto_region 8 with (first | (go_at_call 96; refine HL1.out.mono ?_; rintro e w3 ⟨rfl, hb3⟩; have hB3 : Below w.heap.size w w3 := hbw.trans (hb3.mono hbs); have b28' := (HJ.out w3 hB3).tasks; have byd := (HJ.out w3 hB3).yard; have hlk := HLK.out w3 hB3))
          refine wp_region_held_drew (S := (fun w' => w'.rangeAt bj 0 C.toList ∧ w'.cell? ⟨bj, 28, none⟩ = some (.slice A l.length c))) (by kernel_rfl) ?_ (fun hHeld => ?_)
          · exact HF4.out _ (by exact (by repeat (first | with_reducible exact Below.refl _ _ | with_reducible assumption | with_reducible refine Below.drew ?_ | with_reducible refine below_drewN ?_ _ | (with_reducible refine Below.alloc ?_ ?_ _; rotate_left; (try simp) <;> omega) | (with_reducible refine Below.setCell ?_ ?_ _; rotate_left; (try simp) <;> omega))))
          refine tk 0 35 ?_
          refine tk 1 36 ?_
          refine tk 2 37 ?_
          refine tk 3 38 ?_
          refine tk 4 39 ?_
          refine tk 5 40 ?_
          (refine held_call 6 (some 41) 95 _ rfl (by kernel_rfl) (by rfl) ?_ (HUN.out _ (by exact (by repeat (first | with_reducible exact Below.refl _ _ | with_reducible assumption | with_reducible refine Below.drew ?_ | with_reducible refine below_drewN ?_ _ | (with_reducible refine Below.alloc ?_ ?_ _; rotate_left; (try simp) <;> omega) | (with_reducible refine Below.setCell ?_ ?_ _; rotate_left; (try simp) <;> omega))))) ?_; rotate_left; rotate_left; (simp only [List.getElem?_toArray, List.getElem?_cons_zero, List.getElem?_cons_succ, Option.map_some]; refine congrArg some ?_; go_simp))
          rintro e wu ⟨rfl, rfl⟩
          refine ⟨_, rfl, HF4.out _ (by exact (by repeat (first | with_reducible exact Below.refl _ _ | with_reducible assumption | with_reducible refine Below.drew ?_ | with_reducible refine below_drewN ?_ _ | (with_reducible refine Below.alloc ?_ ?_ _; rotate_left; (try simp) <;> omega) | (with_reducible refine Below.setCell ?_ ?_ _; rotate_left; (try simp) <;> omega)))), fun hHeld => ?_⟩
          (try simp only [Act.put, List.setIfInBounds_toArray, List.set_cons_zero, List.set_cons_succ])
          refine tk 7 42 ?_
          refine tk 8 43 ?_
          refine tk 9 44 ?_
          refine sk 10 45 ?_
          refine sk 11 46 ?_
          refine sk 12 47 ?_
          refine sk 13 48 ?_
          refine sk 14 49 ?_
          refine sk 15 50 ?_
          refine sk 16 51 ?_
          refine sk 17 52 ?_
          refine sk 18 53 ?_
          refine sk 19 54 ?_
          refine sk 20 55 ?_
          refine tk 21 56 ?_
          refine tk 22 11 ?_
          refine wpAnyH_done (by kernel_rfl) ?_ _
          clear hHeld
          go_wp2
          go_ret2
          rw [HEE.out]
          exact ⟨rfl, by exact (by repeat (first | with_reducible exact Below.refl _ _ | with_reducible assumption | with_reducible refine Below.drew ?_ | with_reducible refine below_drewN ?_ _ | (with_reducible refine Below.alloc ?_ ?_ _; rotate_left; (try simp) <;> omega) | (with_reducible refine Below.setCell ?_ ?_ _; rotate_left; (try simp) <;> omega)))⟩
      · have HEE : Hid (E = none) := by
          show _ = _
          rw [← HEd.out]; exact HS0.out (by rw [HST.out, if_neg (by exact fun h => h1 h.1)])
        clear HS1 HS0 HST hg HML HSU
        have hd1 : decide (low ≤ x) = false := decide_eq_false h1
        go_upto_region 8 with (first | (go_at_call 96; refine HL1.out.mono ?_; rintro e w3 ⟨rfl, hb3⟩; have hB3 : Below w.heap.size w w3 := hbw.trans (hb3.mono hbs); have b28' := (HJ.out w3 hB3).tasks; have byd := (HJ.out w3 hB3).yard; have hlk := HLK.out w3 hB3))
        refine wp_region_held_drew (S := (fun w' => w'.rangeAt bj 0 C.toList ∧ w'.cell? ⟨bj, 28, none⟩ = some (.slice A l.length c))) (by kernel_rfl) ?_ (fun hHeld => ?_)
        · exact HF4.out _ (by exact (by repeat (first | with_reducible exact Below.refl _ _ | with_reducible assumption | with_reducible refine Below.drew ?_ | with_reducible refine below_drewN ?_ _ | (with_reducible refine Below.alloc ?_ ?_ _; rotate_left; (try simp) <;> omega) | (with_reducible refine Below.setCell ?_ ?_ _; rotate_left; (try simp) <;> omega))))
        refine tk 0 35 ?_
        refine tk 1 36 ?_
        refine tk 2 37 ?_
        refine tk 3 38 ?_
        refine sk 4 39 ?_
        refine sk 5 40 ?_
        refine sk 6 41 ?_
        refine sk 7 42 ?_
        refine tk 8 43 ?_
        refine tk 9 44 ?_
        refine sk 10 45 ?_
        refine sk 11 46 ?_
        refine sk 12 47 ?_
        refine sk 13 48 ?_
        refine sk 14 49 ?_
        refine sk 15 50 ?_
        refine sk 16 51 ?_
        refine sk 17 52 ?_
        refine sk 18 53 ?_
        refine sk 19 54 ?_
        refine sk 20 55 ?_
        refine tk 21 56 ?_
        refine tk 22 11 ?_
        refine wpAnyH_done (by kernel_rfl) ?_ _
        clear hHeld
        go_wp2
        go_ret2
        rw [HEE.out]
        exact ⟨rfl, by exact (by repeat (first | with_reducible exact Below.refl _ _ | with_reducible assumption | with_reducible refine Below.drew ?_ | with_reducible refine below_drewN ?_ _ | (with_reducible refine Below.alloc ?_ ?_ _; rotate_left; (try simp) <;> omega) | (with_reducible refine Below.setCell ?_ ?_ _; rotate_left; (try simp) <;> omega)))⟩
  · have hn3 : ds.length = l.length := by omega
    have HEE : Hid (E = some ds) := by show _ = _; rw [← HEd.out]; exact est_zero Y l f _ hn3
    have HN3 := Lib.hid hn3; clear hn3
    go_wp2
    go_ret2
    rw [HEE.out]
    exact ⟨_, rfl, hown, hbw⟩
end Go.Proofs.Ytjgnikmnadmheaa
