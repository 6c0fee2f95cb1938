/- Replan's choice of days: the plain law. -/
import Derived.Test.YtjgnikmnadmheaaG02
import Derived.Test.YtjgnikmnadmheaaG79
import Derived.Test.YtjgnikmnadmheaaG80

namespace Go.Proofs.Ytjgnikmnadmheaa
open Go.RowKit

/-! lists of numbers in the order of words -/
def lexB : List Int → List Int → Bool
  | x :: xs, y :: ys => decide (x < y) || (decide (x = y) && lexB xs ys)
  | _, _ => false
theorem lexB_cons {x y : Int} {xs ys : List Int} : lexB (x :: xs) (y :: ys) = true ↔ x < y ∨ (x = y ∧ lexB xs ys = true) := by
  show (decide (x < y) || (decide (x = y) && lexB xs ys)) = true ↔ _
  simp
theorem lexB_irr : ∀ a : List Int, lexB a a = false
  | [] => rfl
  | x :: xs => by
    rw [Bool.eq_false_iff]
    intro h
    rw [lexB_cons, lexB_irr xs] at h
    rcases h with h | h
    · omega
    · cases h.2
theorem lexB_trans : ∀ {a b c : List Int}, lexB a b = true → lexB b c = true → lexB a c = true
  | [], b, c, h, _ => by cases b <;> cases h
  | x :: xs, [], c, h, _ => by cases h
  | x :: xs, y :: ys, [], _, h => by cases h
  | x :: xs, y :: ys, z :: zs, h1, h2 => by
    rw [lexB_cons] at h1 h2 ⊢
    rcases h1 with h1 | ⟨h1, h3⟩ <;> rcases h2 with h2 | ⟨h2, h4⟩
    · left; omega
    · left; omega
    · left; omega
    · right; exact ⟨by omega, lexB_trans h3 h4⟩
theorem lexB_total : ∀ {a b : List Int}, a.length = b.length → lexB a b = false → lexB b a = false → a = b
  | [], [], _, _, _ => rfl
  | [], _ :: _, h, _, _ => by cases h
  | _ :: _, [], h, _, _ => by cases h
  | x :: xs, y :: ys, h, h1, h2 => by
    rw [Bool.eq_false_iff] at h1 h2
    have n1 : ¬ x < y := fun e => h1 (lexB_cons.2 (.inl e))
    have n2 : ¬ y < x := fun e => h2 (lexB_cons.2 (.inl e))
    obtain rfl : x = y := by omega
    have e := lexB_total (a := xs) (b := ys) (by simpa using h) (by rw [Bool.eq_false_iff]; exact fun e => h1 (lexB_cons.2 (.inr ⟨rfl, e⟩))) (by rw [Bool.eq_false_iff]; exact fun e => h2 (lexB_cons.2 (.inr ⟨rfl, e⟩)))
    rw [e]
theorem lexB_asym {a b : List Int} (h : lexB a b = true) : lexB b a = false := by
  rw [Bool.eq_false_iff]
  intro h2
  have := lexB_trans h h2
  rw [lexB_irr] at this; cases this
/-- not after, in steps -/
theorem lexB_le_trans {a b c : List Int} (hl : a.length = b.length) (h1 : lexB b a = false) (h2 : lexB c b = false) : lexB c a = false := by
  rw [Bool.eq_false_iff]
  intro h
  cases hab : lexB a b with
  | true => rw [lexB_trans h hab] at h2; cases h2
  | false =>
    have := lexB_total hl hab h1
    subst this
    rw [h] at h2; cases h2

/-! the sequences among which Replan chooses -/
def dayAt (old : List Tu) (i : Nat) : Option Int := (old[i]?).map Tu.day
/-- a choice of tasks that keep their old days -/
def FxOK (old : List Tu) (done n : Nat) (fx : Nat → Option Int) : Prop := ∀ i d, fx i = some d → done ≤ i ∧ i < n ∧ dayAt old i = some d
structure LSx (Y : Yd) (l : List Tk) (f : Int) (old : List Tu) (ds D : List Int) : Prop where
  len : D.length = l.length
  pre : ds <+: D
  at_ : ∀ i, ds.length ≤ i → i < l.length → (nextL Y l f (D.take i)).head? = some (D.getD i 0) ∨ (dayAt old i = some (D.getD i 0) ∧ D.getD i 0 ∈ nextL Y l f (D.take i))
theorem mem_nextL {Y : Yd} {l : List Tk} {f d : Int} {ds : List Int} (h : ds.length < l.length) : d ∈ nextL Y l f ds ↔ lowS Y.dry f l[ds.length].af ds ≤ d ∧ d < f + 400 ∧ suitB Y l[ds.length] ds.length d = true := by
  refine ⟨nextL_mem h, fun ⟨h1, h2, h3⟩ => ?_⟩
  rw [nextL_at h]
  exact mem_suitK h1 (by omega) h3
theorem head_mem {Y : Yd} {l : List Tk} {f d : Int} {ds : List Int} (h : (nextL Y l f ds).head? = some d) : d ∈ nextL Y l f ds := List.mem_of_mem_head? (by rw [h]; exact Option.mem_some_self d)
theorem stepE_fix {Y : Yd} {l : List Tk} {f d : Int} {fx : Nat → Option Int} {ds : List Int} (h : ds.length < l.length) (hf : fx ds.length = some d) : stepE Y l f fx ds = if lowS Y.dry f l[ds.length].af ds ≤ d ∧ d < f + 400 ∧ suitB Y l[ds.length] ds.length d = true then some d else none := by
  unfold stepE
  rw [hf, List.getElem?_eq_getElem h]
theorem stepE_free {Y : Yd} {l : List Tk} {f : Int} {fx : Nat → Option Int} {ds : List Int} (hf : fx ds.length = none) : stepE Y l f fx ds = (nextL Y l f ds).head? := by
  unfold stepE
  rw [hf]
theorem est_steps {Y : Yd} {l : List Tk} {f : Int} {fx : Nat → Option Int} : ∀ (m : Nat) (ds L : List Int), est Y l f fx m ds = some L → L.length = ds.length + m ∧ ds <+: L ∧ ∀ j, ds.length ≤ j → j < L.length → stepE Y l f fx (L.take j) = some (L.getD j 0)
  | 0, ds, L, h => by
    cases h
    exact ⟨rfl, List.prefix_refl _, fun j h1 h2 => absurd h2 (by omega)⟩
  | m + 1, ds, L, h => by
    change (match stepE Y l f fx ds with | some d => est Y l f fx m (ds ++ [d]) | none => none) = some L at h
    split at h
    · rename_i d hd
      obtain ⟨h0, h1, h2⟩ := est_steps m _ L h
      have hp : ds <+: L := (List.prefix_append _ _).trans h1
      refine ⟨by rw [h0]; simp; omega, hp, fun j hj hjl => ?_⟩
      by_cases e : j = ds.length
      · subst e
        have ht : L.take ds.length = ds := (List.prefix_iff_eq_take.1 hp).symm
        have hx : L.getD ds.length 0 = d := by
          obtain ⟨r, rfl⟩ := h1
          simp [List.getD_eq_getElem?_getD]
        rw [ht, hx]
        exact hd
      · exact h2 j (by simp; omega) hjl
    · cases h
theorem est_of {Y : Yd} {l : List Tk} {f : Int} {fx : Nat → Option Int} {L : List Int} : ∀ (m : Nat) (ds : List Int), L.length = ds.length + m → ds <+: L → (∀ j, ds.length ≤ j → j < L.length → stepE Y l f fx (L.take j) = some (L.getD j 0)) → est Y l f fx m ds = some L
  | 0, ds, h, hp, _ => by
    have : ds = L := hp.eq_of_length (by omega)
    subst this; rfl
  | m + 1, ds, h, hp, hs => by
    have ht : L.take ds.length = ds := (List.prefix_iff_eq_take.1 hp).symm
    have h1 := hs ds.length (Nat.le_refl _) (by omega)
    rw [ht] at h1
    have hk : ds.length < L.length := by omega
    have hp2 : ds ++ [L.getD ds.length 0] <+: L := by
      have e : ds ++ [L.getD ds.length 0] = L.take (ds.length + 1) := by
        rw [List.take_succ_eq_append_getElem hk, ht, List.getD_eq_getElem?_getD, List.getElem?_eq_getElem hk]; rfl
      rw [e]
      exact List.take_prefix _ _
    show (match stepE Y l f fx ds with | some d => est Y l f fx m (ds ++ [d]) | none => none) = some L
    rw [h1]
    exact est_of m _ (by simp; omega) hp2 (fun j hj hl => hs j (by simp at hj; omega) hl)

/-- what is kept of a sequence -/
def fxOf (old : List Tu) (done : Nat) (D : List Int) : Nat → Option Int := fun i => if done ≤ i ∧ i < D.length ∧ dayAt old i = some (D.getD i 0) then some (D.getD i 0) else none
theorem fxOf_ok (old : List Tu) (done : Nat) (D : List Int) : FxOK old done D.length (fxOf old done D) := fun i d h => by
  unfold fxOf at h
  split at h
  · rename_i hc; cases h; exact hc
  · cases h
section
variable {Y : Yd} {l : List Tk} {f : Int} {old : List Tu} {ds D : List Int}
theorem ls_of_est {fx : Nat → Option Int} (hd : ds.length ≤ l.length) (hf : FxOK old ds.length l.length fx) (h : est Y l f fx (l.length - ds.length) ds = some D) : LSx Y l f old ds D := by
  obtain ⟨h1, h2, h3⟩ := est_steps _ _ _ h
  refine ⟨by omega, h2, fun i hi hl => ?_⟩
  have h4 := h3 i hi (by omega)
  have hk : (D.take i).length = i := by rw [List.length_take]; omega
  cases hx : fx i with
  | none => rw [stepE_free (by rw [hk]; exact hx)] at h4; exact .inl h4
  | some d =>
    rw [stepE_fix (d := d) (by omega) (by rw [hk]; exact hx)] at h4
    split at h4
    · rename_i hc
      have e := Option.some.inj h4
      rw [← e]
      exact .inr ⟨(hf i d hx).2.2, (mem_nextL (by omega)).2 hc⟩
    · cases h4
theorem est_of_ls (hd : ds.length ≤ l.length) (h : LSx Y l f old ds D) : est Y l f (fxOf old ds.length D) (l.length - ds.length) ds = some D := by
  have hlen := h.len
  refine est_of _ _ (by omega) h.pre fun j hj hl => ?_
  have hk : (D.take j).length = j := by rw [List.length_take]; omega
  by_cases hc : dayAt old j = some (D.getD j 0)
  · have hx : fxOf old ds.length D j = some (D.getD j 0) := by unfold fxOf; rw [if_pos ⟨hj, hl, hc⟩]
    rw [stepE_fix (d := D.getD j 0) (by omega) (by rw [hk]; exact hx)]
    have hm : D.getD j 0 ∈ nextL Y l f (D.take j) := by
      rcases h.at_ j hj (by omega) with e | e
      · exact head_mem e
      · exact e.2
    rw [if_pos ((mem_nextL (by omega)).1 hm)]
  · have hx : fxOf old ds.length D j = none := by unfold fxOf; rw [if_neg (fun e => hc e.2.2)]
    rw [stepE_free (by rw [hk]; exact hx)]
    rcases h.at_ j hj (by omega) with e | e
    · exact e
    · exact absurd e.1 hc
end

/-! counting -/
def szK (fx : Nat → Option Int) : Nat → Int
  | 0 => 0
  | k + 1 => szK fx k + if (fx k).isSome = true then 1 else 0
def cntK (old : List Tu) (done : Nat) (D : List Int) : Nat → Int
  | 0 => 0
  | k + 1 => cntK old done D k + if done ≤ k ∧ dayAt old k ≠ some (D.getD k 0) then 1 else 0
/-- the number of tasks that change -/
def cntC (old : List Tu) (done : Nat) (D : List Int) : Int := cntK old done D D.length
theorem cnt_le {old : List Tu} {done : Nat} {D : List Int} {fx : Nat → Option Int} (h : ∀ i d, fx i = some d → done ≤ i ∧ dayAt old i = some (D.getD i 0)) : ∀ k, cntK old done D k + szK fx k ≤ if done ≤ k then ((k - done : Nat) : Int) else 0
  | 0 => by show (0 : Int) + 0 ≤ _; split <;> omega
  | k + 1 => by
    have ih := cnt_le h k
    show cntK old done D k + (if done ≤ k ∧ dayAt old k ≠ some (D.getD k 0) then 1 else 0) + (szK fx k + if (fx k).isSome = true then 1 else 0) ≤ _
    cases hx : fx k with
    | none =>
      by_cases hd : done ≤ k
      · rw [if_pos hd] at ih
        rw [if_pos (show done ≤ k + 1 by omega)]
        have : (if done ≤ k ∧ dayAt old k ≠ some (D.getD k 0) then (1 : Int) else 0) ≤ 1 := by split <;> omega
        simp only [Option.isSome_none, Bool.false_eq_true, if_false]
        omega
      · rw [if_neg hd] at ih
        rw [if_neg (fun e => hd e.1)]
        simp only [Option.isSome_none, Bool.false_eq_true, if_false]
        split <;> omega
    | some d =>
      obtain ⟨h1, h2⟩ := h k d hx
      rw [if_pos h1] at ih
      rw [if_neg (fun e => e.2 h2), if_pos (show done ≤ k + 1 by omega)]
      simp only [Option.isSome_some, if_true]
      omega
theorem cnt_eq {old : List Tu} {done : Nat} {D : List Int} : ∀ k, k ≤ D.length → cntK old done D k + szK (fxOf old done D) k = if done ≤ k then ((k - done : Nat) : Int) else 0
  | 0, _ => by show (0 : Int) + 0 = _; split <;> omega
  | k + 1, hk => by
    have ih := cnt_eq (old := old) (done := done) (D := D) k (by omega)
    show cntK old done D k + (if done ≤ k ∧ dayAt old k ≠ some (D.getD k 0) then 1 else 0) + (szK (fxOf old done D) k + if (fxOf old done D k).isSome = true then 1 else 0) = _
    by_cases hd : done ≤ k
    · rw [if_pos hd] at ih
      rw [if_pos (show done ≤ k + 1 by omega)]
      by_cases hc : dayAt old k = some (D.getD k 0)
      · rw [if_neg (fun e => e.2 hc)]
        have hx : fxOf old done D k = some (D.getD k 0) := by unfold fxOf; rw [if_pos ⟨hd, by omega, hc⟩]
        rw [hx]; simp only [Option.isSome_some, if_true]; omega
      · rw [if_pos ⟨hd, hc⟩]
        have hx : fxOf old done D k = none := by unfold fxOf; rw [if_neg (fun e => hc e.2.2)]
        rw [hx]; simp only [Option.isSome_none, Bool.false_eq_true, if_false]; omega
    · rw [if_neg hd] at ih
      rw [if_neg (fun e => hd e.1)]
      have hx : fxOf old done D k = none := by unfold fxOf; rw [if_neg (fun e => hd e.1)]
      rw [hx]; simp only [Option.isSome_none, Bool.false_eq_true, if_false]
      split <;> omega
theorem szK_nonneg (fx : Nat → Option Int) : ∀ k, 0 ≤ szK fx k
  | 0 => Int.le_refl _
  | k + 1 => by
    have := szK_nonneg fx k
    show 0 ≤ szK fx k + _
    split <;> omega
theorem szK_le (fx : Nat → Option Int) : ∀ k, szK fx k ≤ (k : Int)
  | 0 => Int.le_refl _
  | k + 1 => by
    have := szK_le fx k
    show szK fx k + _ ≤ _
    split <;> omega
theorem szK_same {fx fy : Nat → Option Int} : ∀ k, (∀ i, i < k → fx i = fy i) → szK fx k = szK fy k
  | 0, _ => rfl
  | k + 1, h => by
    show szK fx k + _ = szK fy k + _
    rw [szK_same k (fun i hi => h i (by omega)), h k (by omega)]

/-! the earliest of all sequences that go on with some days -/
theorem est_low {Y : Yd} {l : List Tk} {f : Int} {D : List Int} {fx : Nat → Option Int} (hlen : D.length = l.length) (hf : ∀ i d, fx i = some d → d = D.getD i 0) :
    ∀ (m : Nat) (P : List Int), P.length + m = l.length → (∀ j, j < P.length → P.getD j 0 ≤ D.getD j 0) → (∀ i, P.length ≤ i → ∀ h : i < l.length, lowS Y.dry f l[i].af (D.take i) ≤ D.getD i 0 ∧ D.getD i 0 < f + 400 ∧ suitB Y l[i] i (D.getD i 0) = true) →
    ∃ L, est Y l f fx m P = some L ∧ ∀ j, j < L.length → L.getD j 0 ≤ D.getD j 0
  | 0, P, _, h, _ => ⟨P, rfl, h⟩
  | m + 1, P, hn, h, hD => by
    have hk : P.length < l.length := by omega
    obtain ⟨h1, h2, h3⟩ := hD P.length (Nat.le_refl _) hk
    have hlow : lowS Y.dry f l[P.length].af P ≤ lowS Y.dry f l[P.length].af (D.take P.length) := by
      refine lowK_le (by rw [List.length_take, hlen]; omega) (fun j => ?_) _ (Nat.le_refl _)
      rw [getD_take]
      by_cases hj : j < P.length
      · rw [if_pos hj]; exact h j hj
      · rw [if_neg hj, List.getD_eq_getElem?_getD, List.getElem?_eq_none (by omega)]
        exact Int.le_refl _
    have hmem : D.getD P.length 0 ∈ nextL Y l f P := (mem_nextL hk).2 ⟨by omega, h2, h3⟩
    obtain ⟨x, hx, hle⟩ : ∃ x, stepE Y l f fx P = some x ∧ x ≤ D.getD P.length 0 := by
      cases hfx : fx P.length with
      | some d =>
        have e := hf _ _ hfx
        subst e
        exact ⟨_, by rw [stepE_fix hk hfx, if_pos ⟨by omega, h2, h3⟩], Int.le_refl _⟩
      | none =>
        rw [stepE_free hfx]
        cases hL : nextL Y l f P with
        | nil => rw [hL] at hmem; cases hmem
        | cons x xs =>
          refine ⟨x, rfl, ?_⟩
          rw [nextL_at hk] at hL hmem
          exact suitK_head (by rw [hL]; rfl) hmem
    obtain ⟨L, hL1, hL2⟩ := est_low hlen hf m (P ++ [x]) (by simp; omega) (fun j hj => by
      rw [List.length_append] at hj
      by_cases e : j < P.length
      · rw [List.getD_eq_getElem?_getD, List.getElem?_append_left e, ← List.getD_eq_getElem?_getD]; exact h j e
      · obtain rfl : j = P.length := by simp at hj; omega
        rw [List.getD_eq_getElem?_getD, List.getElem?_append_right (Nat.le_refl _)]
        simpa using hle) (fun i hi => hD i (by simp at hi; omega))
    refine ⟨L, ?_, hL2⟩
    show (match stepE Y l f fx P with | some d => est Y l f fx m (P ++ [d]) | none => none) = some L
    rw [hx]
    exact hL1
theorem ls_days {Y : Yd} {l : List Tk} {f : Int} {old : List Tu} {ds D : List Int} (h : LSx Y l f old ds D) : ∀ i, ds.length ≤ i → ∀ hi : i < l.length, lowS Y.dry f l[i].af (D.take i) ≤ D.getD i 0 ∧ D.getD i 0 < f + 400 ∧ suitB Y l[i] i (D.getD i 0) = true := by
  intro i hd hi
  have hlen := h.len
  have hk : (D.take i).length = i := by rw [List.length_take]; omega
  have hm : D.getD i 0 ∈ nextL Y l f (D.take i) := by
    rcases h.at_ i hd hi with e | e
    · exact head_mem e
    · exact e.2
  have := (mem_nextL (by omega)).1 hm
  simpa only [hk] using this
end Go.Proofs.Ytjgnikmnadmheaa

namespace Go.Proofs.Ytjgnikmnadmheaa
open Go.RowKit

def endL (D : List Int) : Int := D.getD (D.length - 1) 0
/-- the key that orders sequences: the end, the changes, the days -/
def key3 (old : List Tu) (done : Nat) (D : List Int) : List Int := endL D :: cntC old done D :: D
def betB (a b : List Int) : Bool := decide (b = []) || lexB a b
abbrev St2 := Int × List Int
def leafS (Y : Yd) (l : List Tk) (f : Int) (ds : List Int) (E : Int) (fx : Nat → Option Int) (s : St2) : St2 :=
  if szK fx l.length < s.1 then s else match est Y l f fx (l.length - ds.length) ds with
    | none => s
    | some D => if D ≠ [] ∧ endL D ≠ E then s else if s.1 < szK fx l.length ∨ betB D s.2 = true then (szK fx l.length, D) else s
def fput (fx : Nat → Option Int) (t : Nat) (d : Int) : Nat → Option Int := fun i => if i = t then some d else fx i
def visit (Y : Yd) (l : List Tk) (f : Int) (old : List Tu) (ds : List Int) (E : Int) : Nat → (Nat → Option Int) → St2 → St2
  | 0, fx, s => leafS Y l f ds E fx s
  | m + 1, fx, s => visit Y l f old ds E m fx (match dayAt old (l.length - (m + 1)) with
    | some d => visit Y l f old ds E m (fput fx (l.length - (m + 1)) d) s
    | none => s)
/-- a state that is at least as good -/
def leS (a b : St2) : Prop := b.1 < a.1 ∨ (b.1 = a.1 ∧ b.2.length = a.2.length ∧ lexB b.2 a.2 = false)
theorem leS_refl (a : St2) : leS a a := .inr ⟨rfl, rfl, lexB_irr _⟩
theorem leS_trans {a b c : St2} (h1 : leS a b) (h2 : leS b c) : leS a c := by
  rcases h1 with h1 | ⟨h1, h3, h5⟩ <;> rcases h2 with h2 | ⟨h2, h4, h6⟩
  · left; omega
  · left; omega
  · left; omega
  · exact .inr ⟨by omega, by omega, lexB_le_trans h3.symm h5 h6⟩
def SOK (n : Nat) (s : St2) : Prop := s = (-1, []) ∨ (0 ≤ s.1 ∧ s.2.length = n)
def GoodS (Y : Yd) (l : List Tk) (f : Int) (ds : List Int) (E : Int) (fx : Nat → Option Int) (D : List Int) : Prop := est Y l f fx (l.length - ds.length) ds = some D ∧ (D ≠ [] → endL D = E)
section
variable {Y : Yd} {l : List Tk} {f : Int} {old : List Tu} {ds : List Int} {E : Int}
theorem est_length {fx : Nat → Option Int} {D : List Int} (hd : ds.length ≤ l.length) (h : est Y l f fx (l.length - ds.length) ds = some D) : D.length = l.length := by
  have := (est_steps _ _ _ h).1
  omega
theorem leafS_spec {fx : Nat → Option Int} {s : St2} (hd : ds.length ≤ l.length) (hs : SOK l.length s) :
    SOK l.length (leafS Y l f ds E fx s) ∧ leS (leafS Y l f ds E fx s) s ∧ (∀ D, GoodS Y l f ds E fx D → leS (leafS Y l f ds E fx s) (szK fx l.length, D)) ∧ (leafS Y l f ds E fx s = s ∨ ∃ D, GoodS Y l f ds E fx D ∧ leafS Y l f ds E fx s = (szK fx l.length, D)) := by
  unfold leafS
  by_cases h1 : szK fx l.length < s.1
  · rw [if_pos h1]
    exact ⟨hs, leS_refl _, fun D _ => .inl h1, .inl rfl⟩
  rw [if_neg h1]
  cases he : est Y l f fx (l.length - ds.length) ds with
  | none => exact ⟨hs, leS_refl _, fun D hD => (by rw [hD.1] at he; cases he), .inl rfl⟩
  | some D =>
    have hl := est_length hd he
    dsimp only
    by_cases h2 : D ≠ [] ∧ endL D ≠ E
    · rw [if_pos h2]
      refine ⟨hs, leS_refl _, fun D' hD => ?_, .inl rfl⟩
      have e := hD.1
      rw [he] at e
      cases e
      exact absurd (hD.2 h2.1) h2.2
    rw [if_neg h2]
    have hg : GoodS Y l f ds E fx D := ⟨he, fun h => Classical.byContradiction fun hn => h2 ⟨h, hn⟩⟩
    have hz := szK_nonneg fx l.length
    by_cases h3 : s.1 < szK fx l.length ∨ betB D s.2 = true
    · rw [if_pos h3]
      refine ⟨.inr ⟨hz, hl⟩, ?_, fun D' hD => ?_, .inr ⟨D, hg, rfl⟩⟩
      · by_cases h4 : s.1 < szK fx l.length
        · exact .inl h4
        · have h5 : betB D s.2 = true := h3.resolve_left h4
          have h6 : s.1 = szK fx l.length := by omega
          have h7 : s.2.length = l.length := by
            rcases hs with e | e
            · rw [e] at h6; simp at h6; omega
            · exact e.2
          refine .inr ⟨h6, by simp only; omega, ?_⟩
          unfold betB at h5
          rw [Bool.or_eq_true, decide_eq_true_eq] at h5
          rcases h5 with h5 | h5
          · have : D = [] := by
              rw [h5] at h7
              exact List.length_eq_zero_iff.1 (by rw [hl, ← h7]; rfl)
            simp only
            rw [h5, this]; rfl
          · exact lexB_asym h5
      · have e := hD.1
        rw [he] at e
        cases e
        exact leS_refl _
    · rw [if_neg h3]
      have h4 : ¬ s.1 < szK fx l.length := fun h => h3 (.inl h)
      have h5 : betB D s.2 = false := by rw [Bool.eq_false_iff]; exact fun h => h3 (.inr h)
      have h6 : s.1 = szK fx l.length := by omega
      have h7 : s.2.length = l.length := by
        rcases hs with e | e
        · rw [e] at h6; simp at h6; omega
        · exact e.2
      refine ⟨hs, leS_refl _, fun D' hD => ?_, .inl rfl⟩
      have e := hD.1
      rw [he] at e
      cases e
      unfold betB at h5
      rw [Bool.or_eq_false_iff] at h5
      exact .inr ⟨h6.symm, by simp only; omega, h5.2⟩
theorem visit_spec (hd : ds.length ≤ l.length) : ∀ (m : Nat) (fx : Nat → Option Int) (s : St2), m ≤ l.length - ds.length → FxOK old ds.length l.length fx → (∀ i, l.length - m ≤ i → fx i = none) → SOK l.length s →
    SOK l.length (visit Y l f old ds E m fx s) ∧ leS (visit Y l f old ds E m fx s) s
    ∧ (∀ fx' D, FxOK old ds.length l.length fx' → (∀ i, i < l.length - m → fx' i = fx i) → GoodS Y l f ds E fx' D → leS (visit Y l f old ds E m fx s) (szK fx' l.length, D))
    ∧ (visit Y l f old ds E m fx s = s ∨ ∃ fx' D, FxOK old ds.length l.length fx' ∧ GoodS Y l f ds E fx' D ∧ visit Y l f old ds E m fx s = (szK fx' l.length, D))
  | 0, fx, s, _, hf, hn, hs => by
    obtain ⟨h1, h2, h3, h4⟩ := leafS_spec (Y := Y) (f := f) (E := E) (fx := fx) hd hs
    refine ⟨h1, h2, fun fx' D hf' he hg => ?_, h4.imp id fun ⟨D, a, b⟩ => ⟨fx, D, hf, a, b⟩⟩
    have e : fx' = fx := funext fun i => by
      by_cases hi : i < l.length
      · exact he i (by omega)
      · cases hx : fx' i with
        | none => exact (hn i (by omega)).symm
        | some d => exact absurd (hf' i d hx).2.1 hi
    rw [e] at hg ⊢
    exact h3 D hg
  | m + 1, fx, s, hm, hf, hn, hs => by
    have ht : l.length - (m + 1) < l.length := by omega
    have hn1 : ∀ i, l.length - m ≤ i → fx i = none := fun i hi => hn i (by omega)
    show SOK l.length (visit Y l f old ds E m fx _) ∧ leS (visit Y l f old ds E m fx _) s ∧ (∀ fx' D, _ → _ → _ → leS (visit Y l f old ds E m fx _) _) ∧ (visit Y l f old ds E m fx _ = s ∨ ∃ fx' D, _ ∧ _ ∧ visit Y l f old ds E m fx _ = _)
    cases hq : dayAt old (l.length - (m + 1)) with
    | none =>
      dsimp only
      obtain ⟨h1, h2, h3, h4⟩ := visit_spec hd m fx s (by omega) hf hn1 hs
      refine ⟨h1, h2, fun fx' D hf' he hg => h3 fx' D hf' (fun i hi => ?_) hg, h4⟩
      by_cases e : i = l.length - (m + 1)
      · subst e
        rw [hn _ (Nat.le_refl _)]
        cases hx : fx' (l.length - (m + 1)) with
        | none => rfl
        | some d => have := (hf' _ d hx).2.2; rw [hq] at this; cases this
      · exact he i (by omega)
    | some d =>
      dsimp only
      have hfp : FxOK old ds.length l.length (fput fx (l.length - (m + 1)) d) := fun i x hx => by
        unfold fput at hx
        by_cases e : i = l.length - (m + 1)
        · rw [if_pos e] at hx
          cases hx
          subst e
          exact ⟨by omega, ht, hq⟩
        · rw [if_neg e] at hx; exact hf i x hx
      have hnp : ∀ i, l.length - m ≤ i → fput fx (l.length - (m + 1)) d i = none := fun i hi => by
        unfold fput
        rw [if_neg (by omega)]
        exact hn1 i hi
      obtain ⟨g1, g2, g3, g4⟩ := visit_spec hd m (fput fx (l.length - (m + 1)) d) s (by omega) hfp hnp hs
      obtain ⟨h1, h2, h3, h4⟩ := visit_spec hd m fx _ (by omega) hf hn1 g1
      refine ⟨h1, leS_trans h2 g2, fun fx' D hf' he hg => ?_, ?_⟩
      · cases hx : fx' (l.length - (m + 1)) with
        | none =>
          refine h3 fx' D hf' (fun i hi => ?_) hg
          by_cases e : i = l.length - (m + 1)
          · subst e; rw [hx, hn _ (Nat.le_refl _)]
          · exact he i (by omega)
        | some d' =>
          have hd' := (hf' _ d' hx).2.2
          rw [hq] at hd'
          cases hd'
          refine leS_trans h2 (g3 fx' D hf' (fun i hi => ?_) hg)
          unfold fput
          by_cases e : i = l.length - (m + 1)
          · rw [if_pos e, e, hx]
          · rw [if_neg e]; exact he i (by omega)
      · rcases h4 with h4 | h4
        · rcases g4 with g4 | g4
          · left; rw [h4, g4]
          · right; obtain ⟨fx', D, a, b, c⟩ := g4; exact ⟨fx', D, a, b, by rw [h4, c]⟩
        · exact .inr h4
end

/-! the result of Replan's search -/
def noFx : Nat → Option Int := fun _ => none
def rplS (Y : Yd) (l : List Tk) (f : Int) (old : List Tu) (ds : List Int) (L : List Int) : St2 := visit Y l f old ds (endL L) (l.length - ds.length) noFx (-1, [])
def rplD (Y : Yd) (l : List Tk) (f : Int) (old : List Tu) (ds : List Int) : Option (List Int) := match est Y l f noFx (l.length - ds.length) ds with
  | none => none
  | some L => some (rplS Y l f old ds L).2
theorem noFx_ok (old : List Tu) (done n : Nat) : FxOK old done n noFx := fun i d h => by cases h
theorem szK_none (k : Nat) : szK noFx k = 0 := by
  induction k with
  | zero => rfl
  | succ k ih => show szK noFx k + _ = 0; rw [ih]; rfl
section
variable {Y : Yd} {l : List Tk} {f : Int} {old : List Tu} {ds : List Int}
theorem getD_pre {D : List Int} (h : ds <+: D) (j : Nat) (hj : j < ds.length) : ds.getD j 0 = D.getD j 0 := by
  obtain ⟨r, rfl⟩ := h
  rw [List.getD_eq_getElem?_getD, List.getD_eq_getElem?_getD, List.getElem?_append_left hj]
/-- no sequence ends ahead of the least one -/
theorem end_least {D L : List Int} (hd : ds.length ≤ l.length) (hD : LSx Y l f old ds D) (hL : est Y l f noFx (l.length - ds.length) ds = some L) : endL L ≤ endL D := by
  have hlen := hD.len
  obtain ⟨L', h1, h2⟩ := est_low (fx := noFx) (Y := Y) (f := f) hlen (fun i d h => by cases h) (l.length - ds.length) ds (by omega) (fun j hj => by rw [getD_pre hD.pre j hj]; exact Int.le_refl _) (ls_days hD)
  rw [hL] at h1
  cases h1
  have hl := est_length hd hL
  unfold endL
  rw [hlen, hl]
  by_cases h0 : l.length = 0
  · rw [List.getD_eq_getElem?_getD, List.getD_eq_getElem?_getD, List.getElem?_eq_none (by omega), List.getElem?_eq_none (by omega)]
    exact Int.le_refl _
  · exact h2 _ (by omega)
theorem cnt_kept {D : List Int} (hd : ds.length ≤ l.length) (hl : D.length = l.length) : cntC old ds.length D + szK (fxOf old ds.length D) l.length = ((l.length - ds.length : Nat) : Int) := by
  have := cnt_eq (old := old) (done := ds.length) (D := D) D.length (Nat.le_refl _)
  rw [hl, if_pos hd] at this
  unfold cntC
  rw [hl]
  exact this
theorem cnt_fx {D : List Int} {fx : Nat → Option Int} (hd : ds.length ≤ l.length) (hf : FxOK old ds.length l.length fx) (h : est Y l f fx (l.length - ds.length) ds = some D) : cntC old ds.length D + szK fx l.length ≤ ((l.length - ds.length : Nat) : Int) := by
  have hl := est_length hd h
  have hst := (est_steps _ _ _ h).2.2
  have := cnt_le (old := old) (done := ds.length) (D := D) (fx := fx) (fun i d hx => by
    obtain ⟨h1, h2, h3⟩ := hf i d hx
    refine ⟨h1, ?_⟩
    have h4 := hst i h1 (by omega)
    have hk : (D.take i).length = i := by rw [List.length_take]; omega
    rw [stepE_fix (d := d) (by omega) (by rw [hk]; exact hx)] at h4
    split at h4
    · rw [h3, ← Option.some.inj h4]
    · cases h4) l.length
  rw [if_pos hd] at this
  unfold cntC
  rw [hl]
  exact this
/-- what the search finds is the best of all sequences -/
theorem rpl_opt {P : List Int} (hd : ds.length ≤ l.length) (h : rplD Y l f old ds = some P) : LSx Y l f old ds P ∧ ∀ D, LSx Y l f old ds D → lexB (key3 old ds.length D) (key3 old ds.length P) = false := by
  unfold rplD at h
  cases hL : est Y l f noFx (l.length - ds.length) ds with
  | none => rw [hL] at h; cases h
  | some L =>
    rw [hL] at h
    cases h
    obtain ⟨_, _, h3, h4⟩ := visit_spec (Y := Y) (f := f) (old := old) (E := endL L) hd (l.length - ds.length) noFx (-1, []) (Nat.le_refl _) (noFx_ok _ _ _) (fun _ _ => rfl) (.inl rfl)
    change (∀ fx' D, _ → _ → _ → leS (rplS Y l f old ds L) _) at h3
    change (rplS Y l f old ds L = _ ∨ ∃ fx' D, _ ∧ _ ∧ rplS Y l f old ds L = _) at h4
    have hsc : ∀ fx' : Nat → Option Int, FxOK old ds.length l.length fx' → ∀ i, i < l.length - (l.length - ds.length) → fx' i = noFx i := fun fx' hf i hi => by
      cases hx : fx' i with
      | none => rfl
      | some d => have := (hf i d hx).1; omega
    have hgl : GoodS Y l f ds (endL L) noFx L := ⟨hL, fun _ => rfl⟩
    have hlow := h3 noFx L (noFx_ok _ _ _) (fun i hi => rfl) hgl
    obtain ⟨fx, P, hf, hg, e⟩ : ∃ fx' D, FxOK old ds.length l.length fx' ∧ GoodS Y l f ds (endL L) fx' D ∧ rplS Y l f old ds L = (szK fx' l.length, D) := by
      rcases h4 with e | e
      · rw [e] at hlow
        rcases hlow with h | ⟨h, _⟩
        · simp only at h; rw [szK_none] at h; omega
        · simp only at h; rw [szK_none] at h; omega
      · exact e
    rw [e] at h3 ⊢
    have hP := ls_of_est hd hf hg.1
    have hPl := hP.len
    have hPe : endL P = endL L := by
      by_cases h0 : P = []
      · have : L = [] := List.length_eq_zero_iff.1 (by rw [est_length hd hL, ← hPl, h0]; rfl)
        rw [h0, this]
      · exact hg.2 h0
    have hPE := est_of_ls hd hP
    have hfP : FxOK old ds.length l.length (fxOf old ds.length P) := by have := fxOf_ok old ds.length P; rw [hPl] at this; exact this
    have k1 := h3 _ P hfP (hsc _ hfP) ⟨hPE, fun _ => hPe⟩
    have k2 := cnt_kept (old := old) hd hPl
    have k3 := cnt_fx hd hf hg.1
    have k4 : cntC old ds.length P = ((l.length - ds.length : Nat) : Int) - szK fx l.length := by
      rcases k1 with h | ⟨h, _⟩ <;> (simp only at h; omega)
    refine ⟨hP, fun D hD => ?_⟩
    show lexB (key3 old ds.length D) (key3 old ds.length P) = false
    rw [Bool.eq_false_iff]
    intro hlt
    have hDl := hD.len
    have hDe := end_least hd hD hL
    unfold key3 at hlt
    rw [lexB_cons, lexB_cons] at hlt
    have hDE := est_of_ls hd hD
    have hfD : FxOK old ds.length l.length (fxOf old ds.length D) := by have := fxOf_ok old ds.length D; rw [hDl] at this; exact this
    have k5 := cnt_kept (old := old) hd hDl
    rcases hlt with h | ⟨he, hlt⟩
    · omega
    · have k6 := h3 _ D hfD (hsc _ hfD) ⟨hDE, fun _ => by omega⟩
      rcases k6 with k6 | ⟨k6, _, k7⟩
      · simp only at k6
        rcases hlt with h | ⟨h, _⟩ <;> omega
      · simp only at k6 k7
        rcases hlt with h | ⟨h, h'⟩
        · omega
        · rw [h'] at k7; cases k7
theorem rpl_none (h : rplD Y l f old ds = none) : est Y l f noFx (l.length - ds.length) ds = none := by
  unfold rplD at h
  cases hL : est Y l f noFx (l.length - ds.length) ds with
  | none => rfl
  | some L => rw [hL] at h; cases h
end

/-! the reference -/
def refB (Y : Yd) (l : List Tk) (f : Int) (old : List Tu) (done : Nat) : Nat → List Int → Option (List Int)
  | 0, ds => some ds
  | m + 1, ds => match (nextL Y l f ds).head? with
    | none => none
    | some d => match dayAt old ds.length with
      | none => refB Y l f old done m (ds ++ [d])
      | some o => if d < o ∧ o ∈ nextL Y l f ds then (match refB Y l f old done m (ds ++ [o]) with
          | none => refB Y l f old done m (ds ++ [d])
          | some b => match refB Y l f old done m (ds ++ [d]) with
            | none => some b
            | some a => if lexB (key3 old done b) (key3 old done a) = true then some b else some a)
        else refB Y l f old done m (ds ++ [d])
section
variable {Y : Yd} {l : List Tk} {f : Int} {old : List Tu} {ds : List Int}
theorem ls_cons {d : Int} {D : List Int} (h0 : ds.length < l.length) (h : LSx Y l f old (ds ++ [d]) D) (hd : (nextL Y l f ds).head? = some d ∨ (dayAt old ds.length = some d ∧ d ∈ nextL Y l f ds)) : LSx Y l f old ds D := by
  have hp : ds <+: D := (List.prefix_append _ _).trans h.pre
  refine ⟨h.len, hp, fun i hi hl => ?_⟩
  by_cases e : i = ds.length
  · subst e
    have ht : D.take ds.length = ds := (List.prefix_iff_eq_take.1 hp).symm
    have hx : D.getD ds.length 0 = d := by
      obtain ⟨r, e⟩ := h.pre
      rw [← e]
      simp [List.getD_eq_getElem?_getD]
    rw [ht, hx]
    exact hd
  · exact h.at_ i (by simp; omega) hl
theorem ls_next {D : List Int} (h0 : ds.length < l.length) (h : LSx Y l f old ds D) : LSx Y l f old (ds ++ [D.getD ds.length 0]) D ∧ ((nextL Y l f ds).head? = some (D.getD ds.length 0) ∨ (dayAt old ds.length = some (D.getD ds.length 0) ∧ D.getD ds.length 0 ∈ nextL Y l f ds)) := by
  have hlen := h.len
  have ht : D.take ds.length = ds := (List.prefix_iff_eq_take.1 h.pre).symm
  have hk : ds.length < D.length := by omega
  have hp : ds ++ [D.getD ds.length 0] <+: D := by
    have e : ds ++ [D.getD ds.length 0] = D.take (ds.length + 1) := by
      rw [List.take_succ_eq_append_getElem hk, ht, List.getD_eq_getElem?_getD, List.getElem?_eq_getElem hk]; rfl
    rw [e]
    exact List.take_prefix _ _
  have h1 := h.at_ ds.length (Nat.le_refl _) h0
  rw [ht] at h1
  exact ⟨⟨hlen, hp, fun i hi hl => h.at_ i (by simp at hi; omega) hl⟩, h1⟩
theorem key3_len {done : Nat} {a b : List Int} (h : a.length = b.length) : (key3 old done a).length = (key3 old done b).length := by unfold key3; simp [h]
theorem ref_opt (done : Nat) : ∀ (m : Nat) (ds : List Int), ds.length + m = l.length → match refB Y l f old done m ds with
    | none => ∀ D, ¬ LSx Y l f old ds D
    | some R => LSx Y l f old ds R ∧ ∀ D, LSx Y l f old ds D → lexB (key3 old done D) (key3 old done R) = false
  | 0, ds, h => by
    show LSx Y l f old ds ds ∧ ∀ D, LSx Y l f old ds D → lexB (key3 old done D) (key3 old done ds) = false
    refine ⟨⟨by omega, List.prefix_refl _, fun i hi hl => by omega⟩, fun D hD => ?_⟩
    have : ds = D := hD.pre.eq_of_length (by have := hD.len; omega)
    rw [this]; exact lexB_irr _
  | m + 1, ds, h => by
    have h0 : ds.length < l.length := by omega
    unfold refB
    cases hh : (nextL Y l f ds).head? with
    | none =>
      dsimp only
      intro D hD
      obtain ⟨_, h1 | h1⟩ := ls_next h0 hD
      · rw [hh] at h1; cases h1
      · have h2 := h1.2
        cases hL : nextL Y l f ds with
        | nil => rw [hL] at h2; cases h2
        | cons x xs => rw [hL] at hh; cases hh
    | some d =>
      dsimp only
      have ia := ref_opt done m (ds ++ [d]) (by simp; omega)
      have hmin : ∀ o, o ∈ nextL Y l f ds → d ≤ o := fun o ho => by
        rw [nextL_at h0] at hh ho
        exact suitK_head hh ho
      -- only the first way is open
      have only : (∀ o, dayAt old ds.length = some o → ¬ (d < o ∧ o ∈ nextL Y l f ds)) → match refB Y l f old done m (ds ++ [d]) with
          | none => ∀ D, ¬ LSx Y l f old ds D
          | some R => LSx Y l f old ds R ∧ ∀ D, LSx Y l f old ds D → lexB (key3 old done D) (key3 old done R) = false := by
        intro hno
        have hall : ∀ D, LSx Y l f old ds D → LSx Y l f old (ds ++ [d]) D := fun D hD => by
          obtain ⟨h2, h1 | h1⟩ := ls_next h0 hD
          · rw [hh] at h1; rw [← Option.some.inj h1] at h2; exact h2
          · have h3 := hno _ h1.1
            have h4 := hmin _ h1.2
            have : D.getD ds.length 0 = d := by
              by_cases e : d < D.getD ds.length 0
              · exact absurd ⟨e, h1.2⟩ h3
              · omega
            rw [this] at h2; exact h2
        cases hr : refB Y l f old done m (ds ++ [d]) with
        | none => rw [hr] at ia; exact fun D hD => ia D (hall D hD)
        | some R => rw [hr] at ia; exact ⟨ls_cons h0 ia.1 (.inl hh), fun D hD => ia.2 D (hall D hD)⟩
      cases ho : dayAt old ds.length with
      | none => exact only (fun o e => by rw [ho] at e; cases e)
      | some o =>
        dsimp only
        by_cases hc : d < o ∧ o ∈ nextL Y l f ds
        · rw [if_pos hc]
          have ib := ref_opt done m (ds ++ [o]) (by simp; omega)
          have hall : ∀ D, LSx Y l f old ds D → LSx Y l f old (ds ++ [d]) D ∨ LSx Y l f old (ds ++ [o]) D := fun D hD => by
            obtain ⟨h2, h1 | h1⟩ := ls_next h0 hD
            · rw [hh] at h1; rw [← Option.some.inj h1] at h2; exact .inl h2
            · have h3 := h1.1
              rw [ho] at h3
              rw [← Option.some.inj h3] at h2; exact .inr h2
          have wb : dayAt old ds.length = some o ∧ o ∈ nextL Y l f ds := ⟨ho, hc.2⟩
          cases hb : refB Y l f old done m (ds ++ [o]) with
          | none =>
            rw [hb] at ib
            dsimp only at ib ⊢
            cases ha : refB Y l f old done m (ds ++ [d]) with
            | none => rw [ha] at ia; exact fun D hD => (hall D hD).elim (ia D) (ib D)
            | some R => rw [ha] at ia; exact ⟨ls_cons h0 ia.1 (.inl hh), fun D hD => (hall D hD).elim (ia.2 D) (fun e => absurd e (ib D))⟩
          | some b =>
            rw [hb] at ib
            dsimp only at ib ⊢
            cases ha : refB Y l f old done m (ds ++ [d]) with
            | none => rw [ha] at ia; exact ⟨ls_cons h0 ib.1 (.inr wb), fun D hD => (hall D hD).elim (fun e => absurd e (ia D)) (ib.2 D)⟩
            | some a =>
              rw [ha] at ia
              dsimp only at ia ⊢
              have hab : (key3 old done a).length = (key3 old done b).length := key3_len (by rw [ia.1.len, ib.1.len])
              by_cases hx : lexB (key3 old done b) (key3 old done a) = true
              · rw [if_pos hx]
                refine ⟨ls_cons h0 ib.1 (.inr wb), fun D hD => (hall D hD).elim (fun e => ?_) (ib.2 D)⟩
                exact lexB_le_trans hab.symm (lexB_asym hx) (ia.2 D e)
              · rw [if_neg hx]
                refine ⟨ls_cons h0 ia.1 (.inl hh), fun D hD => (hall D hD).elim (ia.2 D) (fun e => ?_)⟩
                exact lexB_le_trans hab (Bool.eq_false_iff.2 hx) (ib.2 D e)
        · rw [if_neg hc]
          exact only (fun o' e => by rw [ho] at e; cases e; exact hc)
/-- the reference finds what the search finds -/
theorem ref_rpl (hd : ds.length ≤ l.length) : refB Y l f old ds.length (l.length - ds.length) ds = rplD Y l f old ds := by
  have h1 := ref_opt (Y := Y) (f := f) (old := old) ds.length (l.length - ds.length) ds (l := l) (by omega)
  cases hr : refB Y l f old ds.length (l.length - ds.length) ds with
  | none =>
    rw [hr] at h1
    cases hp : rplD Y l f old ds with
    | none => rfl
    | some P => exact absurd (rpl_opt hd hp).1 (h1 P)
  | some R =>
    rw [hr] at h1
    dsimp only at h1
    cases hp : rplD Y l f old ds with
    | none =>
      obtain ⟨L, hL, _⟩ := est_low (fx := noFx) (Y := Y) (f := f) h1.1.len (fun i d h => by cases h) (l.length - ds.length) ds (by omega) (fun j hj => by rw [getD_pre h1.1.pre j hj]; exact Int.le_refl _) (ls_days h1.1)
      rw [rpl_none hp] at hL; cases hL
    | some P =>
      obtain ⟨h2, h3⟩ := rpl_opt hd hp
      have e := lexB_total (key3_len (old := old) (done := ds.length) (by rw [h1.1.len, h2.len])) (h3 R h1.1) (h1.2 P h2)
      unfold key3 at e
      injection e with _ e
      injection e with _ e
      rw [e]
end
end Go.Proofs.Ytjgnikmnadmheaa

namespace Go.Proofs.Ytjgnikmnadmheaa
open Go.RowKit

def cmpI (x y : Int) : Int := if x < y then -1 else if y < x then 1 else 0
set_option maxHeartbeats 400000 in
theorem nan_any (x : Int) (w : World) : Calls Try.prog 129 #[.int .i64 x] w fun e w' => e = .returned (.bool false) ∧ w' = w := by
  go_enter Try.func129, Try.ntmps129
  go_wp2
  go_ret
  exact ⟨by simp, rfl⟩
set_option maxHeartbeats 400000 in
theorem cmpInt_any (x y : Int) (w : World) : Calls Try.prog 131 #[.int .i64 x, .int .i64 y] w fun e w' => e = .returned (.int .i64 (cmpI x y)) ∧ w' = w := by
  have HN := Lib.hid nan_any
  unfold cmpI
  by_cases h1 : x < y
  · rw [if_pos h1]
    go_enter Try.func131, Try.ntmps131
    go_wp2_with (go_at_call 129; refine (HN.out _ _).mono ?_; rintro e w1 ⟨rfl, rfl⟩)
    go_ret
    exact ⟨rfl, rfl⟩
  · rw [if_neg h1]
    by_cases h2 : y < x
    · rw [if_pos h2]
      go_enter Try.func131, Try.ntmps131
      go_wp2_with (go_at_call 129; refine (HN.out _ _).mono ?_; rintro e w1 ⟨rfl, rfl⟩)
      go_ret
      exact ⟨rfl, rfl⟩
    · rw [if_neg h2]
      go_enter Try.func131, Try.ntmps131
      go_wp2_with (go_at_call 129; refine (HN.out _ _).mono ?_; rintro e w1 ⟨rfl, rfl⟩)
      go_ret
      exact ⟨rfl, rfl⟩
theorem lexB_at {a b : List Int} {k : Nat} (ha : k < a.length) (hb : k < b.length) : lexB (a.drop k) (b.drop k) = (decide (a[k] < b[k]) || (decide (a[k] = b[k]) && lexB (a.drop (k + 1)) (b.drop (k + 1)))) := by
  rw [List.drop_eq_getElem_cons ha, List.drop_eq_getElem_cons hb]; rfl
set_option maxRecDepth 100000 in
set_option maxHeartbeats 1000000 in
theorem compare_any (a b : List Int) (A B : Option Addr) (c d : Nat) (w : World) (hA : Lies w w.heap.size A (ints a)) (hB : Lies w w.heap.size B (ints b)) (hl : a.length = b.length) (hn : a.length ≤ 1000) :
    Calls Try.prog 119 #[.slice A a.length c, .slice B b.length d] w fun e w' => ∃ n : Int, e = .returned (.int .i64 n) ∧ decide (n < 0) = lexB a b ∧ Below w.heap.size w w' := by
  have HC := Lib.hid cmpInt_any
  have HAW := Lib.hid (fun W (hb : Below w.heap.size w W) => hA.below hb (Nat.le_refl _))
  have HBW := Lib.hid (fun W (hb : Below w.heap.size w W) => hB.below hb (Nat.le_refl _))
  have hl1 : a.length ≤ b.length := by omega
  have hl2 : b.length ≤ a.length := by omega
  have hl3 : ¬ (a.length : Int) < (b.length : Int) := by omega
  have HS : Hid (lexB (a.drop 0) (b.drop 0) = lexB a b) := rfl
  clear hA hB hl
  go_enter Try.func119, Try.ntmps119
  go_wp2
  go_loopw [11] (fun y wr => ∃ k : Nat, k ≤ a.length ∧ y = .int .i64 (k : Int) ∧ Hid (lexB (a.drop k) (b.drop k) = lexB a b) ∧ Below w.heap.size w wr) (fun y _ => a.length - (intOf y).toNat)
  case atStart => exact ⟨0, Nat.zero_le _, rfl, HS, Below.refl _ _⟩
  case round =>
  clear HS
  obtain ⟨k, hk, rfl, HK, hbw⟩ := hrel
  by_cases hlt : k < a.length
  · have hlt2 : k < b.length := by omega
    have hkI : (k : Int) < (a.length : Int) := by omega
    have hkJ : (k : Int) < (b.length : Int) := by omega
    have hkN : ¬ (b.length : Int) ≤ (k : Int) := by omega
    have hk0 : 0 ≤ (k : Int) := by omega
    obtain ⟨a1, rfl, _, t0⟩ := int_at (HAW.out wr hbw) hlt
    obtain ⟨a2, rfl, _, s0⟩ := int_at (HBW.out wr hbw) hlt2
    have HL := Lib.hid (lexB_at hlt hlt2)
    generalize a[k] = x at *
    generalize b[k] = y at *
    by_cases h1 : x < y
    · have hc : Hid (cmpI x y = -1) := by show _ = _; unfold cmpI; rw [if_pos h1]
      have hr : Hid (lexB a b = true) := by show _ = _; rw [← HK.out, HL.out]; simp [h1]
      clear h1
      go_wp2_with (go_at_call 131; refine (HC.out _ _ _).mono ?_; rintro e w1 ⟨rfl, rfl⟩; rw [hc.out])
      go_ret
      exact ⟨_, rfl, by rw [hr.out]; rfl, hbw⟩
    · by_cases h2 : y < x
      · have hc : Hid (cmpI x y = 1) := by show _ = _; unfold cmpI; rw [if_neg h1, if_pos h2]
        have hr : Hid (lexB a b = false) := by show _ = _; rw [← HK.out, HL.out, decide_eq_false h1, decide_eq_false (show ¬ x = y by omega)]; rfl
        clear h1 h2
        go_wp2_with (go_at_call 131; refine (HC.out _ _ _).mono ?_; rintro e w1 ⟨rfl, rfl⟩; rw [hc.out])
        go_ret
        exact ⟨_, rfl, by rw [hr.out]; rfl, hbw⟩
      · have hc : Hid (cmpI x y = 0) := by show _ = _; unfold cmpI; rw [if_neg h1, if_neg h2]
        have hr : Hid (lexB (a.drop (k + 1)) (b.drop (k + 1)) = lexB a b) := by show _ = _; rw [← HK.out, HL.out, decide_eq_false h1, decide_eq_true (show x = y by omega)]; simp
        clear h1 h2
        go_wp2_with (go_at_call 131; refine (HC.out _ _ _).mono ?_; rintro e w1 ⟨rfl, rfl⟩; rw [hc.out])
        go_roundw
        case rel => exact ⟨k + 1, by omega, by go_num, hr, hbw⟩
        case measure => simp [intOf] <;> omega
  · obtain rfl : k = a.length := by omega
    have hr : Hid (lexB a b = false) := by
      show _ = _
      rw [← HK.out, List.drop_length, List.drop_eq_nil_of_le hl2]; rfl
    go_wp2
    go_ret
    exact ⟨_, rfl, by rw [hr.out]; rfl, hbw⟩
set_option maxRecDepth 100000 in
set_option maxHeartbeats 1000000 in
theorem better_any (a b : List Int) (A B : Option Addr) (c d : Nat) (w : World) (hA : Lies w w.heap.size A (ints a)) (hB : Lies w w.heap.size B (ints b)) (hl : b ≠ [] → a.length = b.length) (hn : a.length ≤ 1000) :
    Calls Try.prog 88 #[.slice A a.length c, .slice B b.length d] w (ShEnd (betB a b) w) := by
  by_cases hb : b = []
  · have hr : Hid (betB a b = true) := by show _ = _; unfold betB; rw [decide_eq_true hb]; rfl
    subst hb
    clear hA hB hl hn
    go_enter Try.func88, Try.ntmps88
    go_wp2
    go_ret
    exact sh_ret hr.out.symm (Below.refl _ _)
  · have hl' := hl hb
    have HC := Lib.hid (compare_any a b A B c d w hA hB hl' hn)
    have hr : Hid (betB a b = lexB a b) := by show _ = _; unfold betB; rw [decide_eq_false hb]; rfl
    have hb0 : ((b.length : Int) == 0) = false := by
      rw [beq_eq_false_iff_ne]
      intro e
      exact hb (List.length_eq_zero_iff.1 (by omega))
    clear hA hB hl hn hb hl'
    generalize lexB a b = r at *
    go_enter Try.func88, Try.ntmps88
    go_wp2_with (go_at_call 119; refine HC.out.mono ?_; rintro e w1 ⟨n, rfl, hn, hb1⟩)
    go_ret
    exact sh_ret (by first | (rw [hr.out]; done) | (rw [hr.out]; exact hn)) hb1
end Go.Proofs.Ytjgnikmnadmheaa
