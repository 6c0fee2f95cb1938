/- giornataref07.Slack. Printed by wip/gen_w3.py. -/
import Derived.Test.YtjgnikmnadmheaaG02
import Derived.Test.YtjgnikmnadmheaaG37
import Derived.Test.YtjgnikmnadmheaaG38

namespace Go.Proofs.Ytjgnikmnadmheaa
open Go.RowKit

theorem slk_bad {Y : Yd} {l : List Tk} {f : Int} (h : earE Y l f ≠ 0) : slk Y l f = [] := by
  unfold slk
  by_cases hb : begE Y l f = 0
  · rw [if_pos hb]
    cases he : earD Y l f with
    | none => rfl
    | some ds => exact absurd (earP_some hb he).2 h
  · rw [if_neg hb]
theorem slk_good {Y : Yd} {l : List Tk} {f : Int} (h : earE Y l f = 0) : begE Y l f = 0 ∧ ∃ ds, earD Y l f = some ds ∧ slk Y l f = slkL Y l ds ∧ earP Y l f = usual Y l [] ds := by
  by_cases hb : begE Y l f = 0
  · cases he : earD Y l f with
    | none => rw [(earP_none hb he).2] at h; cases h
    | some ds =>
      refine ⟨hb, ds, rfl, ?_, (earP_some hb he).1⟩
      unfold slk
      rw [if_pos hb, he]
  · rw [(earP_bad hb).2] at h; exact absurd h hb
theorem endP_usual {Y : Yd} {l : List Tk} {ds : List Int} (hl : ds.length = l.length) (h0 : 0 < l.length) : endP (usual Y l [] ds) = ds.getD (l.length - 1) 0 := by
  have hu := usual_len Y l [] ds (Nat.zero_le _)
  have hd := usual_day Y l ds (by omega)
  unfold endP
  rw [dif_neg (by omega)]
  have : ((usual Y l [] ds).map Tu.day)[(usual Y l [] ds).length - 1]? = ds[(usual Y l [] ds).length - 1]? := by rw [hd]
  rw [List.getElem?_map, List.getElem?_eq_getElem (by omega)] at this
  rw [List.getD_eq_getElem?_getD, ← hl, ← hu, ← this]
  rfl
/-- a row whose first i1 entries are still open -/
def opL (Z T : List Int) (i1 : Nat) : List Int := Z.take i1 ++ T
theorem opL_len {Z T : List Int} {i1 : Nat} (h : i1 ≤ Z.length) : (opL Z T i1).length = i1 + T.length := by unfold opL; simp; omega
theorem opL_at {Z T : List Int} {i1 k : Nat} (h : i1 ≤ Z.length) (hk : k < T.length) : (opL Z T i1)[i1 + k]? = some (T.getD k 0) := by
  unfold opL
  rw [List.getElem?_append_right (by simp; omega)]
  rw [List.getD_eq_getElem?_getD]
  simp [Nat.min_eq_left h, List.getElem?_eq_getElem hk]
theorem opL_old {Z T : List Int} {i1 k : Nat} (h : i1 ≤ Z.length) (hk : k < i1) : (opL Z T i1)[k]? = some (Z.getD k 0) := by
  unfold opL
  rw [List.getElem?_append_left (by simp; omega), List.getElem?_take_of_lt hk, List.getD_eq_getElem?_getD, List.getElem?_eq_getElem (by omega)]
  rfl
theorem opL_set {Z T : List Int} {i : Nat} (h : i < Z.length) (x : Int) : (opL Z T (i + 1)).set i x = opL Z (x :: T) i := by
  unfold opL
  rw [List.take_succ_eq_append_getElem h, List.append_assoc, List.set_append_right _ _ (by simp; omega)]
  rw [show i - (Z.take i).length = 0 by simp; omega]
  rfl
theorem opL_cell {w : World} {g : Nat} {Z T : List Int} {i1 k : Nat} (h : Bk w g 3 (ints (opL Z T i1)).toArray) (h1 : i1 ≤ Z.length) (hk : k < T.length) : w.cell? ⟨g, i1 + k, none⟩ = some (.int .i64 (T.getD k 0)) := by
  refine h.cell _ ?_
  have := opL_at (Z := Z) h1 hk
  simp only [ints, List.getElem?_toArray, List.getElem?_map, this]
  rfl
theorem opL_put {w : World} {g : Nat} {Z T : List Int} {i : Nat} (h : Bk w g 3 (ints (opL Z T (i + 1))).toArray) (hi : i < Z.length) (x : Int) : Bk (w.setCell ⟨g, i, none⟩ (.int .i64 x)) g 3 (ints (opL Z (x :: T) i)).toArray := by
  have := bk_set h i x
  rw [opL_set hi] at this
  exact this
/-- a row whose first q entries are there -/
def fiL (L : List Int) (q : Nat) : List Int := L.take q ++ List.replicate (L.length - q) 0
theorem fiL_zero (L : List Int) : fiL L 0 = List.replicate L.length 0 := by unfold fiL; simp
theorem fiL_end (L : List Int) : fiL L L.length = L := by unfold fiL; simp
theorem fiL_len {L : List Int} {q : Nat} (h : q ≤ L.length) : (fiL L q).length = L.length := by unfold fiL; simp; omega
theorem fiL_set {L : List Int} {q : Nat} (h : q < L.length) : (fiL L q).set q (L.getD q 0) = fiL L (q + 1) := by
  unfold fiL
  obtain ⟨m, hm⟩ : ∃ m, L.length - q = m + 1 := ⟨L.length - q - 1, by omega⟩
  rw [hm, show L.length - (q + 1) = m by omega, List.take_succ_eq_append_getElem h, List.set_append_right _ _ (by simp; omega), List.append_assoc, List.getD_eq_getElem?_getD, List.getElem?_eq_getElem h]
  congr 1
  rw [show q - (L.take q).length = 0 by simp; omega]
  rfl
theorem bk_owns {w : World} {g : Nat} {L : List Int} (h : Bk w g 3 (ints L).toArray) {B : Nat} (hB : B ≤ g) (hn : L.length ≤ 1000) : w.ownsRow B 3 1 (.slice (some ⟨g, 0, none⟩) L.length L.length) L.length (ints L) :=
  ⟨by simp [ints], .inr ⟨g, L.length, (ints L).toArray, rfl, hB, h, Nat.le_refl _, by unfold maxLen; omega, by simp [ints], by rw [Nat.mul_one]; exact List.take_of_length_le (by simp [ints])⟩⟩
/-- going through a task's earlier ones -/
def gG (af : List Int) (x h X : Int) (q : Nat) : Int := if (af.take q).contains x = true then min h X else h
theorem gG_zero (af : List Int) (x h X : Int) : gG af x h X 0 = h := by unfold gG; simp
theorem gG_end (af : List Int) (x h X : Int) : gG af x h X af.length = if af.contains x = true then min h X else h := by unfold gG; rw [List.take_length]
theorem gG_yes {af : List Int} {x h X : Int} {q : Nat} (hq : q < af.length) (e : af[q] = x) : gG af x h X (q + 1) = min (gG af x h X q) X := by
  unfold gG
  have h1 : (af.take (q + 1)).contains x = true := by rw [List.contains_iff_mem, List.take_succ_eq_append_getElem hq, e]; simp
  rw [if_pos h1]
  split <;> omega
theorem gG_no {af : List Int} {x h X : Int} {q : Nat} (hq : q < af.length) (e : af[q] ≠ x) : gG af x h X (q + 1) = gG af x h X q := by
  unfold gG
  have h1 : (af.take (q + 1)).contains x = (af.take q).contains x := by
    rw [Bool.eq_iff_iff, List.contains_iff_mem, List.contains_iff_mem, List.take_succ_eq_append_getElem hq]
    simp only [List.mem_append, List.mem_singleton]
    exact ⟨fun h => h.resolve_right (fun e' => e e'.symm), Or.inl⟩
  rw [h1]
theorem gG_bd (af : List Int) (x h X : Int) (q : Nat) : min h X ≤ gG af x h X q ∧ gG af x h X q ≤ h := by unfold gG; split <;> omega
/-- all that the search of a task's latest day needs: a its earliest day, tv the later tasks' days, H the highest day by and by, X the latest day -/
structure Srch (Y : Yd) (l : List Tk) (f : Int) (i m : Nat) (a : Int) (tv H : Nat → Int) (X : Int) : Prop where
  step : ∀ k, k < m → H (k + 1) = if aftB l (i + 1 + k) i = true then min (H k) (tv k - Y.dry - 1) else H k
  bd : ∀ k, k ≤ m → a ≤ H k ∧ H k < f + 400
  suit : ∀ hi : i < l.length, suitB Y l[i] i a = true
  is : ∀ (hi : i < l.length) (d : Int), a ≤ d → d ≤ H m → suitB Y l[i] i d = true → (∀ e, d < e → e ≤ H m → suitB Y l[i] i e = false) → X = d
  tvb : ∀ k, k < m → 0 ≤ tv k ∧ tv k < 100400
theorem srch_tv {Y : Yd} {l : List Tk} {f : Int} {ds : List Int} (he : Early Y l f ds) (hf : 0 ≤ f ∧ f ≤ 100000) {i m : Nat} (hi : i + 1 + m = l.length) (k : Nat) (hk : k < m) : 0 ≤ (lateT Y l ds m).getD k 0 ∧ (lateT Y l ds m).getD k 0 < 100400 := by
  have h1 := lateT_bd he m (by omega) k hk
  have h2 := he.bd (l.length - m + k) (by omega)
  omega
theorem srch_last {Y : Yd} {l : List Tk} {f : Int} {ds : List Int} (he : Early Y l f ds) {i m : Nat} (hm : m = 0) (hi : i + 1 + m = l.length) : Srch Y l f i m (ds.getD i 0) (fun k => (lateT Y l ds m).getD k 0) (fun _ => ds.getD i 0) (lateX Y l ds i (lateT Y l ds m)) := by
  subst hm
  exact ⟨fun k hk => absurd hk (by omega), fun k _ => by have := he.bd i (by omega); omega, fun h => he.suit i h, fun hi' d h1 h2 _ _ => by
    have : d = ds.getD i 0 := Int.le_antisymm h2 h1
    rw [this]; exact lateX_nil hi', fun k hk => absurd hk (by omega)⟩
theorem srch_more {Y : Yd} {l : List Tk} {f : Int} {ds : List Int} (he : Early Y l f ds) (hf : 0 ≤ f ∧ f ≤ 100000) {i m : Nat} (hm : 0 < m) (hi : i + 1 + m = l.length) : Srch Y l f i m (ds.getD i 0) (fun k => (lateT Y l ds m).getD k 0) (hiK l Y.dry i (lateT Y l ds m)) (lateX Y l ds i (lateT Y l ds m)) := by
  have ht := srch_tv he hf hi
  obtain rfl : i = l.length - 1 - m := by omega
  refine ⟨fun k _ => rfl, fun k hk => hiK_fits he hm (by omega) hk, fun h => he.suit _ h, fun hi' d h1 h2 h3 h4 => ?_, ht⟩
  rw [lateX_at hi' (by rw [lateT_len]; exact hm), lateT_len]
  exact lastOr_is h1 h2 h3 h4
end Go.Proofs.Ytjgnikmnadmheaa

namespace Go.Proofs.Ytjgnikmnadmheaa
open Go.RowKit

theorem suitK_last {Y : Yd} {t : Tk} {i : Nat} {a y d : Int} {k : Nat} (hy : y ∈ suitK Y t i a k) : y ≤ lastOr (suitK Y t i a k) d := by
  have hp := suitK_pair Y t i a k
  unfold lastOr
  generalize suitK Y t i a k = L at *
  have hne : L ≠ [] := fun e => by rw [e] at hy; cases hy
  rw [List.getLast?_eq_some_getLast hne, Option.getD_some]
  obtain ⟨j, hj, rfl⟩ := List.mem_iff_getElem.1 hy
  rw [List.getLast_eq_getElem]
  by_cases e : j = L.length - 1
  · subst e; exact Int.le_refl _
  · have := List.pairwise_iff_getElem.1 hp j (L.length - 1) hj (by omega) (by omega)
    omega
theorem lateT_getD (Y : Yd) (l : List Tk) (ds : List Int) : ∀ (m q : Nat), q < m → (lateT Y l ds m).getD q 0 = lateX Y l ds (l.length - m + q) (lateT Y l ds (m - 1 - q)) ∨ l.length < m
  | 0, q, h => absurd h (by omega)
  | m + 1, 0, _ => by
    by_cases hm : l.length < m + 1
    · exact .inr hm
    · left
      show lateX Y l ds (l.length - 1 - m) (lateT Y l ds m) = _
      rw [show l.length - (m + 1) + 0 = l.length - 1 - m by omega, show m + 1 - 1 - 0 = m by omega]
  | m + 1, q + 1, h => by
    rcases lateT_getD Y l ds m q (by omega) with e | e
    · by_cases hm : l.length < m + 1
      · exact .inr hm
      · left
        show (lateT Y l ds m).getD q 0 = _
        rw [e, show l.length - (m + 1) + (q + 1) = l.length - m + q by omega, show m + 1 - 1 - (q + 1) = m - 1 - q by omega]
    · exact .inr (by omega)
/-- the latest day of task i -/
def lt (Y : Yd) (l : List Tk) (ds : List Int) (i : Nat) : Int := (lateT Y l ds l.length).getD i 0
theorem lateT_suffix (Y : Yd) (l : List Tk) (ds : List Int) : ∀ (m r q : Nat), (lateT Y l ds (m + r)).getD (r + q) 0 = (lateT Y l ds m).getD q 0
  | m, 0, q => by rw [Nat.zero_add, Nat.add_zero]
  | m, r + 1, q => by
    have := lateT_suffix Y l ds m r q
    rw [show m + (r + 1) = (m + r) + 1 by omega, show r + 1 + q = (r + q) + 1 by omega]
    exact this
theorem lt_eq {Y : Yd} {l : List Tk} {ds : List Int} {i : Nat} (hi : i < l.length) : lt Y l ds i = lateX Y l ds i (lateT Y l ds (l.length - 1 - i)) := by
  unfold lt
  have h := lateT_suffix Y l ds (l.length - i) i 0
  rw [show l.length - i + i = l.length by omega, Nat.add_zero] at h
  rw [h]
  obtain ⟨m, hm⟩ : ∃ m, l.length - i = m + 1 := ⟨l.length - i - 1, by omega⟩
  rw [hm, show l.length - 1 - i = m by omega]
  show lateX Y l ds (l.length - 1 - m) (lateT Y l ds m) = _
  rw [show l.length - 1 - m = i by omega]
theorem lt_tail {Y : Yd} {l : List Tk} {ds : List Int} {i q : Nat} (h : i + 1 + q < l.length) : (lateT Y l ds (l.length - 1 - i)).getD q 0 = lt Y l ds (i + 1 + q) := by
  unfold lt
  have := lateT_suffix Y l ds (l.length - 1 - i) (i + 1) q
  rw [show l.length - 1 - i + (i + 1) = l.length by omega] at this
  exact this.symm
theorem hiK_down (l : List Tk) (dry : Int) (i : Nat) (T : List Int) : ∀ {j k : Nat}, j ≤ k → hiK l dry i T k ≤ hiK l dry i T j
  | j, 0, h => by obtain rfl : j = 0 := by omega
                  exact Int.le_refl _
  | j, k + 1, h => by
    by_cases e : j = k + 1
    · subst e; exact Int.le_refl _
    · have := hiK_down l dry i T (show j ≤ k by omega)
      have h2 : hiK l dry i T (k + 1) = if aftB l (i + 1 + k) i = true then min (hiK l dry i T k) (T.getD k 0 - dry - 1) else hiK l dry i T k := rfl
      rw [h2]
      split <;> omega
theorem hiK_aft {l : List Tk} {dry : Int} {i : Nat} {T : List Int} {k : Nat} (h : aftB l (i + 1 + k) i = true) : hiK l dry i T (k + 1) ≤ T.getD k 0 - dry - 1 := by
  have h2 : hiK l dry i T (k + 1) = if aftB l (i + 1 + k) i = true then min (hiK l dry i T k) (T.getD k 0 - dry - 1) else hiK l dry i T k := rfl
  rw [h2, if_pos h]
  omega
theorem hiK_glb {l : List Tk} {dry x : Int} {i : Nat} {T : List Int} (h0 : x ≤ T.getD 0 0 - 1) : ∀ k, (∀ q, q < k → aftB l (i + 1 + q) i = true → x ≤ T.getD q 0 - dry - 1) → x ≤ hiK l dry i T k
  | 0, _ => h0
  | k + 1, h => by
    have ih := hiK_glb (l := l) (dry := dry) (i := i) h0 k (fun q hq => h q (by omega))
    have h2 : hiK l dry i T (k + 1) = if aftB l (i + 1 + k) i = true then min (hiK l dry i T k) (T.getD k 0 - dry - 1) else hiK l dry i T k := rfl
    rw [h2]
    split
    · rename_i ha
      have := h k (by omega) ha
      omega
    · exact ih
/-- what is known of the latest days -/
theorem lt_facts {Y : Yd} {l : List Tk} {f : Int} {ds : List Int} (he : Early Y l f ds) {i : Nat} (hi : i < l.length) : ds.getD i 0 ≤ lt Y l ds i ∧ lt Y l ds i < f + 400 ∧ suitB Y l[i] i (lt Y l ds i) = true
    ∧ (i + 1 < l.length → lt Y l ds i < lt Y l ds (i + 1)) ∧ (∀ j, i < j → j < l.length → aftB l j i = true → lt Y l ds i + Y.dry + 1 ≤ lt Y l ds j) ∧ (i + 1 = l.length → lt Y l ds i = ds.getD i 0) := by
  have hb := lateT_bd he l.length (Nat.le_refl _) i hi
  rw [Nat.sub_self, Nat.zero_add] at hb
  by_cases hl : i + 1 = l.length
  · have h1 : lt Y l ds i = ds.getD i 0 := by
      rw [lt_eq hi, show l.length - 1 - i = 0 by omega]
      exact lateX_nil hi
    exact ⟨hb.1, hb.2, by rw [h1]; exact he.suit i hi, fun h => absurd h (by omega), fun j h1 h2 => absurd h2 (by omega), fun _ => h1⟩
  · have hm : 0 < l.length - 1 - i := by omega
    have hlen := lateT_len Y l ds (l.length - 1 - i)
    have h1 := lt_eq (Y := Y) (ds := ds) hi
    rw [lateX_at hi (by omega), hlen] at h1
    have hfit := hiK_fits he hm (by omega) (Nat.le_refl _)
    rw [show l.length - 1 - (l.length - 1 - i) = i by omega] at hfit
    have hbd := lastOr_bd (Y := Y) (t := l[i]) (i := i) hfit.1
    rw [← h1] at hbd
    refine ⟨hb.1, hb.2, ?_, fun h => ?_, fun j hj1 hj2 ha => ?_, fun h => absurd h hl⟩
    · rcases lastOr_mem (L := suitK Y l[i] i (ds.getD i 0) (hiK l Y.dry i (lateT Y l ds (l.length - 1 - i)) (l.length - 1 - i) + 1 - ds.getD i 0).toNat) (d := ds.getD i 0) with e | e
      · rw [h1, e]; exact he.suit i hi
      · have := (suitK_mem e).2.2
        rw [h1]; exact this
    · have h2 := hiK_le l Y.dry i (lateT Y l ds (l.length - 1 - i)) (l.length - 1 - i)
      have h3 := lt_tail (Y := Y) (ds := ds) (show i + 1 + 0 < l.length by omega)
      rw [Nat.add_zero] at h3
      rw [h3] at h2
      omega
    · obtain ⟨q, rfl⟩ : ∃ q, j = i + 1 + q := ⟨j - (i + 1), by omega⟩
      have h2 := hiK_aft (dry := Y.dry) (T := lateT Y l ds (l.length - 1 - i)) ha
      have h3 := hiK_down l Y.dry i (lateT Y l ds (l.length - 1 - i)) (show q + 1 ≤ l.length - 1 - i by omega)
      rw [lt_tail hj2] at h2
      omega
/-- the earliest days of some tasks and the latest ones of the others -/
def mixD (Y : Yd) (l : List Tk) (ds : List Int) (task : Int) (n : Nat) : List Int := (List.range n).map fun i : Nat => if task ≤ (i : Int) then lt Y l ds i else ds.getD i 0
theorem mixD_len (Y : Yd) (l : List Tk) (ds : List Int) (task : Int) (n : Nat) : (mixD Y l ds task n).length = n := by unfold mixD; simp
theorem mixD_at {Y : Yd} {l : List Tk} {ds : List Int} {task : Int} {n i : Nat} (h : i < n) : (mixD Y l ds task n).getD i 0 = if task ≤ (i : Int) then lt Y l ds i else ds.getD i 0 := by
  unfold mixD
  rw [List.getD_eq_getElem?_getD, List.getElem?_map, List.getElem?_range h]
  rfl
theorem mixD_snoc (Y : Yd) (l : List Tk) (ds : List Int) (task : Int) (n : Nat) : mixD Y l ds task n ++ [if task ≤ (n : Int) then lt Y l ds n else ds.getD n 0] = mixD Y l ds task (n + 1) := by
  unfold mixD; rw [List.range_succ, List.map_append]; rfl
theorem lowK_ub {dry f x : Int} {af days : List Int} (h0 : lowB f days ≤ x) : ∀ k, k ≤ af.length → (∀ q (hq : q < k) (h : q < af.length), days.getD af[q].toNat 0 + dry + 1 ≤ x) → lowK dry f af days k ≤ x
  | 0, _, _ => by rw [lowK_zero]; exact h0
  | k + 1, hk, h => by
    have ih := lowK_ub (dry := dry) (af := af) h0 k (by omega) (fun q hq h2 => h q (by omega) h2)
    rw [lowK_succ (by omega)]
    have := h k (by omega) (by omega)
    omega
theorem mix_ok {Y : Yd} {l : List Tk} {f : Int} {ds : List Int} (hv : ValidT l) (he : earD Y l f = some ds) (task : Int) : DaysOK Y l f (mixD Y l ds task l.length) := by
  have hea := early_of he
  refine ⟨mixD_len _ _ _ _ _, fun i hi => ?_⟩
  obtain ⟨l1, l2, l3, l4, l5, l6⟩ := lt_facts hea hi
  have hb := hea.bd i hi
  rw [mixD_at hi]
  have hle : ∀ j, j < i → (mixD Y l ds task l.length).getD j 0 ≤ (if task ≤ (i : Int) then lt Y l ds j else ds.getD j 0) := fun j hj => by
    rw [mixD_at (by omega)]
    have := (lt_facts hea (show j < l.length by omega)).1
    split <;> split <;> omega
  refine ⟨?_, ?_, ?_⟩
  · refine lowK_ub ?_ _ (Nat.le_refl _) (fun q hq h => ?_)
    · unfold lowB
      have hlen : ((mixD Y l ds task l.length).take i).length = i := by rw [List.length_take, mixD_len]; omega
      rw [hlen]
      split
      · split <;> omega
      · rename_i h0
        obtain ⟨p, rfl⟩ : ∃ p, i = p + 1 := ⟨i - 1, by omega⟩
        rw [Nat.add_sub_cancel, getD_take, if_pos (by omega)]
        have h1 := hle p (by omega)
        have h2 := (lt_facts hea (show p < l.length by omega)).2.2.2.1 hi
        have h3 := hea.nxt p hi
        split at h1 <;> (rename_i hc; first | rw [if_pos hc] | rw [if_neg hc]) <;> omega
    · have haf := hv.af i hi _ (List.getElem_mem h)
      obtain ⟨p, hp⟩ : ∃ p : Nat, l[i].af[q] = (p : Int) := ⟨l[i].af[q].toNat, by omega⟩
      have hpi : p < i := by omega
      have ha : aftB l i p = true := by
        rw [aftB_at hi, List.contains_iff_mem, ← hp]; exact List.getElem_mem h
      rw [hp, Int.toNat_natCast, getD_take, if_pos hpi]
      have h1 := hle p hpi
      have h2 := (lt_facts hea (show p < l.length by omega)).2.2.2.2.1 i hpi hi ha
      have h3 := hea.aft p i hpi hi ha
      split at h1 <;> (rename_i hc; first | rw [if_pos hc] | rw [if_neg hc]) <;> omega
  · split <;> omega
  · split
    · exact l3
    · exact hea.suit i hi
/-- no plan that ends with the earliest end has a task later than its latest day -/
theorem late_max {Y : Yd} {l : List Tk} {f : Int} {ds D : List Int} (he : earD Y l f = some ds) (hD : DaysOK Y l f D) (hend : ∀ i, i + 1 = l.length → D.getD i 0 = ds.getD i 0) : ∀ m i, i + 1 + m = l.length → ∀ j, i ≤ j → j < l.length → D.getD j 0 ≤ lt Y l ds j
  | 0, i, hi, j, h1, h2 => by
    obtain rfl : j = i := by omega
    rw [hend j (by omega), (lt_facts (early_of he) h2).2.2.2.2.2 (by omega)]
    exact Int.le_refl _
  | m + 1, i, hi, j, h1, h2 => by
    by_cases e : j = i
    · subst e
      have ih := late_max he hD hend m (j + 1) (by omega)
      have hm : 0 < l.length - 1 - j := by omega
      have hlen := lateT_len Y l ds (l.length - 1 - j)
      rw [lt_eq h2, lateX_at h2 (by omega), hlen]
      obtain ⟨d1, d2, d3⟩ := hD.at_ j h2
      have hlst := least_plan he hD j h2
      have hprev : ∀ q, j + 1 + q < l.length → D.getD (j + 1 + q) 0 ≤ lt Y l ds (j + 1 + q) := fun q hq => ih (j + 1 + q) (by omega) hq
      have hub : D.getD j 0 ≤ hiK l Y.dry j (lateT Y l ds (l.length - 1 - j)) (l.length - 1 - j) := by
        refine hiK_glb ?_ _ (fun q hq ha => ?_)
        · have h3 := lt_tail (Y := Y) (ds := ds) (show j + 1 + 0 < l.length by omega)
          rw [h3]
          have h4 := hprev 0 (by omega)
          obtain ⟨e1, _, _⟩ := hD.at_ (j + 1 + 0) (by omega)
          have h5 := (lowS_prev (dry := Y.dry) (f := f) (af := (l[j + 1 + 0]'(by omega)).af) (days := D.take (j + 1 + 0)) (by rw [List.length_take, hD.len]; omega)).1
          rw [List.length_take, hD.len, show min (j + 1 + 0) l.length - 1 = j by omega, getD_take, if_pos (by omega)] at h5
          omega
        · have hq2 : j + 1 + q < l.length := by omega
          rw [lt_tail hq2]
          have h4 := hprev q hq2
          obtain ⟨e1, _, _⟩ := hD.at_ (j + 1 + q) hq2
          rw [aftB_at hq2, List.contains_iff_mem] at ha
          have h5 := lowS_after (dry := Y.dry) (f := f) (days := D.take (j + 1 + q)) ha
          rw [Int.toNat_natCast, getD_take, if_pos (by omega)] at h5
          omega
      exact suitK_last (mem_suitK hlst (by omega) d3)
    · exact late_max he hD hend m (i + 1) (by omega) j (by omega) h2
theorem slkL_at {Y : Yd} {l : List Tk} {ds : List Int} (hd : ds.length = l.length) {i : Nat} (hi : i < l.length) : (slkL Y l ds).getD i 0 = lt Y l ds i - ds.getD i 0 := by
  have h1 : i < (lateT Y l ds l.length).length := by rw [lateT_len]; exact hi
  have h2 : i < ds.length := by omega
  unfold slkL lt
  rw [List.getD_eq_getElem?_getD, List.getD_eq_getElem?_getD, List.getD_eq_getElem?_getD, List.getElem?_zipWith, List.getElem?_eq_getElem h1, List.getElem?_eq_getElem h2]
  rfl
end Go.Proofs.Ytjgnikmnadmheaa
