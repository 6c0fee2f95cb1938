/- giornataref07.Slack. Printed by wip/gen_w3.py. -/
import Derived.Test.YtjgnikmnadmheaaG02
import Derived.Test.YtjgnikmnadmheaaG16
import Derived.Test.YtjgnikmnadmheaaG25

namespace Go.Proofs.Ytjgnikmnadmheaa
open Go.RowKit

theorem slk_bad {Y : Yd} {l : List Tk} {f : Int} (h : earE Y l f ≠ 0) : slk Y l f = [] := by
  unfold slk
  by_cases hb : begE Y l f = 0
  · rw [if_pos hb]
    cases he : earD Y l f with
    | none => rfl
    | some ds => exact absurd (earP_some hb he).2 h
  · rw [if_neg hb]
theorem slk_good {Y : Yd} {l : List Tk} {f : Int} (h : earE Y l f = 0) : begE Y l f = 0 ∧ ∃ ds, earD Y l f = some ds ∧ slk Y l f = slkL Y l ds ∧ earP Y l f = usual Y l [] ds := by
  by_cases hb : begE Y l f = 0
  · cases he : earD Y l f with
    | none => rw [(earP_none hb he).2] at h; cases h
    | some ds =>
      refine ⟨hb, ds, rfl, ?_, (earP_some hb he).1⟩
      unfold slk
      rw [if_pos hb, he]
  · rw [(earP_bad hb).2] at h; exact absurd h hb
theorem endP_usual {Y : Yd} {l : List Tk} {ds : List Int} (hl : ds.length = l.length) (h0 : 0 < l.length) : endP (usual Y l [] ds) = ds.getD (l.length - 1) 0 := by
  have hu := usual_len Y l [] ds (Nat.zero_le _)
  have hd := usual_day Y l ds (by omega)
  unfold endP
  rw [dif_neg (by omega)]
  have : ((usual Y l [] ds).map Tu.day)[(usual Y l [] ds).length - 1]? = ds[(usual Y l [] ds).length - 1]? := by rw [hd]
  rw [List.getElem?_map, List.getElem?_eq_getElem (by omega)] at this
  rw [List.getD_eq_getElem?_getD, ← hl, ← hu, ← this]
  rfl
/-- a row whose first i1 entries are still open -/
def opL (Z T : List Int) (i1 : Nat) : List Int := Z.take i1 ++ T
theorem opL_len {Z T : List Int} {i1 : Nat} (h : i1 ≤ Z.length) : (opL Z T i1).length = i1 + T.length := by unfold opL; simp; omega
theorem opL_at {Z T : List Int} {i1 k : Nat} (h : i1 ≤ Z.length) (hk : k < T.length) : (opL Z T i1)[i1 + k]? = some (T.getD k 0) := by
  unfold opL
  rw [List.getElem?_append_right (by simp; omega)]
  rw [List.getD_eq_getElem?_getD]
  simp [Nat.min_eq_left h, List.getElem?_eq_getElem hk]
theorem opL_old {Z T : List Int} {i1 k : Nat} (h : i1 ≤ Z.length) (hk : k < i1) : (opL Z T i1)[k]? = some (Z.getD k 0) := by
  unfold opL
  rw [List.getElem?_append_left (by simp; omega), List.getElem?_take_of_lt hk, List.getD_eq_getElem?_getD, List.getElem?_eq_getElem (by omega)]
  rfl
theorem opL_set {Z T : List Int} {i : Nat} (h : i < Z.length) (x : Int) : (opL Z T (i + 1)).set i x = opL Z (x :: T) i := by
  unfold opL
  rw [List.take_succ_eq_append_getElem h, List.append_assoc, List.set_append_right _ _ (by simp; omega)]
  rw [show i - (Z.take i).length = 0 by simp; omega]
  rfl
theorem opL_cell {w : World} {g : Nat} {Z T : List Int} {i1 k : Nat} (h : Bk w g 3 (ints (opL Z T i1)).toArray) (h1 : i1 ≤ Z.length) (hk : k < T.length) : w.cell? ⟨g, i1 + k, none⟩ = some (.int .i64 (T.getD k 0)) := by
  refine h.cell _ ?_
  have := opL_at (Z := Z) h1 hk
  simp only [ints, List.getElem?_toArray, List.getElem?_map, this]
  rfl
theorem opL_put {w : World} {g : Nat} {Z T : List Int} {i : Nat} (h : Bk w g 3 (ints (opL Z T (i + 1))).toArray) (hi : i < Z.length) (x : Int) : Bk (w.setCell ⟨g, i, none⟩ (.int .i64 x)) g 3 (ints (opL Z (x :: T) i)).toArray := by
  have := bk_set h i x
  rw [opL_set hi] at this
  exact this
/-- a row whose first q entries are there -/
def fiL (L : List Int) (q : Nat) : List Int := L.take q ++ List.replicate (L.length - q) 0
theorem fiL_zero (L : List Int) : fiL L 0 = List.replicate L.length 0 := by unfold fiL; simp
theorem fiL_end (L : List Int) : fiL L L.length = L := by unfold fiL; simp
theorem fiL_len {L : List Int} {q : Nat} (h : q ≤ L.length) : (fiL L q).length = L.length := by unfold fiL; simp; omega
theorem fiL_set {L : List Int} {q : Nat} (h : q < L.length) : (fiL L q).set q (L.getD q 0) = fiL L (q + 1) := by
  unfold fiL
  obtain ⟨m, hm⟩ : ∃ m, L.length - q = m + 1 := ⟨L.length - q - 1, by omega⟩
  rw [hm, show L.length - (q + 1) = m by omega, List.take_succ_eq_append_getElem h, List.set_append_right _ _ (by simp; omega), List.append_assoc, List.getD_eq_getElem?_getD, List.getElem?_eq_getElem h]
  congr 1
  rw [show q - (L.take q).length = 0 by simp; omega]
  rfl
theorem bk_owns {w : World} {g : Nat} {L : List Int} (h : Bk w g 3 (ints L).toArray) {B : Nat} (hB : B ≤ g) (hn : L.length ≤ 1000) : w.ownsRow B 3 1 (.slice (some ⟨g, 0, none⟩) L.length L.length) L.length (ints L) :=
  ⟨by simp [ints], .inr ⟨g, L.length, (ints L).toArray, rfl, hB, h, Nat.le_refl _, by unfold maxLen; omega, by simp [ints], by rw [Nat.mul_one]; exact List.take_of_length_le (by simp [ints])⟩⟩
/-- going through a task's earlier ones -/
def gG (af : List Int) (x h X : Int) (q : Nat) : Int := if (af.take q).contains x = true then min h X else h
theorem gG_zero (af : List Int) (x h X : Int) : gG af x h X 0 = h := by unfold gG; simp
theorem gG_end (af : List Int) (x h X : Int) : gG af x h X af.length = if af.contains x = true then min h X else h := by unfold gG; rw [List.take_length]
theorem gG_yes {af : List Int} {x h X : Int} {q : Nat} (hq : q < af.length) (e : af[q] = x) : gG af x h X (q + 1) = min (gG af x h X q) X := by
  unfold gG
  have h1 : (af.take (q + 1)).contains x = true := by rw [List.contains_iff_mem, List.take_succ_eq_append_getElem hq, e]; simp
  rw [if_pos h1]
  split <;> omega
theorem gG_no {af : List Int} {x h X : Int} {q : Nat} (hq : q < af.length) (e : af[q] ≠ x) : gG af x h X (q + 1) = gG af x h X q := by
  unfold gG
  have h1 : (af.take (q + 1)).contains x = (af.take q).contains x := by
    rw [Bool.eq_iff_iff, List.contains_iff_mem, List.contains_iff_mem, List.take_succ_eq_append_getElem hq]
    simp only [List.mem_append, List.mem_singleton]
    exact ⟨fun h => h.resolve_right (fun e' => e e'.symm), Or.inl⟩
  rw [h1]
theorem gG_bd (af : List Int) (x h X : Int) (q : Nat) : min h X ≤ gG af x h X q ∧ gG af x h X q ≤ h := by unfold gG; split <;> omega
/-- all that the search of a task's latest day needs: a its earliest day, tv the later tasks' days, H the highest day by and by, X the latest day -/
structure Srch (Y : Yd) (l : List Tk) (f : Int) (i m : Nat) (a : Int) (tv H : Nat → Int) (X : Int) : Prop where
  step : ∀ k, k < m → H (k + 1) = if aftB l (i + 1 + k) i = true then min (H k) (tv k - Y.dry - 1) else H k
  bd : ∀ k, k ≤ m → a ≤ H k ∧ H k < f + 400
  suit : ∀ hi : i < l.length, suitB Y l[i] i a = true
  is : ∀ (hi : i < l.length) (d : Int), a ≤ d → d ≤ H m → suitB Y l[i] i d = true → (∀ e, d < e → e ≤ H m → suitB Y l[i] i e = false) → X = d
  tvb : ∀ k, k < m → 0 ≤ tv k ∧ tv k < 100400
theorem srch_tv {Y : Yd} {l : List Tk} {f : Int} {ds : List Int} (he : Early Y l f ds) (hf : 0 ≤ f ∧ f ≤ 100000) {i m : Nat} (hi : i + 1 + m = l.length) (k : Nat) (hk : k < m) : 0 ≤ (lateT Y l ds m).getD k 0 ∧ (lateT Y l ds m).getD k 0 < 100400 := by
  have h1 := lateT_bd he m (by omega) k hk
  have h2 := he.bd (l.length - m + k) (by omega)
  omega
theorem srch_last {Y : Yd} {l : List Tk} {f : Int} {ds : List Int} (he : Early Y l f ds) {i m : Nat} (hm : m = 0) (hi : i + 1 + m = l.length) : Srch Y l f i m (ds.getD i 0) (fun k => (lateT Y l ds m).getD k 0) (fun _ => ds.getD i 0) (lateX Y l ds i (lateT Y l ds m)) := by
  subst hm
  exact ⟨fun k hk => absurd hk (by omega), fun k _ => by have := he.bd i (by omega); omega, fun h => he.suit i h, fun hi' d h1 h2 _ _ => by
    have : d = ds.getD i 0 := Int.le_antisymm h2 h1
    rw [this]; exact lateX_nil hi', fun k hk => absurd hk (by omega)⟩
theorem srch_more {Y : Yd} {l : List Tk} {f : Int} {ds : List Int} (he : Early Y l f ds) (hf : 0 ≤ f ∧ f ≤ 100000) {i m : Nat} (hm : 0 < m) (hi : i + 1 + m = l.length) : Srch Y l f i m (ds.getD i 0) (fun k => (lateT Y l ds m).getD k 0) (hiK l Y.dry i (lateT Y l ds m)) (lateX Y l ds i (lateT Y l ds m)) := by
  have ht := srch_tv he hf hi
  obtain rfl : i = l.length - 1 - m := by omega
  refine ⟨fun k _ => rfl, fun k hk => hiK_fits he hm (by omega) hk, fun h => he.suit _ h, fun hi' d h1 h2 h3 h4 => ?_, ht⟩
  rw [lateX_at hi' (by rw [lateT_len]; exact hm), lateT_len]
  exact lastOr_is h1 h2 h3 h4

set_option maxRecDepth 100000 in
set_option maxHeartbeats 4000000 in
theorem rslack_any (C : Array Value) (Y : Yd) (l : List Tk) (A : Option Addr) (c : Nat) (f : Int) (w : World) (hY : YardAt w w.heap.size C Y) (hs : Small Y) (hT : TasksAt w w.heap.size A l) (ht : tame l) :
    Calls Try.prog 34 #[.agg C, .slice A l.length c, .int .i64 f] w (DaysE (slk Y l f) (earE Y l f) w) := by
  have HEA := Lib.hid (fun W (hb : Below w.heap.size w W) => rearliest_any C Y l A c f W ((hY.below hb (Nat.le_refl _)).more hb.size) hs ((hT.below hb (Nat.le_refl _)).more hb.size) ht)
  have HYW := Lib.hid (fun W (hb : Below w.heap.size w W) => (hY.below hb (Nat.le_refl _)).more hb.size)
  have HTW := Lib.hid (fun W (hb : Below w.heap.size w W) => (hT.below hb (Nat.le_refl _)).more hb.size)
  have HC28 := Lib.hid hY.len
  have HTM := Lib.hid ht
  have HSM := Lib.hid hs
  have e27 := hY.dry
  have b3 : Bk (w.alloc (.cells C 29)) w.heap.size 29 C := Bk.new _ _ _
  have hb0 : Below w.heap.size w (w.alloc (.cells C 29)) := by exact (by repeat (first | with_reducible exact Below.refl _ _ | with_reducible assumption | with_reducible refine Below.drew ?_ | with_reducible refine below_drewN ?_ _ | (with_reducible refine Below.alloc ?_ ?_ _; rotate_left; (try simp) <;> omega) | (with_reducible refine Below.setCell ?_ ?_ _; rotate_left; (try simp) <;> omega)))
  have HR0 := Lib.hid b3.range
  clear hY hT hs ht
  by_cases h0 : earE Y l f = 0
  · obtain ⟨hbe, ds, he, hsl, hp⟩ := slk_good h0
    obtain ⟨ho, hvt, hf⟩ := begE_ok hbe
    have hea := early_of he
    rw [h0, hp] at HEA
    rw [h0, hsl]
    have HO := Lib.hid ho
    have HVT := Lib.hid hvt
    have HE := Lib.hid hea
    have hl12 := hvt.n
    have hul := usual_len Y l [] ds (Nat.zero_le _)
    rw [hea.len] at hul
    have HED := Lib.hid (fun h : 0 < l.length => endP_usual (Y := Y) hea.len h)
    have HUD := Lib.hid (usual_day Y l ds (by rw [hea.len]; exact Nat.le_refl _))
    have hdl1 : ds.length ≤ l.length := by rw [hea.len]; exact Nat.le_refl _
    have HUL := Lib.hid hul
    have hul1 : (usual Y l [] ds).length ≤ l.length := by rw [hul]; exact Nat.le_refl _
    clear hul
    clear h0 hbe he hsl hp ho hvt hea
    generalize usual Y l [] ds = U at *
    have hmk := fun W => make_ints l.length (by omega) W
    go_enter Try.func34, Try.ntmps34
    go_wp2_with (first | (have h9 := HR0; clear h9; refine wpList_load_guard (P := Try.prog) (by rfl) 29 (.tmp 3) rfl w.heap.size 0 rfl C.toList _ HR0.out Try.underlying29 rfl (by rw [HC28.out]; exact info29) ?_) | (go_at_call 30; refine (HEA.out _ hb0).mono ?_; rintro e w1 ⟨v1, rfl, ho1, hb1⟩; clear HR0; obtain ⟨A1, c1, rfl, _, _⟩ := ownsSlice ho1; have hB1 : Below w.heap.size w w1 := hb0.trans (hb1.mono hb0.size); have kL : Bk w1 w.heap.size 29 C := b3.below hb1 b3.lt; have hl1 := ownsRow_lies ho1; clear hb1 ho1))
    have hz1 := hB1.size
    have kP : Bk ((w1.alloc (.cells #[.slice A1 U.length c1] 42)).alloc (.cells (ints (List.replicate l.length 0)).toArray 3)) w1.heap.size 42 #[.slice A1 U.length c1] := (Bk.new _ _ _).alloc _
    have kT : Bk ((w1.alloc (.cells #[.slice A1 U.length c1] 42)).alloc (.cells (ints (List.replicate l.length 0)).toArray 3)) (w1.heap.size + 1) 3 (ints (List.replicate l.length 0)).toArray := by simpa using Bk.new (w1.alloc (.cells #[.slice A1 U.length c1] 42)) 3 (ints (List.replicate l.length 0)).toArray
    have e0 : opL (List.replicate l.length 0) (lateT Y l ds 0) l.length = List.replicate l.length 0 := by unfold opL; simp [lateT]
    replace kT : Bk ((w1.alloc (.cells #[.slice A1 U.length c1] 42)).alloc (.cells (ints (List.replicate l.length 0)).toArray 3)) (w1.heap.size + 1) 3 (ints (opL (List.replicate l.length 0) (lateT Y l ds 0) l.length)).toArray := by rw [e0]; exact kT
    have hb2 : Below w.heap.size w ((w1.alloc (.cells #[.slice A1 U.length c1] 42)).alloc (.cells (ints (List.replicate l.length 0)).toArray 3)) := by exact (by repeat (first | with_reducible exact Below.refl _ _ | with_reducible assumption | with_reducible refine Below.drew ?_ | with_reducible refine below_drewN ?_ _ | (with_reducible refine Below.alloc ?_ ?_ _; rotate_left; (try simp) <;> omega) | (with_reducible refine Below.setCell ?_ ?_ _; rotate_left; (try simp) <;> omega)))
    have hbP : Below w1.heap.size w1 ((w1.alloc (.cells #[.slice A1 U.length c1] 42)).alloc (.cells (ints (List.replicate l.length 0)).toArray 3)) := by exact (by repeat (first | with_reducible exact Below.refl _ _ | with_reducible assumption | with_reducible refine Below.drew ?_ | with_reducible refine below_drewN ?_ _ | (with_reducible refine Below.alloc ?_ ?_ _; rotate_left; (try simp) <;> omega) | (with_reducible refine Below.setCell ?_ ?_ _; rotate_left; (try simp) <;> omega)))
    have kB : Bk ((w1.alloc (.cells #[.slice A1 U.length c1] 42)).alloc (.cells (ints (List.replicate l.length 0)).toArray 3)) w.heap.size 29 C := (kL.alloc _).alloc _
    have HPW : Hid (∀ W : World, Below w1.heap.size w1 W → Lies W W.heap.size A1 (turnsC U)) := fun W hb => (hl1.below hb (Nat.le_refl _)).more hb.size
    have HPW0 : Hid (∀ W : World, Below w1.heap.size w1 W → Lies W w1.heap.size A1 (turnsC U)) := fun W hb => hl1.below hb (Nat.le_refl _)
    have hlB := kL.lt
    clear e0 hl1 kL
    generalize (w1.alloc (.cells #[.slice A1 U.length c1] 42)).alloc (.cells (ints (List.replicate l.length 0)).toArray 3) = w2 at *
    have HED2 : Hid (∀ W : World, Below w1.heap.size w1 W → 0 < l.length → Calls Try.prog 45 #[.agg #[.slice A1 U.length c1]] W (IntEnd (ds.getD (l.length - 1) 0) W)) := fun W hb h => by
      rw [← HED.out h]; exact rend_any U A1 c1 W (HPW.out W hb) (by omega)
    go_loopw [11] (fun y wr => ∃ (i1 m : Nat) (e : Int), i1 + m = l.length ∧ e = (i1 : Int) - 1 ∧ y = .int .i64 e ∧ Bk wr (w1.heap.size + 1) 3 (ints (opL (List.replicate l.length 0) (lateT Y l ds m) i1)).toArray ∧ Below w.heap.size w wr ∧ Below w1.heap.size w1 wr ∧ Bk wr w.heap.size 29 C ∧ Bk wr w1.heap.size 42 #[.slice A1 U.length c1]) (fun y _ => (intOf y + 1).toNat)
    case atStart => exact ⟨l.length, 0, _, by omega, rfl, rfl, kT, hb2, hbP, kB, kP⟩
    case round =>
    clear kT hb2 hbP kB kP
    obtain ⟨i1, m, e, him, hy, rfl, hbt, hbw, hbq, hbk, hbp⟩ := hrel
    by_cases hi1 : i1 = 0
    · subst hi1
      obtain rfl : e = -1 := by omega
      have HMN := Lib.hid (show m = l.length by omega)
      have hbt0 : Bk wr (w1.heap.size + 1) 3 (ints (lateT Y l ds l.length)).toArray := by
        have h1 := hbt
        rw [HMN.out] at h1
        exact h1
      have hTl := lateT_len Y l ds l.length
      have HSL : Hid ((slkL Y l ds).length = l.length) := by show _ = _; unfold slkL; rw [List.length_zipWith, hTl, HE.out.len]; omega
      have HQ : Hid (∀ q, q < l.length → (slkL Y l ds).getD q 0 = (lateT Y l ds l.length).getD q 0 - ds.getD q 0) := fun q hq => by
        have h1 : q < (lateT Y l ds l.length).length := by omega
        have h2 : q < ds.length := by rw [HE.out.len]; exact hq
        unfold slkL
        rw [List.getD_eq_getElem?_getD, List.getD_eq_getElem?_getD, List.getD_eq_getElem?_getD, List.getElem?_zipWith, List.getElem?_eq_getElem h1, List.getElem?_eq_getElem h2]
        rfl
      have HQB : Hid (∀ q, q < l.length → (0 ≤ (lateT Y l ds l.length).getD q 0 ∧ (lateT Y l ds l.length).getD q 0 < 100400) ∧ 0 ≤ ds.getD q 0 ∧ ds.getD q 0 < 100400) := fun q hq => by
        have h1 := lateT_bd HE.out l.length (Nat.le_refl _) q hq
        have h2 := HE.out.bd q hq
        rw [Nat.sub_self, Nat.zero_add] at h1
        omega
      have HUQ : Hid (∀ q (h : q < U.length), U[q].day = ds.getD q 0) := fun q h => by
        have h1 := HUD.out
        have h2 : (U.map Tu.day)[q]? = ds[q]? := by rw [h1]
        rw [List.getElem?_map, List.getElem?_eq_getElem h] at h2
        rw [List.getD_eq_getElem?_getD, ← h2]
        rfl
      have HTC9 : Hid (∀ (W : World), Bk W (w1.heap.size + 1) 3 (ints (lateT Y l ds l.length)).toArray → ∀ q, q < l.length → W.cell? ⟨w1.heap.size + 1, q, none⟩ = some (.int .i64 ((lateT Y l ds l.length).getD q 0))) := fun W h q hq => by
        have h1 := bk_int h (k := q) (by rw [hTl]; exact hq)
        rw [h1, List.getD_eq_getElem?_getD, List.getElem?_eq_getElem (by rw [hTl]; exact hq)]
        rfl
      clear hbt hTl him hy
      generalize slkL Y l ds = SL at *
      generalize lateT Y l ds l.length = TL at *
      have hz2 := hbt0.lt
      have hzo := hbw.size
      have hlp := hbp.lt
      go_wp2
      have ko : Bk (wr.alloc (.cells (ints (List.replicate l.length 0)).toArray 3)) wr.heap.size 3 (ints (List.replicate l.length 0)).toArray := Bk.new _ _ _
      have e1 : fiL SL 0 = List.replicate l.length 0 := by rw [fiL_zero, HSL.out]
      replace ko : Bk (wr.alloc (.cells (ints (List.replicate l.length 0)).toArray 3)) wr.heap.size 3 (ints (fiL SL 0)).toArray := by rw [e1]; exact ko
      have kt := hbt0.alloc (.cells (ints (List.replicate l.length 0)).toArray 3)
      have kp := hbp.alloc (.cells (ints (List.replicate l.length 0)).toArray 3)
      have hw5 : Below w.heap.size w (wr.alloc (.cells (ints (List.replicate l.length 0)).toArray 3)) := hbw.alloc hzo _
      have hq5 : Below w1.heap.size w1 (wr.alloc (.cells (ints (List.replicate l.length 0)).toArray 3)) := hbq.alloc hbq.size _
      clear e1 hbt0 hbp hbw hbq hbk
      generalize wr.alloc (.cells (ints (List.replicate l.length 0)).toArray 3) = w5 at *
      generalize wr.heap.size = gO at *
      go_loopw [16] (fun y wx => ∃ q : Nat, q ≤ l.length ∧ y = .int .i64 (q : Int) ∧ Bk wx gO 3 (ints (fiL SL q)).toArray ∧ Bk wx (w1.heap.size + 1) 3 (ints TL).toArray ∧ Bk wx w1.heap.size 42 #[.slice A1 U.length c1] ∧ Below w.heap.size w wx ∧ Below w1.heap.size w1 wx) (fun y _ => l.length - (intOf y).toNat)
      case atStart => exact ⟨0, Nat.zero_le _, rfl, ko, kt, kp, hw5, hq5⟩
      case round =>
      clear ko kt kp hw5 hq5
      obtain ⟨q, hq, rfl, hko, hkt, hkp, hw6, hq6⟩ := hrel
      by_cases hql : q < l.length
      · have hqu : q < U.length := by have := HUL.out; omega
        obtain ⟨a1, rfl, ha1, t0, t1, t2⟩ := turn_at (HPW0.out _ hq6) hqu
        have xl := HTC9.out _ hkt q hql
        have xp := hkp.cell 0 rfl
        obtain ⟨⟨hb1, hb2⟩, hb3, hb4⟩ := HQB.out q hql
        have HQQ := Lib.hid (HQ.out q hql)
        have hUq := HUQ.out q hqu
        rw [hUq] at t0
        have HFS : Hid ((fiL SL q).set q (SL.getD q 0) = fiL SL (q + 1)) := fiL_set (by rw [HSL.out]; exact hql)
        have hko1 := bk_set hko q (SL.getD q 0)
        rw [HFS.out, HQQ.out] at hko1
        have xo : ∃ v, World.cell? _ ⟨gO, q, none⟩ = some v := ⟨_, bk_int hko (k := q) (by rw [fiL_len (by rw [HSL.out]; exact hq), HSL.out]; exact hql)⟩
        obtain ⟨vo, xo⟩ := xo
        have xf := hko.fro q
        clear hUq t1 t2
        generalize TL.getD q 0 = tl at *
        generalize ds.getD q 0 = dl at *
        have hqI : (q : Int) < (l.length : Int) := by omega
        have hqU : (q : Int) < (U.length : Int) := by omega
        have hq0 : 0 ≤ (q : Int) := by omega
        have WD : IntKind.i64.wrap (tl - dl) = tl - dl := IntWalk.i64_in _ (by omega)
        go_upto_region 26 with fail
        refine wp_region_held_drew (S := (fun w' => w'.cell? ⟨w1.heap.size + 1, q, none⟩ = some (.int .i64 tl) ∧ w'.cell? ⟨w1.heap.size, 0, none⟩ = some (.slice (some a1) U.length c1) ∧ w'.cell? (a1.add (q * 3)) = some (.int .i64 dl))) (by kernel_rfl) ?_ (fun hHeld => ?_)
        · exact ⟨xl, xp, t0⟩
        refine tk 0 109 ?_
        refine tk 1 110 ?_
        refine tk 2 111 ?_
        refine tk 3 112 ?_
        refine tk 4 113 ?_
        refine tk 5 114 ?_
        refine tk 6 115 ?_
        refine tk 7 116 ?_
        refine tk 8 117 ?_
        refine tk 9 118 ?_
        refine tk 10 119 ?_
        refine tk 11 120 ?_
        refine tk 12 121 ?_
        refine tk 13 122 ?_
        refine held_one 14 ⟨none, .store 3 (.tmp 122) (.tmp 121), _, _, _, none⟩ rfl (by kernel_rfl) (by rfl) ?_
        unfold Oper.wp
        go_simp
        refine ⟨by rw [World.cell?_setCell_far _ _ _ _ (by rw [add_block]; show gO ≠ a1.block; omega)]; exact t0, ?_⟩
        (try simp only [Act.put, List.setIfInBounds_toArray, List.set_cons_zero, List.set_cons_succ])
        refine wpAnyH_done (by kernel_rfl) ?_ _
        have hkt1 := hkt.far (p := ⟨gO, q, none⟩) (by show w1.heap.size + 1 ≠ gO; omega) (.int .i64 (tl - dl))
        have hkp1 := hkp.far (p := ⟨gO, q, none⟩) (by show w1.heap.size ≠ gO; omega) (.int .i64 (tl - dl))
        have hw7 := hw6.setCell (p := ⟨gO, q, none⟩) (by show w.heap.size ≤ gO; omega) (.int .i64 (tl - dl))
        have hq7 := hq6.setCell (p := ⟨gO, q, none⟩) (by show w1.heap.size ≤ gO; omega) (.int .i64 (tl - dl))
        go_wp2
        go_roundw
        case rel => exact ⟨q + 1, by omega, by go_num, hko1, hkt1, hkp1, by exact (by repeat (first | with_reducible exact Below.refl _ _ | with_reducible assumption | with_reducible refine Below.drew ?_ | with_reducible refine below_drewN ?_ _ | (with_reducible refine Below.alloc ?_ ?_ _; rotate_left; (try simp) <;> omega) | (with_reducible refine Below.setCell ?_ ?_ _; rotate_left; (try simp) <;> omega))), by exact (by repeat (first | with_reducible exact Below.refl _ _ | with_reducible assumption | with_reducible refine Below.drew ?_ | with_reducible refine below_drewN ?_ _ | (with_reducible refine Below.alloc ?_ ?_ _; rotate_left; (try simp) <;> omega) | (with_reducible refine Below.setCell ?_ ?_ _; rotate_left; (try simp) <;> omega)))⟩
        case measure => simp [intOf] <;> omega
      · obtain rfl : q = l.length := by omega
        have e2 : fiL SL l.length = SL := by rw [← HSL.out]; exact fiL_end SL
        rw [e2] at hko
        have hsl : SL.length ≤ 1000 := by rw [HSL.out]; omega
        have hown := bk_owns hko (B := w.heap.size) (by omega) hsl
        clear e2
        go_wp2
        go_ret2
        rw [HSL.out] at hown
        exact ⟨_, rfl, by rw [HSL.out]; exact hown, hw6⟩
    · obtain ⟨i, rfl⟩ : ∃ i, i1 = i + 1 := ⟨i1 - 1, by omega⟩
      obtain rfl : e = (i : Int) := by omega
      clear hy hi1
      obtain ⟨wo, rfl⟩ : ∃ wo, wo = wr := ⟨wr, rfl⟩
      have x8 := hbp.cell 0 rfl
      have HBO : Hid (∀ W : World, Below wo.heap.size wo W → Below w.heap.size w W) := fun W hb => hbw.trans (hb.mono hbw.size)
      have HBQ : Hid (∀ W : World, Below wo.heap.size wo W → Below w1.heap.size w1 W) := fun W hb => hbq.trans (hb.mono hbq.size)
      have HBK : Hid (∀ W : World, Below wo.heap.size wo W → Bk W w.heap.size 29 C) := fun W hb => hbk.below hb hbk.lt
      have HBT : Hid (∀ W : World, Below wo.heap.size wo W → Bk W (w1.heap.size + 1) 3 (ints (opL (List.replicate l.length 0) (lateT Y l ds m) (i + 1))).toArray) := fun W hb => hbt.below hb hbt.lt
      have HBP : Hid (∀ W : World, Below wo.heap.size wo W → Bk W w1.heap.size 42 #[.slice A1 U.length c1]) := fun W hb => hbp.below hb hbp.lt
      have hmn : m < l.length := by omega
      have hil : i < l.length := by omega
      have hTl := lateT_len Y l ds m
      have HTC0 : Hid (∀ W : World, Below wo.heap.size wo W → ∀ k, k < m → W.cell? ⟨w1.heap.size + 1, i + 1 + k, none⟩ = some (.int .i64 ((fun k => (lateT Y l ds m).getD k 0) k))) := fun W hb k hk => opL_cell (HBT.out W hb) (by simp; omega) (by rw [hTl]; exact hk)
      have HBT2 : Hid (∀ (W : World) (x : Int), Below wo.heap.size wo W → lateX Y l ds i (lateT Y l ds m) = x → Bk (W.setCell ⟨w1.heap.size + 1, i, none⟩ (.int .i64 x)) (w1.heap.size + 1) 3 (ints (opL (List.replicate l.length 0) (lateT Y l ds (m + 1)) i)).toArray) := fun W x hb hx => by
        have h1 := opL_put (HBT.out W hb) (i := i) (by simp; omega) x
        have h2 : lateT Y l ds (m + 1) = lateX Y l ds (l.length - 1 - m) (lateT Y l ds m) :: lateT Y l ds m := rfl
        rw [h2, show l.length - 1 - m = i by omega, hx]
        exact h1
      have HBC : Hid (∀ W : World, Below wo.heap.size wo W → W.cell? ⟨w1.heap.size + 1, i, none⟩ = some (.int .i64 0)) := fun W hb => by
        refine (HBT.out W hb).cell i ?_
        have h1 := opL_old (Z := List.replicate l.length 0) (T := lateT Y l ds m) (i1 := i + 1) (k := i) (by simp; omega) (by omega)
        simp only [ints, List.getElem?_toArray, List.getElem?_map, h1]
        simp [hil]
      have HTK : Hid (∀ W : World, Below wo.heap.size wo W → TasksAt W W.heap.size A l) := fun W hb => HTW.out W (HBO.out W hb)
      have HRS : Hid (∀ (W : World) (d : Int), Below wo.heap.size wo W → Calls Try.prog 93 #[.agg C, .slice A l.length c, .int .i64 i, .int .i64 d] W (ShEnd (suitB Y l[i] i d) W)) := fun W d hb => by
        rw [← rsuitB_ok HO.out]; exact rsuits_any C Y l A c i d W (HYW.out W (HBO.out W hb)) HSM.out (HTW.out W (HBO.out W hb)) HTM.out.1 hil
      have hz2 := hbt.lt
      have hzo := hbw.size
      have hzq := hbq.size
      have hsz : 0 < l.length := by omega
      have hiI : (i : Int) < (l.length : Int) := by omega
      have hi0 : 0 ≤ (i : Int) := by omega
      clear hTl hbt hbp
      have WL : IntKind.i64.wrap ((l.length : Int) - 1) = (l.length : Int) - 1 := IntWalk.i64_in _ (by omega)
      obtain ⟨hf0, hf1⟩ := hf
      have hda := HE.out.bd i hil
      by_cases hm0 : m = 0
      · have HSR := Lib.hid (srch_last HE.out hm0 him)
        have HE1 : Hid (∀ W : World, Below w1.heap.size w1 W → Calls Try.prog 45 #[.agg #[.slice A1 U.length c1]] W (IntEnd (ds.getD i 0) W)) := fun W hb => by
          have := HED2.out W hb hsz
          rw [show l.length - 1 = i by omega] at this; exact this
        have hc : ¬ (i : Int) < (l.length : Int) - 1 := by omega
        generalize (fun k => (lateT Y l ds m).getD k 0) = tv at *
        generalize lateX Y l ds i (lateT Y l ds m) = X at *
        generalize ds.getD i 0 = a at *
        obtain ⟨H, hH⟩ : ∃ H : Nat → Int, H = fun _ => a := ⟨_, rfl⟩
        rw [← hH] at HSR
        have hH0 : a = H 0 := by rw [hH]
        have HH0 := Lib.hid hH0
        clear hH hH0 hm0
        go_upto_region 11 with (go_at_call 45; refine (HE1.out _ (HBQ.out _ (by exact (by repeat (first | with_reducible exact Below.refl _ _ | with_reducible assumption | with_reducible refine Below.drew ?_ | with_reducible refine below_drewN ?_ _ | (with_reducible refine Below.alloc ?_ ?_ _; rotate_left; (try simp) <;> omega) | (with_reducible refine Below.setCell ?_ ?_ _; rotate_left; (try simp) <;> omega)))))).mono ?_; rintro e w3 ⟨rfl, hb3'⟩; have hb3 : Below wo.heap.size wo w3 := Below.trans (by exact (by repeat (first | with_reducible exact Below.refl _ _ | with_reducible assumption | with_reducible refine Below.drew ?_ | with_reducible refine below_drewN ?_ _ | (with_reducible refine Below.alloc ?_ ?_ _; rotate_left; (try simp) <;> omega) | (with_reducible refine Below.setCell ?_ ?_ _; rotate_left; (try simp) <;> omega)))) hb3'; clear hb3')
        clear hc
        go_wp2
        go_loopw [12, 13] (fun d y wr => ∃ j k : Nat, j = i + 1 + k ∧ k ≤ m ∧ d = .int .i64 (H k) ∧ y = .int .i64 (j : Int) ∧ Below wo.heap.size wo wr) (fun _ y _ => l.length - (intOf y).toNat)
        case atStart => exact ⟨i + 1, 0, rfl, Nat.zero_le _, by rw [HH0.out], by go_num, hb3⟩
        case round =>
        clear hb3
        obtain ⟨j, k, hj, hk, rfl, rfl, hbv⟩ := hrel
        have HJ := Lib.hid hj
        have hj1 : j ≤ i + 1 + k := by omega
        have hj2 : i + 1 + k ≤ j := by omega
        clear hj
        obtain ⟨wv, rfl⟩ : ∃ wv, wv = wr := ⟨wr, rfl⟩
        obtain ⟨hk0, hk1⟩ := HSR.out.bd k hk
        by_cases hjl : j < l.length
        · exact absurd him (by omega)
        · obtain rfl : k = m := by omega
          go_wp2
          go_loopw [12] (fun d wr => ∃ dd : Int, d = .int .i64 dd ∧ a ≤ dd ∧ dd ≤ H k ∧ Hid (∀ e, dd < e → e ≤ H k → suitB Y l[i] i e = false) ∧ Below wo.heap.size wo wr) (fun d _ => (intOf d - a).toNat)
          case atStart => exact ⟨H k, rfl, hk0, Int.le_refl _, fun e h1 h2 => absurd h1 (by omega), hbv⟩
          case round =>
          clear hbv
          obtain ⟨dd, rfl, hd0, hd1, HNS, hbx⟩ := hrel
          have HRR := Lib.hid (HBK.out wr hbx).range
          have HRS1 := Lib.hid (HRS.out wr dd hbx)
          have hbxs := hbx.size
          cases hq : suitB Y l[i] i dd with
          | true =>
            rw [hq] at HRS1
            have HX := Lib.hid (HSR.out.is hil dd hd0 hd1 hq HNS.out)
            clear hq
            go_wp2_with (first | (have h9 := HRR; clear h9; refine wpList_load_guard (P := Try.prog) (by rfl) 29 (.tmp 3) rfl w.heap.size 0 rfl C.toList _ HRR.out Try.underlying29 rfl (by rw [HC28.out]; exact info29) ?_) | (go_at_call 93; refine HRS1.out.mono ?_; rintro e w4 ⟨rfl, hb4⟩; clear HRR; have hW4 : Below wo.heap.size wo w4 := hbx.trans (hb4.mono hbxs); have xc := HBC.out w4 hW4; have xf := (HBT.out w4 hW4).fro i; clear hb4))
            have hbtn := HBT2.out w4 dd hW4 HX.out
            have hbwn : Below w.heap.size w (w4.setCell ⟨w1.heap.size + 1, i, none⟩ (.int .i64 dd)) := (HBO.out w4 hW4).setCell (by simp; omega) _
            have hbqn : Below w1.heap.size w1 (w4.setCell ⟨w1.heap.size + 1, i, none⟩ (.int .i64 dd)) := (HBQ.out w4 hW4).setCell (by simp) _
            have hbkn : Bk (w4.setCell ⟨w1.heap.size + 1, i, none⟩ (.int .i64 dd)) w.heap.size 29 C := (HBK.out w4 hW4).far (by simp; omega) _
            have hbpn : Bk (w4.setCell ⟨w1.heap.size + 1, i, none⟩ (.int .i64 dd)) w1.heap.size 42 #[.slice A1 U.length c1] := (HBP.out w4 hW4).far (by simp) _
            go_roundw
            case rel => exact ⟨i, k + 1, _, by omega, rfl, by go_num, hbtn, hbwn, hbqn, hbkn, hbpn⟩
            case measure => simp [intOf] <;> omega
          | false =>
            rw [hq] at HRS1
            have hne : dd ≠ a := fun e => by rw [e, HSR.out.suit hil] at hq; cases hq
            have HNS2 : Hid (∀ e, dd - 1 < e → e ≤ H k → suitB Y l[i] i e = false) := fun e h1 h2 => by
              by_cases he : e = dd
              · rw [he]; exact hq
              · exact HNS.out e (by omega) h2
            have hlt : a < dd := by omega
            clear hq hne
            go_wp2_with (first | (have h9 := HRR; clear h9; refine wpList_load_guard (P := Try.prog) (by rfl) 29 (.tmp 3) rfl w.heap.size 0 rfl C.toList _ HRR.out Try.underlying29 rfl (by rw [HC28.out]; exact info29) ?_) | (go_at_call 93; refine HRS1.out.mono ?_; rintro e w4 ⟨rfl, hb4⟩; clear HRR; have hW4 : Below wo.heap.size wo w4 := hbx.trans (hb4.mono hbxs); clear hb4))
            go_roundw
            case rel => (first | exact ⟨dd - 1, rfl, by omega, by omega, HNS2, hW4⟩ | ((repeat apply Exists.intro); exact ⟨⟨dd - 1, rfl, by omega, by omega, HNS2, hW4⟩, rfl⟩))
            case measure => simp [intOf] <;> omega
      · have hm1 : 0 < m := by omega
        have HSR := Lib.hid (srch_more HE.out ⟨hf0, hf1⟩ hm1 him)
        have HE1 : Hid (∀ W : World, Below w1.heap.size w1 W → Calls Try.prog 45 #[.agg #[.slice A1 U.length c1]] W (IntEnd (ds.getD (l.length - 1) 0) W)) := fun W hb => HED2.out W hb hsz
        have hc : (i : Int) < (l.length : Int) - 1 := by omega
        have he1 : ((i : Int) + 1).toNat = i + 1 := by omega
        have he2 : 0 ≤ (i : Int) + 1 := by omega
        have he3 : (i : Int) + 1 < (l.length : Int) := by omega
        obtain ⟨H, hH⟩ : ∃ H : Nat → Int, H = hiK l Y.dry i (lateT Y l ds m) := ⟨_, rfl⟩
        rw [← hH] at HSR
        have hH0 : (fun k => (lateT Y l ds m).getD k 0) 0 - 1 = H 0 := by rw [hH]; rfl
        generalize (fun k => (lateT Y l ds m).getD k 0) = tv at *
        generalize lateX Y l ds i (lateT Y l ds m) = X at *
        generalize ds.getD i 0 = a at *
        generalize ds.getD (l.length - 1) 0 = dl at *
        obtain ⟨ht0, ht1⟩ := HSR.out.tvb 0 hm1
        have HX9 : Hid (∀ W : World, Below wo.heap.size wo W → W.cell? ⟨w1.heap.size + 1, i + 1, none⟩ = some (.int .i64 (tv 0))) := fun W hb => HTC0.out W hb 0 hm1
        have HH0 := Lib.hid hH0
        clear hH hH0 hm0
        generalize tv 0 = t0 at *
        go_upto_region 11 with (go_at_call 45; refine (HE1.out _ (HBQ.out _ (by exact (by repeat (first | with_reducible exact Below.refl _ _ | with_reducible assumption | with_reducible refine Below.drew ?_ | with_reducible refine below_drewN ?_ _ | (with_reducible refine Below.alloc ?_ ?_ _; rotate_left; (try simp) <;> omega) | (with_reducible refine Below.setCell ?_ ?_ _; rotate_left; (try simp) <;> omega)))))).mono ?_; rintro e w3 ⟨rfl, hb3'⟩; have hb3 : Below wo.heap.size wo w3 := Below.trans (by exact (by repeat (first | with_reducible exact Below.refl _ _ | with_reducible assumption | with_reducible refine Below.drew ?_ | with_reducible refine below_drewN ?_ _ | (with_reducible refine Below.alloc ?_ ?_ _; rotate_left; (try simp) <;> omega) | (with_reducible refine Below.setCell ?_ ?_ _; rotate_left; (try simp) <;> omega)))) hb3'; have x9 := HX9.out w3 hb3; clear hb3')
        clear he1 he2 he3 hc x9
        go_wp2
        go_loopw [12, 13] (fun d y wr => ∃ j k : Nat, j = i + 1 + k ∧ k ≤ m ∧ d = .int .i64 (H k) ∧ y = .int .i64 (j : Int) ∧ Below wo.heap.size wo wr) (fun _ y _ => l.length - (intOf y).toNat)
        case atStart => exact ⟨i + 1, 0, rfl, Nat.zero_le _, by rw [HH0.out], by go_num, hb3⟩
        case round =>
        clear hb3
        obtain ⟨j, k, hj, hk, rfl, rfl, hbv⟩ := hrel
        have HJ := Lib.hid hj
        have hj1 : j ≤ i + 1 + k := by omega
        have hj2 : i + 1 + k ≤ j := by omega
        clear hj
        obtain ⟨wv, rfl⟩ : ∃ wv, wv = wr := ⟨wr, rfl⟩
        obtain ⟨hk0, hk1⟩ := HSR.out.bd k hk
        by_cases hjl : j < l.length
        · have hkm : k < m := by omega
          have HST := Lib.hid (HSR.out.step k hkm)
          rw [← HJ.out, aftB_at hjl] at HST
          obtain ⟨ht2, ht3⟩ := HSR.out.tvb k hkm
          have HTJ : Hid (∀ W : World, Below wo.heap.size wo W → W.cell? ⟨w1.heap.size + 1, j, none⟩ = some (.int .i64 (tv k))) := fun W hb => by rw [HJ.out]; exact HTC0.out W hb k hkm
          obtain ⟨a2, rfl, ha2, _, _, _, _⟩ := task_at (HTK.out wv hbv).at_ hjl
          have HTT : Hid (∀ W : World, Below wo.heap.size wo W → W.cell? (a2.add (j * 4)) = some (.int .i64 l[j].work) ∧ W.cell? ⟨(a2.add (j * 4)).block, (a2.add (j * 4)).off + 1, none⟩ = some (.int .i64 l[j].need) ∧ W.cell? ⟨(a2.add (j * 4)).block, (a2.add (j * 4)).off + 2, none⟩ = some (.slice l[j].aA l[j].af.length l[j].ac) ∧ W.cell? ⟨(a2.add (j * 4)).block, (a2.add (j * 4)).off + 3, none⟩ = some (.slice l[j].cA l[j].co.length l[j].cc)) := fun W hb => by
            obtain ⟨b3, e3, _, q0, q1, q2, q3⟩ := task_at ((HTK.out W hb).at_) hjl
            cases e3
            exact ⟨q0, q1, q2, q3⟩
          have HTA := Lib.hid (fun W (hb : Below wo.heap.size wo W) => (HTK.out W hb).af l[j] (List.getElem_mem hjl))
          have han := (HTM.out.2 l[j] (List.getElem_mem hjl)).1
          have hdry := (okY_valid HO.out).dry
          obtain ⟨hdr1, hdr2⟩ := hdry
          generalize hK0 : H k = hk_ at *
          generalize hK1 : H (k + 1) = hkn at *
          generalize tv k = tkv at *
          generalize l[j] = t at *
          obtain ⟨wk, nd, aA, ac, af, cA, cc, co⟩ := t
          dsimp only at *
          have HG0 := Lib.hid (gG_zero af (i : Int) hk_ (tkv - Y.dry - 1))
          have HGE := Lib.hid (gG_end af (i : Int) hk_ (tkv - Y.dry - 1))
          rw [← HST.out] at HGE
          have HGY := Lib.hid (fun q (hq : q < af.length) (e : af[q] = (i : Int)) => gG_yes (h := hk_) (X := tkv - Y.dry - 1) hq e)
          have HGN := Lib.hid (fun q (hq : q < af.length) (e : af[q] ≠ (i : Int)) => gG_no (h := hk_) (X := tkv - Y.dry - 1) hq e)
          have HGB := Lib.hid (fun q => gG_bd af (i : Int) hk_ (tkv - Y.dry - 1) q)
          generalize gG af (i : Int) hk_ (tkv - Y.dry - 1) = G at *
          have HK1 := Lib.hid hK1
          clear hK0 hK1 HST
          have hjI : (j : Int) < (l.length : Int) := by omega
          have hj0 : 0 ≤ (j : Int) := by omega
          go_wp2
          go_loopw [12, 14] (fun d y wr => ∃ q : Nat, q ≤ af.length ∧ d = .int .i64 (G q) ∧ y = .int .i64 (q : Int) ∧ Below wo.heap.size wo wr) (fun _ y _ => af.length - (intOf y).toNat)
          case atStart => exact ⟨0, Nat.zero_le _, by rw [HG0.out], rfl, hbv⟩
          case round =>
          obtain ⟨q, hq, rfl, rfl, hbx⟩ := hrel
          obtain ⟨q0, q1, q2, q3⟩ := HTT.out wr hbx
          obtain ⟨hg1, hg2⟩ := HGB.out q
          by_cases hql : q < af.length
          · obtain ⟨a3, rfl, ha3, d0⟩ := int_at (HTA.out wr hbx) hql
            have hqI : (q : Int) < (af.length : Int) := by omega
            have hq0 : 0 ≤ (q : Int) := by omega
            by_cases hqi : af[q] = (i : Int)
            · have HGQ := Lib.hid (HGY.out q hql hqi)
              rw [hqi] at d0
              clear hqi
              have x27 := (HBK.out wr hbx).cell 27 e27
              have xtj := HTJ.out wr hbx
              have WX1 : IntKind.i64.wrap (tkv - Y.dry) = tkv - Y.dry := IntWalk.i64_in _ (by omega)
              have WX2 : IntKind.i64.wrap (tkv - Y.dry - 1) = tkv - Y.dry - 1 := IntWalk.i64_in _ (by omega)
              go_upto_region 18 with fail
              refine wp_region_held_drew (S := (fun w' => w'.cell? ⟨w1.heap.size + 1, j, none⟩ = some (.int .i64 tkv) ∧ w'.cell? ⟨w.heap.size, 27, none⟩ = some (.int .i64 Y.dry))) (by kernel_rfl) ?_ (fun hHeld => ?_)
              · exact ⟨xtj, x27⟩
              refine tk 0 78 ?_
              refine tk 1 79 ?_
              refine tk 2 80 ?_
              refine tk 3 81 ?_
              refine tk 4 82 ?_
              refine tk 5 83 ?_
              refine tk 6 84 ?_
              refine tk 7 85 ?_
              refine tk 8 86 ?_
              refine tk 9 87 ?_
              refine tk 10 12 ?_
              refine wpAnyH_done (by kernel_rfl) ?_ _
              go_wp2
              go_roundw
              case rel => exact ⟨q + 1, by omega, by rw [HGQ.out], by go_num, by exact (by repeat (first | with_reducible exact Below.refl _ _ | with_reducible assumption | with_reducible refine Below.drew ?_ | with_reducible refine below_drewN ?_ _ | (with_reducible refine Below.alloc ?_ ?_ _; rotate_left; (try simp) <;> omega) | (with_reducible refine Below.setCell ?_ ?_ _; rotate_left; (try simp) <;> omega)))⟩
              case measure => simp [intOf] <;> omega
            · have HGQ := Lib.hid (HGN.out q hql hqi)
              have hqe : (af[q] == (i : Int)) = false := by simpa using hqi
              generalize af[q] = v at *
              clear hqi
              go_wp2
              go_roundw
              case rel => exact ⟨q + 1, by omega, by rw [HGQ.out], by go_num, by exact (by repeat (first | with_reducible exact Below.refl _ _ | with_reducible assumption | with_reducible refine Below.drew ?_ | with_reducible refine below_drewN ?_ _ | (with_reducible refine Below.alloc ?_ ?_ _; rotate_left; (try simp) <;> omega) | (with_reducible refine Below.setCell ?_ ?_ _; rotate_left; (try simp) <;> omega)))⟩
              case measure => simp [intOf] <;> omega
          · obtain rfl : q = af.length := by omega
            clear hql
            go_wp2
            go_roundw
            case rel => exact ⟨j + 1, k + 1, by omega, by omega, by rw [HK1.out, HGE.out], by go_num, by exact (by repeat (first | with_reducible exact Below.refl _ _ | with_reducible assumption | with_reducible refine Below.drew ?_ | with_reducible refine below_drewN ?_ _ | (with_reducible refine Below.alloc ?_ ?_ _; rotate_left; (try simp) <;> omega) | (with_reducible refine Below.setCell ?_ ?_ _; rotate_left; (try simp) <;> omega)))⟩
            case measure => simp [intOf] <;> omega
        · obtain rfl : k = m := by omega
          go_wp2
          go_loopw [12] (fun d wr => ∃ dd : Int, d = .int .i64 dd ∧ a ≤ dd ∧ dd ≤ H k ∧ Hid (∀ e, dd < e → e ≤ H k → suitB Y l[i] i e = false) ∧ Below wo.heap.size wo wr) (fun d _ => (intOf d - a).toNat)
          case atStart => exact ⟨H k, rfl, hk0, Int.le_refl _, fun e h1 h2 => absurd h1 (by omega), hbv⟩
          case round =>
          clear hbv
          obtain ⟨dd, rfl, hd0, hd1, HNS, hbx⟩ := hrel
          have HRR := Lib.hid (HBK.out wr hbx).range
          have HRS1 := Lib.hid (HRS.out wr dd hbx)
          have hbxs := hbx.size
          cases hq : suitB Y l[i] i dd with
          | true =>
            rw [hq] at HRS1
            have HX := Lib.hid (HSR.out.is hil dd hd0 hd1 hq HNS.out)
            clear hq
            go_wp2_with (first | (have h9 := HRR; clear h9; refine wpList_load_guard (P := Try.prog) (by rfl) 29 (.tmp 3) rfl w.heap.size 0 rfl C.toList _ HRR.out Try.underlying29 rfl (by rw [HC28.out]; exact info29) ?_) | (go_at_call 93; refine HRS1.out.mono ?_; rintro e w4 ⟨rfl, hb4⟩; clear HRR; have hW4 : Below wo.heap.size wo w4 := hbx.trans (hb4.mono hbxs); have xc := HBC.out w4 hW4; have xf := (HBT.out w4 hW4).fro i; clear hb4))
            have hbtn := HBT2.out w4 dd hW4 HX.out
            have hbwn : Below w.heap.size w (w4.setCell ⟨w1.heap.size + 1, i, none⟩ (.int .i64 dd)) := (HBO.out w4 hW4).setCell (by simp; omega) _
            have hbqn : Below w1.heap.size w1 (w4.setCell ⟨w1.heap.size + 1, i, none⟩ (.int .i64 dd)) := (HBQ.out w4 hW4).setCell (by simp) _
            have hbkn : Bk (w4.setCell ⟨w1.heap.size + 1, i, none⟩ (.int .i64 dd)) w.heap.size 29 C := (HBK.out w4 hW4).far (by simp; omega) _
            have hbpn : Bk (w4.setCell ⟨w1.heap.size + 1, i, none⟩ (.int .i64 dd)) w1.heap.size 42 #[.slice A1 U.length c1] := (HBP.out w4 hW4).far (by simp) _
            go_roundw
            case rel => exact ⟨i, k + 1, _, by omega, rfl, by go_num, hbtn, hbwn, hbqn, hbkn, hbpn⟩
            case measure => simp [intOf] <;> omega
          | false =>
            rw [hq] at HRS1
            have hne : dd ≠ a := fun e => by rw [e, HSR.out.suit hil] at hq; cases hq
            have HNS2 : Hid (∀ e, dd - 1 < e → e ≤ H k → suitB Y l[i] i e = false) := fun e h1 h2 => by
              by_cases he : e = dd
              · rw [he]; exact hq
              · exact HNS.out e (by omega) h2
            have hlt : a < dd := by omega
            clear hq hne
            go_wp2_with (first | (have h9 := HRR; clear h9; refine wpList_load_guard (P := Try.prog) (by rfl) 29 (.tmp 3) rfl w.heap.size 0 rfl C.toList _ HRR.out Try.underlying29 rfl (by rw [HC28.out]; exact info29) ?_) | (go_at_call 93; refine HRS1.out.mono ?_; rintro e w4 ⟨rfl, hb4⟩; clear HRR; have hW4 : Below wo.heap.size wo w4 := hbx.trans (hb4.mono hbxs); clear hb4))
            go_roundw
            case rel => (first | exact ⟨dd - 1, rfl, by omega, by omega, HNS2, hW4⟩ | ((repeat apply Exists.intro); exact ⟨⟨dd - 1, rfl, by omega, by omega, HNS2, hW4⟩, rfl⟩))
            case measure => simp [intOf] <;> omega
  · rw [slk_bad h0]
    generalize earE Y l f = N at *
    generalize earP Y l f = U at *
    have hne : (N != 0) = true := by simp [h0]
    clear h0
    go_enter Try.func34, Try.ntmps34
    go_wp2_with (first | (have h9 := HR0; clear h9; refine wpList_load_guard (P := Try.prog) (by rfl) 29 (.tmp 3) rfl w.heap.size 0 rfl C.toList _ HR0.out Try.underlying29 rfl (by rw [HC28.out]; exact info29) ?_) | (go_at_call 30; refine (HEA.out _ hb0).mono ?_; rintro e w1 ⟨v1, rfl, ho1, hb1⟩; clear HR0; obtain ⟨A1, c1, rfl, _, _⟩ := ownsSlice ho1; have hB1 : Below w.heap.size w w1 := hb0.trans (hb1.mono hb0.size); clear hb1 ho1))
    go_ret2
    have hz1 := hB1.size
    exact ⟨_, rfl, World.ownsRow_nil _ _ _ _, by exact (by repeat (first | with_reducible exact Below.refl _ _ | with_reducible assumption | with_reducible refine Below.drew ?_ | with_reducible refine below_drewN ?_ _ | (with_reducible refine Below.alloc ?_ ?_ _; rotate_left; (try simp) <;> omega) | (with_reducible refine Below.setCell ?_ ?_ _; rotate_left; (try simp) <;> omega)))⟩
end Go.Proofs.Ytjgnikmnadmheaa
