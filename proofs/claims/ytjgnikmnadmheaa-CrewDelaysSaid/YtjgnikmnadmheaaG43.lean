/- A harder yard, later days: the plain law of CrewDelays. -/
import Derived.Test.YtjgnikmnadmheaaG02
import Derived.Test.YtjgnikmnadmheaaG11
import Derived.Test.YtjgnikmnadmheaaG13
import Derived.Test.YtjgnikmnadmheaaG30

namespace Go.Proofs.Ytjgnikmnadmheaa
open Go.RowKit

theorem lowK_dry {dry dry' f : Int} {af P : List Int} (h : dry ≤ dry') : ∀ k, k ≤ af.length → lowK dry f af P k ≤ lowK dry' f af P k
  | 0, _ => by rw [lowK_zero, lowK_zero]; exact Int.le_refl _
  | k + 1, hk => by
    have ih := lowK_dry (f := f) (af := af) (P := P) h k (by omega)
    rw [lowK_succ (by omega), lowK_succ (by omega)]
    omega
/-- days that serve where it is harder serve where it is not -/
theorem harder {Y Y' : Yd} {l l' : List Tk} {f : Int} {D : List Int} (hlen : l'.length = l.length) (haf : ∀ i (h : i < l.length) (h' : i < l'.length), l'[i].af = l[i].af) (hdry : Y.dry ≤ Y'.dry)
    (hs : ∀ i (h : i < l.length) (h' : i < l'.length) (d : Int), suitB Y' l'[i] i d = true → suitB Y l[i] i d = true) (hD : DaysOK Y' l' f D) : DaysOK Y l f D :=
  ⟨by rw [hD.len, hlen], fun i hi => by
    obtain ⟨h1, h2, h3⟩ := hD.at_ i (by omega)
    refine ⟨?_, h2, hs i hi (by omega) _ h3⟩
    have h4 := lowK_dry (f := f) (af := l[i].af) (P := D.take i) hdry l[i].af.length (Nat.le_refl _)
    have e := haf i hi (by omega)
    unfold lowS at h1 ⊢
    rw [e] at h1
    omega⟩
theorem delay_le {Y Y' : Yd} {l l' : List Tk} {f : Int} {q : List Int} (hlen : l'.length = l.length) (haf : ∀ i (h : i < l.length) (h' : i < l'.length), l'[i].af = l[i].af) (hdry : Y.dry ≤ Y'.dry)
    (hs : ∀ i (h : i < l.length) (h' : i < l'.length) (d : Int), suitB Y' l'[i] i d = true → suitB Y l[i] i d = true) (hq : earD Y' l' f = some q) : ∃ p, earD Y l f = some p ∧ ∀ j, j < l.length → p.getD j 0 ≤ q.getD j 0 := by
  have hD := harder hlen haf hdry hs (daysOK_ear hq)
  obtain ⟨L, hL, hl⟩ := est_least hD l.length [] (by simp) (fun j hj => absurd hj (by simp))
  exact ⟨L, hL, fun j hj => hl j (by rw [earD_len hL]; exact hj)⟩
theorem suit_mono {Y Y' : Yd} {t t' : Tk} {i : Nat} {d : Int} (ho : openB Y' d = true → openB Y d = true) (hm : minOf Y' d ≤ minOf Y d) (hb : batOf Y'.pi d ≤ batOf Y.pi d)
    (hk : 0 < (skL Y'.ma d t'.need).length → 0 < (skL Y.ma d t.need).length) (hw : t.work ≤ t'.work) (h : suitB Y' t' i d = true) : suitB Y t i d = true := by
  unfold suitB at h ⊢
  rw [Bool.and_eq_true, Bool.and_eq_true, Bool.and_eq_true, decide_eq_true_eq, decide_eq_true_eq, decide_eq_true_eq] at h ⊢
  obtain ⟨h1, h2, h3, h4⟩ := h
  exact ⟨ho h1, by omega, by omega, hk h4⟩
/-- one more closed day -/
theorem open_more {Y Y' : Yd} {d : Int} (h : ∀ x, x ∈ Y.cl → x ∈ Y'.cl) (ho : openB Y' d = true) : openB Y d = true := by
  unfold openB at ho ⊢
  rw [Bool.and_eq_true] at ho ⊢
  refine ⟨ho.1, ?_⟩
  have h1 := ho.2
  rw [Bool.not_eq_true', ← Bool.not_eq_true, List.contains_iff_mem] at h1 ⊢
  exact fun hm => h1 (h d hm)
theorem min_open {Y Y' : Yd} {d : Int} (hse : Y'.se = Y.se) (h : openB Y' d = true → openB Y d = true) (h0 : ∀ i, i < 24 → 0 ≤ Y.se i) : minOf Y' d ≤ minOf Y d := by
  have hi : 2 * seaI d + 1 < 24 := by unfold seaI; omega
  have h1 := h0 (2 * seaI d) (by omega)
  have h2 := h0 (2 * seaI d + 1) hi
  unfold minOf
  rw [hse]
  by_cases ho : openB Y' d = true
  · rw [if_pos ho, if_pos (h ho)]; exact Int.le_refl _
  · rw [if_neg ho]
    split <;> omega
/-- less light -/
theorem min_light {Y Y' : Yd} {d : Int} (hcl : Y'.cl = Y.cl) (hse : ∀ i, Y'.se i ≤ Y.se i) : minOf Y' d ≤ minOf Y d := by
  have h1 := hse (2 * seaI d)
  have h2 := hse (2 * seaI d + 1)
  have ho : openB Y' d = openB Y d := by unfold openB; rw [hcl]
  unfold minOf
  rw [ho]
  split <;> omega
/-- a pit less -/
theorem bat_erase {pi : List Pit} {i : Nat} {d : Int} (h : ∀ p ∈ pi, 0 ≤ p.b) : batOf (pi.take i ++ pi.drop (i + 1)) d ≤ batOf pi d := by
  unfold batOf
  rw [List.map_append, List.sum_append]
  by_cases hi : i < pi.length
  · have e : pi = pi.take i ++ pi[i] :: pi.drop (i + 1) := by rw [← List.drop_eq_getElem_cons hi, List.take_append_drop]
    have h1 : (pi.map (batAt d)).sum = ((pi.take i).map (batAt d)).sum + (batAt d pi[i] + ((pi.drop (i + 1)).map (batAt d)).sum) := by
      conv => lhs; rw [e]
      rw [List.map_append, List.sum_append, List.map_cons, List.sum_cons]
    rw [h1]
    have h2 : 0 ≤ batAt d pi[i] := by
      unfold batAt
      split
      · exact h _ (List.getElem_mem hi)
      · exact Int.le_refl _
    omega
  · rw [List.take_of_length_le (by omega), List.drop_eq_nil_of_le (by omega)]
    simp
/-- a master less -/
theorem sk_some {ma : List Mas} {d need : Int} : 0 < (skL ma d need).length ↔ ∃ m ∈ ma, skB m d need = true := by
  unfold skL skK
  rw [List.length_map, List.length_pos_iff_exists_mem]
  constructor
  · rintro ⟨i, hi⟩
    rw [List.mem_filter, List.mem_range] at hi
    obtain ⟨h1, h2⟩ := hi
    unfold skAt at h2
    rw [List.getElem?_eq_getElem h1] at h2
    exact ⟨_, List.getElem_mem h1, h2⟩
  · rintro ⟨m, hm, h2⟩
    obtain ⟨i, hi, rfl⟩ := List.mem_iff_getElem.1 hm
    refine ⟨i, ?_⟩
    rw [List.mem_filter, List.mem_range]
    refine ⟨hi, ?_⟩
    unfold skAt
    rw [List.getElem?_eq_getElem hi]
    exact h2
theorem sk_erase {ma : List Mas} {i : Nat} {d need : Int} (h : 0 < (skL (ma.take i ++ ma.drop (i + 1)) d need).length) : 0 < (skL ma d need).length := by
  rw [sk_some] at h ⊢
  obtain ⟨m, hm, h2⟩ := h
  refine ⟨m, ?_, h2⟩
  rcases List.mem_append.1 hm with e | e
  · exact List.mem_of_mem_take e
  · exact List.mem_of_mem_drop e
end Go.Proofs.Ytjgnikmnadmheaa

namespace Go.Proofs.Ytjgnikmnadmheaa
open Go.RowKit

theorem small_l {Y : Yd} {l : List Tk} (h : slowB Y l = false) : Small Y ∧ tame l := by
  have hv : vastB Y l = false := by unfold slowB at h; rw [Bool.or_eq_false_iff] at h; exact h.1
  obtain ⟨h1, h2, _⟩ := vast_facts hv
  exact ⟨⟨by omega, by omega, by omega, h2⟩, tame_of hv⟩
theorem begE_span (Y : Yd) (l : List Tk) (f : Int) : begE Y l f ≠ 70 := by
  have h1 : chkY Y ≠ 70 := by unfold chkY; split <;> (try split) <;> (try split) <;> decide
  have h2 : chkL l ≠ 70 := by unfold chkL; split <;> (try split) <;> decide
  have h3 : comE Y l ≠ 70 := by unfold comE; split <;> assumption
  unfold begE
  split
  · split <;> decide
  · exact h3
theorem plan_pits {Y : Yd} {l : List Tk} {f : Int} {ts : List Tu} (hp : Y.pi.length ≤ 1000) (h : planOK Y l f ts = true) : ∀ t ∈ ts, i64v t.pit := fun t ht => by
  unfold planOK at h
  rw [Bool.and_eq_true, decide_eq_true_eq, List.all_eq_true] at h
  obtain ⟨i, hi, rfl⟩ := List.mem_iff_getElem.1 ht
  have h1 := h.2 i (List.mem_range.2 (by omega))
  rw [turnOK_at (by omega) hi, Bool.and_eq_true, Bool.and_eq_true, Bool.and_eq_true] at h1
  have h2 := inB_iff.1 h1.2.2.1
  unfold i64v
  omega
end Go.Proofs.Ytjgnikmnadmheaa

namespace Go.Proofs.Ytjgnikmnadmheaa
open Go.RowKit

structure Harder (Y : Yd) (l : List Tk) (Y' : Yd) (l' : List Tk) : Prop where
  len : l'.length = l.length
  af : ∀ i (h : i < l.length) (h' : i < l'.length), l'[i].af = l[i].af
  dry : Y.dry ≤ Y'.dry
  su : ∀ i (h : i < l.length) (h' : i < l'.length) (d : Int), suitB Y' l'[i] i d = true → suitB Y l[i] i d = true
theorem earE_two {Y : Yd} {l : List Tk} {f : Int} (h : earE Y l f = 0 ∨ earE Y l f = 70) : begE Y l f = 0 := by
  by_cases hb : begE Y l f = 0
  · exact hb
  · have h70 := begE_span Y l f
    rw [(earP_bad hb).2] at h
    rcases h with h | h
    · exact h
    · exact absurd h h70
theorem day_getD {Y : Yd} {l : List Tk} {f : Int} {p : List Int} (h : begE Y l f = 0) (hp : earD Y l f = some p) (k : Nat) (a : k < (earP Y l f).length) : (earP Y l f)[k].day = p.getD k 0 := by
  have lp := earD_len hp
  have d1 : ((earP Y l f).map Tu.day) = p := by rw [(earP_some h hp).1]; exact usual_day Y l p (by omega)
  have : ((earP Y l f).map Tu.day)[k]? = p[k]? := by rw [d1]
  rw [List.getElem?_map, List.getElem?_eq_getElem a] at this
  rw [List.getD_eq_getElem?_getD, ← this]; rfl
theorem harder_plans {Y Y' : Yd} {l l' : List Tk} {f : Int} (h : Harder Y l Y' l') (h1 : begE Y l f = 0) (h2 : begE Y' l' f = 0) (h3 : earE Y' l' f ≠ 70) :
    earE Y l f = 0 ∧ earE Y' l' f = 0 ∧ (earP Y l f).length = (earP Y' l' f).length ∧ (earP Y' l' f).length ≤ 1000 ∧ ∀ k (a : k < (earP Y' l' f).length) (b : k < (earP Y l f).length), (earP Y l f)[k].day ≤ (earP Y' l' f)[k].day := by
  cases hq : earD Y' l' f with
  | none => exact absurd (earP_none h2 hq).2 h3
  | some q =>
    obtain ⟨p, hp, hle⟩ := delay_le h.len h.af h.dry h.su hq
    have e2 := (earP_some h1 hp).2
    have e4 := (earP_some h2 hq).2
    have lp := earD_len hp
    have lq := earD_len hq
    have hlen := h.len
    have u1 : (earP Y l f).length = p.length := by rw [(earP_some h1 hp).1, usual_len Y l [] p (Nat.zero_le _)]
    have u2 : (earP Y' l' f).length = q.length := by rw [(earP_some h2 hq).1, usual_len Y' l' [] q (Nat.zero_le _)]
    have n12 := (begE_ok h1).2.1.n
    refine ⟨e2, e4, by omega, by omega, fun k a b => ?_⟩
    rw [day_getD h1 hp k b, day_getD h2 hq k a]
    exact hle k (by omega)

/-- the change made the calendar harder, or a work lesser -/
def Rel (less : Bool) (Y : Yd) (l : List Tk) (Y' : Yd) (l' : List Tk) (f : Int) : Prop := begE Y l f = 0 → begE Y' l' f = 0 → if less = true then Harder Y' l' Y l else Harder Y l Y' l'
theorem mem_insL {l : List Int} {i : Nat} {d x : Int} (h : x ∈ l) : x ∈ insL l i d := by
  unfold insL
  rw [← List.take_append_drop i l] at h
  rcases List.mem_append.1 h with e | e
  · exact List.mem_append_left _ e
  · exact List.mem_append_right _ (List.mem_cons_of_mem _ e)
theorem rel_close {Y : Yd} {l : List Tk} {f d : Int} (h : closeE Y d = 0) : Rel false Y l (closeY Y d) l f := by
  intro hb _
  have hv := okY_valid (begE_ok hb).1
  rw [if_neg (by decide)]
  have e : closeY Y d = { Y with cl := insL Y.cl (cntLt Y.cl d) d } := by unfold closeY; rw [if_pos h]
  rw [e]
  have ho : ∀ x, openB { Y with cl := insL Y.cl (cntLt Y.cl d) d } x = true → openB Y x = true := fun x hx => open_more (Y' := { Y with cl := insL Y.cl (cntLt Y.cl d) d }) (fun y hy => mem_insL hy) hx
  exact ⟨rfl, fun _ _ _ => rfl, Int.le_refl _, fun i _ _ x hs => suit_mono (ho x) (min_open (Y' := { Y with cl := insL Y.cl (cntLt Y.cl d) d }) rfl (ho x) (fun k hk => (hv.se k hk).1)) (Int.le_refl _) id (Int.le_refl _) hs⟩
/-- less light in a season -/
def lightY (Y : Yd) (i : Nat) : Yd := { Y with se := fun k => if k = 2 * i then wrap64 ((Y.se k).tdiv 2) else Y.se k }
theorem rel_light {Y : Yd} {l : List Tk} {f : Int} {i : Nat} (hi : i < 12) : Rel false Y l (lightY Y i) l f := by
  intro hb _
  have hv := okY_valid (begE_ok hb).1
  rw [if_neg (by decide)]
  refine ⟨rfl, fun _ _ _ => rfl, Int.le_refl _, fun j _ _ x hs => suit_mono (Y := Y) (Y' := lightY Y i) id (min_light (Y' := lightY Y i) rfl fun k => ?_) (Int.le_refl _) id (Int.le_refl _) hs⟩
  show (if k = 2 * i then wrap64 ((Y.se k).tdiv 2) else Y.se k) ≤ Y.se k
  split
  · rename_i e
    have h1 := hv.se k (by omega)
    rw [Int.tdiv_eq_ediv_of_nonneg h1.1, IntWalk.wrap64_in _ (by omega)]
    omega
  · exact Int.le_refl _
def dryY (Y : Yd) (i : Nat) : Yd := { Y with dry := wrap64 (Y.dry + i) }
theorem rel_dry {Y : Yd} {l : List Tk} {f : Int} {i : Nat} (hi : i < 12) : Rel false Y l (dryY Y i) l f := by
  intro hb _
  have hv := okY_valid (begE_ok hb).1
  have := hv.dry
  rw [if_neg (by decide)]
  refine ⟨rfl, fun _ _ _ => rfl, ?_, fun j _ _ x hs => hs⟩
  show Y.dry ≤ wrap64 (Y.dry + i)
  rw [IntWalk.wrap64_in _ (by omega)]
  omega
def pitY (Y : Yd) (i : Nat) : Yd := { Y with pi := Y.pi.take i ++ Y.pi.drop (i + 1) }
theorem rel_pit {Y : Yd} {l : List Tk} {f : Int} {i : Nat} : Rel false Y l (pitY Y i) l f := by
  intro hb _
  have hv := okY_valid (begE_ok hb).1
  rw [if_neg (by decide)]
  exact ⟨rfl, fun _ _ _ => rfl, Int.le_refl _, fun j _ _ x hs => suit_mono (Y := Y) (Y' := pitY Y i) id (Int.le_refl _) (bat_erase fun p hp => by have := (hv.pi p hp).2.2.1; omega) id (Int.le_refl _) hs⟩
def masY (Y : Yd) (i : Nat) : Yd := { Y with ma := Y.ma.take i ++ Y.ma.drop (i + 1) }
theorem rel_mas {Y : Yd} {l : List Tk} {f : Int} {i : Nat} : Rel false Y l (masY Y i) l f := by
  intro hb _
  rw [if_neg (by decide)]
  exact ⟨rfl, fun _ _ _ => rfl, Int.le_refl _, fun j _ _ x hs => suit_mono (Y := Y) (Y' := masY Y i) (t := l[j]) (t' := l[j]) id (Int.le_refl _) (Int.le_refl _) sk_erase (Int.le_refl _) hs⟩
def lessT (t : Tk) : Tk := { t with work := wrap64 ((wrap64 (t.work + 1)).tdiv 2) }
def lessL (l : List Tk) (i : Nat) : List Tk := match l[i]? with | some t => l.set i (lessT t) | none => l
theorem lessL_len (l : List Tk) (i : Nat) : (lessL l i).length = l.length := by
  unfold lessL; split
  · exact List.length_set
  · rfl
theorem lessL_at {l : List Tk} {i j : Nat} (h : j < l.length) (h' : j < (lessL l i).length) : (lessL l i)[j] = if i = j then lessT l[j] else l[j] := by
  unfold lessL at h' ⊢
  by_cases hi : i < l.length
  · simp only [List.getElem?_eq_getElem hi]
    rw [List.getElem_set]
    by_cases e : i = j
    · subst e; simp
    · rw [if_neg e, if_neg e]
  · have hn : l[i]? = none := by rw [List.getElem?_eq_none_iff]; omega
    simp only [hn]
    rw [if_neg (by omega)]
theorem rel_less {Y : Yd} {l : List Tk} {f : Int} {i : Nat} : Rel true Y l Y (lessL l i) f := by
  intro hb _
  have hv := (begE_ok hb).2.1
  rw [if_pos rfl]
  refine ⟨(lessL_len l i).symm, fun j h h' => ?_, Int.le_refl _, fun j h h' x hs => ?_⟩
  · rw [lessL_at h' h]; split <;> rfl
  · rw [lessL_at h' h]
    split
    · refine suit_mono (t' := l[j]) id (Int.le_refl _) (Int.le_refl _) id ?_ hs
      have hw := hv.work j h'
      show wrap64 ((wrap64 (l[j].work + 1)).tdiv 2) ≤ l[j].work
      rw [IntWalk.wrap64_in (l[j].work + 1) (by omega), Int.tdiv_eq_ediv_of_nonneg (by omega), IntWalk.wrap64_in _ (by omega)]
      omega
    · exact hs
end Go.Proofs.Ytjgnikmnadmheaa

namespace Go.Proofs.Ytjgnikmnadmheaa
open Go.RowKit

set_option maxRecDepth 100000 in
set_option maxHeartbeats 1000000 in
theorem later_yes (ts us : List Tu) (A B : Option Addr) (c d : Nat) (w : World) (hA : Lies w w.heap.size A (turnsC ts)) (hB : Lies w w.heap.size B (turnsC us)) (hn : ts.length ≤ 1000) (hl : us.length = ts.length) (hle : ∀ k (h : k < ts.length) (h2 : k < us.length), us[k].day ≤ ts[k].day) :
    Calls Try.prog 25 #[.agg #[.slice A ts.length c], .agg #[.slice B us.length d]] w (ShEnd true w) := by
  have k2 : Bk ((w.alloc (.cells #[.slice A ts.length c] 42)).alloc (.cells #[.slice B us.length d] 42)) w.heap.size 42 #[.slice A ts.length c] := (Bk.new _ _ _).alloc _
  have k3 : Bk ((w.alloc (.cells #[.slice A ts.length c] 42)).alloc (.cells #[.slice B us.length d] 42)) (w.heap.size + 1) 42 #[.slice B us.length d] := by simpa using Bk.new (w.alloc (.cells #[.slice A ts.length c] 42)) 42 #[.slice B us.length d]
  have hb0 : Below w.heap.size w ((w.alloc (.cells #[.slice A ts.length c] 42)).alloc (.cells #[.slice B us.length d] 42)) := by exact (by repeat (first | with_reducible exact Below.refl _ _ | with_reducible assumption | with_reducible refine Below.drew ?_ | with_reducible refine below_drewN ?_ _ | (with_reducible refine Below.alloc ?_ ?_ _; rotate_left; (try simp) <;> omega) | (with_reducible refine Below.setCell ?_ ?_ _; rotate_left; (try simp) <;> omega)))
  have HAW := Lib.hid (fun W (hb : Below w.heap.size w W) => hA.below hb (Nat.le_refl _))
  have HBW := Lib.hid (fun W (hb : Below w.heap.size w W) => hB.below hb (Nat.le_refl _))
  have HLE := Lib.hid hle
  have hne : ((ts.length : Int) != (us.length : Int)) = false := by rw [hl]; simp
  have hl1 : us.length ≤ ts.length := by omega
  have hl2 : ts.length ≤ us.length := by omega
  clear hA hB hle hl
  go_enter Try.func25, Try.ntmps25
  go_wp2
  go_loopw [5] (fun y wr => ∃ k : Nat, k ≤ ts.length ∧ y = .int .i64 (k : Int) ∧ Below w.heap.size w wr ∧ Bk wr w.heap.size 42 #[.slice A ts.length c] ∧ Bk wr (w.heap.size + 1) 42 #[.slice B us.length d]) (fun y _ => ts.length - (intOf y).toNat)
  case atStart => exact ⟨0, Nat.zero_le _, rfl, hb0, k2, k3⟩
  case round =>
  clear hb0 k2 k3
  obtain ⟨k, hk, rfl, hbw, h2, h3⟩ := hrel
  have x2 := h2.cell 0 rfl
  have x3 := h3.cell 0 rfl
  by_cases hlt : k < ts.length
  · have hlt2 : k < us.length := by omega
    obtain ⟨a1, rfl, ha1, t0, _, _⟩ := turn_at (HAW.out wr hbw) hlt
    obtain ⟨a2, rfl, ha2, s0, _, _⟩ := turn_at (HBW.out wr hbw) hlt2
    have hxy := HLE.out k hlt hlt2
    generalize ts[k].day = x at *
    generalize us[k].day = y at *
    have hxn : ¬ x < y := by omega
    have hkI : (k : Int) < (ts.length : Int) := by omega
    have hkJ : (k : Int) < (us.length : Int) := by omega
    have hk0 : 0 ≤ (k : Int) := by omega
    go_upto_region 6 with fail
    refine wp_region_held_drew (S := (fun w' => (w'.cell? ⟨w.heap.size, 0, none⟩ = some (.slice (some a1) ts.length c) ∧ w'.cell? ⟨w.heap.size + 1, 0, none⟩ = some (.slice (some a2) us.length d)) ∧ w'.cell? (a1.add (k * 3)) = some (.int .i64 x) ∧ w'.cell? (a2.add (k * 3)) = some (.int .i64 y))) (by kernel_rfl) ?_ (fun hHeld => ?_)
    · exact ⟨⟨x2, x3⟩, t0, s0⟩
    refine tk 0 20 ?_
    refine tk 1 21 ?_
    refine tk 2 22 ?_
    refine tk 3 23 ?_
    refine tk 4 24 ?_
    refine tk 5 25 ?_
    refine tk 6 26 ?_
    refine tk 7 27 ?_
    refine tk 8 28 ?_
    refine tk 9 29 ?_
    refine tk 10 30 ?_
    refine tk 11 31 ?_
    refine tk 12 32 ?_
    refine wpAnyH_done (by kernel_rfl) ?_ _
    clear hHeld
    go_wp2
    go_roundw
    case rel => exact ⟨k + 1, by omega, by go_num, by exact (by repeat (first | with_reducible exact Below.refl _ _ | with_reducible assumption | with_reducible refine Below.drew ?_ | with_reducible refine below_drewN ?_ _ | (with_reducible refine Below.alloc ?_ ?_ _; rotate_left; (try simp) <;> omega) | (with_reducible refine Below.setCell ?_ ?_ _; rotate_left; (try simp) <;> omega))), h2.drew, h3.drew⟩
    case measure => simp [intOf] <;> omega
  · obtain rfl : k = ts.length := by omega
    go_wp2
    go_ret
    exact ⟨rfl, hbw⟩
end Go.Proofs.Ytjgnikmnadmheaa

namespace Go.Proofs.Ytjgnikmnadmheaa
open Go.RowKit

theorem info48 : (Try.prog.info? 48).map (fun i => (i.zero, i.size, i.bytes)) = some (some (.agg #[.int .i64 0, .int .i64 0, .slice none 0 0, .slice none 0 0]), 4, 64) := by kernel_rfl
def zero29 : Array Value := #[.int .i64 0, .int .i64 0, .int .i64 0, .int .i64 0, .int .i64 0, .int .i64 0, .int .i64 0, .int .i64 0, .int .i64 0, .int .i64 0, .int .i64 0, .int .i64 0, .int .i64 0, .int .i64 0, .int .i64 0, .int .i64 0, .int .i64 0, .int .i64 0, .int .i64 0, .int .i64 0, .int .i64 0, .int .i64 0, .int .i64 0, .int .i64 0, .slice none 0 0, .slice none 0 0, .slice none 0 0, .int .i64 0]
theorem zero_new29 (w : World) (o : Obj) : Bk ((w.alloc o).alloc (.cells #[.int .i64 0, .int .i64 0, .int .i64 0, .int .i64 0, .int .i64 0, .int .i64 0, .int .i64 0, .int .i64 0, .int .i64 0, .int .i64 0, .int .i64 0, .int .i64 0, .int .i64 0, .int .i64 0, .int .i64 0, .int .i64 0, .int .i64 0, .int .i64 0, .int .i64 0, .int .i64 0, .int .i64 0, .int .i64 0, .int .i64 0, .int .i64 0, .slice none 0 0, .slice none 0 0, .slice none 0 0, .int .i64 0] 29)) (w.heap.size + 1) 29 zero29 := by
  have h := Bk.new (w.alloc o) 29 zero29
  rw [World.size_alloc] at h
  exact h
theorem zero_n29 (w : World) : Bk (w.alloc (.cells #[.int .i64 0, .int .i64 0, .int .i64 0, .int .i64 0, .int .i64 0, .int .i64 0, .int .i64 0, .int .i64 0, .int .i64 0, .int .i64 0, .int .i64 0, .int .i64 0, .int .i64 0, .int .i64 0, .int .i64 0, .int .i64 0, .int .i64 0, .int .i64 0, .int .i64 0, .int .i64 0, .int .i64 0, .int .i64 0, .int .i64 0, .int .i64 0, .slice none 0 0, .slice none 0 0, .slice none 0 0, .int .i64 0] 29)) w.heap.size 29 zero29 := Bk.new w 29 zero29
theorem own_empty48 (w : World) : (w.alloc (.cells #[] 48)).ownsRow w.heap.size 48 4 (.slice (some ⟨w.heap.size, 0, none⟩) 0 0) 0 [] :=
  ⟨rfl, .inr ⟨w.heap.size, 0, #[], rfl, Nat.le_refl _, heap_alloc_new w _, Nat.le_refl _, by decide, rfl, rfl⟩⟩
theorem one_tasks (l : List Tk) : ∀ u ∈ tasksC l, u.oneCell' = true := fun u hu => by
  unfold tasksC at hu
  obtain ⟨t, _, h⟩ := List.mem_flatMap.1 hu
  unfold Tk.cells at h
  simp at h
  rcases h with rfl | rfl | rfl | rfl <;> rfl
theorem pitsC_len (l : List Pit) : (pitsC l).length = l.length * 3 := flat_length Pit.cells 3 (fun _ => rfl) l
theorem massC_len (l : List Mas) : (massC l).length = l.length * 4 := flat_length Mas.cells 4 (fun _ => rfl) l
theorem tasks_len (l : List Tk) : (tasksC l).length = l.length * 4 := flat_length Tk.cells 4 (fun _ => rfl) l
theorem u64_nonneg (x : Int) : 0 ≤ IntKind.u64.wrap x := by
  simp [IntKind.wrap, IntKind.bits, IntKind.signed]
  omega
theorem which_i (x : Int) : ∃ i : Nat, i < 12 ∧ Hid (wrap64 ((IntKind.u64.wrap x).tmod 12) = (i : Int)) := by
  have h := u64_nonneg x
  generalize IntKind.u64.wrap x = y at *
  have e : y.tmod 12 = y % 12 := Int.tmod_eq_emod_of_nonneg h
  refine ⟨(y % 12).toNat, by omega, ?_⟩
  show _ = _
  rw [e, IntWalk.wrap64_in _ (by omega)]
  omega
theorem what_q (x : Int) : ∃ q : Int, 0 ≤ q ∧ q < 6 ∧ Hid ((IntKind.u64.wrap x).tmod 6 = q) := by
  have h := u64_nonneg x
  generalize IntKind.u64.wrap x = y at *
  have e : y.tmod 6 = y % 6 := Int.tmod_eq_emod_of_nonneg h
  exact ⟨y % 6, by omega, by omega, e⟩
/-- what holds where the six changes meet again -/
structure CutD (less : Bool) (C : Array Value) (Y : Yd) (l : List Tk) (A2 : Option Addr) (c2 : Nat) (w w2 : World) (C' : Array Value) (Y' : Yd) (l' : List Tk) (A4 : Option Addr) (f : Int) (wc : World) : Prop where
  bw : Below w.heap.size w wc
  yat : YardAt wc wc.heap.size C' Y'
  small : Small Y'
  tat : TasksAt wc wc.heap.size A4 l'
  tame : tame l'
  len : l'.length = l.length
  rel : Rel less Y l Y' l' f
  blk : Bk wc (w2.heap.size + 1) 29 C'
  pln : Bk wc w2.heap.size 42 #[.slice A2 (earP Y l f).length c2]
  lies : Lies wc wc.heap.size A2 (turnsC (earP Y l f))

/-- the tail of a slice, where it may begin behind the last cell -/
theorem tail_rows {α : Type} {f : α → List Value} {s : Nat} (hs : 0 < s) (hf : ∀ x, (f x).length = s) {w : World} {l : List α} {a : Addr} {i k : Nat} (h : ∀ j u, (l.flatMap f)[j]? = some u → w.cell? (a.add j) = some u) (hi : i < l.length) (hk : l.length ≤ k) :
    ∃ b : Addr, (if k = i + 1 then some a else some (a.add ((i + 1) * s))) = some b ∧ b.block = a.block ∧ ∀ j u, ((l.drop (i + 1)).flatMap f)[j]? = some u → w.cell? (b.add j) = some u := by
  by_cases e : k = i + 1
  · refine ⟨a, by rw [if_pos e], rfl, fun j u hu => ?_⟩
    rw [List.drop_eq_nil_of_le (by omega)] at hu
    simp at hu
  · refine ⟨a.add ((i + 1) * s), by rw [if_neg e], add_block _ _, fun j u hu => ?_⟩
    rw [add_add']
    refine h _ _ ?_
    rw [← List.take_append_drop (i + 1) l, List.flatMap_append, List.getElem?_append_right (by rw [flat_length f s hf, List.length_take]; have : (min (i + 1) l.length) * s ≤ (i + 1) * s := Nat.mul_le_mul_right _ (Nat.min_le_left _ _); omega), flat_length f s hf, List.length_take, Nat.min_eq_left (by omega), Nat.add_sub_cancel_left]
    exact hu
theorem head_rows {α : Type} {f : α → List Value} {s : Nat} (hf : ∀ x, (f x).length = s) {l : List α} {i j : Nat} {u : Value} (hu : ((l.take i).flatMap f)[j]? = some u) : (l.flatMap f)[j]? = some u := by
  rw [← List.take_append_drop i l, List.flatMap_append, List.getElem?_append_left (Array.getElem?_eq_some_iff.1 (by simpa using hu)).1]
  exact hu

/-! the yard with one field changed -/
section
variable {w : World} {B : Nat} {C : Array Value} {Y : Yd}
theorem setIf_other {C : Array Value} {i k : Nat} {u v : Value} (h : C[k]? = some v) (hne : i ≠ k) : (C.setIfInBounds i u)[k]? = some v := by rw [Array.getElem?_setIfInBounds_ne hne]; exact h
theorem setIf_self {C : Array Value} {i : Nat} {u : Value} (h : i < C.size) : (C.setIfInBounds i u)[i]? = some u := by rw [Array.getElem?_setIfInBounds_self_of_lt h]
theorem yard_light (h : YardAt w B C Y) {i : Nat} (hi : i < 12) {v : Int} (hv : v = wrap64 ((Y.se (2 * i)).tdiv 2)) : YardAt w B (C.setIfInBounds (i * 2) (.int .i64 v)) (lightY Y i) := by
  have hz := h.size
  obtain ⟨A1, c1, e1, h1⟩ := h.cl
  obtain ⟨A2, c2, e2, h2⟩ := h.pi
  obtain ⟨A3, c3, e3, h3⟩ := h.ma
  refine ⟨by simpa using hz, fun k hk => ?_, ⟨A1, c1, setIf_other e1 (by omega), h1⟩, ⟨A2, c2, setIf_other e2 (by omega), h2⟩, ⟨A3, c3, setIf_other e3 (by omega), h3⟩, setIf_other h.dry (by omega)⟩
  show _ = some (Value.int .i64 (if k = 2 * i then wrap64 ((Y.se k).tdiv 2) else Y.se k))
  by_cases e : k = 2 * i
  · subst e
    rw [if_pos rfl, ← hv, show 2 * i = i * 2 by omega]
    exact setIf_self (by omega)
  · rw [if_neg e]
    exact setIf_other (h.se k hk) (by omega)
theorem yard_dry (h : YardAt w B C Y) {i : Nat} {v : Int} (hv : v = wrap64 (Y.dry + i)) : YardAt w B (C.setIfInBounds 27 (.int .i64 v)) (dryY Y i) := by
  have hz := h.size
  obtain ⟨A1, c1, e1, h1⟩ := h.cl
  obtain ⟨A2, c2, e2, h2⟩ := h.pi
  obtain ⟨A3, c3, e3, h3⟩ := h.ma
  refine ⟨by simpa using hz, fun k hk => setIf_other (h.se k hk) (by omega), ⟨A1, c1, setIf_other e1 (by omega), h1⟩, ⟨A2, c2, setIf_other e2 (by omega), h2⟩, ⟨A3, c3, setIf_other e3 (by omega), h3⟩, ?_⟩
  show _ = some (Value.int .i64 (wrap64 (Y.dry + i)))
  rw [← hv]
  exact setIf_self (by omega)
theorem yard_pit (h : YardAt w B C Y) {i : Nat} {A : Option Addr} {n c : Nat} (hA : Lies w B A (pitsC (Y.pi.take i ++ Y.pi.drop (i + 1)))) (hn : n = (Y.pi.take i ++ Y.pi.drop (i + 1)).length) : YardAt w B (C.setIfInBounds 25 (.slice A n c)) (pitY Y i) := by
  have hz := h.size
  obtain ⟨A1, c1, e1, h1⟩ := h.cl
  obtain ⟨A3, c3, e3, h3⟩ := h.ma
  refine ⟨by simpa using hz, fun k hk => setIf_other (h.se k hk) (by omega), ⟨A1, c1, setIf_other e1 (by omega), h1⟩, ⟨A, c, ?_, hA⟩, ⟨A3, c3, setIf_other e3 (by omega), h3⟩, setIf_other h.dry (by omega)⟩
  rw [hn]
  exact setIf_self (by omega)
theorem yard_mas (h : YardAt w B C Y) {i : Nat} {A : Option Addr} {n c : Nat} (hA : Lies w B A (massC (Y.ma.take i ++ Y.ma.drop (i + 1)))) (hn : n = (Y.ma.take i ++ Y.ma.drop (i + 1)).length) : YardAt w B (C.setIfInBounds 26 (.slice A n c)) (masY Y i) := by
  have hz := h.size
  obtain ⟨A1, c1, e1, h1⟩ := h.cl
  obtain ⟨A2, c2, e2, h2⟩ := h.pi
  refine ⟨by simpa using hz, fun k hk => setIf_other (h.se k hk) (by omega), ⟨A1, c1, setIf_other e1 (by omega), h1⟩, ⟨A2, c2, setIf_other e2 (by omega), h2⟩, ⟨A, c, ?_, hA⟩, setIf_other h.dry (by omega)⟩
  rw [hn]
  exact setIf_self (by omega)
end
theorem small_light {Y : Yd} (h : Small Y) (i : Nat) : Small (lightY Y i) := ⟨h.cl, h.pi, h.ma, h.nm⟩
theorem small_dry {Y : Yd} (h : Small Y) (i : Nat) : Small (dryY Y i) := ⟨h.cl, h.pi, h.ma, h.nm⟩
theorem small_pit {Y : Yd} (h : Small Y) (i : Nat) : Small (pitY Y i) := ⟨h.cl, by
  have := h.pi
  show (Y.pi.take i ++ Y.pi.drop (i + 1)).length ≤ 1000
  simp; omega, h.ma, h.nm⟩
theorem small_mas {Y : Yd} (h : Small Y) (i : Nat) : Small (masY Y i) := ⟨h.cl, h.pi, by
  have := h.ma
  show (Y.ma.take i ++ Y.ma.drop (i + 1)).length ≤ 1000
  simp; omega, fun m hm => h.nm m ((List.mem_append.1 hm).elim List.mem_of_mem_take List.mem_of_mem_drop)⟩
theorem small_close {Y : Yd} {d : Int} (h : Small Y) (he : closeE Y d = 0) : Small (closeY Y d) := by
  have ho : okY Y = true := by
    unfold closeE at he
    cases hk : okY Y with
    | true => rfl
    | false =>
      rw [hk, if_neg (by decide)] at he
      unfold okY at hk
      rw [he] at hk; cases hk
  have hv := okY_valid ho
  unfold closeY
  rw [if_pos he]
  refine ⟨?_, h.pi, h.ma, h.nm⟩
  show (insL Y.cl (cntLt Y.cl d) d).length ≤ 1000
  have := hv.n1
  unfold insL
  simp; omega
theorem tame_less {l : List Tk} (h : tame l) (i : Nat) : tame (lessL l i) := by
  refine ⟨by rw [lessL_len]; exact h.1, fun t ht => ?_⟩
  obtain ⟨j, hj, rfl⟩ := List.mem_iff_getElem.1 ht
  have hj' : j < l.length := by rw [lessL_len] at hj; exact hj
  have := h.2 _ (List.getElem_mem hj')
  rw [lessL_at hj' hj]
  split
  · exact this
  · exact this

/-! worlds that differ in one old block alone -/
structure Nb (w w' : World) (b : Nat) : Prop where
  size : w.heap.size ≤ w'.heap.size
  blk : ∀ g, g < w.heap.size → g ≠ b → w'.heap[g]? = w.heap[g]?
section
variable {w w' w'' : World} {b : Nat}
theorem Nb.refl (w : World) (b : Nat) : Nb w w b := ⟨Nat.le_refl _, fun _ _ _ => rfl⟩
theorem Nb.step (h : Nb w w' b) (k : Below w'.heap.size w' w'') : Nb w w'' b := ⟨Nat.le_trans h.size k.size, fun g hg hb => (k.block g (Nat.lt_of_lt_of_le hg h.size)).trans (h.blk g hg hb)⟩
theorem Nb.base {B : Nat} (h : Nb w w' b) (k : Below B w' w'') (hB : w.heap.size ≤ B) : Nb w w'' b := ⟨Nat.le_trans h.size k.size, fun g hg hb => (k.block g (Nat.lt_of_lt_of_le hg hB)).trans (h.blk g hg hb)⟩
theorem Nb.alloc (h : Nb w w' b) (o : Obj) : Nb w (w'.alloc o) b := ⟨by have := h.size; simp; omega, fun g hg hb => (Below.heap_alloc w' o g (Nat.lt_of_lt_of_le hg h.size)).trans (h.blk g hg hb)⟩
theorem Nb.drew (h : Nb w w' b) : Nb w w'.drew b := ⟨h.size, h.blk⟩
theorem Nb.set (h : Nb w w' b) (o : Nat) (v : Value) : Nb w (w'.setCell ⟨b, o, none⟩ v) b := ⟨by have := h.size; simpa [World.setCell] using this, fun g hg hb => (Below.heap_setCell w' ⟨b, o, none⟩ v g hb).trans (h.blk g hg hb)⟩
theorem Nb.far {b' : Nat} (h : Nb w w' b) (k : Far w' w'' b') (hb' : b' = b ∨ w.heap.size ≤ b') : Nb w w'' b := ⟨by rw [k.size]; exact h.size, fun g hg hb => (k.blk g (by omega)).trans (h.blk g hg hb)⟩
theorem Nb.grown {row : Option Nat} (h : Nb w w' b) (k : w'.grownBy w'' row) (hr : ∀ g, row = some g → w.heap.size ≤ g) (hs : w'.heap.size ≤ w''.heap.size) : Nb w w'' b := ⟨Nat.le_trans h.size hs, fun g hg hb => (k.block g (Nat.lt_of_lt_of_le hg h.size) (fun e => by have := hr g e.symm; omega)).trans (h.blk g hg hb)⟩
theorem Nb.bk {g t : Nat} {C : Array Value} (h : Nb w w' b) (k : Bk w g t C) (hg : g ≠ b) : Bk w' g t C := (h.blk g k.lt hg).trans k
theorem Nb.lies {A : Option Addr} {cs : List Value} (h : Nb w w' b) (hl : Lies w w.heap.size A cs) (hA : ∀ ad, A = some ad → ad.block ≠ b) : Lies w' w'.heap.size A cs := fun hn => by
  obtain ⟨ad, e, hb, hc⟩ := hl hn
  refine ⟨ad, e, Nat.lt_of_lt_of_le hb h.size, fun j u hu => ?_⟩
  have e2 := h.blk ad.block hb (hA ad e)
  have := hc j u hu
  unfold World.cell? at this ⊢
  rw [add_block] at this ⊢
  rw [e2]
  exact this
end
theorem addr0 (g k : Nat) : (⟨g, 0, none⟩ : Addr).add k = ⟨g, k, none⟩ := by
  unfold Addr.add
  split
  · rename_i h; simp [h]
  · simp
theorem own_ge {w : World} {base e size n c : Nat} {A : Option Addr} {xs : List Value} (h : w.ownsRow base e size (.slice A n c) n xs) (ad : Addr) (hA : A = some ad) : base ≤ ad.block := by
  rcases h.2 with ⟨h1, _⟩ | ⟨g', cap, cur, h1, h2, _⟩
  · cases h1; cases hA
  · cases h1
    cases hA
    exact h2
theorem cutD_yard {C : Array Value} {Y : Yd} {l : List Tk} {A A2 A4 : Option Addr} {c2 c4 : Nat} {f : Int} {w w2 w3 w4 wc : World} {C' : Array Value} {Y' : Yd}
    (HP4 : Hid (Bk w4 w2.heap.size 42 #[.slice A2 (earP Y l f).length c2])) (HL4 : Hid (Lies w4 w2.heap.size A2 (turnsC (earP Y l f)))) (HO4 : Hid (w4.ownsRow w3.heap.size 48 4 (.slice A4 l.length c4) l.length (tasksC l))) (HTM : Hid (tame l))
    (HTW : Hid (∀ W : World, Below w.heap.size w W → TasksAt W w.heap.size A l)) (hlz : w2.heap.size + 1 < w3.heap.size) (hlt4 : w2.heap.size + 1 < w4.heap.size)
    (hB : Below w.heap.size w wc) (hN : Nb w4 wc (w2.heap.size + 1)) (hK : Bk wc (w2.heap.size + 1) 29 C') (hy : YardAt wc wc.heap.size C' Y') (hsm : Small Y') (hr : Rel false Y l Y' l f) : CutD false C Y l A2 c2 w w2 C' Y' l A4 f wc :=
  ⟨hB, hy, hsm, ⟨hN.lies (ownsRow_lies HO4.out) (fun ad e => by have := own_ge HO4.out ad e; omega), fun t ht => ((HTW.out wc hB).af t ht).more hB.size, fun t ht => ((HTW.out wc hB).co t ht).more hB.size⟩, HTM.out, rfl, hr, hK, hN.bk HP4.out (by omega),
    fun hn => by
      obtain ⟨ad, e, hb, hc⟩ := HL4.out hn
      exact hN.lies (HL4.out.more (by omega)) (fun ad' e' => by rw [e] at e'; cases e'; omega) hn⟩
theorem flat_set {α : Type} (f : α → List Value) (y : Value) : ∀ (l : List α) (i : Nat) (x : α) (h : i < l.length), (∀ z, (f z).length = 4) → f x = (f l[i]).set 0 y → (l.set i x).flatMap f = (l.flatMap f).set (i * 4) y
  | [], i, x, h, _, _ => absurd h (Nat.not_lt_zero _)
  | a :: l, 0, x, _, h4, hx => by
    rw [List.set_cons_zero, List.flatMap_cons, List.flatMap_cons, Nat.zero_mul, List.set_append_left _ _ (by rw [h4]; omega), hx]
    rfl
  | a :: l, i + 1, x, h, h4, hx => by
    rw [List.set_cons_succ, List.flatMap_cons, List.flatMap_cons, List.set_append_right _ _ (by rw [h4]; omega), flat_set f y l i x (by simpa using h) h4 hx, h4]
    congr 2
    omega
theorem tasksC_less {l : List Tk} {i : Nat} {v : Int} (hi : i < l.length) (hv : v = wrap64 ((wrap64 (l[i].work + 1)).tdiv 2)) : tasksC (lessL l i) = (tasksC l).set (i * 4) (.int .i64 v) := by
  unfold lessL tasksC
  rw [List.getElem?_eq_getElem hi]
  exact flat_set Tk.cells _ l i _ hi (fun _ => rfl) (by rw [hv]; rfl)
theorem cutD_less {C : Array Value} {Y : Yd} {l : List Tk} {A A2 A4 : Option Addr} {c2 c4 iw : Nat} {f : Int} {w w2 w3 w4 : World} {a4 : Addr}
    (HP4 : Hid (Bk w4 w2.heap.size 42 #[.slice A2 (earP Y l f).length c2])) (HL4 : Hid (Lies w4 w2.heap.size A2 (turnsC (earP Y l f)))) (HO4 : Hid (w4.ownsRow w3.heap.size 48 4 (.slice A4 l.length c4) l.length (tasksC l))) (HTM : Hid (tame l))
    (HTW : Hid (∀ W : World, Below w.heap.size w W → TasksAt W w.heap.size A l)) (HYW : Hid (∀ W : World, Below w.heap.size w W → YardAt W w.heap.size C Y)) (HZ4 : Hid (Bk w4 (w2.heap.size + 1) 29 C)) (hlz : w2.heap.size + 1 < w3.heap.size) (hlt4 : w2.heap.size + 1 < w4.heap.size) (hs : Small Y)
    (hB : Below w.heap.size w w4) (hz : w.heap.size ≤ w3.heap.size) (hi : iw < l.length) (hA : A4 = some a4) {v : Int} (hv : v = wrap64 ((wrap64 (l[iw].work + 1)).tdiv 2)) {p : Addr} (hp : p = a4.add (iw * 4)) : CutD true C Y l A2 c2 w w2 C Y (lessL l iw) A4 f (w4.setCell p (.int .i64 v)) := by
  have hge := own_ge HO4.out a4 hA
  have hpb : p.block = a4.block := by rw [hp, add_block]
  have hBc : Below w.heap.size w (w4.setCell p (.int .i64 v)) := hB.setCell (by omega) _
  have hzc : (w4.setCell p (.int .i64 v)).heap.size = w4.heap.size := by simp [World.setCell]
  have hblk : ∀ g, g ≠ a4.block → (w4.setCell p (.int .i64 v)).heap[g]? = w4.heap[g]? := fun g hg => Below.heap_setCell w4 p _ g (by rw [hpb]; exact hg)
  have hHT := HTW.out _ hBc
  refine ⟨hBc, ((HYW.out _ hBc).more hBc.size), hs, ⟨?_, fun t ht => ?_, fun t ht => ?_⟩, tame_less HTM.out iw, lessL_len l iw, rel_less, (hblk _ (by omega)).trans HZ4.out, (hblk _ (by have := HP4.out.lt; omega)).trans HP4.out, fun hn => ?_⟩
  · -- the tasks' own row
    intro _
    rcases HO4.out.2 with ⟨_, h0⟩ | ⟨g, cap, cur, e, h1, h2, h3, h4, h5, h6⟩
    · omega
    · have eA : a4 = ⟨g, 0, none⟩ := by cases e; cases hA; rfl
      subst eA
      have hpe : p = ⟨g, iw * 4, none⟩ := by
        rw [hp]; unfold Addr.add
        split
        · rename_i h; simp [h]
        · simp
      have hb : Bk w4 g 48 cur := h2
      have hb' := hb.set (iw * 4) (.int .i64 v)
      rw [← hpe] at hb'
      refine ⟨⟨g, 0, none⟩, hA, by rw [hzc]; exact hb.lt, fun j u hu => ?_⟩
      have hje : (⟨g, 0, none⟩ : Addr).add j = ⟨g, j, none⟩ := by
        unfold Addr.add
        split
        · rename_i h; simp [h]
        · simp
      rw [hje]
      refine hb'.cell j ?_
      rw [tasksC_less hi hv, ← h6] at hu
      have hsz : iw * 4 < cur.size := by rw [h5]; omega
      by_cases hj : j = iw * 4
      · subst hj
        rw [setIf_self hsz]
        rw [List.getElem?_set_self (by rw [List.length_take]; simp; omega)] at hu
        exact hu
      · rw [List.getElem?_set_ne (by omega)] at hu
        rw [Array.getElem?_setIfInBounds_ne (by omega)]
        rw [List.getElem?_take] at hu
        split at hu
        · simpa using hu
        · cases hu
  · obtain ⟨j, hj, rfl⟩ := List.mem_iff_getElem.1 ht
    have hj' : j < l.length := by rw [lessL_len] at hj; exact hj
    have := (hHT.af _ (List.getElem_mem hj')).more hBc.size
    rw [lessL_at hj' hj]
    split
    · exact this
    · exact this
  · obtain ⟨j, hj, rfl⟩ := List.mem_iff_getElem.1 ht
    have hj' : j < l.length := by rw [lessL_len] at hj; exact hj
    have := (hHT.co _ (List.getElem_mem hj')).more hBc.size
    rw [lessL_at hj' hj]
    split
    · exact this
    · exact this
  · obtain ⟨ad, e, hb, hc⟩ := HL4.out hn
    refine ⟨ad, e, by rw [hzc]; omega, fun j u hu => ?_⟩
    have := hc j u hu
    unfold World.cell? at this ⊢
    rw [add_block] at this ⊢
    rw [hblk _ (by omega)]
    exact this
end Go.Proofs.Ytjgnikmnadmheaa

namespace Go.Proofs.Ytjgnikmnadmheaa
open Go.RowKit

def CloseKeep (Y' : Yd) (w : World) (e : Ending) (w' : World) : Prop := ∃ C, e = .returned (.tuple #[.agg C, .int .i64 0]) ∧ YardAt w' w'.heap.size C Y' ∧ Below w.heap.size w w' ∧ ∀ wc b, b < w.heap.size → Nb w' wc b → YardAt wc wc.heap.size C Y'
set_option maxRecDepth 100000 in
set_option maxHeartbeats 1000000 in
theorem close_keep (C : Array Value) (Y : Yd) (d : Int) (w : World) (hY : YardAt w w.heap.size C Y) (hs : Small Y) (h : okY Y = true) (hd : inB d 0 100000 = true) (hc : Y.cl.contains d = false) (hf : ¬ 200 ≤ Y.cl.length) : Calls Try.prog 20 #[.agg C, .int .i64 d] w (CloseKeep { Y with cl := insL Y.cl (cntLt Y.cl d) d } w) := by
  have HCK := Lib.hid (fun W (hb : Below w.heap.size w W) => checkYard_any C Y W ((hY.below hb (Nat.le_refl _)).more hb.size) hs.cl hs.pi hs.ma hs.nm)
  have HLOAD := load_any hY
  have HC28 := Lib.hid hY.len
  have hn : chkY Y = 0 := by unfold okY at h; exact eq_of_beq h
  have hv := okY_valid h
  obtain ⟨A1, k1, e1, L1⟩ := hY.cl
  have HBS := Lib.hid (fun W (hb : Below w.heap.size w W) => bsearch_any Y.cl d A1 k1 W ((L1.below hb (Nat.le_refl _)).more hb.size) hv.ris (by have := hv.n1; omega))
  have hln := hv.n1
  rw [hn] at HCK
  clear hn h hs
  obtain ⟨A2, k2, e2, L2⟩ := hY.pi
  obtain ⟨A3, k3, e3, L3⟩ := hY.ma
  have HCL := Lib.hid (fun W (hb : Below w.heap.size w W) => clone_ints Y.cl A1 k1 W ((L1.below hb (Nat.le_refl _)).more hb.size) (by omega))
  have HCP := Lib.hid (fun W (hb : Below w.heap.size w W) => clone_pits Y.pi A2 k2 W ((L2.below hb (Nat.le_refl _)).more hb.size) (by have := hv.n2; omega))
  have HCM := Lib.hid (fun W (hb : Below w.heap.size w W) => clone_mass Y.ma A3 k3 W ((L3.below hb (Nat.le_refl _)).more hb.size) (by have := hv.n3; omega))
  have hcnt : cntLt Y.cl d ≤ Y.cl.length := List.countP_le_length
  have HIL := Lib.hid (insL_len Y.cl (cntLt Y.cl d) d hcnt)
  have HYS := Lib.hid hY.se
  have HYD := Lib.hid hY.dry
  have hsz := hY.size
  have HD := Lib.hid hd; clear hd
  rw [hc] at HBS
  clear hY hv L1 L2 L3 hc
  generalize hn : cntLt Y.cl d = n at *
  have HNN := Lib.hid hn; clear hn
  go_enter Try.func20, Try.ntmps20
  go_upto_region 12 with (first | (refine wpList_load_guard (P := Try.prog) (by rfl) 29 (.tmp 2) rfl w.heap.size 0 rfl C.toList _ (HLOAD.out _ _ (by exact bkw)) Try.underlying29 rfl (by rw [HC28.out]; exact info29) ?_) | (go_at_call 16; refine (HCK.out _ (by exact bw)).mono ?_; rintro e w1 ⟨rfl, hb1⟩; have hB1 : Below w.heap.size w w1 := Below.trans (by exact bw) (hb1.mono (by first | omega | (simp; omega) | simp)); have hK1 : Bk w1 w.heap.size 29 C := Bk.below (by exact bkw) hb1 (by first | omega | (simp; omega) | simp); have hJ1 : Bk w1 (w.heap.size + 1) 29 zeroC.toArray := Bk.below (zero_new w C) hb1 (by first | omega | (simp; omega) | simp); have hl1 := hJ1.lt; have x1 := hK1.cell 24 e1; clear hb1) | (go_at_call 76; refine (HBS.out _ hB1).mono ?_; rintro e w2 ⟨rfl, hb2⟩; have hB2 : Below w.heap.size w w2 := Below.trans hB1 (hb2.mono hB1.size); have hK2 := hK1.below hb2 hK1.lt; have hJ2 := hJ1.below hb2 hl1; have hl2 := hJ2.lt; have x2 := hK2.cell 24 e1; clear hb2) | (go_at_call 66; refine (in_any _ _ _ _).mono ?_; rintro e w' ⟨rfl, rfl⟩; rw [HD.out]) | (go_at_call 78; refine (HCL.out _ hB2).mono ?_; rintro e w3 ⟨v3, rfl, ho3, hb3⟩; have hB3 : Below w.heap.size w w3 := Below.trans hB2 (hb3.mono hB2.size); have hK3 := hK2.below hb3 hK2.lt; have hJ3 := hJ2.below hb3 hl2; have hl3 := hJ3.lt; have hz3 := hb3.size; clear hb3) | (go_at_call 77; refine (insert_any Y.cl n d v3 w2.heap.size w3.heap.size (w3.alloc (.cells #[.int .i64 d] 3)) (ho3.alloc _) (Bk.new _ _ _) (.inr (fun e => by have := own_lt ho3 _ e.symm; omega)) (by omega) (by omega) (by simp; omega)).mono ?_; rintro e w4 ⟨g4, c4, R4, rfl, hl4, hg4, hG4, hc4, hb4⟩; rw [HIL.out]; have hB4 : Below w.heap.size w w4 := Below.trans (by exact bw) (hb4.mono hB2.size); have hK4 : Bk w4 w.heap.size 29 C := Bk.below (by exact bkw) hb4 hK2.lt; have hJ4 : Bk w4 (w.heap.size + 1) 29 zeroC.toArray := Bk.below (by exact bkw) hb4 hl2; have hl5 := hJ4.lt; have hk4 := hK4.lt; have x4 := hK4.cell 24 e1; have f4 := hK4.fro 24; clear hb4))
  obtain ⟨A4, hAe⟩ : ∃ A4 : Option Addr, A4 = some ⟨g4, 0, none⟩ := ⟨_, rfl⟩
  rw [← hAe] at hl4 ⊢
  have hA4 : ∀ ad, A4 = some ad → w2.heap.size ≤ ad.block := fun ad e => by rw [hAe] at e; cases e; exact hg4
  have hG5 : Bk (w4.setCell ⟨w.heap.size, 24, none⟩ (Value.slice A4 (Y.cl.length + 1) c4)) g4 3 R4 := hG4.far (by have := hB2.size; have := hK2.lt; show g4 ≠ w.heap.size; omega) _
  have hlt4 := hG4.lt
  obtain ⟨V, hV⟩ : ∃ V, V = Value.slice A4 (Y.cl.length + 1) c4 := ⟨_, rfl⟩
  rw [← hV] at hG5 ⊢
  have hK5 : Bk (w4.setCell ⟨w.heap.size, 24, none⟩ V) w.heap.size 29 (C.setIfInBounds 24 V) := hK4.set 24 V
  have hJ5 : Bk (w4.setCell ⟨w.heap.size, 24, none⟩ V) (w.heap.size + 1) 29 zeroC.toArray := hJ4.far (by simp) V
  have hB5 : Below w.heap.size w (w4.setCell ⟨w.heap.size, 24, none⟩ V) := hB4.setCell (Nat.le_refl _) _
  have hl6 : Lies (w4.setCell ⟨w.heap.size, 24, none⟩ V) w4.heap.size A4 (ints (insL Y.cl n d)) := (far_setCells w.heap.size [V] 24 w4).lies hl4 (fun ad e => by have := hA4 ad e; have := hB2.size; have := hK2.lt; omega)
  have HV := Lib.hid hV
  clear hV hl4 hK4 hJ4 hB4 x4 f4
  have HSZ : Hid (w4.heap.size ≤ (w4.setCell ⟨w.heap.size, 24, none⟩ V).heap.size) := by show _ ≤ _; simp
  generalize w4.setCell ⟨w.heap.size, 24, none⟩ V = w5 at *
  have y2 : w5.cell? ⟨w.heap.size, 25, none⟩ = some (.slice A2 Y.pi.length k2) := hK5.cell 25 (by rw [Array.getElem?_setIfInBounds_ne (by omega)]; exact e2)
  have y3 : w5.cell? ⟨w.heap.size, 26, none⟩ = some (.slice A3 Y.ma.length k3) := hK5.cell 26 (by rw [Array.getElem?_setIfInBounds_ne (by omega)]; exact e3)
  have Y2 : Hid ((C.setIfInBounds 24 V)[25]? = some (.slice A2 Y.pi.length k2)) := by show _ = _; rw [Array.getElem?_setIfInBounds_ne (by omega)]; exact e2
  have Y3 : Hid ((C.setIfInBounds 24 V)[26]? = some (.slice A3 Y.ma.length k3)) := by show _ = _; rw [Array.getElem?_setIfInBounds_ne (by omega)]; exact e3
  have hlk := hK5.lt
  have hlj := hJ5.lt
  have hlg := hG5.lt
  have HAE := Lib.hid hAe
  clear hAe hG4
  go_region_with (first | (go_at_call 79; refine (HCP.out _ (by exact bw)).mono ?_; rintro e w6 ⟨v6, rfl, ho6, hb6⟩; obtain ⟨A6, c6, rfl, _, _⟩ := ownsSlice ho6; have hB6 : Below w.heap.size w w6 := Below.trans (by exact bw) (hb6.mono (by first | exact hB5.size | (simp; exact hB5.size))); have hK6 : Bk w6 w.heap.size 29 (C.setIfInBounds 24 V) := Bk.below (by exact bkw) hb6 (by first | exact hlk | (simp; exact hlk)); have hJ6 : Bk w6 (w.heap.size + 1) 29 zeroC.toArray := Bk.below (by exact bkw) hb6 (by first | exact hlj | (simp; exact hlj)); have hG6 : Bk w6 g4 3 R4 := Bk.below (by exact bkw) hb6 (by first | exact hlg | (simp; exact hlg)); have hlt6 := Lib.hid (own_lt ho6); have hC6 : Below w5.heap.size w5 w6 := Below.trans (by exact bw) (hb6.mono (by first | exact Nat.le_refl _ | simp)); have hl7 : Lies w6 w4.heap.size A4 (ints (insL Y.cl n d)) := hl6.below hC6 HSZ.out; have y6 := hK6.cell 26 Y3.out; clear hb6) | (go_at_call 80; refine (HCM.out _ (by exact bw)).mono ?_; rintro e w7 ⟨v7, rfl, ho7, hb7⟩; obtain ⟨A7, c7, rfl, _, _⟩ := ownsSlice ho7; have hB7 : Below w.heap.size w w7 := Below.trans (by exact bw) (hb7.mono (by first | exact hB6.size | (simp; exact hB6.size))); have hK7 : Bk w7 w.heap.size 29 (C.setIfInBounds 24 V) := Bk.below (by exact bkw) hb7 (by first | exact hK6.lt | (simp; exact hK6.lt)); have hJ7 : Bk w7 (w.heap.size + 1) 29 zeroC.toArray := Bk.below (by exact bkw) hb7 (by first | exact hJ6.lt | (simp; exact hJ6.lt)); have hlk7 := hK7.lt; have hG7 : Bk w7 g4 3 R4 := Bk.below (by exact bkw) hb7 (by first | exact hG6.lt | (simp; exact hG6.lt)); have q2 := hK7.cell 25 Y2.out; have q3 := hK7.cell 26 Y3.out; have r2 := hK7.fro 25; have r3 := hK7.fro 26; have hC7 : Below w6.heap.size w6 w7 := Below.trans (by exact bw) (hb7.mono (by first | exact Nat.le_refl _ | simp)); have ho8 := ownsRow_below ho6 hC7 (Nat.le_refl _); have hl8 : Lies w7 w4.heap.size A4 (ints (insL Y.cl n d)) := hl7.below hC7 (by have := hC6.size; have := HSZ.out; omega); have hs7 := hC7.size; clear hb7))
  all_goals
    have hF1 : Far w7 (w7.setCell ⟨w.heap.size, 25, none⟩ (.slice A6 Y.pi.length c6)) w.heap.size := far_setCells w.heap.size [_] 25 w7
    have hF2 : Far (w7.setCell ⟨w.heap.size, 25, none⟩ (.slice A6 Y.pi.length c6)) ((w7.setCell ⟨w.heap.size, 25, none⟩ (.slice A6 Y.pi.length c6)).setCell ⟨w.heap.size, 26, none⟩ (.slice A7 Y.ma.length c7)) w.heap.size := far_setCells w.heap.size [_] 26 _
    have hK8 := (hK7.set 25 (.slice A6 Y.pi.length c6)).set 26 (.slice A7 Y.ma.length c7)
    have hJ8 := hF2.bk (by omega) (hF1.bk (by omega) hJ7)
    have hB8 := hF2.bel _ _ (Nat.le_refl _) (hF1.bel _ _ (Nat.le_refl _) hB7)
    have hA6 := own_ne' (b := w.heap.size) ho8 (by first | exact hlk | (simp; exact hlk))
    have hA7 := own_ne' (b := w.heap.size) ho7 (by first | exact hK6.lt | (simp; exact hK6.lt))
    have hA4' : ∀ ad, A4 = some ad → ad.block ≠ w.heap.size := fun ad e => by have := hA4 ad e; have := hB2.size; have := hK2.lt; omega
    have hG8 := hF2.bk (by omega) (hF1.bk (by omega) hG7)
    have hO6 := hF2.own (hF1.own ho8 hlk) hlk
    have hO7 := hF2.own (hF1.own ho7 (by first | exact hK6.lt | (simp; exact hK6.lt))) (by first | exact hK6.lt | (simp; exact hK6.lt))
    have hj6 := hJ6.lt
    have hsz6 := hC6.size
    have hL4 := hF2.lies (hF1.lies hl8 hA4') hA4'
    have hL6 := hF2.lies (hF1.lies (ownsRow_lies ho8) hA6) hA6
    have hL7 := hF2.lies (hF1.lies (ownsRow_lies ho7) hA7) hA7
    have hsz8 : w4.heap.size ≤ ((w7.setCell ⟨w.heap.size, 25, none⟩ (.slice A6 Y.pi.length c6)).setCell ⟨w.heap.size, 26, none⟩ (.slice A7 Y.ma.length c7)).heap.size := by rw [hF2.size, hF1.size]; have := hC6.size; have := HSZ.out; omega
    have hsz9 : w7.heap.size ≤ ((w7.setCell ⟨w.heap.size, 25, none⟩ (.slice A6 Y.pi.length c6)).setCell ⟨w.heap.size, 26, none⟩ (.slice A7 Y.ma.length c7)).heap.size := by rw [hF2.size, hF1.size]; exact Nat.le_refl _
    have hC8 : ∃ C8, C8 = ((C.setIfInBounds 24 V).setIfInBounds 25 (.slice A6 Y.pi.length c6)).setIfInBounds 26 (.slice A7 Y.ma.length c7) := ⟨_, rfl⟩
    obtain ⟨C8, hC8⟩ := hC8
    rw [← hC8] at hK8
    have h28 : C8.size = 28 := by rw [hC8]; simp [hsz]
    have hY8 := yard_new (L := insL Y.cl n d) (c4 := c4) (c6 := c6) (c7 := c7) hsz HYS.out HYD.out (hL4.more hsz8) (hL6.more (Nat.le_trans (by first | exact hC7.size | exact Nat.le_refl _) hsz9)) (hL7.more hsz9)
    rw [HIL.out, ← HV.out, ← hC8] at hY8
    have h1c := hY8.one
    have gA4 : ∀ ad, A4 = some ad → ad.block ≠ w.heap.size + 1 := fun ad e => by have := hA4 ad e; have := hl2; omega
    have gA6 := own_ne' (b := w.heap.size + 1) ho8 (by first | exact hlj | (simp; exact hlj))
    have gA7 := own_ne' (b := w.heap.size + 1) ho7 (by first | exact hJ6.lt | (simp; exact hJ6.lt))
    have HG4 : Hid (∀ ad, A4 = some ad → w.heap.size ≤ ad.block) := fun ad e => by have := hA4 ad e; have := hB2.size; omega
    have HG6 : Hid (∀ ad, A6 = some ad → w.heap.size ≤ ad.block) := fun ad e => Nat.le_trans (Nat.le_of_lt (by first | exact hlk | (simp; exact hlk))) (own_ge ho8 ad e)
    have HG7 : Hid (∀ ad, A7 = some ad → w.heap.size ≤ ad.block) := fun ad e => Nat.le_trans (Nat.le_of_lt (by first | exact hK6.lt | (simp; exact hK6.lt))) (own_ge ho7 ad e)
    have HH8 := Lib.hid hC8
    have hi8 : (Try.prog.info? 29).map (·.size) = some C8.toList.length := by rw [Array.length_toList, h28]; exact info29
    have HSZ6 := Lib.hid hsz6
    clear hC8 hF1 hF2 hG5 hG6 hG7 hsz6 hK7 hJ7 hB7 q2 q3 r2 r3 hK6 hJ6 y6 hK5 hJ5 y2 y3 ho8 hl8 hl7 hl6
    generalize ((w7.setCell ⟨w.heap.size, 25, none⟩ (Value.slice A6 Y.pi.length c6)).setCell ⟨w.heap.size, 26, none⟩ (Value.slice A7 Y.ma.length c7)) = w8 at *
    have hI8 := Lib.hid hi8
    have h288 := Lib.hid h28
    clear hi8 h28
    go_wp2_with (first | (refine wpList_load_guard (P := Try.prog) (by rfl) 29 (.tmp 2) rfl w.heap.size 0 rfl C8.toList _ hK8.range Try.underlying29 rfl hI8.out ?_) | (refine wpList_store_blk (P := Try.prog) rfl 29 (.tmp 4) (.tmp 52) rfl (w.heap.size + 1) zeroC.toArray C8 rfl rfl hJ8 h288.out.symm (by rw [h288.out]; exact info29) h1c ?_; intro w9 hk9 hf9))
    have HN4 := Lib.hid ((hf9.lies hL4 gA4).more (by rw [hf9.size]; omega : _ ≤ w9.heap.size))
    have HN6 := Lib.hid ((hf9.lies hL6 gA6).more (by rw [hf9.size]; omega : _ ≤ w9.heap.size))
    have HN7 := Lib.hid ((hf9.lies hL7 gA7).more (by rw [hf9.size]; omega : _ ≤ w9.heap.size))
    refine bodyPost_ret (results_row rfl _ _ (w.heap.size + 1) C8.toList _ rfl hk9.range Try.underlying29 rfl hI8.out) rfl ⟨C8, rfl, ?_, hf9.bel _ _ (by omega) hB8, fun wc b hb hN => ?_⟩
    · rw [HH8.out, HV.out, ← HIL.out]
      exact yard_new (L := insL Y.cl n d) hsz HYS.out HYD.out HN4.out HN6.out HN7.out
    · rw [HH8.out, HV.out, ← HIL.out]
      exact yard_new (L := insL Y.cl n d) hsz HYS.out HYD.out (hN.lies HN4.out (fun ad e => by have := HG4.out ad e; omega)) (hN.lies HN6.out (fun ad e => by have := HG6.out ad e; omega)) (hN.lies HN7.out (fun ad e => by have := HG7.out ad e; omega))
/-- Close where it closes -/
theorem close_zero (C : Array Value) (Y : Yd) (d : Int) (w : World) (hY : YardAt w w.heap.size C Y) (hs : Small Y) (h0 : closeE Y d = 0) : Calls Try.prog 20 #[.agg C, .int .i64 d] w (CloseKeep (closeY Y d) w) := by
  have h1 : closeY Y d = { Y with cl := insL Y.cl (cntLt Y.cl d) d } := by unfold closeY; rw [if_pos h0]
  rw [h1]
  unfold closeE at h0
  cases h : okY Y with
  | false =>
    rw [h, if_neg (by decide)] at h0
    unfold okY at h
    rw [h0] at h; cases h
  | true =>
    rw [h, if_pos rfl] at h0
    cases hd : inB d 0 100000 with
    | false => rw [hd, if_neg (by decide)] at h0; cases h0
    | true =>
      rw [hd, if_pos rfl] at h0
      cases hc : Y.cl.contains d with
      | true => rw [hc, if_pos rfl] at h0; cases h0
      | false =>
        rw [hc, if_neg (by decide)] at h0
        by_cases hf : 200 ≤ Y.cl.length
        · rw [if_pos hf] at h0; cases h0
        · exact close_keep C Y d w hY hs h hd hc hf
end Go.Proofs.Ytjgnikmnadmheaa
