/- Replan where nothing was done: the plain law of CrewStays. -/
import Derived.Test.YtjgnikmnadmheaaG02
import Derived.Test.YtjgnikmnadmheaaG79
import Derived.Test.YtjgnikmnadmheaaG80
import Derived.Test.YtjgnikmnadmheaaG83
import Derived.Test.YtjgnikmnadmheaaG84

namespace Go.Proofs.Ytjgnikmnadmheaa
open Go.RowKit

section
variable {Y : Yd} {l : List Tk} {f : Int} {old : List Tu} {ds : List Int}
theorem ls_least {L : List Int} (hd : ds.length ≤ l.length) (h : est Y l f noFx (l.length - ds.length) ds = some L) : LSx Y l f old ds L := ls_of_est hd (noFx_ok _ _ _) h
/-- the search ends with the end of the least -/
theorem rpl_end {L P : List Int} (hd : ds.length ≤ l.length) (h : est Y l f noFx (l.length - ds.length) ds = some L) (hp : rplD Y l f old ds = some P) : endL P = endL L := by
  obtain ⟨h1, h2⟩ := rpl_opt hd hp
  have h3 := h2 L (ls_least hd h)
  have h4 := end_least hd h1 h
  by_cases e : endL L < endL P
  · have : lexB (key3 old ds.length L) (key3 old ds.length P) = true := by unfold key3; rw [lexB_cons]; exact .inl e
    rw [h3] at this; cases this
  · omega
theorem cntK_nonneg (old : List Tu) (done : Nat) (D : List Int) : ∀ k, 0 ≤ cntK old done D k
  | 0 => Int.le_refl _
  | k + 1 => by
    have := cntK_nonneg old done D k
    show 0 ≤ cntK old done D k + _
    split <;> omega
theorem cntK_zero {old : List Tu} {done : Nat} {D : List Int} : ∀ k, cntK old done D k = 0 → ∀ i, done ≤ i → i < k → dayAt old i = some (D.getD i 0)
  | 0, _, i, _, hi => absurd hi (Nat.not_lt_zero _)
  | k + 1, h, i, hd, hi => by
    have h1 := cntK_nonneg old done D k
    change cntK old done D k + (if done ≤ k ∧ dayAt old k ≠ some (D.getD k 0) then 1 else 0) = 0 at h
    by_cases hc : done ≤ k ∧ dayAt old k ≠ some (D.getD k 0)
    · rw [if_pos hc] at h; omega
    · rw [if_neg hc] at h
      by_cases e : i = k
      · subst e
        exact Classical.byContradiction fun hn => hc ⟨hd, hn⟩
      · exact cntK_zero k (by omega) i hd (by omega)
theorem cntK_same {old : List Tu} {done : Nat} {D : List Int} : ∀ k, (∀ i, i < k → dayAt old i = some (D.getD i 0)) → cntK old done D k = 0
  | 0, _ => rfl
  | k + 1, h => by
    show cntK old done D k + _ = 0
    rw [cntK_same k (fun i hi => h i (by omega)), if_neg (fun e => e.2 (h k (by omega)))]; rfl
/-- what is already least stays -/
theorem rpl_stays {L P : List Int} (h : est Y l f noFx (l.length - 0) [] = some L) (ho : ∀ i, i < L.length → dayAt old i = some (L.getD i 0)) (hp : rplD Y l f old [] = some P) : P = L := by
  have hd : ([] : List Int).length ≤ l.length := Nat.zero_le _
  obtain ⟨h1, h2⟩ := rpl_opt hd hp
  have hl := est_length hd h
  have h3 := h2 L (ls_least hd h)
  have h4 := rpl_end hd h hp
  have h5 : cntC old 0 L = 0 := cntK_same _ ho
  have h6 : 0 ≤ cntC old 0 P := cntK_nonneg _ _ _ _
  have h7 : cntC old 0 P = 0 := by
    by_cases e : 0 < cntC old 0 P
    · have : lexB (key3 old 0 L) (key3 old 0 P) = true := by
        unfold key3
        rw [lexB_cons, lexB_cons]
        exact .inr ⟨h4.symm, .inl (by rw [h5]; exact e)⟩
      rw [show key3 old 0 L = key3 old ([] : List Int).length L from rfl, show key3 old 0 P = key3 old ([] : List Int).length P from rfl, h3] at this
      cases this
    · omega
  have h8 := cntK_zero _ h7
  have hPl := h1.len
  apply List.ext_getElem (by omega)
  intro i ha hb
  have e1 := h8 i (Nat.zero_le _) ha
  have e2 := ho i hb
  rw [e2] at e1
  have e3 := Option.some.inj e1
  rw [List.getD_eq_getElem?_getD, List.getD_eq_getElem?_getD, List.getElem?_eq_getElem ha, List.getElem?_eq_getElem hb] at e3
  exact e3.symm
theorem repl_zero_E : replE Y l f old 0 = earE Y l f := by
  unfold replE earE begE
  by_cases hc : comE Y l = 0
  · have h0 : inB 0 0 (min (l.length : Int) (old.length : Int)) = true := inB_iff.2 (by omega)
    rw [if_pos hc, if_pos hc]
    cases hf : inB f 0 100000 with
    | false => rw [if_neg (by simp), if_neg (by decide), if_neg (by decide)]
    | true =>
      rw [if_pos ⟨h0, rfl⟩, if_pos rfl, if_pos rfl]
      have hs : stayB old f (0 : Int).toNat = true := rfl
      rw [hs, if_pos rfl]
      have e : staysOf old (0 : Int).toNat = [] := rfl
      rw [e]
      unfold rplD earD
      show (match (match est Y l f noFx (l.length - 0) [] with | none => none | some L => some (rplS Y l f old [] L).2) with | some _ => (0 : Int) | none => 70) = _
      rw [Nat.sub_zero]
      show (match (match est Y l f (fun _ => none) l.length [] with | none => none | some L => some (rplS Y l f old [] L).2) with | some _ => (0 : Int) | none => 70) = _
      cases est Y l f (fun _ => none) l.length [] <;> rfl
  · rw [if_neg hc, if_neg hc, if_neg hc]
theorem repl_zero_some {L : List Int} (h0 : begE Y l f = 0) (h : earD Y l f = some L) : ∃ P, rplD Y l f old [] = some P ∧ replP Y l f old 0 = usual Y l [] P ∧ P.length = l.length ∧ endL P = endL L := by
  have hd : ([] : List Int).length ≤ l.length := Nat.zero_le _
  have hE : est Y l f noFx (l.length - ([] : List Int).length) [] = some L := h
  have hp : rplD Y l f old [] = some (rplS Y l f old [] L).2 := by unfold rplD; rw [hE]
  refine ⟨_, hp, ?_, (rpl_opt hd hp).1.len, rpl_end hd hE hp⟩
  have e0 : replE Y l f old 0 = 0 := by rw [repl_zero_E]; exact (earP_some h0 h).2
  unfold replP
  rw [if_pos e0]
  have e : staysOf old (0 : Int).toNat = [] := rfl
  rw [e, hp]
  rfl
theorem repl_same {L : List Int} (h0 : begE Y l f = 0) (h : earD Y l f = some L) : replP Y l f (earP Y l f) 0 = earP Y l f := by
  obtain ⟨P, hp, h1, _, _⟩ := repl_zero_some (old := earP Y l f) h0 h
  have e := (earP_some h0 h).1
  have hl := earD_len h
  have hud : (usual Y l [] L).map Tu.day = L := usual_day Y l L (by omega)
  have : P = L := rpl_stays (old := earP Y l f) h (fun i hi => by
    unfold dayAt
    rw [e, ← List.getElem?_map, hud, List.getD_eq_getElem?_getD, List.getElem?_eq_getElem hi]
    rfl) hp
  rw [h1, this, e]
theorem endP_map (ts : List Tu) : endP ts = if ts.length = 0 then -1 else endL (ts.map Tu.day) := by
  unfold endP endL
  by_cases h : ts.length = 0
  · rw [dif_pos h, if_pos h]
  · rw [dif_neg h, if_neg h, List.length_map, List.getD_eq_getElem?_getD, List.getElem?_map, List.getElem?_eq_getElem (by omega)]
    rfl
theorem end_days {P L : List Int} (hP : P.length = l.length) (hL : L.length = l.length) (h : endL P = endL L) : endP (usual Y l [] P) = endP (usual Y l [] L) := by
  rw [endP_map, endP_map, usual_day Y l P (by omega), usual_day Y l L (by omega), usual_len Y l [] P (Nat.zero_le _), usual_len Y l [] L (Nat.zero_le _), hP, hL, h]
theorem ear_zero (h : earE Y l f = 0) : begE Y l f = 0 ∧ ∃ ds, earD Y l f = some ds ∧ earP Y l f = usual Y l [] ds := by
  by_cases hb : begE Y l f = 0
  · cases he : earD Y l f with
    | none => rw [(earP_none hb he).2] at h; cases h
    | some ds => exact ⟨hb, ds, rfl, (earP_some hb he).1⟩
  · exact absurd ((earP_bad hb).2.symm.trans h) hb
theorem ear_good (hp : Y.pi.length ≤ 1000) : ∀ t ∈ earP Y l f, i64v t.day ∧ i64v t.pit := by
  intro t ht
  by_cases h0 : begE Y l f = 0
  · cases he : earD Y l f with
    | none => rw [(earP_none h0 he).1] at ht; cases ht
    | some L =>
      rw [(earP_some h0 he).1] at ht
      refine ⟨?_, plan_pits hp (plan_usual (daysOK_ear he)) t ht⟩
      have hl := earD_len he
      have hud : (usual Y l [] L).map Tu.day = L := usual_day Y l L (by omega)
      have hm : t.day ∈ L := by rw [← hud]; exact List.mem_map.2 ⟨t, ht, rfl⟩
      obtain ⟨i, hi, e⟩ := List.mem_iff_getElem.1 hm
      have := (early_of he).bd i (by omega)
      rw [List.getD_eq_getElem?_getD, List.getElem?_eq_getElem hi, Option.getD_some, e] at this
      have hf := (begE_ok h0).2.2
      unfold i64v
      omega
  · rw [(earP_bad h0).1] at ht; cases ht
end
end Go.Proofs.Ytjgnikmnadmheaa

namespace Go.Proofs.Ytjgnikmnadmheaa
open Go.RowKit

theorem cntK_succ {old : List Tu} {dn k : Nat} {D : List Int} (hd : dn ≤ k) : cntK old dn D (k + 1) = cntK old dn D k + if dayAt old k ≠ some (D.getD k 0) then 1 else 0 := by
  show cntK old dn D k + (if dn ≤ k ∧ dayAt old k ≠ some (D.getD k 0) then 1 else 0) = _
  by_cases h : dayAt old k ≠ some (D.getD k 0)
  · rw [if_pos ⟨hd, h⟩, if_pos h]
  · rw [if_neg (fun e => h e.2), if_neg h]
theorem cntK_before {old : List Tu} {dn : Nat} {D : List Int} : ∀ k, k ≤ dn → cntK old dn D k = 0
  | 0, _ => rfl
  | k + 1, h => by
    show cntK old dn D k + _ = 0
    rw [cntK_before k (by omega), if_neg (fun e => by omega)]; rfl
set_option maxRecDepth 100000 in
set_option maxHeartbeats 2000000 in
theorem count_any (D : List Int) (A : Option Addr) (c : Nat) (old : List Tu) (T : Option Addr) (ct dn : Nat) (w : World) (hA : Lies w w.heap.size A (ints D)) (hT : Lies w w.heap.size T (turnsC old)) (hn : D.length ≤ 1000) (ho : old.length ≤ 1000) (hd : dn ≤ D.length) :
    Calls Try.prog 29 #[.slice A D.length c, .agg #[.slice T old.length ct], .int .i64 dn] w (IntEnd (cntC old dn D) w) := by
  have k4 : Bk (w.alloc (.cells #[.slice T old.length ct] 42)) w.heap.size 42 #[.slice T old.length ct] := Bk.new _ _ _
  have hb0 : Below w.heap.size w (w.alloc (.cells #[.slice T old.length ct] 42)) := by exact (by repeat (first | with_reducible exact Below.refl _ _ | with_reducible assumption | with_reducible refine Below.drew ?_ | with_reducible refine below_drewN ?_ _ | (with_reducible refine Below.alloc ?_ ?_ _; rotate_left; (try simp) <;> omega) | (with_reducible refine Below.setCell ?_ ?_ _; rotate_left; (try simp) <;> omega)))
  have HAW := Lib.hid (fun W (hb : Below w.heap.size w W) => hA.below hb (Nat.le_refl _))
  have HTW := Lib.hid (fun W (hb : Below w.heap.size w W) => hT.below hb (Nat.le_refl _))
  have HC0 : Hid ((0 : Int) = cntK old dn D dn) := (cntK_before dn (Nat.le_refl _)).symm
  clear hA hT
  go_enter Try.func29, Try.ntmps29
  go_wp2
  go_loopw [7, 8] (fun v y wr => ∃ (k : Nat) (p : Int), dn ≤ k ∧ k ≤ D.length ∧ y = .int .i64 (k : Int) ∧ v = .int .i64 p ∧ Hid (p = cntK old dn D k) ∧ (0 ≤ p ∧ p ≤ (k : Int)) ∧ Below w.heap.size w wr ∧ Bk wr w.heap.size 42 #[.slice T old.length ct]) (fun _ y _ => D.length - (intOf y).toNat)
  case atStart => exact ⟨dn, 0, Nat.le_refl _, hd, rfl, rfl, HC0, ⟨Int.le_refl _, by omega⟩, hb0, k4⟩
  case round =>
  clear hb0 k4 HC0
  obtain ⟨k, p, hdk, hk, rfl, rfl, HP, ⟨hp0, hp1⟩, hbw, h4⟩ := hrel
  have hbs := hbw.size
  have x4 := h4.cell 0 rfl
  by_cases hlt : k < D.length
  · have hkI : (k : Int) < (D.length : Int) := by omega
    have hk0 : 0 ≤ (k : Int) := by omega
    have HSU := Lib.hid (cntK_succ (old := old) (D := D) hdk)
    obtain ⟨a1, rfl, _, t0⟩ := int_at (HAW.out wr hbw) hlt
    have hDg : D.getD k 0 = D[k] := by rw [List.getD_eq_getElem?_getD, List.getElem?_eq_getElem hlt]; rfl
    have HDG := Lib.hid hDg
    clear hDg
    by_cases h1 : old.length ≤ k
    · have h1b : decide ((old.length : Int) ≤ (k : Int)) = true := decide_eq_true (by omega)
      have h1c : decide (old.length ≤ k) = true := decide_eq_true h1
      have HN : Hid (p + 1 = cntK old dn D (k + 1)) := by
        show _ = _
        rw [HSU.out, if_pos (by unfold dayAt; rw [List.getElem?_eq_none h1]; simp), ← HP.out]
      clear HSU HDG
      go_upto_region 5 with fail
      refine wp_region_held_drew (S := (fun w' => w'.cell? ⟨w.heap.size, 0, none⟩ = some (.slice T old.length ct))) (by kernel_rfl) ?_ (fun hHeld => ?_)
      · exact x4
      refine tk 0 16 ?_
      refine tk 1 17 ?_
      refine tk 2 18 ?_
      refine tk 3 19 ?_
      refine tk 4 20 ?_
      refine tk 5 21 ?_
      refine sk 6 22 ?_
      refine sk 7 23 ?_
      refine sk 8 24 ?_
      refine sk 9 25 ?_
      refine sk 10 26 ?_
      refine sk 11 27 ?_
      refine sk 12 28 ?_
      refine sk 13 29 ?_
      refine sk 14 30 ?_
      refine sk 15 31 ?_
      refine sk 16 32 ?_
      refine tk 17 33 ?_
      refine wpAnyH_done (by kernel_rfl) ?_ _
      clear hHeld
      go_wp2
      go_roundw
      case rel => exact ⟨k + 1, p + 1, by omega, by omega, by go_num, by go_num, HN, ⟨by omega, by omega⟩, hbw.drew, h4.drew⟩
      case measure => simp [intOf] <;> omega
    · have h1b : decide ((old.length : Int) ≤ (k : Int)) = false := decide_eq_false (by omega)
      have h1c : decide (old.length ≤ k) = false := decide_eq_false h1
      have h1I : (k : Int) < (old.length : Int) := by omega
      have hko : k < old.length := by omega
      have hda : dayAt old k = some old[k].day := by unfold dayAt; rw [List.getElem?_eq_getElem hko]; rfl
      rw [hda] at HSU
      obtain ⟨a2, rfl, _, s0, _, _⟩ := turn_at (HTW.out wr hbw) hko
      clear hda
      generalize old[k].day = y at *
      generalize D[k] = x at *
      rw [HDG.out] at HSU
      by_cases hxy : y = x
      · have hxb : (y != x) = false := by simpa using hxy
        have HN : Hid (p = cntK old dn D (k + 1)) := by
          show _ = _
          rw [HSU.out, if_neg (by rw [hxy]; simp), ← HP.out]; omega
        clear HSU HDG hxy
        go_upto_region 5 with fail
        refine wp_region_held_drew (S := (fun w' => w'.cell? ⟨w.heap.size, 0, none⟩ = some (.slice (some a2) old.length ct) ∧ w'.cell? (a1.add k) = some (.int .i64 x) ∧ w'.cell? (a2.add (k * 3)) = some (.int .i64 y))) (by kernel_rfl) ?_ (fun hHeld => ?_)
        · exact ⟨x4, t0, s0⟩
        refine tk 0 16 ?_
        refine tk 1 17 ?_
        refine tk 2 18 ?_
        refine tk 3 19 ?_
        refine tk 4 20 ?_
        refine tk 5 21 ?_
        refine tk 6 22 ?_
        refine tk 7 23 ?_
        refine tk 8 24 ?_
        refine tk 9 25 ?_
        refine tk 10 26 ?_
        refine tk 11 27 ?_
        refine tk 12 28 ?_
        refine tk 13 29 ?_
        refine tk 14 30 ?_
        refine tk 15 31 ?_
        refine tk 16 32 ?_
        refine tk 17 33 ?_
        refine wpAnyH_done (by kernel_rfl) ?_ _
        clear hHeld
        go_wp2
        go_roundw
        case rel => exact ⟨k + 1, p, by omega, by omega, by go_num, rfl, HN, ⟨by omega, by omega⟩, hbw.drew, h4.drew⟩
        case measure => simp [intOf] <;> omega
      · have hxb : (y != x) = true := by simpa using hxy
        have HN : Hid (p + 1 = cntK old dn D (k + 1)) := by
          show _ = _
          rw [HSU.out, if_pos (by simpa using hxy), ← HP.out]
        clear HSU HDG hxy
        go_upto_region 5 with fail
        refine wp_region_held_drew (S := (fun w' => w'.cell? ⟨w.heap.size, 0, none⟩ = some (.slice (some a2) old.length ct) ∧ w'.cell? (a1.add k) = some (.int .i64 x) ∧ w'.cell? (a2.add (k * 3)) = some (.int .i64 y))) (by kernel_rfl) ?_ (fun hHeld => ?_)
        · exact ⟨x4, t0, s0⟩
        refine tk 0 16 ?_
        refine tk 1 17 ?_
        refine tk 2 18 ?_
        refine tk 3 19 ?_
        refine tk 4 20 ?_
        refine tk 5 21 ?_
        refine tk 6 22 ?_
        refine tk 7 23 ?_
        refine tk 8 24 ?_
        refine tk 9 25 ?_
        refine tk 10 26 ?_
        refine tk 11 27 ?_
        refine tk 12 28 ?_
        refine tk 13 29 ?_
        refine tk 14 30 ?_
        refine tk 15 31 ?_
        refine tk 16 32 ?_
        refine tk 17 33 ?_
        refine wpAnyH_done (by kernel_rfl) ?_ _
        clear hHeld
        go_wp2
        go_roundw
        case rel => exact ⟨k + 1, p + 1, by omega, by omega, by go_num, by go_num, HN, ⟨by omega, by omega⟩, hbw.drew, h4.drew⟩
        case measure => simp [intOf] <;> omega
  · obtain rfl : k = D.length := by omega
    go_wp2
    go_ret
    exact ⟨by rw [HP.out]; rfl, hbw⟩
end Go.Proofs.Ytjgnikmnadmheaa

namespace Go.Proofs.Ytjgnikmnadmheaa
open Go.RowKit

section
variable {Y : Yd} {l : List Tk} {f : Int} {old : List Tu} {dn : Nat} {D : List Int}
theorem foldl_max_le {x : Int} : ∀ (L : List Int) (a : Int), a ≤ x → (∀ y ∈ L, y ≤ x) → L.foldl max a ≤ x
  | [], _, h, _ => h
  | y :: L, a, h, hy => foldl_max_le L (max a y) (by have := hy y (List.mem_cons_self ..); omega) (fun z hz => hy z (List.mem_cons_of_mem _ hz))
theorem may_parts (h : mayB Y l f old dn D = true) : D.length = l.length ∧ ∀ i (hi : i < l.length), (dn ≤ i ∨ dayAt old i = some (D.getD i 0)) ∧ (i = 0 ∨ D.getD (i - 1) 0 < D.getD i 0) ∧ (i < dn ∨ (f ≤ D.getD i 0 ∧ D.getD i 0 < f + 400 ∧ suitB Y l[i] i (D.getD i 0) = true ∧ ∀ k ∈ l[i].af, D.getD k.toNat 0 + Y.dry < D.getD i 0)) := by
  unfold mayB at h
  rw [Bool.and_eq_true, decide_eq_true_eq, List.all_eq_true] at h
  exact ⟨h.1, fun i hi => (mayAt_iff hi).1 (h.2 i (List.mem_range.2 (by omega)))⟩
theorem may_pre (h : mayB Y l f old dn D = true) (hdl : dn ≤ l.length) (hdo : dn ≤ old.length) : staysOf old dn = D.take dn := by
  obtain ⟨hl, ha⟩ := may_parts h
  unfold staysOf
  apply List.ext_getElem?
  intro i
  by_cases hi : i < dn
  · have h3 := (ha i (by omega)).1.resolve_left (by omega)
    rw [List.getElem?_map, List.getElem?_take_of_lt hi, List.getElem?_take_of_lt hi]
    refine h3.trans ?_
    rw [List.getD_eq_getElem?_getD, List.getElem?_eq_getElem (show i < D.length by omega)]
    rfl
  · rw [List.getElem?_map, List.getElem?_eq_none (by rw [List.length_take]; omega), List.getElem?_eq_none (by rw [List.length_take]; omega)]
    rfl
theorem may_low (hv : ValidT l) (h : mayB Y l f old dn D = true) {i : Nat} (hd : dn ≤ i) (hi : i < l.length) : lowS Y.dry f l[i].af (D.take i) ≤ D.getD i 0 ∧ D.getD i 0 < f + 400 ∧ suitB Y l[i] i (D.getD i 0) = true := by
  obtain ⟨hl, ha⟩ := may_parts h
  obtain ⟨_, h2, h3⟩ := ha i hi
  obtain ⟨h4, h5, h6, h7⟩ := h3.resolve_left (by omega)
  refine ⟨?_, h5, h6⟩
  unfold lowS lowK
  refine foldl_max_le _ _ ?_ (fun y hy => ?_)
  · unfold lowB
    rw [List.length_take]
    by_cases h0 : i = 0
    · rw [if_pos (by omega)]; exact h4
    · rw [if_neg (by omega), getD_take, if_pos (by omega)]
      have := h2.resolve_left h0
      have e : min i D.length - 1 = i - 1 := by omega
      rw [e]
      omega
  · rw [List.mem_map] at hy
    obtain ⟨k, hk, rfl⟩ := hy
    have hk' := List.mem_of_mem_take hk
    have h8 := hv.af i hi k hk'
    rw [getD_take, if_pos (by omega)]
    have := h7 k hk'
    omega
/-- days that may be kept are not better than what the search finds -/
theorem may_search (hv : ValidT l) (hdl : dn ≤ l.length) (hdo : dn ≤ old.length) (h : mayB Y l f old dn D = true) :
    ∃ P, rplD Y l f old (staysOf old dn) = some P ∧ (endL P < endL D ∨ (endL P = endL D ∧ cntC old dn P ≤ cntC old dn D)) := by
  obtain ⟨hl, ha⟩ := may_parts h
  have hpre := may_pre h hdl hdo
  have hsl : (staysOf old dn).length = dn := stays_len hdo
  have hsl' : (staysOf old dn).length ≤ l.length := by omega
  have hP0 : ∀ j, j < (staysOf old dn).length → (staysOf old dn).getD j 0 ≤ D.getD j 0 := fun j hj => by
    rw [hpre, getD_take, if_pos (by omega)]; exact Int.le_refl _
  have hcond : ∀ i, (staysOf old dn).length ≤ i → ∀ hi : i < l.length, lowS Y.dry f l[i].af (D.take i) ≤ D.getD i 0 ∧ D.getD i 0 < f + 400 ∧ suitB Y l[i] i (D.getD i 0) = true := fun i hd hi => may_low hv h (by omega) hi
  obtain ⟨L0, hL0, _⟩ := est_low (fx := noFx) (Y := Y) (f := f) hl (fun i d e => by cases e) (l.length - (staysOf old dn).length) (staysOf old dn) (by omega) hP0 hcond
  have hp : rplD Y l f old (staysOf old dn) = some (rplS Y l f old (staysOf old dn) L0).2 := by unfold rplD; rw [hL0]
  refine ⟨_, hp, ?_⟩
  generalize (rplS Y l f old (staysOf old dn) L0).2 = P at *
  obtain ⟨h1, h2⟩ := rpl_opt hsl' hp
  rw [hsl] at h2
  have hfx : FxOK old (staysOf old dn).length l.length (fxOf old dn D) := by have := fxOf_ok old dn D; rw [hl] at this; rw [hsl]; exact this
  obtain ⟨L, hL, hle⟩ := est_low (fx := fxOf old dn D) (Y := Y) (f := f) hl (fun i d e => by
    unfold fxOf at e
    split at e
    · cases e; rfl
    · cases e) (l.length - (staysOf old dn).length) (staysOf old dn) (by omega) hP0 hcond
  have hLS : LSx Y l f old (staysOf old dn) L := ls_of_est hsl' hfx hL
  have hLl := hLS.len
  have hend : endL L ≤ endL D := by
    unfold endL
    rw [hLl, hl]
    by_cases h0 : l.length = 0
    · rw [List.getD_eq_getElem?_getD, List.getD_eq_getElem?_getD, List.getElem?_eq_none (by omega), List.getElem?_eq_none (by omega)]
      exact Int.le_refl _
    · exact hle _ (by omega)
  have hk := h2 L hLS
  have c1 := cnt_fx (old := old) hsl' hfx hL
  have c2 := cnt_kept (old := old) (ds := staysOf old dn) (D := D) hsl' hl
  rw [hsl] at c1 c2
  by_cases e1 : endL L < endL P
  · have : lexB (key3 old dn L) (key3 old dn P) = true := by unfold key3; rw [lexB_cons]; exact .inl e1
    rw [hk] at this; cases this
  · by_cases e2 : endL P < endL D
    · exact .inl e2
    · refine .inr ⟨by omega, ?_⟩
      by_cases e3 : cntC old dn L < cntC old dn P
      · have : lexB (key3 old dn L) (key3 old dn P) = true := by unfold key3; rw [lexB_cons, lexB_cons]; exact .inr ⟨by omega, .inl e3⟩
        rw [hk] at this; cases this
      · omega
theorem le_foldl_max : ∀ (L : List Int) (a : Int), a ≤ L.foldl max a ∧ ∀ y ∈ L, y ≤ L.foldl max a
  | [], a => ⟨Int.le_refl _, fun y hy => by cases hy⟩
  | z :: L, a => by
    obtain ⟨h1, h2⟩ := le_foldl_max L (max a z)
    refine ⟨by show a ≤ L.foldl max (max a z); omega, fun y hy => ?_⟩
    show y ≤ L.foldl max (max a z)
    rcases List.mem_cons.1 hy with rfl | hy
    · omega
    · exact h2 y hy
theorem low_lb {dry f : Int} {af days : List Int} : lowB f days ≤ lowS dry f af days ∧ ∀ k ∈ af, days.getD k.toNat 0 + dry + 1 ≤ lowS dry f af days := by
  unfold lowS lowK
  rw [List.take_length]
  obtain ⟨h1, h2⟩ := le_foldl_max (af.map fun j => days.getD j.toNat 0 + dry + 1) (lowB f days)
  exact ⟨h1, fun k hk => h2 _ (List.mem_map.2 ⟨k, hk, rfl⟩)⟩
/-- what the search finds may be kept -/
theorem may_found {P : List Int} (hv : ValidT l) (hdl : dn ≤ l.length) (hdo : dn ≤ old.length) (hst : stayB old f dn = true) (hp : rplD Y l f old (staysOf old dn) = some P) : mayB Y l f old dn P = true := by
  have hsl : (staysOf old dn).length = dn := stays_len hdo
  obtain ⟨h1, _⟩ := rpl_opt (by omega) hp
  have hPl := h1.len
  refine mayB_yes hPl (fun i hi => (mayAt_iff (by omega)).2 ?_)
  have hil : i < l.length := by omega
  by_cases hd : dn ≤ i
  · obtain ⟨h2, h3, h4⟩ := ls_days h1 i (by omega) hil
    obtain ⟨h5, h6⟩ := low_lb (dry := Y.dry) (f := f) (af := l[i].af) (days := P.take i)
    have h7 : f ≤ lowB f (P.take i) ∧ (i = 0 ∨ P.getD (i - 1) 0 + 1 ≤ lowB f (P.take i)) := by
      unfold lowB
      rw [List.length_take]
      by_cases h0 : i = 0
      · rw [if_pos (by omega)]; exact ⟨Int.le_refl _, .inl h0⟩
      · have e : min i P.length - 1 = i - 1 := by omega
        rw [if_neg (by omega), getD_take, e, if_pos (by omega)]
        exact ⟨by omega, .inr (by omega)⟩
    refine ⟨.inl hd, ?_, .inr ⟨by omega, h3, h4, fun k hk => ?_⟩⟩
    · rcases h7.2 with e | e
      · exact .inl e
      · exact .inr (by omega)
    · have h8 := h6 k hk
      have h9 := hv.af i hil k hk
      rw [getD_take, if_pos (by omega)] at h8
      omega
  · have hio : i < old.length := by omega
    have hday : ∀ j, j < dn → ∀ hj : j < old.length, P.getD j 0 = old[j].day := fun j hj hjo => by
      rw [← getD_pre h1.pre j (by omega)]
      unfold staysOf
      rw [List.getD_eq_getElem?_getD, List.getElem?_map, List.getElem?_take_of_lt hj, List.getElem?_eq_getElem hjo]
      rfl
    refine ⟨.inr ?_, ?_, .inl (by omega)⟩
    · unfold dayAt
      rw [List.getElem?_eq_getElem hio, hday i (by omega) hio]
      rfl
    · have hs : stayAt old f i = true := by
        unfold stayB at hst
        rw [List.all_eq_true] at hst
        exact hst i (List.mem_range.2 (by omega))
      rw [stayAt_eq hio, Bool.and_eq_true, Bool.and_eq_true, Bool.or_eq_true, decide_eq_true_eq, decide_eq_true_eq, decide_eq_true_eq, decide_eq_true_eq] at hs
      rcases hs.2.2 with e | e
      · exact .inl e
      · by_cases h0 : i = 0
        · exact .inl h0
        · exact .inr (by rw [hday i (by omega) hio, hday (i - 1) (by omega) (by omega)]; exact e)
theorem usualU_pre (days : List Int) : ∀ (m : Nat) (ts : List Tu), ts <+: usualU Y l days m ts
  | 0, ts => List.prefix_refl _
  | m + 1, ts => (List.prefix_append _ _).trans (usualU_pre days m (ts ++ [usualT Y l days ts]))
theorem usual_pre (ts : List Tu) (days : List Int) : ts <+: usual Y l ts days := usualU_pre days _ ts
/-- the days of the plan that Replan returns -/
theorem repl_days {P : List Int} (hdl : dn ≤ l.length) (hdo : dn ≤ old.length) (hp : rplD Y l f old (staysOf old dn) = some P) : (usual Y l (old.take dn) P).map Tu.day = P := by
  have hsl : (staysOf old dn).length = dn := stays_len hdo
  obtain ⟨h1, _⟩ := rpl_opt (by omega) hp
  have hPl := h1.len
  have htl : (old.take dn).length = dn := by rw [List.length_take]; omega
  unfold usual
  rw [htl, usualU_day Y l P (by omega) _ _ (by rw [htl]; omega), htl]
  have e : (old.take dn).map Tu.day = P.take dn := by
    have := List.prefix_iff_eq_take.1 h1.pre
    rw [hsl] at this
    exact this
  have e2 : (P.drop dn).take (P.length - dn) = P.drop dn := List.take_of_length_le (by rw [List.length_drop]; exact Nat.le_refl _)
  rw [e, e2, List.take_append_drop]
end
end Go.Proofs.Ytjgnikmnadmheaa

namespace Go.Proofs.Ytjgnikmnadmheaa
open Go.RowKit

theorem com_70 (Y : Yd) (l : List Tk) : comE Y l ≠ 70 := by
  have h1 : chkY Y ≠ 70 := by unfold chkY; split <;> (try split) <;> (try split) <;> decide
  have h2 : chkL l ≠ 70 := by unfold chkL; split <;> (try split) <;> decide
  unfold comE; split <;> assumption
/-- what holds where Replan's error is 0 or 70 -/
structure ChgOK (Y : Yd) (l : List Tk) (f : Int) (old : List Tu) (done : Int) (dn : Nat) : Prop where
  hd : done = (dn : Int)
  com : comE Y l = 0
  hl : dn ≤ l.length
  ho : dn ≤ old.length
  st : stayB old f dn = true
  hf : 0 ≤ f ∧ f ≤ 100000
section
variable {Y : Yd} {l : List Tk} {f : Int} {old : List Tu} {done : Int}
theorem chg_split : (replE Y l f old done ≠ 0 ∧ replE Y l f old done ≠ 70 ∧ replP Y l f old done = []) ∨
    (∃ dn, ChgOK Y l f old done dn ∧ ((replE Y l f old done = 70 ∧ ∀ D, mayB Y l f old dn D = false) ∨
      ∃ P, replE Y l f old done = 0 ∧ (replP Y l f old done).map Tu.day = P ∧ (replP Y l f old done).length = l.length ∧ P.length = l.length ∧ mayB Y l f old dn P = true ∧
        (∀ i, i < dn → (replP Y l f old done)[i]? = old[i]?) ∧ ∀ D, mayB Y l f old dn D = true → endL P < endL D ∨ (endL P = endL D ∧ cntC old dn P ≤ cntC old dn D))) := by
  by_cases hc : comE Y l = 0
  · by_cases h2 : inB done 0 (min (l.length : Int) (old.length : Int)) = true ∧ inB f 0 100000 = true
    · have hi := inB_iff.1 h2.1
      have hj := inB_iff.1 h2.2
      cases h3 : stayB old f done.toNat with
      | false =>
        obtain ⟨e, p⟩ := repl_state hc h2 h3
        exact .inl ⟨by rw [e]; decide, by rw [e]; decide, p⟩
      | true =>
        obtain ⟨_, hv⟩ := com_ok hc
        have hk : ChgOK Y l f old done done.toNat := ⟨by omega, hc, by omega, by omega, h3, hj⟩
        cases h4 : rplD Y l f old (staysOf old done.toNat) with
        | none =>
          obtain ⟨e, p⟩ := repl_span hc h2 h3 h4
          refine .inr ⟨_, hk, .inl ⟨e, fun D => ?_⟩⟩
          rw [Bool.eq_false_iff]
          intro hm
          obtain ⟨P, hP, _⟩ := may_search hv hk.hl hk.ho hm
          rw [h4] at hP; cases hP
        | some P =>
          obtain ⟨e, p⟩ := repl_ok hc h2 h3 h4
          have hsl : (staysOf old done.toNat).length = done.toNat := stays_len hk.ho
          have h1 := (rpl_opt (by have := hk.hl; omega) h4).1
          have hPl := h1.len
          have htl : (old.take done.toNat).length = done.toNat := by rw [List.length_take]; have := hk.ho; omega
          refine .inr ⟨_, hk, .inr ⟨P, e, ?_, ?_, hPl, may_found hv hk.hl hk.ho hk.st h4, fun i hi => ?_, fun D hm => ?_⟩⟩
          · rw [p]; exact repl_days hk.hl hk.ho h4
          · rw [p, usual_len Y l _ P (by rw [htl, hPl]; exact hk.hl), hPl]
          · rw [p]
            have hpre := usual_pre (Y := Y) (l := l) (old.take done.toNat) P
            obtain ⟨r, hr⟩ := hpre
            rw [← hr, List.getElem?_append_left (by omega), List.getElem?_take_of_lt hi]
          · obtain ⟨P', hP', h⟩ := may_search hv hk.hl hk.ho hm
            rw [h4] at hP'; cases hP'
            exact h
    · obtain ⟨e, p⟩ := repl_arg hc h2
      exact .inl ⟨by rw [e]; decide, by rw [e]; decide, p⟩
  · obtain ⟨e, p⟩ := repl_com (old := old) (f := f) (done := done) hc
    exact .inl ⟨by rw [e]; exact hc, by rw [e]; exact com_70 Y l, p⟩
/-- days that may be kept are numbers -/
theorem may_i64 {dn : Nat} {P : List Int} (hk : ChgOK Y l f old done dn) (h : mayB Y l f old dn P = true) (hgi : ∀ t ∈ old, i64v t.day) : ∀ x ∈ P, i64v x := fun x hx => by
  obtain ⟨hl, ha⟩ := may_parts h
  obtain ⟨i, hi, rfl⟩ := List.mem_iff_getElem.1 hx
  have e : P.getD i 0 = P[i] := by rw [List.getD_eq_getElem?_getD, List.getElem?_eq_getElem hi]; rfl
  obtain ⟨h1, _, h3⟩ := ha i (by omega)
  rw [e] at h1 h3
  have hf := hk.hf
  by_cases hd : dn ≤ i
  · obtain ⟨h4, h5, _, _⟩ := h3.resolve_left (by omega)
    unfold i64v; omega
  · have h4 := h1.resolve_left hd
    unfold dayAt at h4
    have hio : i < old.length := by have := hk.ho; omega
    rw [List.getElem?_eq_getElem hio] at h4
    have h5 := Option.some.inj h4
    rw [← h5]
    exact hgi _ (List.getElem_mem hio)
end
end Go.Proofs.Ytjgnikmnadmheaa
