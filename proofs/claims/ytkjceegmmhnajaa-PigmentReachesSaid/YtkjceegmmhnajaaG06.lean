/- The law PigmentMixes, walked. -/
import Derived.Maps.AppendAt
import Derived.Deep.AppendLies
import Derived.StillTailTactics
import Derived.IntWalk
import Derived.Deep.RegionHeld3
import Derived.BigRegion
import Derived.ChangeKeysEq
import Derived.Test.YtkjceegmmhnajaaRows
import Derived.ProofKit
import Derived.Carry
import Derived.Deep.Slices
import Derived.Deep.Fields
import Derived.Laws.IdiomArrays
import Derived.Test.YtkjceegmmhnajaaG05

set_option linter.unusedVariables false
set_option linter.unusedSimpArgs false

namespace Go.Proofs.Ytkjceegmmhnajaa
open Go.RowKit

abbrev Tn.agg (t : Tn) : Value := .agg #[.string t.name, .int .i64 t.a, .int .i64 t.b, .int .i64 t.c, .int .i64 t.price]
def priceB (p : Int) : Bool := decide (0 ≤ p) && decide (p ≤ 10000)
def offTint (t : Tn) : Bool := !nameB t.name || !shadeB t.a t.b t.c || !priceB t.price

set_option maxHeartbeats 1000000 in
theorem checkTints1_any (t : Tn) (w : World) (hs : t.name.size ≤ 100) :
    Calls Try.prog 57 #[t.agg] w (ShEnd (offTint t) w) := by
  have h57 : offTint t = (!nameB t.name || !shadeB t.a t.b t.c || !priceB t.price) := rfl
  have H57 := Lib.hid h57; clear h57
  obtain ⟨nm, a, b, c, p⟩ := t
  have HP : Hid (priceB p = (decide (0 ≤ p) && decide (p ≤ 10000))) := rfl
  dsimp only at *
  by_cases h1 : nameB nm = true
  · have H1 := Lib.hid h1; clear h1
    by_cases h2 : shadeB a b c = true
    · have H2 := Lib.hid h2; clear h2
      go_enter Try.func57, Try.ntmps57
      go_wp2_with (first | (go_at_call 58; refine (isName_any _ _ hs).mono ?_; rintro e w' ⟨rfl, rfl⟩; rw [H1.out]) | (go_at_call 59; refine (isShade_any _ _ _ _).mono ?_; rintro e w1 ⟨rfl, hb⟩; rw [H2.out]; obtain ⟨hc, hf⟩ := bcell hb; have hz := hb.size; simp at hz) | (go_at_call 45; refine (among_any _ _ _ _).mono ?_; rintro e w' ⟨rfl, rfl⟩))
      go_ret
      refine sh_ret ?_ ?_
      · rw [H57.out, H1.out, H2.out, HP.out]; simp
      · exact ((Below.refl w.heap.size w).alloc (Nat.le_refl _) _).trans (hb.mono (by simp))
    · have h2' : shadeB a b c = false := by simpa using h2
      have H2 := Lib.hid h2'; clear h2 h2'
      go_enter Try.func57, Try.ntmps57
      go_wp2_with (first | (go_at_call 58; refine (isName_any _ _ hs).mono ?_; rintro e w' ⟨rfl, rfl⟩; rw [H1.out]) | (go_at_call 59; refine (isShade_any _ _ _ _).mono ?_; rintro e w1 ⟨rfl, hb⟩; rw [H2.out]; obtain ⟨hc, hf⟩ := bcell hb; have hz := hb.size; simp at hz))
      go_ret
      refine sh_ret ?_ ?_
      · rw [H57.out, H1.out, H2.out]; simp
      · exact ((Below.refl w.heap.size w).alloc (Nat.le_refl _) _).trans (hb.mono (by simp))
  · have h1' : nameB nm = false := by simpa using h1
    have H1 := Lib.hid h1'; clear h1 h1'
    go_enter Try.func57, Try.ntmps57
    go_wp2_with (first | (go_at_call 58; refine (isName_any _ _ hs).mono ?_; rintro e w' ⟨rfl, rfl⟩; rw [H1.out]))
    go_ret
    exact sh_ret (by rw [H57.out, H1.out]; simp) (by repeat (first | with_reducible exact Below.refl _ _ | with_reducible assumption | with_reducible refine Below.drew ?_ | with_reducible refine below_drewN ?_ _ | (with_reducible refine Below.alloc ?_ ?_ _; rotate_left; (try simp) <;> omega) | (with_reducible refine Below.setCell ?_ ?_ _; rotate_left; (try simp) <;> omega)))

set_option maxHeartbeats 400000 in
theorem idxT57 (p : Tn → Bool) (l : List Tn) (A : Option Addr) (c : Nat) (w : World)  (hl : Lies w w.heap.size A (tintsC l)) (hm : l.length ≤ 1000)
    (hp : Hid (∀ t ∈ l, ∀ W : World, Below w.heap.size w W → Calls Try.prog 57 (#[t.agg] ++ #[]) W (ShEnd (p t) W))) :
    Calls Try.prog 79 #[.slice A l.length c, .func (.func 57) #[] #[]] w fun e w' => e = .returned (.int .i64 (idxL p l)) ∧ Below w.heap.size w w' := by
  go_enter Try.func79, Try.ntmps79
  go_wp2
  go_loopw [8] (fun y wr => ∃ k : Nat, k ≤ l.length ∧ y = .int .i64 k ∧ Hid (∀ j (hj : j < k) (h' : j < l.length), p l[j] = false) ∧ Below w.heap.size w wr) (fun y _ => l.length - (intOf y).toNat)
  case atStart => exact ⟨0, by omega, rfl, fun j hj => absurd hj (by omega), Below.refl _ _⟩
  case round =>
    obtain ⟨k, hk, rfl, hg, hbw⟩ := hrel
    have hbs := hbw.size
    by_cases hlt : k < l.length
    · obtain ⟨ad, rfl, _, c0, c1, c2, c3, c4⟩ := tint_at (hl.below hbw (Nat.le_refl _)) hlt
      have HC := Lib.hid (hp.out l[k] (List.getElem_mem hlt))
      clear hl
      by_cases h0 : p l[k] = true
      · have H : Hid (idxL p l = (k : Int)) := by
          have := idxL_drop p l k hk hg.out (.inr ⟨hlt, h0⟩)
          rw [if_pos hlt] at this; exact this
        have H0 := Lib.hid h0; clear h0
        go_wp2_with (go_at_call 57; refine (HC.out _ (by exact (by repeat (first | with_reducible exact Below.refl _ _ | with_reducible assumption | with_reducible refine Below.drew ?_ | with_reducible refine below_drewN ?_ _ | (with_reducible refine Below.alloc ?_ ?_ _; rotate_left; (try simp) <;> omega) | (with_reducible refine Below.setCell ?_ ?_ _; rotate_left; (try simp) <;> omega))))).mono ?_; rintro e w1 ⟨rfl, hb⟩; rw [H0.out])
        go_ret
        exact ⟨ret_int H.out.symm, hbw.trans (hb.mono (by omega))⟩
      · have h0' : p l[k] = false := by simpa using h0
        have H : Hid (∀ j (hj : j < k + 1) (h' : j < l.length), p l[j] = false) := fun j hj h' => by
          by_cases e : j = k
          · subst e; exact h0'
          · exact hg.out j (by omega) h'
        have H0 := Lib.hid h0'; clear h0 h0'
        go_wp2_with (go_at_call 57; refine (HC.out _ (by exact (by repeat (first | with_reducible exact Below.refl _ _ | with_reducible assumption | with_reducible refine Below.drew ?_ | with_reducible refine below_drewN ?_ _ | (with_reducible refine Below.alloc ?_ ?_ _; rotate_left; (try simp) <;> omega) | (with_reducible refine Below.setCell ?_ ?_ _; rotate_left; (try simp) <;> omega))))).mono ?_; rintro e w1 ⟨rfl, hb⟩; rw [H0.out])
        go_roundw
        case rel => exact ⟨k + 1, by omega, by go_num, H, hbw.trans (hb.mono (by omega))⟩
        case measure => simp [intOf]; omega
    · obtain rfl : k = l.length := by omega
      have H : Hid (idxL p l = -1) := by
        have := idxL_drop p l _ hk hg.out (.inl rfl)
        rw [if_neg (by omega)] at this; exact this
      go_wp2
      go_ret
      exact ⟨ret_int H.out.symm, hbw⟩
set_option maxHeartbeats 400000 in
theorem anyT57 (p : Tn → Bool) (l : List Tn) (A : Option Addr) (c : Nat) (w : World)  (hl : Lies w w.heap.size A (tintsC l)) (hm : l.length ≤ 1000)
    (hp : Hid (∀ t ∈ l, ∀ W : World, Below w.heap.size w W → Calls Try.prog 57 (#[t.agg] ++ #[]) W (ShEnd (p t) W))) :
    Calls Try.prog 47 #[.slice A l.length c, .func (.func 57) #[] #[]] w (ShEnd (l.any p) w) := by
  have HE := Lib.hid (idxL_dec p l)
  go_enter Try.func47, Try.ntmps47
  go_wp2_with (go_at_call 79; refine (idxT57 p l _ _ _  hl hm hp).mono ?_; rintro e w1 ⟨rfl, hb⟩)
  go_ret
  exact sh_ret HE.out hb

end Go.Proofs.Ytkjceegmmhnajaa

namespace Go.Proofs.Ytkjceegmmhnajaa
open Go.RowKit

theorem info9 : (Try.prog.info? 9).map (fun i => (i.zero, i.size, i.bytes)) = some (some (.string ByteArray.empty), 1, 16) := by kernel_rfl
def names (l : List Tn) : List ByteArray := l.map Tn.name
def chkT (l : List Tn) : Int := if 12 < l.length then 2 else if l.length = 0 ∨ l.any offTint = true then 1 else if twiceB (names l) = true then 6 else 0

def IntEnd (n : Int) (w : World) (e : Ending) (w' : World) : Prop := e = .returned (.int .i64 n) ∧ Below w.heap.size w w'
theorem int_end {m n : Int} {w w' : World} (h : m = n) (hb : Below w.heap.size w w') : IntEnd n w (.returned (.int .i64 m)) w' := ⟨by rw [h], hb⟩

open World in
theorem ownsRow_lies {w : World} {base : Nat} {e : TypeId} {A : Option Addr} {size n c : Nat} {xs : List Value} (h : w.ownsRow base e size (.slice A n c) n xs) : Lies w w.heap.size A xs := fun hn => by
  have hpos : 0 < n := by
    have := h.1
    rcases Nat.eq_zero_or_pos n with h0 | h0
    · subst h0; simp at this; exact absurd this hn
    · exact h0
  obtain ⟨g, cap, hv, _, hlt⟩ := h.form hpos
  have hA : A = some ⟨g, 0, none⟩ := by injection hv
  subst hA
  exact ⟨_, rfl, hlt, h.cells (g := g) rfl⟩

set_option maxHeartbeats 1000000 in
theorem checkTints_any (l : List Tn) (A : Option Addr) (c : Nat) (w : World) (hl : Lies w w.heap.size A (tintsC l)) (hm : l.length ≤ 1000) (hs : ∀ t ∈ l, t.name.size ≤ 100) :
    Calls Try.prog 28 #[.slice A l.length c] w (IntEnd (chkT l) w) := by
  obtain ⟨i0, hi0, hz0, hz1, hz2⟩ := info_parts info9
  have I9 := Lib.hid (And.intro hi0 (And.intro hz0 (And.intro hz1 hz2))); clear hi0 hz0 hz1 hz2
  have hAny := anyT57 offTint l A c w hl hm (show Hid _ from fun t ht W hb => checkTints1_any t W (hs t ht))
  have HA := Lib.hid hAny; clear hAny
  have HC : Hid (chkT l = if 12 < l.length then 2 else if l.length = 0 ∨ l.any offTint = true then 1 else if twiceB (names l) = true then 6 else 0) := rfl
  by_cases h12 : 12 < l.length
  · go_enter Try.func28, Try.ntmps28
    go_wp2
    go_ret
    exact int_end (by rw [HC.out, if_pos h12]) (by repeat (first | with_reducible exact Below.refl _ _ | with_reducible assumption | with_reducible refine Below.drew ?_ | with_reducible refine below_drewN ?_ _ | (with_reducible refine Below.alloc ?_ ?_ _; rotate_left; (try simp) <;> omega) | (with_reducible refine Below.setCell ?_ ?_ _; rotate_left; (try simp) <;> omega)))
  · by_cases h0 : l.length = 0
    · have hb0 : ((l.length : Int) == 0) = true := by rw [beq_iff_eq]; omega
      have H : Hid (chkT l = 1) := by rw [HC.out, if_neg h12, if_pos (.inl h0)]; rfl
      have H0 := Lib.hid h0; clear h0
      go_enter Try.func28, Try.ntmps28
      go_wp2
      go_ret
      exact int_end H.out.symm (by repeat (first | with_reducible exact Below.refl _ _ | with_reducible assumption | with_reducible refine Below.drew ?_ | with_reducible refine below_drewN ?_ _ | (with_reducible refine Below.alloc ?_ ?_ _; rotate_left; (try simp) <;> omega) | (with_reducible refine Below.setCell ?_ ?_ _; rotate_left; (try simp) <;> omega)))
    · have hb0 : ((l.length : Int) == 0) = false := by rw [beq_eq_false_iff_ne]; omega
      by_cases h1 : l.any offTint = true
      · have H : Hid (chkT l = 1) := by rw [HC.out, if_neg h12, if_pos (.inr h1)]; rfl
        have H1 := Lib.hid h1; clear h1
        go_enter Try.func28, Try.ntmps28
        go_wp2_with (go_at_call 47; refine HA.out.mono ?_; rintro e w1 ⟨rfl, hb⟩; rw [H1.out])
        go_ret
        exact int_end H.out.symm hb
      · have h1' : l.any offTint = false := by simpa using h1
        have HC' : Hid (chkT l = if twiceB (names l) = true then 6 else 0) := by
          show _ = _
          rw [HC.out, if_neg h12, if_neg (by intro h; rcases h with h | h <;> contradiction)]
        have H1 := Lib.hid h1'; clear h1 h1' HC
        go_enter Try.func28, Try.ntmps28
        go_wp2_with (go_at_call 47; refine HA.out.mono ?_; rintro e w1 ⟨rfl, hb⟩; rw [H1.out])
        have hbs := hb.size
        go_loopw [3, 18] (fun v y wr => ∃ k : Nat, k ≤ l.length ∧ y = .int .i64 k ∧ wr.ownsRow w.heap.size 9 1 v k (strsC (names (l.take k))) ∧ Below w.heap.size w wr) (fun _ y _ => l.length - (intOf y).toNat)
        case atStart => exact ⟨0, by omega, rfl, World.ownsRow_nil _ _ _ _, hb⟩
        case round =>
          clear hb hbs
          obtain ⟨k, hk, rfl, hown, hbw⟩ := hrel
          have hbs := hbw.size
          by_cases hlt : k < l.length
          · obtain ⟨ad, rfl, _, c0, c1, c2, c3, c4⟩ := tint_at (hl.below hbw (Nat.le_refl _)) hlt
            have HN : Hid (strsC (names (l.take k)) ++ [.string l[k].name] = strsC (names (l.take (k + 1)))) := by
              show _ = _
              rw [List.take_succ_eq_append_getElem hlt]; simp only [strsC, names, List.map_append, List.map_cons, List.map_nil]
            clear hl
            go_wp2_with (at_builtin; refine wpList_append_own _ rfl (.tmp 22) (.tmp 25) 99 rfl w.heap.size 9 i0 (.string ByteArray.empty) 1 16 Try.underlying99 I9.out.1 I9.out.2.1 I9.out.2.2.1 I9.out.2.2.2 rfl (by decide) _ k (strsC (names (l.take k))) rfl ((hown.alloc _).alloc _) ⟨wr.heap.size + 1, 0, none⟩ 1 1 [.string l[k].name] rfl rfl ?c1 ?c2 ?c3 ?c4 ?c5 ?_)
            case c1 => simpa using cell_one_new (wr.alloc (.cells #[.string l[k].name, .int .i64 l[k].a, .int .i64 l[k].b, .int .i64 l[k].c, .int .i64 l[k].price] 39)) (.string l[k].name) 9
            case c2 => intro u hu; simp at hu; subst hu; rfl
            case c3 => unfold maxLen; omega
            case c4 => omega
            case c5 => simp; omega
            intro v' w1 hown' hgrow _
            rw [HN.out] at hown'
            have hb1 : Below w.heap.size w w1 := Below.grown (w := (wr.alloc _).alloc _) (by repeat (first | with_reducible exact Below.refl _ _ | with_reducible assumption | with_reducible refine Below.drew ?_ | with_reducible refine below_drewN ?_ _ | (with_reducible refine Below.alloc ?_ ?_ _; rotate_left; (try simp) <;> omega) | (with_reducible refine Below.setCell ?_ ?_ _; rotate_left; (try simp) <;> omega))) hgrow (by simp; omega) (fun g hg => by
              rcases hown.2 with ⟨rfl, _⟩ | ⟨g', _, _, rfl, hge, _⟩
              · simp [Value.ownBlock] at hg
              · simp [Value.ownBlock] at hg; omega)
            clear hgrow hown
            go_wp2
            go_roundw
            case rel => exact ⟨k + 1, by omega, by go_num, hown', hb1⟩
            case measure => simp [intOf]; omega
          · obtain rfl : k = l.length := by omega
            have hlen : (names (l.take l.length)).length = l.length := by rw [List.take_length]; simp [names]
            have hform : ∃ A2 c2, u3 = .slice A2 l.length c2 ∧ l.length ≤ c2 ∧ c2 ≤ maxLen := by
              rcases hown.2 with h | ⟨g', c2, _, h, hge, _, h1, h2, _⟩
              · exact absurd h.2 h0
              · exact ⟨_, _, h, h1, h2⟩
            obtain ⟨A2, c2, rfl, hc1, hc2⟩ := hform
            have hL := ownsRow_lies hown
            rw [List.take_length] at hL
            have hn : (names l).length = l.length := by simp [names]
            have hT := twice_any (names l) A2 c2 wr hL (by omega) (by omega) hc2
            rw [hn] at hT
            have HT := Lib.hid hT
            clear hT hL hc1 hc2 hn hlen hown
            by_cases ht : twiceB (names l) = true
            · have H : Hid (chkT l = 6) := by show _ = _; rw [HC'.out, if_pos ht]
              have H2 := Lib.hid ht; clear ht
              go_wp2_with (go_at_call 60; refine HT.out.mono ?_; rintro e w1 ⟨rfl, rfl⟩; rw [H2.out])
              go_ret
              exact int_end H.out.symm hbw
            · have ht' : twiceB (names l) = false := by simpa using ht
              have H : Hid (chkT l = 0) := by show _ = _; rw [HC'.out, if_neg ht]
              have H2 := Lib.hid ht'; clear ht ht'
              go_wp2_with (go_at_call 60; refine HT.out.mono ?_; rintro e w1 ⟨rfl, rfl⟩; rw [H2.out])
              go_ret
              exact int_end H.out.symm hbw

/-! checkWant -/
def chkW (l : List Tn) (a b c : Int) : Int := if chkT l = 0 then (if shadeB a b c = true then 0 else 1) else chkT l
set_option maxHeartbeats 1000000 in
theorem checkWant_any (l : List Tn) (A : Option Addr) (c : Nat) (x y z : Int) (w : World) (hl : Lies w w.heap.size A (tintsC l)) (hm : l.length ≤ 1000) (hs : ∀ t ∈ l, t.name.size ≤ 100) :
    Calls Try.prog 36 #[.slice A l.length c, .agg #[.int .i64 x, .int .i64 y, .int .i64 z]] w (IntEnd (chkW l x y z) w) := by
  have HT := Lib.hid (fun W (hb : Below w.heap.size w W) => checkTints_any l A c W ((hl.below hb (Nat.le_refl _)).more hb.size) hm hs)
  have HC : Hid (chkW l x y z = if chkT l = 0 then (if shadeB x y z = true then 0 else 1) else chkT l) := rfl
  generalize hq : chkT l = q at *
  by_cases h0 : q = 0
  · subst h0
    by_cases h1 : shadeB x y z = true
    · have H : Hid (chkW l x y z = 0) := by show _ = _; rw [HC.out, if_pos rfl, if_pos h1]
      have H1 := Lib.hid h1; clear h1 hq hs hl
      go_enter Try.func36, Try.ntmps36
      go_wp2_with (first | (go_at_call 28; refine (HT.out _ (by repeat (first | with_reducible exact Below.refl _ _ | with_reducible assumption | with_reducible refine Below.drew ?_ | with_reducible refine below_drewN ?_ _ | (with_reducible refine Below.alloc ?_ ?_ _; rotate_left; (try simp) <;> omega) | (with_reducible refine Below.setCell ?_ ?_ _; rotate_left; (try simp) <;> omega)))).mono ?_; rintro e w1 ⟨rfl, hb⟩; obtain ⟨hc, hf⟩ := bcell hb; have hz := hb.size; simp at hz) | (go_at_call 59; refine (isShade_any _ _ _ _).mono ?_; rintro e w2 ⟨rfl, hb2⟩; rw [H1.out]))
      go_ret
      exact int_end H.out.symm ((((Below.refl _ _).alloc (Nat.le_refl _) _).trans (hb.mono (by simp))).trans (hb2.mono (by omega)))
    · have h1' : shadeB x y z = false := by simpa using h1
      have H : Hid (chkW l x y z = 1) := by show _ = _; rw [HC.out, if_pos rfl, if_neg h1]
      have H1 := Lib.hid h1'; clear h1 h1' hq hs hl
      go_enter Try.func36, Try.ntmps36
      go_wp2_with (first | (go_at_call 28; refine (HT.out _ (by repeat (first | with_reducible exact Below.refl _ _ | with_reducible assumption | with_reducible refine Below.drew ?_ | with_reducible refine below_drewN ?_ _ | (with_reducible refine Below.alloc ?_ ?_ _; rotate_left; (try simp) <;> omega) | (with_reducible refine Below.setCell ?_ ?_ _; rotate_left; (try simp) <;> omega)))).mono ?_; rintro e w1 ⟨rfl, hb⟩; obtain ⟨hc, hf⟩ := bcell hb; have hz := hb.size; simp at hz) | (go_at_call 59; refine (isShade_any _ _ _ _).mono ?_; rintro e w2 ⟨rfl, hb2⟩; rw [H1.out]))
      go_ret
      exact int_end H.out.symm ((((Below.refl _ _).alloc (Nat.le_refl _) _).trans (hb.mono (by simp))).trans (hb2.mono (by omega)))
  · have H : Hid (chkW l x y z = q) := by show _ = _; rw [HC.out, if_neg h0]
    have hb1 : (q != 0) = true := by rw [bne_iff_ne]; exact h0
    have hb2 : (q == 0) = false := by rw [beq_eq_false_iff_ne]; exact h0
    have H0 := Lib.hid h0; clear h0 hq hs hl
    go_enter Try.func36, Try.ntmps36
    go_wp2_with (first | (go_at_call 28; refine (HT.out _ (by repeat (first | with_reducible exact Below.refl _ _ | with_reducible assumption | with_reducible refine Below.drew ?_ | with_reducible refine below_drewN ?_ _ | (with_reducible refine Below.alloc ?_ ?_ _; rotate_left; (try simp) <;> omega) | (with_reducible refine Below.setCell ?_ ?_ _; rotate_left; (try simp) <;> omega)))).mono ?_; rintro e w1 ⟨rfl, hb⟩; obtain ⟨hc, hf⟩ := bcell hb; have hz := hb.size; simp at hz))
    go_ret
    exact int_end H.out.symm (((Below.refl _ _).alloc (Nat.le_refl _) _).trans (hb.mono (by simp)))
end Go.Proofs.Ytkjceegmmhnajaa

namespace Go.Proofs.Ytkjceegmmhnajaa
open Go.RowKit

theorem twice_names_yes {l : List Tn} {i k : Nat} (hi : i < l.length) (hk : k < i) (h : l[i].name = (l[k]'(by omega)).name) : twiceB (names l) = true := by
  refine twiceB_yes (j := i) (by simpa [names] using hi) ?_
  rw [List.any_eq_true]
  refine ⟨(l[k]'(by omega)).name, ?_, by simpa [names] using h⟩
  rw [List.mem_take_iff_getElem]
  exact ⟨k, by simp [names]; omega, by simp [names]⟩
theorem twice_names_no {l : List Tn} (h : ∀ i (hi : i < l.length) k (hk : k < i), l[i].name ≠ (l[k]'(by omega)).name) : twiceB (names l) = false := by
  refine twiceB_no (fun j hj => ?_)
  rw [List.any_eq_false]
  intro x hx
  rw [List.mem_take_iff_getElem] at hx
  obtain ⟨k, hk, rfl⟩ := hx
  simp only [names, List.getElem_map, decide_eq_true_iff]
  refine h j (by simpa [names] using hj) k ?_
  omega
theorem any_off_no {l : List Tn} (h : ∀ j (_ : j < l.length), offTint (l[j]'‹_›) = false) : l.any offTint = false := by
  rw [List.any_eq_false]
  intro x hx
  obtain ⟨j, hj, rfl⟩ := List.getElem_of_mem hx
  rw [h j hj]; exact Bool.false_ne_true
theorem any_off_yes {l : List Tn} {j : Nat} (hj : j < l.length) (h : offTint l[j] = true) : l.any offTint = true := List.any_eq_true.2 ⟨_, List.getElem_mem hj, h⟩

set_option maxHeartbeats 1000000 in
theorem rtints_any (l : List Tn) (A : Option Addr) (c : Nat) (w : World) (hl : Lies w w.heap.size A (tintsC l)) (hm : l.length ≤ 1000) (hs : ∀ t ∈ l, t.name.size ≤ 100) :
    Calls Try.prog 31 #[.slice A l.length c] w (IntEnd (chkT l) w) := by
  have HC : Hid (chkT l = if 12 < l.length then 2 else if l.length = 0 ∨ l.any offTint = true then 1 else if twiceB (names l) = true then 6 else 0) := rfl
  by_cases h12 : 12 < l.length
  · go_enter Try.func31, Try.ntmps31
    go_wp2
    go_ret
    exact int_end (by rw [HC.out, if_pos h12]) (by repeat (first | with_reducible exact Below.refl _ _ | with_reducible assumption | with_reducible refine Below.drew ?_ | with_reducible refine below_drewN ?_ _ | (with_reducible refine Below.alloc ?_ ?_ _; rotate_left; (try simp) <;> omega) | (with_reducible refine Below.setCell ?_ ?_ _; rotate_left; (try simp) <;> omega)))
  · by_cases h0 : l.length = 0
    · have hb0 : ((l.length : Int) == 0) = true := by rw [beq_iff_eq]; omega
      have H : Hid (chkT l = 1) := by rw [HC.out, if_neg h12, if_pos (.inl h0)]; rfl
      have H0 := Lib.hid h0; clear h0
      go_enter Try.func31, Try.ntmps31
      go_wp2
      go_ret
      exact int_end H.out.symm (by repeat (first | with_reducible exact Below.refl _ _ | with_reducible assumption | with_reducible refine Below.drew ?_ | with_reducible refine below_drewN ?_ _ | (with_reducible refine Below.alloc ?_ ?_ _; rotate_left; (try simp) <;> omega) | (with_reducible refine Below.setCell ?_ ?_ _; rotate_left; (try simp) <;> omega)))
    · have hb0 : ((l.length : Int) == 0) = false := by rw [beq_eq_false_iff_ne]; omega
      have HO : Hid (∀ t : Tn, offTint t = (!nameB t.name || !shadeB t.a t.b t.c || !priceB t.price)) := fun _ => rfl
      have HP : Hid (∀ p, priceB p = (decide (0 ≤ p) && decide (p ≤ 10000))) := fun _ => rfl
      have HS := Lib.hid hs; clear hs
      go_enter Try.func31, Try.ntmps31
      go_wp2
      go_loopw [3] (fun y wr => ∃ k : Nat, k ≤ l.length ∧ y = .int .i64 k ∧ Hid (∀ j (hj : j < k) (h' : j < l.length), offTint l[j] = false) ∧ Below w.heap.size w wr) (fun y _ => l.length - (intOf y).toNat)
      case atStart => exact ⟨0, by omega, rfl, fun j hj => absurd hj (by omega), Below.refl _ _⟩
      case round =>
        obtain ⟨k, hk, rfl, hg, hbw⟩ := hrel
        have hbs := hbw.size
        by_cases hlt : k < l.length
        · obtain ⟨ad, rfl, hadb, c0, c1, c2, c3, c4⟩ := tint_at (hl.below hbw (Nat.le_refl _)) hlt
          have hsz := HS.out _ (List.getElem_mem hlt)
          have hadb' : ((ad.add (k * 5)).block) < w.heap.size := by rw [add_block]; exact hadb
          have hc4 : wr.cell? ⟨(ad.add (k * 5)).block, (ad.add (k * 5)).off + 4, none⟩ = some (.int .i64 l[k].price) := c4
          have HY : offTint l[k] = false → Hid (∀ j (hj : j < k + 1) (h' : j < l.length), offTint l[j] = false) := fun ho j hj h' => by
            by_cases e : j = k
            · subst e; exact ho
            · exact hg.out j (by omega) h'
          have HY' := Lib.hid HY; clear HY
          have HX : offTint l[k] = true → chkT l = 1 := fun ho => by rw [HC.out, if_neg h12, if_pos (.inr (any_off_yes hlt ho))]
          have HX' := Lib.hid HX; clear HX hl hg
          have HOk := Lib.hid (HO.out l[k])
          have HPk := Lib.hid (HP.out l[k].price)
          have hadb2 : (ad.add (k * 5)).block < wr.heap.size := by omega
          by_cases h1 : nameB l[k].name = true
          · have H1 := Lib.hid h1; clear h1
            by_cases h2 : shadeB l[k].a l[k].b l[k].c = true
            · have H2 := Lib.hid h2; clear h2
              by_cases h3 : 0 ≤ l[k].price
              · by_cases h4 : l[k].price ≤ 10000
                · have H := HY'.out (by rw [HOk.out, H1.out, H2.out, HPk.out]; simp [h3, h4])
                  clear HX' HY' HOk HPk
                  go_wp2_with (first | (go_at_call 64; refine (rName_any _ _ hsz).mono ?_; rintro e w' ⟨rfl, rfl⟩; rw [H1.out]) | (go_at_call 65; refine (rshade_any _ _ _ _).mono ?_; rintro e w1 ⟨rfl, hb⟩; rw [H2.out]; obtain ⟨hc, hf⟩ := bcell hb; have hz := hb.size; try simp at hz))
                  go_roundw
                  case rel => exact ⟨k + 1, by omega, by go_num, H, hbw.trans (hb.mono (by omega))⟩
                  case measure => simp [intOf]; omega
                · have H := Lib.hid (HX'.out (by rw [HOk.out, HPk.out]; simp [h4]))
                  clear HX' HY' HOk HPk
                  go_wp2_with (first | (go_at_call 64; refine (rName_any _ _ hsz).mono ?_; rintro e w' ⟨rfl, rfl⟩; rw [H1.out]) | (go_at_call 65; refine (rshade_any _ _ _ _).mono ?_; rintro e w1 ⟨rfl, hb⟩; rw [H2.out]; obtain ⟨hc, hf⟩ := bcell hb; have hz := hb.size; try simp at hz))
                  go_ret
                  exact int_end H.out.symm (hbw.trans (hb.mono (by omega)))
              · have H := Lib.hid (HX'.out (by rw [HOk.out, HPk.out]; simp [h3]))
                clear HX' HY' HOk HPk
                go_wp2_with (first | (go_at_call 64; refine (rName_any _ _ hsz).mono ?_; rintro e w' ⟨rfl, rfl⟩; rw [H1.out]) | (go_at_call 65; refine (rshade_any _ _ _ _).mono ?_; rintro e w1 ⟨rfl, hb⟩; rw [H2.out]; obtain ⟨hc, hf⟩ := bcell hb; have hz := hb.size; try simp at hz))
                go_ret
                exact int_end H.out.symm (hbw.trans (hb.mono (by omega)))
            · have h2' : shadeB l[k].a l[k].b l[k].c = false := by simpa using h2
              have H2 := Lib.hid h2'; clear h2 h2'
              have H := Lib.hid (HX'.out (by rw [HOk.out, H2.out]; simp))
              clear HX' HY' HOk HPk
              go_wp2_with (first | (go_at_call 64; refine (rName_any _ _ hsz).mono ?_; rintro e w' ⟨rfl, rfl⟩; rw [H1.out]) | (go_at_call 65; refine (rshade_any _ _ _ _).mono ?_; rintro e w1 ⟨rfl, hb⟩; rw [H2.out]; obtain ⟨hc, hf⟩ := bcell hb; have hz := hb.size; try simp at hz))
              go_ret
              exact int_end H.out.symm (hbw.trans (hb.mono (by omega)))
          · have h1' : nameB l[k].name = false := by simpa using h1
            have H1 := Lib.hid h1'; clear h1 h1'
            by_cases h2 : shadeB l[k].a l[k].b l[k].c = true
            · have H2 := Lib.hid h2; clear h2
              have H := Lib.hid (HX'.out (by rw [HOk.out, H1.out]; simp))
              clear HX' HY' HOk HPk
              go_wp2_with (first | (go_at_call 64; refine (rName_any _ _ hsz).mono ?_; rintro e w' ⟨rfl, rfl⟩; rw [H1.out]) | (go_at_call 65; refine (rshade_any _ _ _ _).mono ?_; rintro e w1 ⟨rfl, hb⟩; rw [H2.out]; obtain ⟨hc, hf⟩ := bcell hb; have hz := hb.size; try simp at hz))
              go_ret
              exact int_end H.out.symm (hbw.trans (hb.mono (by omega)))
            · have h2' : shadeB l[k].a l[k].b l[k].c = false := by simpa using h2
              have H2 := Lib.hid h2'; clear h2 h2'
              have H := Lib.hid (HX'.out (by rw [HOk.out, H1.out]; simp))
              clear HX' HY' HOk HPk
              go_wp2_with (first | (go_at_call 64; refine (rName_any _ _ hsz).mono ?_; rintro e w' ⟨rfl, rfl⟩; rw [H1.out]) | (go_at_call 65; refine (rshade_any _ _ _ _).mono ?_; rintro e w1 ⟨rfl, hb⟩; rw [H2.out]; obtain ⟨hc, hf⟩ := bcell hb; have hz := hb.size; try simp at hz))
              go_ret
              exact int_end H.out.symm (hbw.trans (hb.mono (by omega)))
        · obtain rfl : k = l.length := by omega
          have HC' : Hid (chkT l = if twiceB (names l) = true then 6 else 0) := by
            show _ = _
            rw [HC.out, if_neg h12, if_neg (fun h => h.elim h0 (fun h => by rw [any_off_no (fun j hj => hg.out j hj hj)] at h; cases h))]
          have HL := Lib.hid (hl.below hbw (Nat.le_refl _))
          clear HC hg HS HO HP hl
          go_wp2
          go_loopw [6, 7] (fun y z w2 => ∃ k : Nat, k ≤ l.length ∧ y = .int .i64 k ∧ Hid (∀ i (hi : i < k) (h' : i < l.length) m (hm : m < i), l[i].name ≠ (l[m]'(by omega)).name) ∧ ∃ n, w2 = wr.drewN n) (fun y _ _ => l.length - (intOf y).toNat)
          case atStart => exact ⟨0, by omega, rfl, fun j hj => absurd hj (by omega), 0, rfl⟩
          case round =>
            obtain ⟨i, hi, rfl, hq, n1, rfl⟩ := hrel
            by_cases hlt2 : i < l.length
            · go_wp2
              go_loopw [7] (fun y w2 => ∃ m : Nat, m ≤ i ∧ y = .int .i64 m ∧ Hid (∀ j (hj : j < m) (h' : j < l.length), l[i].name ≠ l[j].name) ∧ ∃ n, w2 = wr.drewN n) (fun y _ => i - (intOf y).toNat)
              case atStart => exact ⟨0, by omega, rfl, fun j hj => absurd hj (by omega), n1, rfl⟩
              case round =>
                obtain ⟨m, hmi, rfl, hqq, n2, rfl⟩ := hrel
                by_cases hlt3 : m < i
                · obtain ⟨ad, rfl, _, c0, _, _, _, _⟩ := tint_at HL.out hlt2
                  obtain ⟨ad', e', _, c0', _, _, _, _⟩ := tint_at HL.out (k := m) (by omega)
                  cases e'
                  have c0m : wr.cell? (ad.add (m * 5)) = some (.string (l[m]'(by omega)).name) := c0'
                  clear c0'
                  by_cases he : l[i].name = (l[m]'(by omega)).name
                  · have H := Lib.hid (HC'.out.trans (if_pos (twice_names_yes hlt2 hlt3 he)))
                    have he' : (l[i].name.toList == (l[m]'(by omega)).name.toList) = true := by rw [str_eq]; simpa using he
                    have HE := Lib.hid he; clear he
                    go_wp2
                    go_quiet (fail)
                    go_wp2
                    go_ret
                    exact int_end H.out.symm (by repeat (first | with_reducible exact Below.refl _ _ | with_reducible assumption | with_reducible refine Below.drew ?_ | with_reducible refine below_drewN ?_ _ | (with_reducible refine Below.alloc ?_ ?_ _; rotate_left; (try simp) <;> omega) | (with_reducible refine Below.setCell ?_ ?_ _; rotate_left; (try simp) <;> omega)))
                  · have he' : (l[i].name.toList == (l[m]'(by omega)).name.toList) = false := by rw [str_eq]; simpa using he
                    have H : Hid (∀ j (hj : j < m + 1) (h' : j < l.length), l[i].name ≠ l[j].name) := fun j hj h' => by
                      by_cases e : j = m
                      · subst e; exact he
                      · exact hqq.out j (by omega) h'
                    have HE := Lib.hid he; clear he
                    go_wp2
                    go_quiet (fail)
                    go_wp2
                    go_roundw
                    case rel => exact ⟨m + 1, by omega, by go_num, H, _, rfl⟩
                    case measure => simp [intOf]; omega
                · obtain rfl : m = i := by omega
                  have H : Hid (∀ i (hi : i < m + 1) (h' : i < l.length) k (hk : k < i), l[i].name ≠ (l[k]'(by omega)).name) := fun i hi h' k hk => by
                    by_cases e : i = m
                    · subst e; exact hqq.out k hk (by omega)
                    · exact hq.out i (by omega) h' k hk
                  go_wp2
                  go_roundw
                  case rel => exact ⟨m + 1, by omega, by go_num, H, _, rfl⟩
                  case measure => simp [intOf]; omega
            · obtain rfl : i = l.length := by omega
              have H := Lib.hid (HC'.out.trans (if_neg (by rw [twice_names_no (fun i hi k hk => hq.out i hi hi k hk)]; exact Bool.false_ne_true)))
              go_wp2
              go_ret
              exact int_end H.out.symm (by repeat (first | with_reducible exact Below.refl _ _ | with_reducible assumption | with_reducible refine Below.drew ?_ | with_reducible refine below_drewN ?_ _ | (with_reducible refine Below.alloc ?_ ?_ _; rotate_left; (try simp) <;> omega) | (with_reducible refine Below.setCell ?_ ?_ _; rotate_left; (try simp) <;> omega)))
set_option maxHeartbeats 1000000 in
theorem rwanted_any (l : List Tn) (A : Option Addr) (c : Nat) (x y z : Int) (w : World) (hl : Lies w w.heap.size A (tintsC l)) (hm : l.length ≤ 1000) (hs : ∀ t ∈ l, t.name.size ≤ 100) :
    Calls Try.prog 49 #[.slice A l.length c, .agg #[.int .i64 x, .int .i64 y, .int .i64 z]] w (IntEnd (chkW l x y z) w) := by
  have HT := Lib.hid (fun W (hb : Below w.heap.size w W) => rtints_any l A c W ((hl.below hb (Nat.le_refl _)).more hb.size) hm hs)
  have HC : Hid (chkW l x y z = if chkT l = 0 then (if shadeB x y z = true then 0 else 1) else chkT l) := rfl
  generalize hq : chkT l = q at *
  by_cases h0 : q = 0
  · subst h0
    by_cases h1 : shadeB x y z = true
    · have H : Hid (chkW l x y z = 0) := by show _ = _; rw [HC.out, if_pos rfl, if_pos h1]
      have H1 := Lib.hid h1; clear h1 hq hs hl
      go_enter Try.func49, Try.ntmps49
      go_wp2_with (first | (go_at_call 31; refine (HT.out _ (by repeat (first | with_reducible exact Below.refl _ _ | with_reducible assumption | with_reducible refine Below.drew ?_ | with_reducible refine below_drewN ?_ _ | (with_reducible refine Below.alloc ?_ ?_ _; rotate_left; (try simp) <;> omega) | (with_reducible refine Below.setCell ?_ ?_ _; rotate_left; (try simp) <;> omega)))).mono ?_; rintro e w1 ⟨rfl, hb⟩; obtain ⟨hc, hf⟩ := bcell hb; have hz := hb.size; simp at hz) | (go_at_call 65; refine (rshade_any _ _ _ _).mono ?_; rintro e w2 ⟨rfl, hb2⟩; rw [H1.out]))
      go_ret
      exact int_end H.out.symm ((((Below.refl _ _).alloc (Nat.le_refl _) _).trans (hb.mono (by simp))).trans (hb2.mono (by omega)))
    · have h1' : shadeB x y z = false := by simpa using h1
      have H : Hid (chkW l x y z = 1) := by show _ = _; rw [HC.out, if_pos rfl, if_neg h1]
      have H1 := Lib.hid h1'; clear h1 h1' hq hs hl
      go_enter Try.func49, Try.ntmps49
      go_wp2_with (first | (go_at_call 31; refine (HT.out _ (by repeat (first | with_reducible exact Below.refl _ _ | with_reducible assumption | with_reducible refine Below.drew ?_ | with_reducible refine below_drewN ?_ _ | (with_reducible refine Below.alloc ?_ ?_ _; rotate_left; (try simp) <;> omega) | (with_reducible refine Below.setCell ?_ ?_ _; rotate_left; (try simp) <;> omega)))).mono ?_; rintro e w1 ⟨rfl, hb⟩; obtain ⟨hc, hf⟩ := bcell hb; have hz := hb.size; simp at hz) | (go_at_call 65; refine (rshade_any _ _ _ _).mono ?_; rintro e w2 ⟨rfl, hb2⟩; rw [H1.out]))
      go_ret
      exact int_end H.out.symm ((((Below.refl _ _).alloc (Nat.le_refl _) _).trans (hb.mono (by simp))).trans (hb2.mono (by omega)))
  · have H : Hid (chkW l x y z = q) := by show _ = _; rw [HC.out, if_neg h0]
    have hb1 : (q != 0) = true := by rw [bne_iff_ne]; exact h0
    have hb2 : (q == 0) = false := by rw [beq_eq_false_iff_ne]; exact h0
    have H0 := Lib.hid h0; clear h0 hq hs hl
    go_enter Try.func49, Try.ntmps49
    go_wp2_with (first | (go_at_call 31; refine (HT.out _ (by repeat (first | with_reducible exact Below.refl _ _ | with_reducible assumption | with_reducible refine Below.drew ?_ | with_reducible refine below_drewN ?_ _ | (with_reducible refine Below.alloc ?_ ?_ _; rotate_left; (try simp) <;> omega) | (with_reducible refine Below.setCell ?_ ?_ _; rotate_left; (try simp) <;> omega)))).mono ?_; rintro e w1 ⟨rfl, hb⟩; obtain ⟨hc, hf⟩ := bcell hb; have hz := hb.size; simp at hz))
    go_ret
    exact int_end H.out.symm (((Below.refl _ _).alloc (Nat.le_refl _) _).trans (hb.mono (by simp)))
end Go.Proofs.Ytkjceegmmhnajaa

namespace Go.Proofs.Ytkjceegmmhnajaa
open Go.RowKit

structure Pt where
  t : Int
  w : Int
def Pt.cells (p : Pt) : List Value := [.int .i64 p.t, .int .i64 p.w]
def partsC (l : List Pt) : List Value := l.flatMap Pt.cells
theorem partsC_length (l : List Pt) : (partsC l).length = l.length * 2 := by
  induction l with
  | nil => rfl
  | cons t r ih => simp only [partsC, List.flatMap_cons, List.length_append] at *; rw [ih]; simp [Pt.cells]; omega
theorem partsC_at (l : List Pt) (k : Nat) (hk : k < l.length) (j : Nat) (hj : j < 2) : (partsC l)[k * 2 + j]? = (l[k]).cells[j]? := by
  induction l generalizing k with
  | nil => simp at hk
  | cons t r ih =>
    simp only [partsC, List.flatMap_cons] at *
    cases k with
    | zero => rw [List.getElem?_append_left (by simp [Pt.cells]; omega)]; simp
    | succ k =>
      rw [List.getElem?_append_right (by simp [Pt.cells]; omega)]
      have : (k + 1) * 2 + j - t.cells.length = k * 2 + j := by simp [Pt.cells]; omega
      rw [this, ih k (by simpa using hk)]; simp
theorem part_at {w : World} {B : Nat} {A : Option Addr} {l : List Pt} (h : Lies w B A (partsC l)) {k : Nat} (hk : k < l.length) :
    ∃ ad, A = some ad ∧ ad.block < B ∧ w.cell? (ad.add (k * 2)) = some (.int .i64 l[k].t) ∧ w.cell? ⟨(ad.add (k * 2)).block, (ad.add (k * 2)).off + 1, none⟩ = some (.int .i64 l[k].w) := by
  obtain ⟨ad, e, hb, hc⟩ := h (by intro e; have := partsC_length l; rw [e] at this; simp at this; omega)
  refine ⟨ad, e, hb, hc _ _ (partsC_at l k hk 0 (by omega)), ?_⟩
  rw [← add_rec _ _ _ (by omega)]; exact hc _ _ (partsC_at l k hk 1 (by omega))

/-- part i of a recipe over nt tints -/
def okPt (nt : Nat) (l : List Pt) (i : Nat) (h : i < l.length) : Prop := (0 ≤ l[i].t ∧ l[i].t ≤ (nt : Int) - 1) ∧ (∀ h' : 0 < i, (l[i - 1]'(by omega)).t < l[i].t) ∧ (1 ≤ l[i].w ∧ l[i].w ≤ 1000000000000)
instance (nt : Nat) (l : List Pt) (i : Nat) (h : i < l.length) : Decidable (okPt nt l i h) := by unfold okPt; exact inferInstance
def weightsOf (l : List Pt) : List Int := l.map Pt.w
def recP (nt : Nat) (l : List Pt) : Prop := (1 ≤ l.length ∧ l.length ≤ 4) ∧ (∀ i (h : i < l.length), okPt nt l i h) ∧ gcdL (weightsOf l) = 1
instance (nt : Nat) (l : List Pt) : Decidable (recP nt l) := by unfold recP; exact inferInstance
theorem among_same (n a b : Int) (w : World) :
    Calls Try.prog 45 #[.int .i64 n, .int .i64 a, .int .i64 b] w fun e w' => e = .returned (.bool (decide (a ≤ n) && decide (n ≤ b))) ∧ w' = w :=
  (among_any n a b w).mono fun _ _ h => ⟨h.1, h.2.symm⟩
theorem among_is (n a b : Int) (r : Bool) (w : World) (h : (decide (a ≤ n) && decide (n ≤ b)) = r) :
    Calls Try.prog 45 #[.int .i64 n, .int .i64 a, .int .i64 b] w fun e w' => e = .returned (.bool r) ∧ w' = w :=
  (among_same n a b w).mono fun _ _ hh => ⟨by rw [hh.1, h], hh.2⟩
end Go.Proofs.Ytkjceegmmhnajaa

namespace Go.Proofs.Ytkjceegmmhnajaa
open Go.RowKit
end Go.Proofs.Ytkjceegmmhnajaa

namespace Go.Proofs.Ytkjceegmmhnajaa
open Go.RowKit

def tv (f : Tn → Int) (l : List Tn) (i : Int) : Int := match l[i.toNat]? with | some t => f t | none => 0
end Go.Proofs.Ytkjceegmmhnajaa

namespace Go.Proofs.Ytkjceegmmhnajaa
open Go.RowKit

def sel (j : Nat) (t : Tn) : Int := if j = 0 then t.a else if j = 1 then t.b else t.c
/-! shade: the three fractions of a recipe -/
end Go.Proofs.Ytkjceegmmhnajaa

namespace Go.Proofs.Ytkjceegmmhnajaa
open Go.RowKit

end Go.Proofs.Ytkjceegmmhnajaa

namespace Go.Proofs.Ytkjceegmmhnajaa
open Go.RowKit

theorem chkT_ok {l : List Tn} (h : chkT l = 0) : l.length ≤ 12 ∧ 1 ≤ l.length ∧ (∀ t ∈ l, offTint t = false) ∧ twiceB (names l) = false := by
  unfold chkT at h
  by_cases h1 : 12 < l.length
  · rw [if_pos h1] at h; omega
  rw [if_neg h1] at h
  by_cases h2 : l.length = 0 ∨ l.any offTint = true
  · rw [if_pos h2] at h; omega
  rw [if_neg h2] at h
  by_cases h3 : twiceB (names l) = true
  · rw [if_pos h3] at h; omega
  refine ⟨by omega, by omega, fun t ht => ?_, by simpa using h3⟩
  have h4 : ¬ l.any offTint = true := fun h => h2 (.inr h)
  rw [List.any_eq_true] at h4
  by_cases h5 : offTint t = true
  · exact absurd ⟨t, ht, h5⟩ h4
  · simpa using h5
theorem offTint_no {t : Tn} (h : offTint t = false) : nameB t.name = true ∧ (0 ≤ t.a ∧ t.a ≤ 1000) ∧ (0 ≤ t.b ∧ t.b ≤ 1000) ∧ (0 ≤ t.c ∧ t.c ≤ 1000) ∧ 0 ≤ t.price ∧ t.price ≤ 10000 := by
  unfold offTint at h
  simp only [Bool.or_eq_false_iff, Bool.not_eq_false', shadeB, inShade, priceB, Bool.and_eq_true, decide_eq_true_eq] at h
  obtain ⟨⟨h1, ⟨h2, h3⟩, h4⟩, h5⟩ := h
  exact ⟨h1, h2, h3, h4, h5⟩
theorem sel_in {t : Tn} (h : offTint t = false) (j : Nat) : 0 ≤ sel j t ∧ sel j t ≤ 1000 := by
  obtain ⟨_, h1, h2, h3, _⟩ := offTint_no h
  unfold sel
  split
  · exact h1
  · split
    · exact h2
    · exact h3
end Go.Proofs.Ytkjceegmmhnajaa

namespace Go.Proofs.Ytkjceegmmhnajaa
open Go.RowKit

end Go.Proofs.Ytkjceegmmhnajaa

namespace Go.Proofs.Ytkjceegmmhnajaa
open Go.RowKit

end Go.Proofs.Ytkjceegmmhnajaa

namespace Go.Proofs.Ytkjceegmmhnajaa
open Go.RowKit

/-- numbers within n; vectors within n -/
def ab (n : Nat) (a : Int) : Prop := -(n : Int) ≤ a ∧ a ≤ n
def vb (n : Nat) (a b c : Int) : Prop := ab n a ∧ ab n b ∧ ab n c
theorem ab_mul {A B : Nat} {a x : Int} (h : ab A a) (k : ab B x) : ab (A * B) (a * x) := by
  unfold ab at *
  have h1 : a.natAbs ≤ A := by omega
  have h2 : x.natAbs ≤ B := by omega
  have h3 : (a * x).natAbs ≤ A * B := by rw [Int.natAbs_mul]; exact Nat.mul_le_mul h1 h2
  have : ((A * B : Nat) : Int) = A * B := by simp
  omega
theorem ab_sub {A B : Nat} {a x : Int} (h : ab A a) (k : ab B x) : ab (A + B) (a - x) := by unfold ab at *; omega
theorem ab_add {A B : Nat} {a x : Int} (h : ab A a) (k : ab B x) : ab (A + B) (a + x) := by unfold ab at *; omega
theorem ab_big {A : Nat} {a : Int} (h : ab A a) (hA : A ≤ 3050000000000000000) : bigP a := by unfold ab at h; unfold bigP; omega
theorem ab_mono {A B : Nat} {a : Int} (h : ab A a) (hA : A ≤ B) : ab B a := by unfold ab at *; omega

def Minus (a b c x y z : Int) (N : Nat) (w : World) (e : Ending) (w' : World) : Prop := ∃ r s t : Int, e = .returned (.agg #[.int .i64 r, .int .i64 s, .int .i64 t]) ∧ Hid (r = a - x ∧ s = b - y ∧ t = c - z) ∧ vb N r s t ∧ Below w.heap.size w w' ∧ w'.heap.size = w.heap.size + 1 + 1 + 1
def Cross (a b c x y z : Int) (N : Nat) (w : World) (e : Ending) (w' : World) : Prop := ∃ r s t : Int, e = .returned (.agg #[.int .i64 r, .int .i64 s, .int .i64 t]) ∧ Hid (r = b * z - c * y ∧ s = c * x - a * z ∧ t = a * y - b * x) ∧ vb N r s t ∧ Below w.heap.size w w' ∧ w'.heap.size = w.heap.size + 1 + 1 + 1
def Scaled (a b c n : Int) (N : Nat) (w : World) (e : Ending) (w' : World) : Prop := ∃ r s t : Int, e = .returned (.agg #[.int .i64 r, .int .i64 s, .int .i64 t]) ∧ Hid (r = a * n ∧ s = b * n ∧ t = c * n) ∧ vb N r s t ∧ Below w.heap.size w w' ∧ w'.heap.size = w.heap.size + 1 + 1
def Times (a b c x y z : Int) (N : Nat) (w : World) (e : Ending) (w' : World) : Prop := ∃ r : Int, e = .returned (.int .i64 r) ∧ Hid (r = a * x + b * y + c * z) ∧ ab N r ∧ Below w.heap.size w w' ∧ w'.heap.size = w.heap.size + 1 + 1
set_option maxHeartbeats 400000 in
theorem minus_b {A B : Nat} {a b c x y z : Int} (w : World) (h : vb A a b c) (k : vb B x y z) (hAB : A + B ≤ 3050000000000000000) :
    Calls Try.prog 75 #[.agg #[.int .i64 a, .int .i64 b, .int .i64 c], .agg #[.int .i64 x, .int .i64 y, .int .i64 z]] w (Minus a b c x y z (A + B) w) := by
  have h1 := ab_sub h.1 k.1
  have h2 := ab_sub h.2.1 k.2.1
  have h3 := ab_sub h.2.2 k.2.2
  have HV : Hid (vb (A + B) (a - x) (b - y) (c - z)) := ⟨h1, h2, h3⟩
  replace h1 := ab_big h1 hAB
  replace h2 := ab_big h2 hAB
  replace h3 := ab_big h3 hAB
  unfold bigP at h1 h2 h3
  clear h k hAB
  go_enter Try.func75, Try.ntmps75
  go_wp2
  refine bodyPost_ret (v := .agg #[.int .i64 (a - x), .int .i64 (b - y), .int .i64 (c - z)]) (by simp [results, Try.results75, go_sem]) rfl ⟨_, _, _, rfl, ⟨rfl, rfl, rfl⟩, HV.out, (by repeat (first | with_reducible exact Below.refl _ _ | with_reducible assumption | with_reducible refine Below.drew ?_ | with_reducible refine below_drewN ?_ _ | (with_reducible refine Below.alloc ?_ ?_ _; rotate_left; (try simp) <;> omega) | (with_reducible refine Below.setCell ?_ ?_ _; rotate_left; (try simp) <;> omega))), by simp⟩
set_option maxHeartbeats 400000 in
theorem cross_b {A B : Nat} {a b c x y z : Int} (w : World) (h : vb A a b c) (k : vb B x y z) (hAB : A * B + A * B ≤ 3050000000000000000) :
    Calls Try.prog 82 #[.agg #[.int .i64 a, .int .i64 b, .int .i64 c], .agg #[.int .i64 x, .int .i64 y, .int .i64 z]] w (Cross a b c x y z (A * B + A * B) w) := by
  have hle : A * B ≤ 3050000000000000000 := by omega
  have HV : Hid (vb (A * B + A * B) (b * z - c * y) (c * x - a * z) (a * y - b * x)) := ⟨ab_sub (ab_mul h.2.1 k.2.2) (ab_mul h.2.2 k.2.1), ab_sub (ab_mul h.2.2 k.1) (ab_mul h.1 k.2.2), ab_sub (ab_mul h.1 k.2.1) (ab_mul h.2.1 k.1)⟩
  have h1 := ab_big (ab_mul h.2.1 k.2.2) hle
  have h2 := ab_big (ab_mul h.2.2 k.2.1) hle
  have h3 := ab_big (ab_mul h.2.2 k.1) hle
  have h4 := ab_big (ab_mul h.1 k.2.2) hle
  have h5 := ab_big (ab_mul h.1 k.2.1) hle
  have h6 := ab_big (ab_mul h.2.1 k.1) hle
  unfold bigP at h1 h2 h3 h4 h5 h6
  clear h k hAB hle
  go_enter Try.func82, Try.ntmps82
  go_wp2
  refine bodyPost_ret (v := .agg #[.int .i64 (b * z - c * y), .int .i64 (c * x - a * z), .int .i64 (a * y - b * x)]) (by simp [results, Try.results82, go_sem]) rfl ⟨_, _, _, rfl, ⟨rfl, rfl, rfl⟩, HV.out, (by repeat (first | with_reducible exact Below.refl _ _ | with_reducible assumption | with_reducible refine Below.drew ?_ | with_reducible refine below_drewN ?_ _ | (with_reducible refine Below.alloc ?_ ?_ _; rotate_left; (try simp) <;> omega) | (with_reducible refine Below.setCell ?_ ?_ _; rotate_left; (try simp) <;> omega))), by simp⟩
set_option maxHeartbeats 400000 in
theorem rcross_b {A B : Nat} {a b c x y z : Int} (w : World) (h : vb A a b c) (k : vb B x y z) (hAB : A * B + A * B ≤ 3050000000000000000) :
    Calls Try.prog 92 #[.agg #[.int .i64 a, .int .i64 b, .int .i64 c], .agg #[.int .i64 x, .int .i64 y, .int .i64 z]] w (Cross a b c x y z (A * B + A * B) w) := by
  have hle : A * B ≤ 3050000000000000000 := by omega
  have HV : Hid (vb (A * B + A * B) (b * z - c * y) (c * x - a * z) (a * y - b * x)) := ⟨ab_sub (ab_mul h.2.1 k.2.2) (ab_mul h.2.2 k.2.1), ab_sub (ab_mul h.2.2 k.1) (ab_mul h.1 k.2.2), ab_sub (ab_mul h.1 k.2.1) (ab_mul h.2.1 k.1)⟩
  have h1 := ab_big (ab_mul h.2.1 k.2.2) hle
  have h2 := ab_big (ab_mul h.2.2 k.2.1) hle
  have h3 := ab_big (ab_mul h.2.2 k.1) hle
  have h4 := ab_big (ab_mul h.1 k.2.2) hle
  have h5 := ab_big (ab_mul h.1 k.2.1) hle
  have h6 := ab_big (ab_mul h.2.1 k.1) hle
  unfold bigP at h1 h2 h3 h4 h5 h6
  clear h k hAB hle
  go_enter Try.func92, Try.ntmps92
  go_wp2
  refine bodyPost_ret (v := .agg #[.int .i64 (b * z - c * y), .int .i64 (c * x - a * z), .int .i64 (a * y - b * x)]) (by simp [results, Try.results92, go_sem]) rfl ⟨_, _, _, rfl, ⟨rfl, rfl, rfl⟩, HV.out, (by repeat (first | with_reducible exact Below.refl _ _ | with_reducible assumption | with_reducible refine Below.drew ?_ | with_reducible refine below_drewN ?_ _ | (with_reducible refine Below.alloc ?_ ?_ _; rotate_left; (try simp) <;> omega) | (with_reducible refine Below.setCell ?_ ?_ _; rotate_left; (try simp) <;> omega))), by simp⟩
set_option maxHeartbeats 400000 in
theorem scaled_b {A B : Nat} {a b c n : Int} (w : World) (h : vb A a b c) (k : ab B n) (hAB : A * B ≤ 3050000000000000000) :
    Calls Try.prog 77 #[.agg #[.int .i64 a, .int .i64 b, .int .i64 c], .int .i64 n] w (Scaled a b c n (A * B) w) := by
  have HV : Hid (vb (A * B) (a * n) (b * n) (c * n)) := ⟨ab_mul h.1 k, ab_mul h.2.1 k, ab_mul h.2.2 k⟩
  have h1 := ab_big (ab_mul h.1 k) hAB
  have h2 := ab_big (ab_mul h.2.1 k) hAB
  have h3 := ab_big (ab_mul h.2.2 k) hAB
  unfold bigP at h1 h2 h3
  clear h k hAB
  go_enter Try.func77, Try.ntmps77
  go_wp2
  refine bodyPost_ret (v := .agg #[.int .i64 (a * n), .int .i64 (b * n), .int .i64 (c * n)]) (by simp [results, Try.results77, go_sem]) rfl ⟨_, _, _, rfl, ⟨rfl, rfl, rfl⟩, HV.out, (by repeat (first | with_reducible exact Below.refl _ _ | with_reducible assumption | with_reducible refine Below.drew ?_ | with_reducible refine below_drewN ?_ _ | (with_reducible refine Below.alloc ?_ ?_ _; rotate_left; (try simp) <;> omega) | (with_reducible refine Below.setCell ?_ ?_ _; rotate_left; (try simp) <;> omega))), by simp⟩
set_option maxHeartbeats 400000 in
theorem times_b {A B : Nat} {a b c x y z : Int} (w : World) (h : vb A a b c) (k : vb B x y z) (hAB : A * B + A * B + A * B ≤ 3050000000000000000) :
    Calls Try.prog 46 #[.agg #[.int .i64 a, .int .i64 b, .int .i64 c], .agg #[.int .i64 x, .int .i64 y, .int .i64 z]] w (Times a b c x y z (A * B + A * B + A * B) w) := by
  have hle : A * B ≤ 3050000000000000000 := by omega
  have HV : Hid (ab (A * B + A * B + A * B) (a * x + b * y + c * z)) := ab_add (ab_add (ab_mul h.1 k.1) (ab_mul h.2.1 k.2.1)) (ab_mul h.2.2 k.2.2)
  have h1 := ab_big (ab_mul h.1 k.1) hle
  have h2 := ab_big (ab_mul h.2.1 k.2.1) hle
  have h3 := ab_big (ab_mul h.2.2 k.2.2) hle
  unfold bigP at h1 h2 h3
  clear h k hAB hle
  go_enter Try.func46, Try.ntmps46
  go_wp2
  go_ret
  exact ⟨_, rfl, rfl, HV.out, (by repeat (first | with_reducible exact Below.refl _ _ | with_reducible assumption | with_reducible refine Below.drew ?_ | with_reducible refine below_drewN ?_ _ | (with_reducible refine Below.alloc ?_ ?_ _; rotate_left; (try simp) <;> omega) | (with_reducible refine Below.setCell ?_ ?_ _; rotate_left; (try simp) <;> omega))), by simp⟩
set_option maxHeartbeats 400000 in
theorem dot_b {A B : Nat} {a b c x y z : Int} (w : World) (h : vb A a b c) (k : vb B x y z) (hAB : A * B + A * B + A * B ≤ 3050000000000000000) :
    Calls Try.prog 50 #[.agg #[.int .i64 a, .int .i64 b, .int .i64 c], .agg #[.int .i64 x, .int .i64 y, .int .i64 z]] w (Times a b c x y z (A * B + A * B + A * B) w) := by
  have hle : A * B ≤ 3050000000000000000 := by omega
  have HV : Hid (ab (A * B + A * B + A * B) (a * x + b * y + c * z)) := ab_add (ab_add (ab_mul h.1 k.1) (ab_mul h.2.1 k.2.1)) (ab_mul h.2.2 k.2.2)
  have h1 := ab_big (ab_mul h.1 k.1) hle
  have h2 := ab_big (ab_mul h.2.1 k.2.1) hle
  have h3 := ab_big (ab_mul h.2.2 k.2.2) hle
  unfold bigP at h1 h2 h3
  clear h k hAB hle
  go_enter Try.func50, Try.ntmps50
  go_wp2
  go_ret
  exact ⟨_, rfl, rfl, HV.out, (by repeat (first | with_reducible exact Below.refl _ _ | with_reducible assumption | with_reducible refine Below.drew ?_ | with_reducible refine below_drewN ?_ _ | (with_reducible refine Below.alloc ?_ ?_ _; rotate_left; (try simp) <;> omega) | (with_reducible refine Below.setCell ?_ ?_ _; rotate_left; (try simp) <;> omega))), by simp⟩
end Go.Proofs.Ytkjceegmmhnajaa

namespace Go.Proofs.Ytkjceegmmhnajaa
open Go.RowKit

theorem info3 : (Try.prog.info? 3).map (fun i => (i.zero, i.size, i.bytes)) = some (some (.int .i64 0), 1, 8) := by kernel_rfl
theorem cells3 : Try.prog.cellsOf 3 = 1 := by kernel_rfl
set_option maxRecDepth 100000 in
theorem eq84 (a b c x y z : Int) (w : World) : (Op.equalIn 10000 84 (.agg #[.int .i64 a, .int .i64 b, .int .i64 c]) (.agg #[.int .i64 x, .int .i64 y, .int .i64 z])).run Try.prog w = .ok (a == x && (b == y && c == z)) w := by
  obtain ⟨i0, hi0, hz0, hz1, hz2⟩ := info_parts info3
  rw [run_equalIn_array w 9999 _ _ Try.underlying84 hi0, cells3]
  simp [Op.eqItems, part, List.range_succ, go_sem, Try.underlying3]
  by_cases h1 : a = x <;> by_cases h2 : b = y <;> by_cases h3 : c = z <;> simp [h1, h2, h3]

end Go.Proofs.Ytkjceegmmhnajaa

namespace Go.Proofs.Ytkjceegmmhnajaa
open Go.RowKit

theorem fine_facts {l : List Tn} {n : Int} (h : fineB l n = true) : (l.length : Int) ≤ n ∧ ∀ t ∈ l, t.name.size ≤ 60 := by
  unfold fineB at h
  rw [Bool.and_eq_true, List.all_eq_true] at h
  exact ⟨by simpa using h.1, fun t ht => by simpa using h.2 t ht⟩

end Go.Proofs.Ytkjceegmmhnajaa

namespace Go.Proofs.Ytkjceegmmhnajaa
open Go.ChangeShapes Go.WideShapes Go.ChangeAt Go.RowKit Go.Deep

theorem list_of {α : Type} {Q : Nat → α → Prop} : ∀ (n : Nat), (∀ i, i < n → ∃ x, Q i x) → ∃ l : List α, l.length = n ∧ ∀ i (hi : i < l.length), Q i l[i]
  | 0, _ => ⟨[], rfl, fun i hi => by simp at hi⟩
  | n + 1, h => by
    obtain ⟨l, h1, h2⟩ := list_of n (fun i hi => h i (by omega))
    obtain ⟨x, hx⟩ := h n (by omega)
    refine ⟨l ++ [x], by simp [h1], fun i hi => ?_⟩
    by_cases e : i < l.length
    · rw [List.getElem_append_left e]; exact h2 i e
    · have : i = l.length := by simp at hi; omega
      subst this
      rw [List.getElem_append_right (Nat.le_refl _)]
      simp only [Nat.sub_self, List.getElem_cons_zero]
      rw [h1]; exact hx

theorem lies_rows {α : Type} {w : World} {a : Addr} {f : α → List Value} {s : Nat} (hs : 0 < s) (hf : ∀ x, (f x).length = s) (l : List α) (h : ∀ i (hi : i < l.length) j, j < s → w.cell? (a.add (i * s + j)) = (f l[i])[j]?) : Lies w w.heap.size (some a) (l.flatMap f) := by
  have hlen : ∀ l : List α, (l.flatMap f).length = l.length * s := fun l => by
    induction l with
    | nil => simp
    | cons x l ih => simp only [List.flatMap_cons, List.length_append, ih, hf, List.length_cons]; rw [Nat.add_mul]; omega
  have hat : ∀ (l : List α) (k : Nat) (hk : k < l.length) (j : Nat), j < s → (l.flatMap f)[k * s + j]? = (f l[k])[j]? := fun l => by
    induction l with
    | nil => intro k hk; simp at hk
    | cons x l ih =>
      intro k hk j hj
      cases k with
      | zero => simp only [List.flatMap_cons, Nat.zero_mul, Nat.zero_add, List.getElem_cons_zero]; rw [List.getElem?_append_left (by rw [hf]; exact hj)]
      | succ k =>
        simp only [List.flatMap_cons, List.getElem_cons_succ]
        rw [List.getElem?_append_right (by rw [hf, Nat.add_mul]; omega), hf]
        rw [show (k + 1) * s + j - s = k * s + j from by rw [Nat.add_mul]; omega]
        exact ih k (by simpa using hk) j hj
  intro hne
  have cell : ∀ j u, (l.flatMap f)[j]? = some u → w.cell? (a.add j) = some u := fun j u hj => by
    have hjl : j < l.length * s := by rw [← hlen]; exact (List.getElem?_eq_some_iff.1 hj).1
    have hk : j / s < l.length := Nat.div_lt_of_lt_mul (by rw [Nat.mul_comm]; exact hjl)
    have hr : j % s < s := Nat.mod_lt _ hs
    have hd : j / s * s + j % s = j := by rw [Nat.mul_comm]; exact Nat.div_add_mod j s
    have h1 := h (j / s) hk (j % s) hr
    have h2 := hat l (j / s) hk (j % s) hr
    rw [hd] at h1 h2
    rw [h1, ← h2]; exact hj
  refine ⟨a, rfl, ?_, cell⟩
  obtain ⟨u, hu⟩ : ∃ u, (l.flatMap f)[0]? = some u := by
    cases hl : l.flatMap f with
    | nil => exact absurd hl hne
    | cons x r => exact ⟨x, rfl⟩
  have h0 := cell 0 u hu
  have : (a.add 0).block = a.block := add_block a 0
  rw [← this]
  unfold World.cell? at h0
  split at h0
  · rename_i c e fr hb
    exact (Array.getElem?_eq_some_iff.1 hb).1
  · cases h0

theorem cells39 : Try.prog.cellsOf 39 = 5 := by kernel_rfl
theorem cells37 : Try.prog.cellsOf 37 = 3 := by kernel_rfl
theorem cells9 : Try.prog.cellsOf 9 = 1 := by kernel_rfl
theorem cellsI3 : Try.prog.cellsOf 3 = 1 := by kernel_rfl

section
variable {H : Type} {enc : TypeId × Value → H} {W : World} {sp : Nat → Bool} {hd : Bool}

set_option maxRecDepth 100000 in
theorem tint_cells {n : Nat} {cs : List Value} {x : DataW H × List MemPlace} (h : DataW.trod enc Try.prog W 0 sp hd n 39 cs = some x) : ∃ t : Tn, cs = t.cells ∧ t.name.size ≤ maxLen := by
  obtain ⟨xs, n', _, _, hlen, hxl, hf⟩ := DataW.trod_struct Try.underlying39 h
  rw [cells39] at hlen
  match cs, hlen with
  | [c0, c1, c2, c3, c4], _ =>
    have hx : ∀ i, i < 3 → ∃ y, xs[i]? = some y := fun i hi => ⟨xs[i]'(by rw [hxl]; exact hi), List.getElem?_eq_getElem _⟩
    obtain ⟨y0, e0⟩ := hx 0 (by omega)
    obtain ⟨y1, e1⟩ := hx 1 (by omega)
    obtain ⟨y2, e2⟩ := hx 2 (by omega)
    have f0 := (hf 0 _ rfl).trans e0
    have f1 := (hf 1 _ rfl).trans e1
    have f2 := (hf 2 _ rfl).trans e2
    simp only [List.getElem_toArray, List.getElem_cons_zero, List.getElem_cons_succ] at f0 f1 f2
    rw [cells9] at f0
    rw [cells37] at f1
    rw [cellsI3] at f2
    dsimp only [List.drop, List.take] at f0 f1 f2
    obtain ⟨s, hs, _, hsz⟩ := DataW.trod_string Try.underlying9 f0
    obtain ⟨z0, z1, z2, m, _, g0, g1, g2⟩ := trod_array3 Try.underlying37 cellsI3 f1
    obtain ⟨a, ha, _⟩ := DataW.trod_int Try.underlying3 g0
    obtain ⟨b, hb, _⟩ := DataW.trod_int Try.underlying3 g1
    obtain ⟨c, hc, _⟩ := DataW.trod_int Try.underlying3 g2
    obtain ⟨p, hp, _⟩ := DataW.trod_int Try.underlying3 f2
    cases hs; cases ha; cases hb; cases hc; cases hp
    exact ⟨⟨s, a, b, c, p⟩, rfl, hsz⟩

set_option maxRecDepth 100000 in
theorem open_tints {n : Nat} {c : Value} {x : DataW H × List MemPlace} (h : DataW.trod enc Try.prog W 0 sp hd n 22 [c] = some x) :
    ∃ (l : List Tn) (A : Option Addr) (ct : Nat), c = .slice A l.length ct ∧ Lies W W.heap.size A (tintsC l) ∧ l.length ≤ maxLen ∧ ∀ t ∈ l, t.name.size ≤ maxLen := by
  rcases open_slice Try.underlying22 h with ⟨hc, _⟩ | ⟨a, len, cap, m, n', D, Pl, hc, hb, hl, hm, hmm, _, hi⟩
  · cases hc
    exact ⟨[], none, 0, rfl, fun h => absurd rfl h, Nat.zero_le _, fun t ht => by simp at ht⟩
  · cases hc
    have hlm : len ≤ m := by rw [hmm]; split <;> omega
    obtain ⟨l, h1, h2⟩ := list_of (Q := fun i (t : Tn) => W.cells? 0 (a.add (i * Try.prog.cellsOf 39)) (Try.prog.cellsOf 39) = some t.cells ∧ t.name.size ≤ maxLen) len (fun i hil => by
      obtain ⟨cs', g1, g2⟩ := hi i (by omega)
      obtain ⟨t, rfl, ht⟩ := tint_cells g2
      exact ⟨t, g1, ht⟩)
    subst h1
    refine ⟨l, some a, cap, rfl, ?_, by omega, fun t ht => ?_⟩
    · refine lies_rows (s := 5) (by omega) (fun x => rfl) l fun i hi j hj => ?_
      have := (World.cells?_some (h2 i hi).1).2.2
      rw [cells39] at this
      have h3 := this j hj
      rw [Go.Deep.add_add] at h3
      exact h3
    · obtain ⟨i, hi, rfl⟩ := List.mem_iff_getElem.1 ht
      exact (h2 i hi).2

set_option maxRecDepth 100000 in
theorem open_tintsV {v : Value} {r : Reach} {b0 : Nat} {d : DataW H} {p : List MemPlace} (hv : Value.okWide Try.prog W r b0 22 v) (h : DataW.Trod enc Try.prog W 0 sp hd 22 v d p) :
    ∃ (l : List Tn) (A : Option Addr) (ct : Nat), v = .slice A l.length ct ∧ Lies W W.heap.size A (tintsC l) ∧ l.length ≤ maxLen ∧ ∀ t ∈ l, t.name.size ≤ maxLen := by
  obtain ⟨a, len, cap, rfl⟩ := okWide_slice Try.underlying22 hv
  obtain ⟨fuel, hf⟩ := h
  exact open_tints hf
end
end Go.Proofs.Ytkjceegmmhnajaa
