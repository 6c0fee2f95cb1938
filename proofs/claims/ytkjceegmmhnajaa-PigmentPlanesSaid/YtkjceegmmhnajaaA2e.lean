import Derived.Test.YtkjceegmmhnajaaA2d
import Derived.Maps.AppendAt
import Derived.Deep.AppendLies
namespace Go.Proofs.Ytkjceegmmhnajaa
open Go.RowKit

theorem info9 : (Try.prog.info? 9).map (fun i => (i.zero, i.size, i.bytes)) = some (some (.string ByteArray.empty), 1, 16) := by kernel_rfl
def names (l : List Tn) : List ByteArray := l.map Tn.name
def chkT (l : List Tn) : Int := if 12 < l.length then 2 else if l.length = 0 ∨ l.any offTint = true then 1 else if twiceB (names l) = true then 6 else 0

def IntEnd (n : Int) (w : World) (e : Ending) (w' : World) : Prop := e = .returned (.int .i64 n) ∧ Below w.heap.size w w'
theorem int_end {m n : Int} {w w' : World} (h : m = n) (hb : Below w.heap.size w w') : IntEnd n w (.returned (.int .i64 m)) w' := ⟨by rw [h], hb⟩

open World in
theorem ownsRow_lies {w : World} {base : Nat} {e : TypeId} {A : Option Addr} {size n c : Nat} {xs : List Value} (h : w.ownsRow base e size (.slice A n c) n xs) : Lies w w.heap.size A xs := fun hn => by
  have hpos : 0 < n := by
    have := h.1
    rcases Nat.eq_zero_or_pos n with h0 | h0
    · subst h0; simp at this; exact absurd this hn
    · exact h0
  obtain ⟨g, cap, hv, _, hlt⟩ := h.form hpos
  have hA : A = some ⟨g, 0, none⟩ := by injection hv
  subst hA
  exact ⟨_, rfl, hlt, h.cells (g := g) rfl⟩

set_option maxHeartbeats 1000000 in
theorem checkTints_any (l : List Tn) (A : Option Addr) (c : Nat) (w : World) (hl : Lies w w.heap.size A (tintsC l)) (hm : l.length ≤ 1000) (hs : ∀ t ∈ l, t.name.size ≤ 100) :
    Calls Try.prog 28 #[.slice A l.length c] w (IntEnd (chkT l) w) := by
  obtain ⟨i0, hi0, hz0, hz1, hz2⟩ := info_parts info9
  have I9 := Lib.hid (And.intro hi0 (And.intro hz0 (And.intro hz1 hz2))); clear hi0 hz0 hz1 hz2
  have hAny := anyT57 offTint l A c w hl hm (show Hid _ from fun t ht W hb => checkTints1_any t W (hs t ht))
  have HA := Lib.hid hAny; clear hAny
  have HC : Hid (chkT l = if 12 < l.length then 2 else if l.length = 0 ∨ l.any offTint = true then 1 else if twiceB (names l) = true then 6 else 0) := rfl
  by_cases h12 : 12 < l.length
  · go_enter Try.func28, Try.ntmps28
    go_wp2
    go_ret
    exact int_end (by rw [HC.out, if_pos h12]) (by repeat (first | with_reducible exact Below.refl _ _ | with_reducible assumption | with_reducible refine Below.drew ?_ | with_reducible refine below_drewN ?_ _ | (with_reducible refine Below.alloc ?_ ?_ _; rotate_left; (try simp) <;> omega) | (with_reducible refine Below.setCell ?_ ?_ _; rotate_left; (try simp) <;> omega)))
  · by_cases h0 : l.length = 0
    · have hb0 : ((l.length : Int) == 0) = true := by rw [beq_iff_eq]; omega
      have H : Hid (chkT l = 1) := by rw [HC.out, if_neg h12, if_pos (.inl h0)]; rfl
      have H0 := Lib.hid h0; clear h0
      go_enter Try.func28, Try.ntmps28
      go_wp2
      go_ret
      exact int_end H.out.symm (by repeat (first | with_reducible exact Below.refl _ _ | with_reducible assumption | with_reducible refine Below.drew ?_ | with_reducible refine below_drewN ?_ _ | (with_reducible refine Below.alloc ?_ ?_ _; rotate_left; (try simp) <;> omega) | (with_reducible refine Below.setCell ?_ ?_ _; rotate_left; (try simp) <;> omega)))
    · have hb0 : ((l.length : Int) == 0) = false := by rw [beq_eq_false_iff_ne]; omega
      by_cases h1 : l.any offTint = true
      · have H : Hid (chkT l = 1) := by rw [HC.out, if_neg h12, if_pos (.inr h1)]; rfl
        have H1 := Lib.hid h1; clear h1
        go_enter Try.func28, Try.ntmps28
        go_wp2_with (go_at_call 47; refine HA.out.mono ?_; rintro e w1 ⟨rfl, hb⟩; rw [H1.out])
        go_ret
        exact int_end H.out.symm hb
      · have h1' : l.any offTint = false := by simpa using h1
        have HC' : Hid (chkT l = if twiceB (names l) = true then 6 else 0) := by
          show _ = _
          rw [HC.out, if_neg h12, if_neg (by intro h; rcases h with h | h <;> contradiction)]
        have H1 := Lib.hid h1'; clear h1 h1' HC
        go_enter Try.func28, Try.ntmps28
        go_wp2_with (go_at_call 47; refine HA.out.mono ?_; rintro e w1 ⟨rfl, hb⟩; rw [H1.out])
        have hbs := hb.size
        go_loopw [3, 18] (fun v y wr => ∃ k : Nat, k ≤ l.length ∧ y = .int .i64 k ∧ wr.ownsRow w.heap.size 9 1 v k (strsC (names (l.take k))) ∧ Below w.heap.size w wr) (fun _ y _ => l.length - (intOf y).toNat)
        case atStart => exact ⟨0, by omega, rfl, World.ownsRow_nil _ _ _ _, hb⟩
        case round =>
          clear hb hbs
          obtain ⟨k, hk, rfl, hown, hbw⟩ := hrel
          have hbs := hbw.size
          by_cases hlt : k < l.length
          · obtain ⟨ad, rfl, _, c0, c1, c2, c3, c4⟩ := tint_at (hl.below hbw (Nat.le_refl _)) hlt
            have HN : Hid (strsC (names (l.take k)) ++ [.string l[k].name] = strsC (names (l.take (k + 1)))) := by
              show _ = _
              rw [List.take_succ_eq_append_getElem hlt]; simp only [strsC, names, List.map_append, List.map_cons, List.map_nil]
            clear hl
            go_wp2_with (at_builtin; refine wpList_append_own _ rfl (.tmp 22) (.tmp 25) 99 rfl w.heap.size 9 i0 (.string ByteArray.empty) 1 16 Try.underlying99 I9.out.1 I9.out.2.1 I9.out.2.2.1 I9.out.2.2.2 rfl (by decide) _ k (strsC (names (l.take k))) rfl ((hown.alloc _).alloc _) ⟨wr.heap.size + 1, 0, none⟩ 1 1 [.string l[k].name] rfl rfl ?c1 ?c2 ?c3 ?c4 ?c5 ?_)
            case c1 => simpa using cell_one_new (wr.alloc (.cells #[.string l[k].name, .int .i64 l[k].a, .int .i64 l[k].b, .int .i64 l[k].c, .int .i64 l[k].price] 39)) (.string l[k].name) 9
            case c2 => intro u hu; simp at hu; subst hu; rfl
            case c3 => unfold maxLen; omega
            case c4 => omega
            case c5 => simp; omega
            intro v' w1 hown' hgrow _
            rw [HN.out] at hown'
            have hb1 : Below w.heap.size w w1 := Below.grown (w := (wr.alloc _).alloc _) (by repeat (first | with_reducible exact Below.refl _ _ | with_reducible assumption | with_reducible refine Below.drew ?_ | with_reducible refine below_drewN ?_ _ | (with_reducible refine Below.alloc ?_ ?_ _; rotate_left; (try simp) <;> omega) | (with_reducible refine Below.setCell ?_ ?_ _; rotate_left; (try simp) <;> omega))) hgrow (by simp; omega) (fun g hg => by
              rcases hown.2 with ⟨rfl, _⟩ | ⟨g', _, _, rfl, hge, _⟩
              · simp [Value.ownBlock] at hg
              · simp [Value.ownBlock] at hg; omega)
            clear hgrow hown
            go_wp2
            go_roundw
            case rel => exact ⟨k + 1, by omega, by go_num, hown', hb1⟩
            case measure => simp [intOf]; omega
          · obtain rfl : k = l.length := by omega
            have hlen : (names (l.take l.length)).length = l.length := by rw [List.take_length]; simp [names]
            have hform : ∃ A2 c2, u3 = .slice A2 l.length c2 ∧ l.length ≤ c2 ∧ c2 ≤ maxLen := by
              rcases hown.2 with h | ⟨g', c2, _, h, hge, _, h1, h2, _⟩
              · exact absurd h.2 h0
              · exact ⟨_, _, h, h1, h2⟩
            obtain ⟨A2, c2, rfl, hc1, hc2⟩ := hform
            have hL := ownsRow_lies hown
            rw [List.take_length] at hL
            have hn : (names l).length = l.length := by simp [names]
            have hT := twice_any (names l) A2 c2 wr hL (by omega) (by omega) hc2
            rw [hn] at hT
            have HT := Lib.hid hT
            clear hT hL hc1 hc2 hn hlen hown
            by_cases ht : twiceB (names l) = true
            · have H : Hid (chkT l = 6) := by show _ = _; rw [HC'.out, if_pos ht]
              have H2 := Lib.hid ht; clear ht
              go_wp2_with (go_at_call 60; refine HT.out.mono ?_; rintro e w1 ⟨rfl, rfl⟩; rw [H2.out])
              go_ret
              exact int_end H.out.symm hbw
            · have ht' : twiceB (names l) = false := by simpa using ht
              have H : Hid (chkT l = 0) := by show _ = _; rw [HC'.out, if_neg ht]
              have H2 := Lib.hid ht'; clear ht ht'
              go_wp2_with (go_at_call 60; refine HT.out.mono ?_; rintro e w1 ⟨rfl, rfl⟩; rw [H2.out])
              go_ret
              exact int_end H.out.symm hbw

/-! checkWant -/
def chkW (l : List Tn) (a b c : Int) : Int := if chkT l = 0 then (if shadeB a b c = true then 0 else 1) else chkT l
set_option maxHeartbeats 1000000 in
theorem checkWant_any (l : List Tn) (A : Option Addr) (c : Nat) (x y z : Int) (w : World) (hl : Lies w w.heap.size A (tintsC l)) (hm : l.length ≤ 1000) (hs : ∀ t ∈ l, t.name.size ≤ 100) :
    Calls Try.prog 36 #[.slice A l.length c, .agg #[.int .i64 x, .int .i64 y, .int .i64 z]] w (IntEnd (chkW l x y z) w) := by
  have HT := Lib.hid (fun W (hb : Below w.heap.size w W) => checkTints_any l A c W ((hl.below hb (Nat.le_refl _)).more hb.size) hm hs)
  have HC : Hid (chkW l x y z = if chkT l = 0 then (if shadeB x y z = true then 0 else 1) else chkT l) := rfl
  generalize hq : chkT l = q at *
  by_cases h0 : q = 0
  · subst h0
    by_cases h1 : shadeB x y z = true
    · have H : Hid (chkW l x y z = 0) := by show _ = _; rw [HC.out, if_pos rfl, if_pos h1]
      have H1 := Lib.hid h1; clear h1 hq hs hl
      go_enter Try.func36, Try.ntmps36
      go_wp2_with (first | (go_at_call 28; refine (HT.out _ (by repeat (first | with_reducible exact Below.refl _ _ | with_reducible assumption | with_reducible refine Below.drew ?_ | with_reducible refine below_drewN ?_ _ | (with_reducible refine Below.alloc ?_ ?_ _; rotate_left; (try simp) <;> omega) | (with_reducible refine Below.setCell ?_ ?_ _; rotate_left; (try simp) <;> omega)))).mono ?_; rintro e w1 ⟨rfl, hb⟩; obtain ⟨hc, hf⟩ := bcell hb; have hz := hb.size; simp at hz) | (go_at_call 59; refine (isShade_any _ _ _ _).mono ?_; rintro e w2 ⟨rfl, hb2⟩; rw [H1.out]))
      go_ret
      exact int_end H.out.symm ((((Below.refl _ _).alloc (Nat.le_refl _) _).trans (hb.mono (by simp))).trans (hb2.mono (by omega)))
    · have h1' : shadeB x y z = false := by simpa using h1
      have H : Hid (chkW l x y z = 1) := by show _ = _; rw [HC.out, if_pos rfl, if_neg h1]
      have H1 := Lib.hid h1'; clear h1 h1' hq hs hl
      go_enter Try.func36, Try.ntmps36
      go_wp2_with (first | (go_at_call 28; refine (HT.out _ (by repeat (first | with_reducible exact Below.refl _ _ | with_reducible assumption | with_reducible refine Below.drew ?_ | with_reducible refine below_drewN ?_ _ | (with_reducible refine Below.alloc ?_ ?_ _; rotate_left; (try simp) <;> omega) | (with_reducible refine Below.setCell ?_ ?_ _; rotate_left; (try simp) <;> omega)))).mono ?_; rintro e w1 ⟨rfl, hb⟩; obtain ⟨hc, hf⟩ := bcell hb; have hz := hb.size; simp at hz) | (go_at_call 59; refine (isShade_any _ _ _ _).mono ?_; rintro e w2 ⟨rfl, hb2⟩; rw [H1.out]))
      go_ret
      exact int_end H.out.symm ((((Below.refl _ _).alloc (Nat.le_refl _) _).trans (hb.mono (by simp))).trans (hb2.mono (by omega)))
  · have H : Hid (chkW l x y z = q) := by show _ = _; rw [HC.out, if_neg h0]
    have hb1 : (q != 0) = true := by rw [bne_iff_ne]; exact h0
    have hb2 : (q == 0) = false := by rw [beq_eq_false_iff_ne]; exact h0
    have H0 := Lib.hid h0; clear h0 hq hs hl
    go_enter Try.func36, Try.ntmps36
    go_wp2_with (first | (go_at_call 28; refine (HT.out _ (by repeat (first | with_reducible exact Below.refl _ _ | with_reducible assumption | with_reducible refine Below.drew ?_ | with_reducible refine below_drewN ?_ _ | (with_reducible refine Below.alloc ?_ ?_ _; rotate_left; (try simp) <;> omega) | (with_reducible refine Below.setCell ?_ ?_ _; rotate_left; (try simp) <;> omega)))).mono ?_; rintro e w1 ⟨rfl, hb⟩; obtain ⟨hc, hf⟩ := bcell hb; have hz := hb.size; simp at hz))
    go_ret
    exact int_end H.out.symm (((Below.refl _ _).alloc (Nat.le_refl _) _).trans (hb.mono (by simp)))
end Go.Proofs.Ytkjceegmmhnajaa
