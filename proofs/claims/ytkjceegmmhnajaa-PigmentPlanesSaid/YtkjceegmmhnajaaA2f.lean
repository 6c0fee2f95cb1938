import Derived.Test.YtkjceegmmhnajaaA2e
namespace Go.Proofs.Ytkjceegmmhnajaa
open Go.RowKit

theorem twice_names_yes {l : List Tn} {i k : Nat} (hi : i < l.length) (hk : k < i) (h : l[i].name = (l[k]'(by omega)).name) : twiceB (names l) = true := by
  refine twiceB_yes (j := i) (by simpa [names] using hi) ?_
  rw [List.any_eq_true]
  refine ⟨(l[k]'(by omega)).name, ?_, by simpa [names] using h⟩
  rw [List.mem_take_iff_getElem]
  exact ⟨k, by simp [names]; omega, by simp [names]⟩
theorem twice_names_no {l : List Tn} (h : ∀ i (hi : i < l.length) k (hk : k < i), l[i].name ≠ (l[k]'(by omega)).name) : twiceB (names l) = false := by
  refine twiceB_no (fun j hj => ?_)
  rw [List.any_eq_false]
  intro x hx
  rw [List.mem_take_iff_getElem] at hx
  obtain ⟨k, hk, rfl⟩ := hx
  simp only [names, List.getElem_map, decide_eq_true_iff]
  refine h j (by simpa [names] using hj) k ?_
  omega
theorem any_off_no {l : List Tn} (h : ∀ j (_ : j < l.length), offTint (l[j]'‹_›) = false) : l.any offTint = false := by
  rw [List.any_eq_false]
  intro x hx
  obtain ⟨j, hj, rfl⟩ := List.getElem_of_mem hx
  rw [h j hj]; exact Bool.false_ne_true
theorem any_off_yes {l : List Tn} {j : Nat} (hj : j < l.length) (h : offTint l[j] = true) : l.any offTint = true := List.any_eq_true.2 ⟨_, List.getElem_mem hj, h⟩

set_option maxHeartbeats 1000000 in
theorem rtints_any (l : List Tn) (A : Option Addr) (c : Nat) (w : World) (hl : Lies w w.heap.size A (tintsC l)) (hm : l.length ≤ 1000) (hs : ∀ t ∈ l, t.name.size ≤ 100) :
    Calls Try.prog 31 #[.slice A l.length c] w (IntEnd (chkT l) w) := by
  have HC : Hid (chkT l = if 12 < l.length then 2 else if l.length = 0 ∨ l.any offTint = true then 1 else if twiceB (names l) = true then 6 else 0) := rfl
  by_cases h12 : 12 < l.length
  · go_enter Try.func31, Try.ntmps31
    go_wp2
    go_ret
    exact int_end (by rw [HC.out, if_pos h12]) (by repeat (first | with_reducible exact Below.refl _ _ | with_reducible assumption | with_reducible refine Below.drew ?_ | with_reducible refine below_drewN ?_ _ | (with_reducible refine Below.alloc ?_ ?_ _; rotate_left; (try simp) <;> omega) | (with_reducible refine Below.setCell ?_ ?_ _; rotate_left; (try simp) <;> omega)))
  · by_cases h0 : l.length = 0
    · have hb0 : ((l.length : Int) == 0) = true := by rw [beq_iff_eq]; omega
      have H : Hid (chkT l = 1) := by rw [HC.out, if_neg h12, if_pos (.inl h0)]; rfl
      have H0 := Lib.hid h0; clear h0
      go_enter Try.func31, Try.ntmps31
      go_wp2
      go_ret
      exact int_end H.out.symm (by repeat (first | with_reducible exact Below.refl _ _ | with_reducible assumption | with_reducible refine Below.drew ?_ | with_reducible refine below_drewN ?_ _ | (with_reducible refine Below.alloc ?_ ?_ _; rotate_left; (try simp) <;> omega) | (with_reducible refine Below.setCell ?_ ?_ _; rotate_left; (try simp) <;> omega)))
    · have hb0 : ((l.length : Int) == 0) = false := by rw [beq_eq_false_iff_ne]; omega
      have HO : Hid (∀ t : Tn, offTint t = (!nameB t.name || !shadeB t.a t.b t.c || !priceB t.price)) := fun _ => rfl
      have HP : Hid (∀ p, priceB p = (decide (0 ≤ p) && decide (p ≤ 10000))) := fun _ => rfl
      have HS := Lib.hid hs; clear hs
      go_enter Try.func31, Try.ntmps31
      go_wp2
      go_loopw [3] (fun y wr => ∃ k : Nat, k ≤ l.length ∧ y = .int .i64 k ∧ Hid (∀ j (hj : j < k) (h' : j < l.length), offTint l[j] = false) ∧ Below w.heap.size w wr) (fun y _ => l.length - (intOf y).toNat)
      case atStart => exact ⟨0, by omega, rfl, fun j hj => absurd hj (by omega), Below.refl _ _⟩
      case round =>
        obtain ⟨k, hk, rfl, hg, hbw⟩ := hrel
        have hbs := hbw.size
        by_cases hlt : k < l.length
        · obtain ⟨ad, rfl, hadb, c0, c1, c2, c3, c4⟩ := tint_at (hl.below hbw (Nat.le_refl _)) hlt
          have hsz := HS.out _ (List.getElem_mem hlt)
          have hadb' : ((ad.add (k * 5)).block) < w.heap.size := by rw [add_block]; exact hadb
          have hc4 : wr.cell? ⟨(ad.add (k * 5)).block, (ad.add (k * 5)).off + 4, none⟩ = some (.int .i64 l[k].price) := c4
          have HY : offTint l[k] = false → Hid (∀ j (hj : j < k + 1) (h' : j < l.length), offTint l[j] = false) := fun ho j hj h' => by
            by_cases e : j = k
            · subst e; exact ho
            · exact hg.out j (by omega) h'
          have HY' := Lib.hid HY; clear HY
          have HX : offTint l[k] = true → chkT l = 1 := fun ho => by rw [HC.out, if_neg h12, if_pos (.inr (any_off_yes hlt ho))]
          have HX' := Lib.hid HX; clear HX hl hg
          have HOk := Lib.hid (HO.out l[k])
          have HPk := Lib.hid (HP.out l[k].price)
          have hadb2 : (ad.add (k * 5)).block < wr.heap.size := by omega
          by_cases h1 : nameB l[k].name = true
          · have H1 := Lib.hid h1; clear h1
            by_cases h2 : shadeB l[k].a l[k].b l[k].c = true
            · have H2 := Lib.hid h2; clear h2
              by_cases h3 : 0 ≤ l[k].price
              · by_cases h4 : l[k].price ≤ 10000
                · have H := HY'.out (by rw [HOk.out, H1.out, H2.out, HPk.out]; simp [h3, h4])
                  clear HX' HY' HOk HPk
                  go_wp2_with (first | (go_at_call 64; refine (rName_any _ _ hsz).mono ?_; rintro e w' ⟨rfl, rfl⟩; rw [H1.out]) | (go_at_call 65; refine (rshade_any _ _ _ _).mono ?_; rintro e w1 ⟨rfl, hb⟩; rw [H2.out]; obtain ⟨hc, hf⟩ := bcell hb; have hz := hb.size; try simp at hz))
                  go_roundw
                  case rel => exact ⟨k + 1, by omega, by go_num, H, hbw.trans (hb.mono (by omega))⟩
                  case measure => simp [intOf]; omega
                · have H := Lib.hid (HX'.out (by rw [HOk.out, HPk.out]; simp [h4]))
                  clear HX' HY' HOk HPk
                  go_wp2_with (first | (go_at_call 64; refine (rName_any _ _ hsz).mono ?_; rintro e w' ⟨rfl, rfl⟩; rw [H1.out]) | (go_at_call 65; refine (rshade_any _ _ _ _).mono ?_; rintro e w1 ⟨rfl, hb⟩; rw [H2.out]; obtain ⟨hc, hf⟩ := bcell hb; have hz := hb.size; try simp at hz))
                  go_ret
                  exact int_end H.out.symm (hbw.trans (hb.mono (by omega)))
              · have H := Lib.hid (HX'.out (by rw [HOk.out, HPk.out]; simp [h3]))
                clear HX' HY' HOk HPk
                go_wp2_with (first | (go_at_call 64; refine (rName_any _ _ hsz).mono ?_; rintro e w' ⟨rfl, rfl⟩; rw [H1.out]) | (go_at_call 65; refine (rshade_any _ _ _ _).mono ?_; rintro e w1 ⟨rfl, hb⟩; rw [H2.out]; obtain ⟨hc, hf⟩ := bcell hb; have hz := hb.size; try simp at hz))
                go_ret
                exact int_end H.out.symm (hbw.trans (hb.mono (by omega)))
            · have h2' : shadeB l[k].a l[k].b l[k].c = false := by simpa using h2
              have H2 := Lib.hid h2'; clear h2 h2'
              have H := Lib.hid (HX'.out (by rw [HOk.out, H2.out]; simp))
              clear HX' HY' HOk HPk
              go_wp2_with (first | (go_at_call 64; refine (rName_any _ _ hsz).mono ?_; rintro e w' ⟨rfl, rfl⟩; rw [H1.out]) | (go_at_call 65; refine (rshade_any _ _ _ _).mono ?_; rintro e w1 ⟨rfl, hb⟩; rw [H2.out]; obtain ⟨hc, hf⟩ := bcell hb; have hz := hb.size; try simp at hz))
              go_ret
              exact int_end H.out.symm (hbw.trans (hb.mono (by omega)))
          · have h1' : nameB l[k].name = false := by simpa using h1
            have H1 := Lib.hid h1'; clear h1 h1'
            by_cases h2 : shadeB l[k].a l[k].b l[k].c = true
            · have H2 := Lib.hid h2; clear h2
              have H := Lib.hid (HX'.out (by rw [HOk.out, H1.out]; simp))
              clear HX' HY' HOk HPk
              go_wp2_with (first | (go_at_call 64; refine (rName_any _ _ hsz).mono ?_; rintro e w' ⟨rfl, rfl⟩; rw [H1.out]) | (go_at_call 65; refine (rshade_any _ _ _ _).mono ?_; rintro e w1 ⟨rfl, hb⟩; rw [H2.out]; obtain ⟨hc, hf⟩ := bcell hb; have hz := hb.size; try simp at hz))
              go_ret
              exact int_end H.out.symm (hbw.trans (hb.mono (by omega)))
            · have h2' : shadeB l[k].a l[k].b l[k].c = false := by simpa using h2
              have H2 := Lib.hid h2'; clear h2 h2'
              have H := Lib.hid (HX'.out (by rw [HOk.out, H1.out]; simp))
              clear HX' HY' HOk HPk
              go_wp2_with (first | (go_at_call 64; refine (rName_any _ _ hsz).mono ?_; rintro e w' ⟨rfl, rfl⟩; rw [H1.out]) | (go_at_call 65; refine (rshade_any _ _ _ _).mono ?_; rintro e w1 ⟨rfl, hb⟩; rw [H2.out]; obtain ⟨hc, hf⟩ := bcell hb; have hz := hb.size; try simp at hz))
              go_ret
              exact int_end H.out.symm (hbw.trans (hb.mono (by omega)))
        · obtain rfl : k = l.length := by omega
          have HC' : Hid (chkT l = if twiceB (names l) = true then 6 else 0) := by
            show _ = _
            rw [HC.out, if_neg h12, if_neg (fun h => h.elim h0 (fun h => by rw [any_off_no (fun j hj => hg.out j hj hj)] at h; cases h))]
          have HL := Lib.hid (hl.below hbw (Nat.le_refl _))
          clear HC hg HS HO HP hl
          go_wp2
          go_loopw [6, 7] (fun y z w2 => ∃ k : Nat, k ≤ l.length ∧ y = .int .i64 k ∧ Hid (∀ i (hi : i < k) (h' : i < l.length) m (hm : m < i), l[i].name ≠ (l[m]'(by omega)).name) ∧ ∃ n, w2 = wr.drewN n) (fun y _ _ => l.length - (intOf y).toNat)
          case atStart => exact ⟨0, by omega, rfl, fun j hj => absurd hj (by omega), 0, rfl⟩
          case round =>
            obtain ⟨i, hi, rfl, hq, n1, rfl⟩ := hrel
            by_cases hlt2 : i < l.length
            · go_wp2
              go_loopw [7] (fun y w2 => ∃ m : Nat, m ≤ i ∧ y = .int .i64 m ∧ Hid (∀ j (hj : j < m) (h' : j < l.length), l[i].name ≠ l[j].name) ∧ ∃ n, w2 = wr.drewN n) (fun y _ => i - (intOf y).toNat)
              case atStart => exact ⟨0, by omega, rfl, fun j hj => absurd hj (by omega), n1, rfl⟩
              case round =>
                obtain ⟨m, hmi, rfl, hqq, n2, rfl⟩ := hrel
                by_cases hlt3 : m < i
                · obtain ⟨ad, rfl, _, c0, _, _, _, _⟩ := tint_at HL.out hlt2
                  obtain ⟨ad', e', _, c0', _, _, _, _⟩ := tint_at HL.out (k := m) (by omega)
                  cases e'
                  have c0m : wr.cell? (ad.add (m * 5)) = some (.string (l[m]'(by omega)).name) := c0'
                  clear c0'
                  by_cases he : l[i].name = (l[m]'(by omega)).name
                  · have H := Lib.hid (HC'.out.trans (if_pos (twice_names_yes hlt2 hlt3 he)))
                    have he' : (l[i].name.toList == (l[m]'(by omega)).name.toList) = true := by rw [str_eq]; simpa using he
                    have HE := Lib.hid he; clear he
                    go_wp2
                    go_quiet (fail)
                    go_wp2
                    go_ret
                    exact int_end H.out.symm (by repeat (first | with_reducible exact Below.refl _ _ | with_reducible assumption | with_reducible refine Below.drew ?_ | with_reducible refine below_drewN ?_ _ | (with_reducible refine Below.alloc ?_ ?_ _; rotate_left; (try simp) <;> omega) | (with_reducible refine Below.setCell ?_ ?_ _; rotate_left; (try simp) <;> omega)))
                  · have he' : (l[i].name.toList == (l[m]'(by omega)).name.toList) = false := by rw [str_eq]; simpa using he
                    have H : Hid (∀ j (hj : j < m + 1) (h' : j < l.length), l[i].name ≠ l[j].name) := fun j hj h' => by
                      by_cases e : j = m
                      · subst e; exact he
                      · exact hqq.out j (by omega) h'
                    have HE := Lib.hid he; clear he
                    go_wp2
                    go_quiet (fail)
                    go_wp2
                    go_roundw
                    case rel => exact ⟨m + 1, by omega, by go_num, H, _, rfl⟩
                    case measure => simp [intOf]; omega
                · obtain rfl : m = i := by omega
                  have H : Hid (∀ i (hi : i < m + 1) (h' : i < l.length) k (hk : k < i), l[i].name ≠ (l[k]'(by omega)).name) := fun i hi h' k hk => by
                    by_cases e : i = m
                    · subst e; exact hqq.out k hk (by omega)
                    · exact hq.out i (by omega) h' k hk
                  go_wp2
                  go_roundw
                  case rel => exact ⟨m + 1, by omega, by go_num, H, _, rfl⟩
                  case measure => simp [intOf]; omega
            · obtain rfl : i = l.length := by omega
              have H := Lib.hid (HC'.out.trans (if_neg (by rw [twice_names_no (fun i hi k hk => hq.out i hi hi k hk)]; exact Bool.false_ne_true)))
              go_wp2
              go_ret
              exact int_end H.out.symm (by repeat (first | with_reducible exact Below.refl _ _ | with_reducible assumption | with_reducible refine Below.drew ?_ | with_reducible refine below_drewN ?_ _ | (with_reducible refine Below.alloc ?_ ?_ _; rotate_left; (try simp) <;> omega) | (with_reducible refine Below.setCell ?_ ?_ _; rotate_left; (try simp) <;> omega)))
set_option maxHeartbeats 1000000 in
theorem rwanted_any (l : List Tn) (A : Option Addr) (c : Nat) (x y z : Int) (w : World) (hl : Lies w w.heap.size A (tintsC l)) (hm : l.length ≤ 1000) (hs : ∀ t ∈ l, t.name.size ≤ 100) :
    Calls Try.prog 49 #[.slice A l.length c, .agg #[.int .i64 x, .int .i64 y, .int .i64 z]] w (IntEnd (chkW l x y z) w) := by
  have HT := Lib.hid (fun W (hb : Below w.heap.size w W) => rtints_any l A c W ((hl.below hb (Nat.le_refl _)).more hb.size) hm hs)
  have HC : Hid (chkW l x y z = if chkT l = 0 then (if shadeB x y z = true then 0 else 1) else chkT l) := rfl
  generalize hq : chkT l = q at *
  by_cases h0 : q = 0
  · subst h0
    by_cases h1 : shadeB x y z = true
    · have H : Hid (chkW l x y z = 0) := by show _ = _; rw [HC.out, if_pos rfl, if_pos h1]
      have H1 := Lib.hid h1; clear h1 hq hs hl
      go_enter Try.func49, Try.ntmps49
      go_wp2_with (first | (go_at_call 31; refine (HT.out _ (by repeat (first | with_reducible exact Below.refl _ _ | with_reducible assumption | with_reducible refine Below.drew ?_ | with_reducible refine below_drewN ?_ _ | (with_reducible refine Below.alloc ?_ ?_ _; rotate_left; (try simp) <;> omega) | (with_reducible refine Below.setCell ?_ ?_ _; rotate_left; (try simp) <;> omega)))).mono ?_; rintro e w1 ⟨rfl, hb⟩; obtain ⟨hc, hf⟩ := bcell hb; have hz := hb.size; simp at hz) | (go_at_call 65; refine (rshade_any _ _ _ _).mono ?_; rintro e w2 ⟨rfl, hb2⟩; rw [H1.out]))
      go_ret
      exact int_end H.out.symm ((((Below.refl _ _).alloc (Nat.le_refl _) _).trans (hb.mono (by simp))).trans (hb2.mono (by omega)))
    · have h1' : shadeB x y z = false := by simpa using h1
      have H : Hid (chkW l x y z = 1) := by show _ = _; rw [HC.out, if_pos rfl, if_neg h1]
      have H1 := Lib.hid h1'; clear h1 h1' hq hs hl
      go_enter Try.func49, Try.ntmps49
      go_wp2_with (first | (go_at_call 31; refine (HT.out _ (by repeat (first | with_reducible exact Below.refl _ _ | with_reducible assumption | with_reducible refine Below.drew ?_ | with_reducible refine below_drewN ?_ _ | (with_reducible refine Below.alloc ?_ ?_ _; rotate_left; (try simp) <;> omega) | (with_reducible refine Below.setCell ?_ ?_ _; rotate_left; (try simp) <;> omega)))).mono ?_; rintro e w1 ⟨rfl, hb⟩; obtain ⟨hc, hf⟩ := bcell hb; have hz := hb.size; simp at hz) | (go_at_call 65; refine (rshade_any _ _ _ _).mono ?_; rintro e w2 ⟨rfl, hb2⟩; rw [H1.out]))
      go_ret
      exact int_end H.out.symm ((((Below.refl _ _).alloc (Nat.le_refl _) _).trans (hb.mono (by simp))).trans (hb2.mono (by omega)))
  · have H : Hid (chkW l x y z = q) := by show _ = _; rw [HC.out, if_neg h0]
    have hb1 : (q != 0) = true := by rw [bne_iff_ne]; exact h0
    have hb2 : (q == 0) = false := by rw [beq_eq_false_iff_ne]; exact h0
    have H0 := Lib.hid h0; clear h0 hq hs hl
    go_enter Try.func49, Try.ntmps49
    go_wp2_with (first | (go_at_call 31; refine (HT.out _ (by repeat (first | with_reducible exact Below.refl _ _ | with_reducible assumption | with_reducible refine Below.drew ?_ | with_reducible refine below_drewN ?_ _ | (with_reducible refine Below.alloc ?_ ?_ _; rotate_left; (try simp) <;> omega) | (with_reducible refine Below.setCell ?_ ?_ _; rotate_left; (try simp) <;> omega)))).mono ?_; rintro e w1 ⟨rfl, hb⟩; obtain ⟨hc, hf⟩ := bcell hb; have hz := hb.size; simp at hz))
    go_ret
    exact int_end H.out.symm (((Below.refl _ _).alloc (Nat.le_refl _) _).trans (hb.mono (by simp)))
end Go.Proofs.Ytkjceegmmhnajaa
