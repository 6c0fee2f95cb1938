/- pigment.recipe where it finds weights. Printed by wip/gen_a11.py. -/
import Derived.StillTailTactics
import Derived.Test.YtkjceegmmhnajaaG08
import Derived.Test.YtkjceegmmhnajaaG12
import Derived.Test.YtkjceegmmhnajaaG13
import Derived.Test.YtkjceegmmhnajaaG14
import Derived.Test.YtkjceegmmhnajaaG15

set_option linter.unusedVariables false
set_option linter.unusedSimpArgs false

namespace Go.Proofs.Ytkjceegmmhnajaa
open Go.RowKit

theorem info64 : (Try.prog.info? 64).map (fun i => (i.zero, i.size, i.bytes)) = some (some (.agg #[.int .i64 0, .int .i64 0]), 2, 16) := by kernel_rfl
/-- the parts of a recipe: the tints chosen, their weights over the greatest common divisor -/
def mkParts (L ws : List Int) : List Pt := List.zipWith (fun i v => (⟨i, v.tdiv (gcdL ws)⟩ : Pt)) L ws
def RecE (ps : List Pt) (w : World) (e : Ending) (w' : World) : Prop := ∃ v : Value, e = .returned (.tuple #[.agg #[v], .bool true]) ∧ w'.ownsRow w.heap.size 64 2 v ps.length (partsC ps) ∧ Below w.heap.size w w'
theorem pos_of_any {ws : List Int} (h : ws.any notPos = false) : ∀ v ∈ ws, 0 < v := fun v hv => by
  have := List.any_eq_false.1 h v hv
  unfold notPos at this
  simp at this
  exact this
theorem own_ne {w : World} {base g : Nat} {e : TypeId} {size n : Nat} {v : Value} {xs : List Value} (ho : w.ownsRow base e size v n xs) (h : g < base) : some g ≠ v.ownBlock := by
  rcases ho.2 with ⟨rfl, _⟩ | ⟨g', _, _, rfl, hge, _⟩
  · simp [Value.ownBlock]
  · simp [Value.ownBlock]; omega
theorem own_setCell {w : World} {base b o : Nat} {e : TypeId} {size n : Nat} {v u : Value} {xs : List Value} (ho : w.ownsRow base e size v n xs) (hb : b < base) : (w.setCell ⟨b, o, none⟩ u).ownsRow base e size v n xs := by
  refine ⟨ho.1, ?_⟩
  rcases ho.2 with h | ⟨g, cap, cur, h1, h2, h3, h4⟩
  · exact .inl h
  · exact .inr ⟨g, cap, cur, h1, h2, (Below.heap_setCell _ _ _ g (show g ≠ b by omega)).trans h3, h4⟩
theorem own_drew {w : World} {base : Nat} {e : TypeId} {size n : Nat} {v : Value} {xs : List Value} (ho : w.ownsRow base e size v n xs) : w.drew.ownsRow base e size v n xs := ho
theorem own_more {w : World} {b b' : Nat} {e : TypeId} {size n : Nat} {v : Value} {xs : List Value} (ho : w.ownsRow b e size v n xs) (hb : b' ≤ b) : w.ownsRow b' e size v n xs := by
  refine ⟨ho.1, ?_⟩
  rcases ho.2 with h | ⟨g, cap, cur, h1, h2, h3⟩
  · exact .inl h
  · exact .inr ⟨g, cap, cur, h1, by omega, h3⟩
theorem below_row {a w w1 : World} {B base : Nat} {e : TypeId} {size n : Nat} {v : Value} {xs : List Value} (hb : Below B a w) (ho : w.ownsRow base e size v n xs) (hg : w.grownBy w1 v.ownBlock) (hB : B ≤ base) (hw : B ≤ w.heap.size) : Below B a w1 :=
  Below.grown hb hg hw (fun g hg => by
    rcases ho.2 with ⟨rfl, _⟩ | ⟨g', _, _, rfl, hge, _⟩
    · simp [Value.ownBlock] at hg
    · simp [Value.ownBlock] at hg; omega)
theorem gcdL_dvd : ∀ (l : List Int) (v : Int), v ∈ l → (gcdL l) ∣ v.natAbs := fun l => by
  have key : ∀ (l : List Int) (g : Nat), (l.foldl (fun g n => Nat.gcd g n.natAbs) g ∣ g) ∧ ∀ v ∈ l, l.foldl (fun g n => Nat.gcd g n.natAbs) g ∣ v.natAbs := fun l => by
    induction l with
    | nil => intro g; exact ⟨Nat.dvd_refl _, fun v hv => by cases hv⟩
    | cons a r ih =>
      intro g
      obtain ⟨h1, h2⟩ := ih (Nat.gcd g a.natAbs)
      refine ⟨Nat.dvd_trans h1 (Nat.gcd_dvd_left ..), fun v hv => ?_⟩
      rcases List.mem_cons.1 hv with rfl | hv
      · exact Nat.dvd_trans h1 (Nat.gcd_dvd_right ..)
      · exact h2 v hv
  exact (key l 0).2
theorem gcd_pos {ws : List Int} (h : ws.any notPos = false) (hl : 1 ≤ ws.length) : (0 : Int) < (gcdL ws : Int) := by
  cases ws with
  | nil => simp at hl
  | cons a r =>
    have h1 := pos_of_any h a (by simp)
    have h2 := gcdL_dvd (a :: r) a (by simp)
    have : gcdL (a :: r) ≠ 0 := fun e => by rw [e] at h2; have := Nat.eq_zero_of_zero_dvd h2; omega
    omega

set_option maxRecDepth 100000 in
set_option maxHeartbeats 2000000 in
theorem recipe_some (l : List Tn) (L : List Int) (x y z : Int) (At A : Option Addr) (ct c : Nat) (w : World) (hlt : Lies w w.heap.size At (tintsC l)) (hl : Lies w w.heap.size A (ints L)) (h4 : 1 ≤ L.length ∧ L.length ≤ 4) (hr : ∀ i ∈ L, 0 ≤ i ∧ i < l.length) (hm2 : l.length ≤ 1000)
    (hsh : ∀ t ∈ l, shIn t.a t.b t.c) (hx : shIn x y z) (ws : List Int) (hws : pwts (ptsOf l L) ⟨x, y, z⟩ = some ws) (hpos : ws.any notPos = false) (hbd : ∀ v ∈ ws, v ≤ 3000000000000000000) (hwl : ws.length = L.length) :
    Calls Try.prog 69 #[.slice At l.length ct, .slice A L.length c, .agg #[.int .i64 x, .int .i64 y, .int .i64 z]] w (RecE (mkParts L ws) w) := by
  obtain ⟨i0, hi0, hz0, hz1, hz2⟩ := info_parts info84
  have I84 := Lib.hid (And.intro hi0 (And.intro hz0 (And.intro hz1 hz2))); clear hi0 hz0 hz1 hz2
  have hlen : (ptsOf l L).length = L.length := by simp [ptsOf]
  have hpts : ∀ p ∈ ptsOf l L, shadeV p := fun p hp => by
    unfold ptsOf at hp
    obtain ⟨i, hi, rfl⟩ := List.mem_map.1 hp
    obtain ⟨h1, h2⟩ := hr i hi
    have h3 : i.toNat < l.length := by omega
    rw [List.getElem?_eq_getElem h3]
    exact hsh _ (List.getElem_mem h3)
  have HWt : Hid (∀ W A' c', Lies W W.heap.size A' (vecsC (ptsOf l L)) → Calls Try.prog 86 #[.slice A' L.length c', .agg #[.int .i64 x, .int .i64 y, .int .i64 z]] W (WEnd (pwts (ptsOf l L) ⟨x, y, z⟩) W)) := fun W A' c' h => by
    have := weights_any (ptsOf l L) ⟨x, y, z⟩ A' c' W h (by omega) hpts hx
    rw [hlen] at this
    exact this
  have HLi : Hid (∀ W, Below w.heap.size w W → Lies W w.heap.size A (ints L)) := fun W hb => hl.below hb (Nat.le_refl _)
  have HPO := Lib.hid hpos
  have HBD := Lib.hid hbd
  rw [hws] at HWt
  have HR := Lib.hid hr
  clear hpos hws hbd hr hsh hx hpts hlen
  obtain ⟨j0, hj0, hy0, hy1, hy2⟩ := info_parts info64
  have I64 := Lib.hid (And.intro hj0 (And.intro hy0 (And.intro hy1 hy2))); clear hj0 hy0 hy1 hy2
  go_enter Try.func69, Try.ntmps69
  go_wp2
  go_loopw [8, 19] (fun v s wr => ∃ k : Nat, k ≤ L.length ∧ s = .int .i64 k ∧ wr.ownsRow (w.heap.size + 1 + 1) 84 3 v k (vecsC (ptsOf l (L.take k))) ∧ Below w.heap.size w wr ∧ (Bk wr w.heap.size 37 #[.int .i64 x, .int .i64 y, .int .i64 z] ∧ Bk wr (w.heap.size + 1) 25 #[.slice none 0 0])) (fun _ s _ => L.length - (intOf s).toNat)
  case atStart =>
    have h2 := Bk.new (w.alloc (.cells #[.int .i64 x, .int .i64 y, .int .i64 z] 37)) 25 #[.slice none 0 0]
    rw [World.size_alloc] at h2
    exact ⟨0, by omega, rfl, World.ownsRow_nil _ _ _ _, (by repeat (first | with_reducible exact Below.refl _ _ | with_reducible assumption | with_reducible refine Below.drew ?_ | with_reducible refine below_drewN ?_ _ | (with_reducible refine Below.alloc ?_ ?_ _; rotate_left; (try simp) <;> omega) | (with_reducible refine Below.setCell ?_ ?_ _; rotate_left; (try simp) <;> omega))), (Bk.new _ _ _).alloc _, h2⟩
  case round =>
    obtain ⟨k, hk, rfl, hown, hbw, hbx, hby⟩ := hrel
    have hbs := hbw.size
    have lx := hbx.lt
    have ly := hby.lt
    by_cases hlk : k < L.length
    · obtain ⟨aA, uA, rfl, _, huA, hcA⟩ := (hl.below hbw (Nat.le_refl _)).at_ (k := k) (by simpa [ints] using hlk)
      obtain rfl : uA = .int .i64 L[k] := by simp [ints, List.getElem?_eq_getElem hlk] at huA; exact huA.symm
      obtain ⟨hi1, hi2⟩ := HR.out _ (List.getElem_mem hlk)
      have hin : L[k].toNat < l.length := by omega
      obtain ⟨ad, rfl, _, c0, c1, c2, c3, c4⟩ := tint_at (hlt.below hbw (Nat.le_refl _)) hin
      have HP := Lib.hid (ptsOf_take hlk hin)
      have hkI : (k : Int) < (L.length : Int) := by omega
      have hkN : 0 ≤ (k : Int) := by omega
      clear hl hlt huA
      generalize l[L[k].toNat].a = ta at *
      generalize l[L[k].toNat].b = tb at *
      generalize l[L[k].toNat].c = tc at *
      go_wp2_with (at_builtin; refine wpList_append_own _ rfl (.tmp 23) (.tmp 29) 108 rfl (w.heap.size + 1 + 1) 84 i0 (.agg #[.int .i64 0, .int .i64 0, .int .i64 0]) 3 24 Try.underlying108 I84.out.1 I84.out.2.1 I84.out.2.2.1 I84.out.2.2.2 rfl (by decide) _ k (vecsC (ptsOf l (L.take k))) rfl (hown.alloc _) ⟨wr.heap.size, 0, none⟩ 1 1 [.int .i64 ta, .int .i64 tb, .int .i64 tc] rfl rfl ?c1 ?c2 ?c3 ?c4 ?c5 ?_)
      case c1 => exact cell_three_new _ _ _ _ _
      case c2 => intro u hu; simp at hu; rcases hu with rfl | rfl | rfl <;> rfl
      case c3 => unfold maxLen; omega
      case c4 => omega
      case c5 => simp; omega
      intro v' w1 hown' hgrow _
      rw [HP.out] at hown'
      have hrow : ∀ g, Value.ownBlock u8 = some g → w.heap.size + 1 + 1 ≤ g := fun g hg => by
        rcases hown.2 with ⟨e, _⟩ | ⟨g', _, _, e, hge, _⟩
        · rw [e] at hg; simp [Value.ownBlock] at hg
        · rw [e] at hg; simp [Value.ownBlock] at hg; omega
      have hb1 : Below w.heap.size w w1 := Below.grown (w := wr.alloc _) (by repeat (first | with_reducible exact Below.refl _ _ | with_reducible assumption | with_reducible refine Below.drew ?_ | with_reducible refine below_drewN ?_ _ | (with_reducible refine Below.alloc ?_ ?_ _; rotate_left; (try simp) <;> omega) | (with_reducible refine Below.setCell ?_ ?_ _; rotate_left; (try simp) <;> omega))) hgrow (by simp; omega) (fun g hg => by have := hrow g hg; omega)
      have nx := (hbx.alloc (.cells #[.int .i64 ta, .int .i64 tb, .int .i64 tc] 84)).grown hgrow (fun e => by have := hrow _ e.symm; omega)
      have ny := (hby.alloc (.cells #[.int .i64 ta, .int .i64 tb, .int .i64 tc] 84)).grown hgrow (fun e => by have := hrow _ e.symm; omega)
      clear hgrow hown hrow
      go_wp2
      go_roundw
      case rel => exact ⟨k + 1, by omega, by go_num, hown', hb1, nx, ny⟩
      case measure => simp [intOf]; omega
    · obtain rfl : k = L.length := by omega
      rw [List.take_length] at hown
      have hform : ∃ A2 c2, u8 = .slice A2 L.length c2 := by
        rcases hown.2 with h | ⟨g', c2, _, h, _⟩
        · exact absurd h.2 (by omega)
        · exact ⟨_, _, h⟩
      obtain ⟨A2, c2, rfl⟩ := hform
      have HL := Lib.hid (ownsRow_lies hown)
      have x0 := hbx.cell 0 rfl
      have x1 := hbx.cell 1 rfl
      have x2 := hbx.cell 2 rfl
      clear hown hl hlt
      go_wp2_with fail
      refine (HWt.out _ _ _ HL.out).mono ?_
      rintro e w3 ⟨A3, n3, c3, b3, rfl, ⟨rfl, rfl, hL3⟩, hn3, hc3, hb3⟩
      have hB3 : Below w.heap.size w w3 := hbw.trans (hb3.mono hbw.size)
      have ny := hby.below hb3 hby.lt
      have hany := HPO.out
      have HA := Lib.hid (any87 ws A3 c3 w3 hL3 (by omega))
      have HDV := Lib.hid (divisor_aux ws A3 c3 w3 hL3 (fun v hv => by
        have h1 := HBD.out v hv
        have h2 := pos_of_any HPO.out v hv
        unfold bigP; omega) (by omega))
      have HWL := Lib.hid hwl
      have HAny := Lib.hid hany
      have hnl := ny.lt
      clear hany hwl
      generalize hg : (gcdL ws : Int) = g at *
      have HG := Lib.hid hg
      clear hg
      have hgp : 0 < g := by rw [← HG.out]; exact gcd_pos HPO.out (by rw [HWL.out]; omega)
      have hg0 : ¬ g = 0 := by omega
      have hgz : (g == 0) = false := by rw [beq_eq_false_iff_ne]; omega
      have HML : Hid ((mkParts L ws).length = L.length) := by show _ = _; unfold mkParts; rw [List.length_zipWith, HWL.out]; exact Nat.min_self _
      have HMS : Hid (∀ k (h : k < L.length) (h2 : k < ws.length), partsC ((mkParts L ws).take k) ++ [.int .i64 L[k], .int .i64 (ws[k].tdiv g)] = partsC ((mkParts L ws).take (k + 1))) := fun k h h2 => by
        have h3 : k < (mkParts L ws).length := by rw [HML.out]; exact h
        rw [List.take_succ_eq_append_getElem h3]
        have e1 : (mkParts L ws)[k]'h3 = ⟨L[k], ws[k].tdiv g⟩ := by rw [← HG.out]; simp only [mkParts, List.getElem_zipWith]
        rw [e1]
        simp [partsC, Pt.cells]
      have hwl1 : ws.length ≤ L.length := by rw [HWL.out]; exact Nat.le_refl _
      have hwl2 : L.length ≤ ws.length := by rw [HWL.out]; exact Nat.le_refl _
      have hb3s := hB3.size
      clear HWt HR HL I84
      go_wp2_with fail
      refine HA.out.mono ?_
      rintro e w4 ⟨rfl, rfl⟩
      rw [HAny.out]
      go_wp2_with (first | (go_at_call 61; refine HDV.out.mono ?_; rintro e w5 ⟨rfl, n5, hw5⟩; have hb5 : Below w3.heap.size w3 w5 := (by rw [hw5]; exact below_drewN (Below.refl _ _) _); clear hw5; have hB5 : Below w.heap.size w w5 := hB3.trans (hb5.mono hb3s); have ny5 := ny.below hb5 hnl; have hl5 := ny5.lt; have L5 := (hL3.below hb5 (Nat.le_refl _)).more hb5.size; clear hb5 HA HDV hL3))
      have b14 : Bk (w5.alloc (.cells #[.slice none 0 0] 25)) w5.heap.size 25 #[.slice none 0 0] := Bk.new _ _ _
      have hb0 : Below w5.heap.size w5 (w5.alloc (.cells #[.slice none 0 0] 25)) := (Below.refl _ _).alloc (Nat.le_refl _) _
      have HBW : Hid (∀ W, Below w5.heap.size w5 W → Below w.heap.size w W) := fun W hb => hB5.trans (hb.mono hB5.size)
      have HKY : Hid (∀ W, Below w5.heap.size w5 W → Bk W (w.heap.size + 1) 25 #[.slice none 0 0]) := fun W hb => ny5.below hb hl5
      have HL5 : Hid (∀ W, Below w5.heap.size w5 W → Lies W w5.heap.size A3 (ints ws)) := fun W hb => L5.below hb (Nat.le_refl _)
      have hz5 := hB5.size
      clear ny hB3 hbw hbx hby x0 x1 x2 ny5 L5 hB5
      go_loopw [49] (fun y wr2 => ∃ (k : Nat) (v : Value), k ≤ L.length ∧ y = .int .i64 (k : Int) ∧ Below w5.heap.size w5 wr2 ∧ Bk wr2 w5.heap.size 25 #[v] ∧ wr2.ownsRow (w5.heap.size + 1) 64 2 v k (partsC ((mkParts L ws).take k))) (fun y _ => L.length - (intOf y).toNat)
      case atStart => exact ⟨0, .slice none 0 0, Nat.zero_le _, rfl, hb0, b14, World.ownsRow_nil _ _ _ _⟩
      case round =>
      clear hb0 b14
      obtain ⟨k, v, hk, rfl, hbw, h14, hown⟩ := hrel
      obtain ⟨Av, cv, rfl, _, _⟩ := ownsSlice hown
      have hbs := hbw.size
      have l14 := h14.lt
      have x14 := h14.cell 0 rfl
      have f14 := h14.fro 0
      by_cases hlk : k < L.length
      · have hkw : k < ws.length := by omega
        obtain ⟨aA, uA, rfl, _, huA, hcA⟩ := (HLi.out wr (HBW.out wr hbw)).at_ (k := k) (by simpa [ints] using hlk)
        obtain rfl : uA = .int .i64 L[k] := by simp [ints, List.getElem?_eq_getElem hlk] at huA; exact huA.symm
        obtain ⟨aW, uW, rfl, hbW, huW, hcW⟩ := (HL5.out wr hbw).at_ (k := k) (by simpa [ints] using hkw)
        obtain rfl : uW = .int .i64 ws[k] := by simp [ints, List.getElem?_eq_getElem hkw] at huW; exact huW.symm
        have HSN := Lib.hid (HMS.out k hlk hkw)
        have hv1 := HBD.out ws[k] (List.getElem_mem hkw)
        have hv2 := pos_of_any HPO.out ws[k] (List.getElem_mem hkw)
        have hkI : (k : Int) < (L.length : Int) := by omega
        have hkJ : (k : Int) < (ws.length : Int) := by omega
        have hk0 : 0 ≤ (k : Int) := by omega
        have HCW : Hid (∀ W, Below w5.heap.size w5 W → W.cell? (aW.add k) = some (.int .i64 ws[k])) := fun W hb => by
          obtain ⟨a', u', e', _, hu', hc'⟩ := (HL5.out W hb).at_ (k := k) (by simpa [ints] using hkw)
          cases e'
          simp [ints, List.getElem?_eq_getElem hkw] at hu'
          rw [hu']; exact hc'
        clear huA huW
        generalize L[k] = ti at *
        generalize ws[k] = wi at *
        have hquo0 : Hid (IntKind.i64.wrap (wi.tdiv g) = wi.tdiv g) := IntWalk.i64_in _ (by
          have h1 : 0 ≤ wi.tdiv g := Int.tdiv_nonneg (by omega) (by omega)
          have h2 : wi.tdiv g ≤ wi := by
            have := Int.tdiv_le_self g (show 0 ≤ wi by omega)
            exact this
          omega)
        have hquo := hquo0.out
        go_upto_region 15 with fail
        have h146 := h14.drew
        have hown6 : wr.drew.ownsRow (w5.heap.size + 1) 64 2 (.slice Av k cv) k (partsC ((mkParts L ws).take k)) := own_drew hown
        have hb6 : Below w5.heap.size w5 wr.drew := hbw.drew
        have hc6 := HCW.out _ hb6
        have x146 := h146.cell 0 rfl
        have f146 := h146.fro 0
        have hz6 := hb6.size
        have hz66 := h146.lt
        clear x14 f14 h14 hcA hown
        refine wp_region_held_drew (S := (fun w' => w'.cell? (aW.add k) = some (.int .i64 wi))) (by kernel_rfl) ?_ (fun hHeld => ?_)
        · exact hc6
        generalize wr.drew = w6 at *
        have hb_w6 := hb6
        have hz_w6 := hb6.size
        refine tk 0 54 ?_
        refine tk 2 56 ?_
        refine tk 3 57 ?_
        refine tk 4 58 ?_
        refine tk 5 59 ?_
        refine tk 6 60 ?_
        refine tk 7 61 ?_
        refine tk 8 62 ?_
        refine tk 9 63 ?_
        clear hquo hHeld hc6 hcW
        refine held_two 1 10 ⟨some 55, .load 23 (.tmp 54), 23, _, _, none⟩ ⟨some 64, .buildSlice 23 1 #[(0, .tmp 63)], 23, _, _, none⟩ rfl rfl (by kernel_rfl) (by rfl) (by rfl) ?_ ?_
        · unfold Oper.wp
          go_simp
          refine ⟨HCW.out _ hb_w6, ?_⟩
          (try simp only [Act.put, List.setIfInBounds_toArray, List.set_cons_zero, List.set_cons_succ])
          refine held_one 10 ⟨some 64, .buildSlice 23 1 #[(0, .tmp 63)], 23, _, _, none⟩ rfl (by kernel_rfl) (by rfl) ?_
          unfold Oper.wp
          go_simp
          have hb6b : Below w5.heap.size w5 (w6.alloc (.cells #[.int .i64 ti, .int .i64 (wi.tdiv g)] 64)) := hb_w6.alloc hz_w6 _
          have bx := Bk.new w6 64 #[.int .i64 ti, .int .i64 (wi.tdiv g)]
          have hown6b := hown6.alloc (.cells #[.int .i64 ti, .int .i64 (wi.tdiv g)] 64)
          have h146b := h146.alloc (.cells #[.int .i64 ti, .int .i64 (wi.tdiv g)] 64)
          have x146b := h146b.cell 0 rfl
          refine ⟨HCW.out _ hb6b, ?_⟩
          (try simp only [Act.put, List.setIfInBounds_toArray, List.set_cons_zero, List.set_cons_succ])
          generalize w6.alloc (.cells #[.int .i64 ti, .int .i64 (wi.tdiv g)] 64) = w6b at *
          have hb_w6b := hb6b
          have hz_w6b := hb6b.size
          refine held_one 11 ⟨some 65, .call { callee := .builtin .append, args := #[.tmp 55, .tmp 64], argTypes := #[23, 23] }, 23, _, _, none⟩ rfl (by kernel_rfl) (by rfl) ?_
          refine wp_append_own _ (.tmp 55) (.tmp 64) 23 rfl (w5.heap.size + 1) 64 j0 (.agg #[.int .i64 0, .int .i64 0]) 2 16 Try.underlying23 I64.out.1 I64.out.2.1 I64.out.2.2.1 I64.out.2.2.2 rfl (by decide) (.slice Av k cv) k (partsC ((mkParts L ws).take k)) rfl hown6b ⟨w6.heap.size, 0, none⟩ 1 1 [.int .i64 ti, .int .i64 (wi.tdiv g)] rfl rfl (bk_cells bx) ?_ ?_ ?_ ?_ ?_
          · intro u hu; simp at hu; rcases hu with rfl | rfl <;> rfl
          · unfold maxLen; omega
          · omega
          · have := h146b.lt; omega
          intro v7 w7 ow7 hg7 _
          obtain ⟨A7, c7, rfl, _, _⟩ := ownsSlice ow7
          have hb7 : Below w5.heap.size w5 w7 := below_row hb_w6b hown6b hg7 (by omega) hz_w6b
          have h147 : Bk w7 w5.heap.size 25 #[.slice Av k cv] := h146b.grown hg7 (own_ne hown6b (by omega))
          have x147 := h147.cell 0 rfl
          have f147 := h147.fro 0
          refine ⟨HCW.out _ hb7, ?_⟩
          (try simp only [Act.put, List.setIfInBounds_toArray, List.set_cons_zero, List.set_cons_succ])
          have hHeld := HCW.out _ hb7
          refine tk 12 66 ?_
          clear hHeld
          rw [HSN.out] at ow7
          have h148 := h147.set 0 (.slice A7 (k + 1) c7)
          have ow8 : (w7.setCell ⟨w5.heap.size, 0, none⟩ (.slice A7 (k + 1) c7)).ownsRow (w5.heap.size + 1) 64 2 (.slice A7 (k + 1) c7) (k + 1) (partsC ((mkParts L ws).take (k + 1))) := own_setCell ow7 (by omega)
          have hb8 := hb7.setCell (p := ⟨w5.heap.size, 0, none⟩) (Nat.le_refl _) (.slice A7 (k + 1) c7)
          refine held_one 13 ⟨none, .store 23 (.tmp 66) (.tmp 65), 0, _, _, none⟩ rfl (by kernel_rfl) (by rfl) ?_
          unfold Oper.wp
          go_simp
          refine ⟨HCW.out _ hb8, ?_⟩
          (try simp only [Act.put, List.setIfInBounds_toArray, List.set_cons_zero, List.set_cons_succ])
          refine wpAnyH_done (by kernel_rfl) ?_ _
          clear hg7 x146 x147 f146 f147 h146 h146b h147 hown6 hown6b
          go_wp2
          go_roundw
          case rel => exact ⟨k + 1, .slice A7 (k + 1) c7, by omega, by go_num, hb8, h148, ow8⟩
          case measure => simp [intOf] <;> omega
        · unfold Oper.wp
          go_simp
          have hb6b : Below w5.heap.size w5 (w6.alloc (.cells #[.int .i64 ti, .int .i64 (wi.tdiv g)] 64)) := hb_w6.alloc hz_w6 _
          have bx := Bk.new w6 64 #[.int .i64 ti, .int .i64 (wi.tdiv g)]
          have hown6b := hown6.alloc (.cells #[.int .i64 ti, .int .i64 (wi.tdiv g)] 64)
          have h146b := h146.alloc (.cells #[.int .i64 ti, .int .i64 (wi.tdiv g)] 64)
          have x146b := h146b.cell 0 rfl
          refine ⟨HCW.out _ hb6b, ?_⟩
          (try simp only [Act.put, List.setIfInBounds_toArray, List.set_cons_zero, List.set_cons_succ])
          generalize w6.alloc (.cells #[.int .i64 ti, .int .i64 (wi.tdiv g)] 64) = w6b at *
          have hb_w6b := hb6b
          have hz_w6b := hb6b.size
          refine held_one 1 ⟨some 55, .load 23 (.tmp 54), 23, _, _, none⟩ rfl (by kernel_rfl) (by rfl) ?_
          unfold Oper.wp
          go_simp
          refine ⟨HCW.out _ hb_w6b, ?_⟩
          (try simp only [Act.put, List.setIfInBounds_toArray, List.set_cons_zero, List.set_cons_succ])
          refine held_one 11 ⟨some 65, .call { callee := .builtin .append, args := #[.tmp 55, .tmp 64], argTypes := #[23, 23] }, 23, _, _, none⟩ rfl (by kernel_rfl) (by rfl) ?_
          refine wp_append_own _ (.tmp 55) (.tmp 64) 23 rfl (w5.heap.size + 1) 64 j0 (.agg #[.int .i64 0, .int .i64 0]) 2 16 Try.underlying23 I64.out.1 I64.out.2.1 I64.out.2.2.1 I64.out.2.2.2 rfl (by decide) (.slice Av k cv) k (partsC ((mkParts L ws).take k)) rfl hown6b ⟨w6.heap.size, 0, none⟩ 1 1 [.int .i64 ti, .int .i64 (wi.tdiv g)] rfl rfl (bk_cells bx) ?_ ?_ ?_ ?_ ?_
          · intro u hu; simp at hu; rcases hu with rfl | rfl <;> rfl
          · unfold maxLen; omega
          · omega
          · have := h146b.lt; omega
          intro v7 w7 ow7 hg7 _
          obtain ⟨A7, c7, rfl, _, _⟩ := ownsSlice ow7
          have hb7 : Below w5.heap.size w5 w7 := below_row hb_w6b hown6b hg7 (by omega) hz_w6b
          have h147 : Bk w7 w5.heap.size 25 #[.slice Av k cv] := h146b.grown hg7 (own_ne hown6b (by omega))
          have x147 := h147.cell 0 rfl
          have f147 := h147.fro 0
          refine ⟨HCW.out _ hb7, ?_⟩
          (try simp only [Act.put, List.setIfInBounds_toArray, List.set_cons_zero, List.set_cons_succ])
          have hHeld := HCW.out _ hb7
          refine tk 12 66 ?_
          clear hHeld
          rw [HSN.out] at ow7
          have h148 := h147.set 0 (.slice A7 (k + 1) c7)
          have ow8 : (w7.setCell ⟨w5.heap.size, 0, none⟩ (.slice A7 (k + 1) c7)).ownsRow (w5.heap.size + 1) 64 2 (.slice A7 (k + 1) c7) (k + 1) (partsC ((mkParts L ws).take (k + 1))) := own_setCell ow7 (by omega)
          have hb8 := hb7.setCell (p := ⟨w5.heap.size, 0, none⟩) (Nat.le_refl _) (.slice A7 (k + 1) c7)
          refine held_one 13 ⟨none, .store 23 (.tmp 66) (.tmp 65), 0, _, _, none⟩ rfl (by kernel_rfl) (by rfl) ?_
          unfold Oper.wp
          go_simp
          refine ⟨HCW.out _ hb8, ?_⟩
          (try simp only [Act.put, List.setIfInBounds_toArray, List.set_cons_zero, List.set_cons_succ])
          refine wpAnyH_done (by kernel_rfl) ?_ _
          clear hg7 x146 x147 f146 f147 h146 h146b h147 hown6 hown6b
          go_wp2
          go_roundw
          case rel => exact ⟨k + 1, .slice A7 (k + 1) c7, by omega, by go_num, hb8, h148, ow8⟩
          case measure => simp [intOf] <;> omega
      · obtain rfl : k = L.length := by omega
        have hirr : ¬ (L.length : Int) < (L.length : Int) := by omega
        have ny9 := HKY.out wr hbw
        have y9 := ny9.cell 0 rfl
        have fy9 := ny9.fro 0
        rw [show (mkParts L ws).take L.length = mkParts L ws by rw [← HML.out]; exact List.take_length] at hown
        go_wp2
        have s9 := ny9.set 0 (.slice Av L.length cv)
        have ow9 : (wr.setCell ⟨w.heap.size + 1, 0, none⟩ (.slice Av L.length cv)).ownsRow (w5.heap.size + 1) 64 2 (.slice Av L.length cv) L.length (partsC (mkParts L ws)) := own_setCell hown (by have := ny9.lt; omega)
        have hb9 := (HBW.out wr hbw).setCell (p := ⟨w.heap.size + 1, 0, none⟩) (by simp) (.slice Av L.length cv)
        have xs9 := s9.cell 0 rfl
        generalize wr.setCell ⟨w.heap.size + 1, 0, none⟩ (.slice Av L.length cv) = w9 at *
        refine bodyPost_ret (v := .tuple #[.agg #[.slice Av L.length cv], .bool true]) (by simp [results, Try.results69, go_sem, xs9]) rfl ?_
        exact ⟨_, rfl, by rw [HML.out]; exact own_more ow9 (by omega), hb9⟩
end Go.Proofs.Ytkjceegmmhnajaa

namespace Go.Proofs.Ytkjceegmmhnajaa
open Go.RowKit

def vbS (N : Nat) (v : Vc) : Prop := vb N v.x v.y v.z
theorem vbS_crs {A B : Nat} {u v : Vc} (h : vbS A u) (k : vbS B v) : vbS (A * B + A * B) (u.crs v) :=
  ⟨ab_sub (ab_mul h.2.1 k.2.2) (ab_mul h.2.2 k.2.1), ab_sub (ab_mul h.2.2 k.1) (ab_mul h.1 k.2.2), ab_sub (ab_mul h.1 k.2.1) (ab_mul h.2.1 k.1)⟩
theorem ab_dotS {A B : Nat} {u v : Vc} (h : vbS A u) (k : vbS B v) : ab (A * B + A * B + A * B) (u.dot v) := ab_add (ab_add (ab_mul h.1 k.1) (ab_mul h.2.1 k.2.1)) (ab_mul h.2.2 k.2.2)
theorem ab_tdiv {A : Nat} {a g : Int} (h : ab A a) : ab A (a.tdiv g) := by
  have h1 : (a.tdiv g).natAbs ≤ a.natAbs := by rw [Int.natAbs_tdiv]; exact Nat.div_le_self _ _
  unfold ab at *
  omega
theorem pwts_bd : ∀ {pts : List Vc} {x : Vc} {ws : List Int}, pwts pts x = some ws → (∀ p ∈ pts, shadeV p) → shadeV x → ws.length = pts.length ∧ ∀ v ∈ ws, ab 100000000000000 v
  | [], _, _, h, _, _ => by simp [pwts] at h
  | [a], x, ws, h, _, _ => by
    simp only [pwts] at h
    split at h
    · cases h; exact ⟨rfl, fun v hv => by rw [List.mem_singleton.1 hv]; unfold ab; omega⟩
    · cases h
  | [a, b], x, ws, h, hs, hx => by
    have hu : vbS 1000 (x.sub a) := vb_sub hx (hs a (by simp))
    have hd : vbS 1000 (b.sub a) := vb_sub (hs b (by simp)) (hs a (by simp))
    simp only [pwts] at h
    generalize x.sub a = u at *
    generalize b.sub a = d at *
    split at h
    · cases h
      refine ⟨rfl, fun v hv => ?_⟩
      have hv' : v = d.dot d - u.dot d ∨ v = u.dot d := by simpa using hv
      rcases hv' with rfl | rfl
      · exact ab_mono (ab_sub (ab_dotS hd hd) (ab_dotS hu hd)) (by omega)
      · exact ab_mono (ab_dotS hu hd) (by omega)
    · cases h
  | [a, b, c], x, ws, h, hs, hx => by
    have hu : vbS 1000 (x.sub a) := vb_sub hx (hs a (by simp))
    have hd : vbS 1000 (b.sub a) := vb_sub (hs b (by simp)) (hs a (by simp))
    have hf : vbS 1000 (c.sub a) := vb_sub (hs c (by simp)) (hs a (by simp))
    simp only [pwts] at h
    generalize x.sub a = u at *
    generalize b.sub a = d at *
    generalize c.sub a = f at *
    have hn := vbS_crs hd hf
    have q1 := ab_dotS hn hn
    have q2 := ab_dotS (vbS_crs hu hf) hn
    have q3 := ab_dotS (vbS_crs hd hu) hn
    split at h
    · cases h
    · cases h
      refine ⟨rfl, fun v hv => ?_⟩
      generalize (gcdL [(u.crs f).dot (d.crs f), (d.crs f).dot (d.crs f), (d.crs u).dot (d.crs f)] : Int) = g at *
      have hv' : v = ((d.crs f).dot (d.crs f) - (u.crs f).dot (d.crs f) - (d.crs u).dot (d.crs f)).tdiv g ∨ v = ((u.crs f).dot (d.crs f)).tdiv g ∨ v = ((d.crs u).dot (d.crs f)).tdiv g := by simpa using hv
      rcases hv' with rfl | rfl | rfl
      · exact ab_mono (ab_tdiv (ab_sub (ab_sub q1 q2) q3)) (by omega)
      · exact ab_mono (ab_tdiv q2) (by omega)
      · exact ab_mono (ab_tdiv q3) (by omega)
  | [a, b, c, e], x, ws, h, hs, hx => by
    have hu : vbS 1000 (x.sub a) := vb_sub hx (hs a (by simp))
    have hd : vbS 1000 (b.sub a) := vb_sub (hs b (by simp)) (hs a (by simp))
    have hf : vbS 1000 (c.sub a) := vb_sub (hs c (by simp)) (hs a (by simp))
    have hg : vbS 1000 (e.sub a) := vb_sub (hs e (by simp)) (hs a (by simp))
    simp only [pwts] at h
    generalize x.sub a = u at *
    generalize b.sub a = d at *
    generalize c.sub a = f at *
    generalize e.sub a = g at *
    have q1 := ab_dotS (vbS_crs hd hf) hg
    have q2 := ab_dotS (vbS_crs hu hf) hg
    have q3 := ab_dotS (vbS_crs hd hu) hg
    have q4 := ab_dotS (vbS_crs hd hf) hu
    generalize (d.crs f).dot g = y at *
    generalize (u.crs f).dot g = p at *
    generalize (d.crs u).dot g = q at *
    generalize (d.crs f).dot u = r at *
    unfold ab at q1 q2 q3 q4
    simp only [Nat.reduceMul, Nat.reduceAdd] at q1 q2 q3 q4
    split at h
    · cases h
    · split at h
      · cases h
        refine ⟨rfl, fun v hv => ?_⟩
        have hv' : v = -y - -p - -q - -r ∨ v = -p ∨ v = -q ∨ v = -r := by simpa using hv
        unfold ab
        rcases hv' with rfl | rfl | rfl | rfl <;> omega
      · cases h
        refine ⟨rfl, fun v hv => ?_⟩
        have hv' : v = y - p - q - r ∨ v = p ∨ v = q ∨ v = r := by simpa using hv
        unfold ab
        rcases hv' with rfl | rfl | rfl | rfl <;> omega
  | _ :: _ :: _ :: _ :: _ :: _, _, _, h, _, _ => by simp [pwts] at h
def natI (L : List Nat) : List Int := L.map fun i : Nat => (i : Int)
theorem nats_ints (L : List Nat) : nats L = ints (natI L) := by simp [nats, ints, natI]
theorem natI_len (L : List Nat) : (natI L).length = L.length := by simp [natI]
/-- what recipe finds -/
def rcpF (l : List Tn) (x : Vc) (L : List Nat) : Option (List Pt) := match pwts (ptsOf l (natI L)) x with
  | some ws => if ws.any notPos = true then none else some (mkParts (natI L) ws)
  | none => none
def RecR (r : Option (List Pt)) (w : World) (e : Ending) (w' : World) : Prop := match r with
  | none => e = .returned (.tuple #[.agg #[.slice none 0 0], .bool false]) ∧ Below w.heap.size w w'
  | some ps => RecE ps w e w'
theorem recipe_any (l : List Tn) (L : List Nat) (x y z : Int) (At A : Option Addr) (ct c : Nat) (w : World) (hlt : Lies w w.heap.size At (tintsC l)) (hl : Lies w w.heap.size A (nats L)) (h4 : 1 ≤ L.length ∧ L.length ≤ 4) (hr : ∀ i ∈ L, i < l.length) (hm2 : l.length ≤ 1000)
    (hsh : ∀ t ∈ l, shIn t.a t.b t.c) (hx : shIn x y z) : Calls Try.prog 69 #[.slice At l.length ct, .slice A L.length c, .agg #[.int .i64 x, .int .i64 y, .int .i64 z]] w (RecR (rcpF l ⟨x, y, z⟩ L) w) := by
  have hl' := hl
  rw [nats_ints] at hl'
  have h4' : 1 ≤ (natI L).length ∧ (natI L).length ≤ 4 := by rw [natI_len]; exact h4
  have hr' : ∀ i ∈ natI L, 0 ≤ i ∧ i < l.length := fun i hi => by
    unfold natI at hi
    obtain ⟨j, hj, rfl⟩ := List.mem_map.1 hi
    have := hr j hj
    omega
  have hpts : ∀ p ∈ ptsOf l (natI L), shadeV p := fun p hp => by
    unfold ptsOf at hp
    obtain ⟨i, hi, rfl⟩ := List.mem_map.1 hp
    obtain ⟨h1, h2⟩ := hr' i hi
    have h3 : i.toNat < l.length := by omega
    rw [List.getElem?_eq_getElem h3]
    exact hsh _ (List.getElem_mem h3)
  unfold rcpF
  cases hws : pwts (ptsOf l (natI L)) ⟨x, y, z⟩ with
  | none =>
    have := recipe_none l (natI L) x y z At A ct c w hlt hl' h4' hr' hm2 hsh hx (fun ws h => by rw [hws] at h; cases h)
    rw [natI_len] at this
    exact this
  | some ws =>
    dsimp only
    obtain ⟨b1, b2⟩ := pwts_bd hws hpts hx
    by_cases ha : ws.any notPos = true
    · rw [if_pos ha]
      have := recipe_none l (natI L) x y z At A ct c w hlt hl' h4' hr' hm2 hsh hx (fun ws' h => by rw [hws] at h; cases h; exact ha)
      rw [natI_len] at this
      exact this
    · rw [if_neg ha]
      have := recipe_some l (natI L) x y z At A ct c w hlt hl' h4' hr' hm2 hsh hx ws hws (Bool.eq_false_iff.2 ha) (fun v hv => by have := b2 v hv; unfold ab at this; omega) (by rw [b1]; simp [ptsOf])
      rw [natI_len] at this
      exact this
end Go.Proofs.Ytkjceegmmhnajaa

namespace Go.Proofs.Ytkjceegmmhnajaa
open Go.RowKit

theorem rweights_any : ∀ (pts : List Vc) (x : Vc) (A : Option Addr) (c : Nat) (w : World) (_ : Lies w w.heap.size A (vecsC pts)) (_ : 1 ≤ pts.length ∧ pts.length ≤ 4) (_ : ∀ p ∈ pts, shadeV p) (_ : shadeV x),
    Calls Try.prog 80 #[.slice A pts.length c, x.agg] w (WEnd (rpw pts x) w)
  | [], _, _, _, _, _, h, _, _ => absurd h.1 (by simp)
  | [a], x, A, c, w, hl, _, hs, hx => by
    obtain ⟨ad, rfl, hb, hc⟩ := hl (by simp [vecsC, Vc.cells])
    exact rweights1 a x ad c w hb (vec_at0 hc a rfl rfl rfl) (hs a (by simp)) hx
  | [a, p], x, A, c, w, hl, _, hs, hx => by
    obtain ⟨ad, rfl, hb, hc⟩ := hl (by simp [vecsC, Vc.cells])
    exact rweights2 a p x ad c w hb (vec_at0 hc a rfl rfl rfl) (vec_at hc 3 p (by omega) rfl rfl rfl) (hs a (by simp)) (hs p (by simp)) hx
  | [a, p, q], x, A, c, w, hl, _, hs, hx => by
    obtain ⟨ad, rfl, hb, hc⟩ := hl (by simp [vecsC, Vc.cells])
    exact rweights3 a p q x ad c w hb (vec_at0 hc a rfl rfl rfl) (vec_at hc 3 p (by omega) rfl rfl rfl) (vec_at hc 6 q (by omega) rfl rfl rfl) (hs a (by simp)) (hs p (by simp)) (hs q (by simp)) hx
  | [a, p, q, s], x, A, c, w, hl, _, hs, hx => by
    obtain ⟨ad, rfl, hb, hc⟩ := hl (by simp [vecsC, Vc.cells])
    exact rweights4 a p q s x ad c w hb (vec_at0 hc a rfl rfl rfl) (vec_at hc 3 p (by omega) rfl rfl rfl) (vec_at hc 6 q (by omega) rfl rfl rfl) (vec_at hc 9 s (by omega) rfl rfl rfl) (hs a (by simp)) (hs p (by simp)) (hs q (by simp)) (hs s (by simp)) hx
  | _ :: _ :: _ :: _ :: _ :: _, _, _, _, _, _, h, _, _ => absurd h.2 (by simp)

theorem rpw_bd : ∀ {pts : List Vc} {x : Vc} {ws : List Int}, rpw pts x = some ws → (∀ p ∈ pts, shadeV p) → shadeV x → ws.length = pts.length ∧ ∀ v ∈ ws, ab 100000000000000 v
  | [], _, _, h, _, _ => by simp [rpw] at h
  | [a], x, ws, h, _, _ => by
    simp only [rpw] at h
    split at h
    · cases h; exact ⟨rfl, fun v hv => by rw [List.mem_singleton.1 hv]; unfold ab; omega⟩
    · cases h
  | [a, b], x, ws, h, hs, hx => by
    have hu : vbS 1000 (x.sub a) := vb_sub hx (hs a (by simp))
    have hd : vbS 1000 (b.sub a) := vb_sub (hs b (by simp)) (hs a (by simp))
    simp only [rpw] at h
    generalize x.sub a = u at *
    generalize b.sub a = d at *
    split at h
    · cases h
      refine ⟨rfl, fun v hv => ?_⟩
      have hv' : v = d.dot d - d.dot u ∨ v = d.dot u := by simpa using hv
      rcases hv' with rfl | rfl
      · exact ab_mono (ab_sub (ab_dotS hd hd) (ab_dotS hd hu)) (by omega)
      · exact ab_mono (ab_dotS hd hu) (by omega)
    · cases h
  | [a, b, c], x, ws, h, hs, hx => by
    have hu : vbS 1000 (x.sub a) := vb_sub hx (hs a (by simp))
    have hd : vbS 1000 (b.sub a) := vb_sub (hs b (by simp)) (hs a (by simp))
    have hf : vbS 1000 (c.sub a) := vb_sub (hs c (by simp)) (hs a (by simp))
    simp only [rpw] at h
    generalize x.sub a = u at *
    generalize b.sub a = d at *
    generalize c.sub a = f at *
    have hn := vbS_crs hd hf
    have q1 := ab_dotS hn hn
    have q2 := ab_dotS hn (vbS_crs hu hf)
    have q3 := ab_dotS hn (vbS_crs hd hu)
    split at h
    · cases h
      refine ⟨rfl, fun v hv => ?_⟩
      have hv' : v = (d.crs f).dot (d.crs f) - (d.crs f).dot (u.crs f) - (d.crs f).dot (d.crs u) ∨ v = (d.crs f).dot (u.crs f) ∨ v = (d.crs f).dot (d.crs u) := by simpa using hv
      rcases hv' with rfl | rfl | rfl
      · exact ab_mono (ab_sub (ab_sub q1 q2) q3) (by omega)
      · exact ab_mono q2 (by omega)
      · exact ab_mono q3 (by omega)
    · cases h
  | [a, b, c, e], x, ws, h, hs, hx => by
    have hu : vbS 1000 (x.sub a) := vb_sub hx (hs a (by simp))
    have hd : vbS 1000 (b.sub a) := vb_sub (hs b (by simp)) (hs a (by simp))
    have hf : vbS 1000 (c.sub a) := vb_sub (hs c (by simp)) (hs a (by simp))
    have hg : vbS 1000 (e.sub a) := vb_sub (hs e (by simp)) (hs a (by simp))
    simp only [rpw] at h
    generalize x.sub a = u at *
    generalize b.sub a = d at *
    generalize c.sub a = f at *
    generalize e.sub a = g at *
    have q1 := ab_dotS (vbS_crs hd hf) hg
    have q2 := ab_dotS (vbS_crs hu hf) hg
    have q3 := ab_dotS (vbS_crs hd hu) hg
    have q4 := ab_dotS (vbS_crs hd hf) hu
    generalize (d.crs f).dot g = y at *
    generalize (u.crs f).dot g = p at *
    generalize (d.crs u).dot g = q at *
    generalize (d.crs f).dot u = r at *
    unfold ab at q1 q2 q3 q4
    simp only [Nat.reduceMul, Nat.reduceAdd] at q1 q2 q3 q4
    split at h
    · cases h
      refine ⟨rfl, fun v hv => ?_⟩
      have hv' : v = p + q + r - y ∨ v = -p ∨ v = -q ∨ v = -r := by simpa using hv
      unfold ab
      rcases hv' with rfl | rfl | rfl | rfl <;> omega
    · split at h
      · cases h
        refine ⟨rfl, fun v hv => ?_⟩
        have hv' : v = y - p - q - r ∨ v = p ∨ v = q ∨ v = r := by simpa using hv
        unfold ab
        rcases hv' with rfl | rfl | rfl | rfl <;> omega
      · cases h
  | _ :: _ :: _ :: _ :: _ :: _, _, _, h, _, _ => by simp [rpw] at h
def resOf (L : List Int) : Option (List Int) → Option (List Pt)
  | some ws => if ws.any notPos = true then none else some (mkParts L ws)
  | none => none
def rrcpF (l : List Tn) (x : Vc) (L : List Nat) : Option (List Pt) := resOf (natI L) (rpw (ptsOf l (natI L)) x)
theorem gcdL_take {ws : List Int} {k : Nat} (h : k < ws.length) : gcdL (ws.take (k + 1)) = Nat.gcd (gcdL (ws.take k)) ws[k].natAbs := by
  unfold gcdL
  rw [List.take_succ_eq_append_getElem h, List.foldl_append]; rfl
end Go.Proofs.Ytkjceegmmhnajaa
