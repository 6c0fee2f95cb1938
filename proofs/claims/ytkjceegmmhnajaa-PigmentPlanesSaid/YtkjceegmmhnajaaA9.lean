/- pigment.weights of one to four points; pigment.recipe where it finds nothing. -/
import Derived.Test.YtkjceegmmhnajaaA8
import Derived.Test.YtkjceegmmhnajaaD1
namespace Go.Proofs.Ytkjceegmmhnajaa
open Go.RowKit

theorem add0 (a : Addr) : a.add 0 = a := by unfold Addr.add; simp
theorem add_pos (a : Addr) (n : Nat) (h : 0 < n) : a.add n = ⟨a.block, a.off + n, none⟩ := by unfold Addr.add; rw [if_neg (by omega)]

theorem vec_at {w : World} {ad : Addr} {cs : List Value} (hc : ∀ j u, cs[j]? = some u → w.cell? (ad.add j) = some u) (k : Nat) (v : Vc) (hk : 0 < k) (e0 : cs[k]? = some (.int .i64 v.x)) (e1 : cs[k + 1]? = some (.int .i64 v.y)) (e2 : cs[k + 2]? = some (.int .i64 v.z)) : vecAt w ⟨ad.block, ad.off + k, none⟩ v := by
  have g0 := hc k _ e0
  have g1 := hc (k + 1) _ e1
  have g2 := hc (k + 2) _ e2
  rw [add_pos _ _ (by omega)] at g0 g1 g2
  exact ⟨g0, g1, g2⟩
theorem vec_at0 {w : World} {ad : Addr} {cs : List Value} (hc : ∀ j u, cs[j]? = some u → w.cell? (ad.add j) = some u) (v : Vc) (e0 : cs[0]? = some (.int .i64 v.x)) (e1 : cs[1]? = some (.int .i64 v.y)) (e2 : cs[2]? = some (.int .i64 v.z)) : vecAt w ad v := by
  have g0 := hc 0 _ e0
  have g1 := hc 1 _ e1
  have g2 := hc 2 _ e2
  rw [add0] at g0
  rw [add_pos _ _ (by omega)] at g1 g2
  exact ⟨g0, g1, g2⟩

theorem weights_any : ∀ (pts : List Vc) (x : Vc) (A : Option Addr) (c : Nat) (w : World) (_ : Lies w w.heap.size A (vecsC pts)) (_ : 1 ≤ pts.length ∧ pts.length ≤ 4) (_ : ∀ p ∈ pts, shadeV p) (_ : shadeV x),
    Calls Try.prog 86 #[.slice A pts.length c, x.agg] w (WEnd (pwts pts x) w)
  | [], _, _, _, _, _, h, _, _ => absurd h.1 (by simp)
  | [a], x, A, c, w, hl, _, hs, hx => by
    obtain ⟨ad, rfl, hb, hc⟩ := hl (by simp [vecsC, Vc.cells])
    have v0 := vec_at0 hc a rfl rfl rfl
    exact weights1 a x ad c w hb v0.1 v0.2.1 v0.2.2 (hs a (by simp)) hx
  | [a, p], x, A, c, w, hl, _, hs, hx => by
    obtain ⟨ad, rfl, hb, hc⟩ := hl (by simp [vecsC, Vc.cells])
    exact weights2 a p x ad c w hb (vec_at0 hc a rfl rfl rfl) (vec_at hc 3 p (by omega) rfl rfl rfl) (hs a (by simp)) (hs p (by simp)) hx
  | [a, p, q], x, A, c, w, hl, _, hs, hx => by
    obtain ⟨ad, rfl, hb, hc⟩ := hl (by simp [vecsC, Vc.cells])
    exact weights3 a p q x ad c w hb (vec_at0 hc a rfl rfl rfl) (vec_at hc 3 p (by omega) rfl rfl rfl) (vec_at hc 6 q (by omega) rfl rfl rfl) (hs a (by simp)) (hs p (by simp)) (hs q (by simp)) hx
  | [a, p, q, s], x, A, c, w, hl, _, hs, hx => by
    obtain ⟨ad, rfl, hb, hc⟩ := hl (by simp [vecsC, Vc.cells])
    exact weights4 a p q s x ad c w hb (vec_at0 hc a rfl rfl rfl) (vec_at hc 3 p (by omega) rfl rfl rfl) (vec_at hc 6 q (by omega) rfl rfl rfl) (vec_at hc 9 s (by omega) rfl rfl rfl) (hs a (by simp)) (hs p (by simp)) (hs q (by simp)) (hs s (by simp)) hx
  | _ :: _ :: _ :: _ :: _ :: _, _, _, _, _, _, h, _, _ => absurd h.2 (by simp)

/-- the points of a choice -/
def ptOf (t : Tn) : Vc := ⟨t.a, t.b, t.c⟩
def ptsOf (l : List Tn) (L : List Int) : List Vc := L.map fun i => match l[i.toNat]? with | some t => ptOf t | none => ⟨0, 0, 0⟩
theorem ptsOf_take {l : List Tn} {L : List Int} {k : Nat} (hk : k < L.length) (hi : L[k].toNat < l.length) : vecsC (ptsOf l (L.take k)) ++ [.int .i64 l[L[k].toNat].a, .int .i64 l[L[k].toNat].b, .int .i64 l[L[k].toNat].c] = vecsC (ptsOf l (L.take (k + 1))) := by
  rw [List.take_succ_eq_append_getElem hk]
  simp only [ptsOf, vecsC, List.map_append, List.map_cons, List.map_nil, List.flatMap_append, List.flatMap_cons, List.flatMap_nil, List.append_nil]
  rw [List.getElem?_eq_getElem hi]
  rfl
theorem info84 : (Try.prog.info? 84).map (fun i => (i.zero, i.size, i.bytes)) = some (some (.agg #[.int .i64 0, .int .i64 0, .int .i64 0]), 3, 24) := by kernel_rfl
theorem cell_three_new (w : World) (x y z : Value) (t : TypeId) : ∀ j u, [x, y, z][j]? = some u → (w.alloc (.cells #[x, y, z] t)).cell? ((⟨w.heap.size, 0, none⟩ : Addr).add j) = some u := by
  intro j u hj
  have e : (⟨w.heap.size, 0, none⟩ : Addr).add j = ⟨w.heap.size, j, none⟩ := by unfold Addr.add; split <;> simp_all
  rw [e]
  exact (Bk.new w t #[x, y, z]).cell j (by simpa using hj)

set_option maxRecDepth 100000 in
set_option maxHeartbeats 2000000 in
theorem recipe_none (l : List Tn) (L : List Int) (x y z : Int) (At A : Option Addr) (ct c : Nat) (w : World) (hlt : Lies w w.heap.size At (tintsC l)) (hl : Lies w w.heap.size A (ints L)) (h4 : 1 ≤ L.length ∧ L.length ≤ 4) (hr : ∀ i ∈ L, 0 ≤ i ∧ i < l.length) (hm2 : l.length ≤ 1000)
    (hsh : ∀ t ∈ l, shIn t.a t.b t.c) (hx : shIn x y z) (hno : ∀ ws, pwts (ptsOf l L) ⟨x, y, z⟩ = some ws → ws.any notPos = true) :
    Calls Try.prog 69 #[.slice At l.length ct, .slice A L.length c, .agg #[.int .i64 x, .int .i64 y, .int .i64 z]] w fun e w' => e = .returned (.tuple #[.agg #[.slice none 0 0], .bool false]) ∧ Below w.heap.size w w' := by
  obtain ⟨i0, hi0, hz0, hz1, hz2⟩ := info_parts info84
  have I84 := Lib.hid (And.intro hi0 (And.intro hz0 (And.intro hz1 hz2))); clear hi0 hz0 hz1 hz2
  have hlen : (ptsOf l L).length = L.length := by simp [ptsOf]
  have hpts : ∀ p ∈ ptsOf l L, shadeV p := fun p hp => by
    unfold ptsOf at hp
    obtain ⟨i, hi, rfl⟩ := List.mem_map.1 hp
    obtain ⟨h1, h2⟩ := hr i hi
    have h3 : i.toNat < l.length := by omega
    rw [List.getElem?_eq_getElem h3]
    exact hsh _ (List.getElem_mem h3)
  have HWt : Hid (∀ W A' c', Lies W W.heap.size A' (vecsC (ptsOf l L)) → Calls Try.prog 86 #[.slice A' L.length c', .agg #[.int .i64 x, .int .i64 y, .int .i64 z]] W (WEnd (pwts (ptsOf l L) ⟨x, y, z⟩) W)) := fun W A' c' h => by
    have := weights_any (ptsOf l L) ⟨x, y, z⟩ A' c' W h (by omega) hpts hx
    rw [hlen] at this
    exact this
  have HNo := Lib.hid hno
  have HR := Lib.hid hr
  clear hno hr hsh hx hpts hlen
  generalize pwts (ptsOf l L) ⟨x, y, z⟩ = R at *
  go_enter Try.func69, Try.ntmps69
  go_wp2
  go_loopw [8, 19] (fun v s wr => ∃ k : Nat, k ≤ L.length ∧ s = .int .i64 k ∧ wr.ownsRow (w.heap.size + 1 + 1) 84 3 v k (vecsC (ptsOf l (L.take k))) ∧ Below w.heap.size w wr ∧ (Bk wr w.heap.size 37 #[.int .i64 x, .int .i64 y, .int .i64 z] ∧ Bk wr (w.heap.size + 1) 25 #[.slice none 0 0])) (fun _ s _ => L.length - (intOf s).toNat)
  case atStart =>
    have h2 := Bk.new (w.alloc (.cells #[.int .i64 x, .int .i64 y, .int .i64 z] 37)) 25 #[.slice none 0 0]
    rw [World.size_alloc] at h2
    exact ⟨0, by omega, rfl, World.ownsRow_nil _ _ _ _, (by repeat (first | with_reducible exact Below.refl _ _ | with_reducible assumption | with_reducible refine Below.drew ?_ | with_reducible refine below_drewN ?_ _ | (with_reducible refine Below.alloc ?_ ?_ _; rotate_left; (try simp) <;> omega) | (with_reducible refine Below.setCell ?_ ?_ _; rotate_left; (try simp) <;> omega))), (Bk.new _ _ _).alloc _, h2⟩
  case round =>
    obtain ⟨k, hk, rfl, hown, hbw, hbx, hby⟩ := hrel
    have hbs := hbw.size
    have lx := hbx.lt
    have ly := hby.lt
    by_cases hlk : k < L.length
    · obtain ⟨aA, uA, rfl, _, huA, hcA⟩ := (hl.below hbw (Nat.le_refl _)).at_ (k := k) (by simpa [ints] using hlk)
      obtain rfl : uA = .int .i64 L[k] := by simp [ints, List.getElem?_eq_getElem hlk] at huA; exact huA.symm
      obtain ⟨hi1, hi2⟩ := HR.out _ (List.getElem_mem hlk)
      have hin : L[k].toNat < l.length := by omega
      obtain ⟨ad, rfl, _, c0, c1, c2, c3, c4⟩ := tint_at (hlt.below hbw (Nat.le_refl _)) hin
      have HP := Lib.hid (ptsOf_take hlk hin)
      have hkI : (k : Int) < (L.length : Int) := by omega
      have hkN : 0 ≤ (k : Int) := by omega
      clear hl hlt huA
      generalize l[L[k].toNat].a = ta at *
      generalize l[L[k].toNat].b = tb at *
      generalize l[L[k].toNat].c = tc at *
      go_wp2_with (at_builtin; refine wpList_append_own _ rfl (.tmp 23) (.tmp 29) 108 rfl (w.heap.size + 1 + 1) 84 i0 (.agg #[.int .i64 0, .int .i64 0, .int .i64 0]) 3 24 Try.underlying108 I84.out.1 I84.out.2.1 I84.out.2.2.1 I84.out.2.2.2 rfl (by decide) _ k (vecsC (ptsOf l (L.take k))) rfl (hown.alloc _) ⟨wr.heap.size, 0, none⟩ 1 1 [.int .i64 ta, .int .i64 tb, .int .i64 tc] rfl rfl ?c1 ?c2 ?c3 ?c4 ?c5 ?_)
      case c1 => exact cell_three_new _ _ _ _ _
      case c2 => intro u hu; simp at hu; rcases hu with rfl | rfl | rfl <;> rfl
      case c3 => unfold maxLen; omega
      case c4 => omega
      case c5 => simp; omega
      intro v' w1 hown' hgrow _
      rw [HP.out] at hown'
      have hrow : ∀ g, Value.ownBlock u8 = some g → w.heap.size + 1 + 1 ≤ g := fun g hg => by
        rcases hown.2 with ⟨e, _⟩ | ⟨g', _, _, e, hge, _⟩
        · rw [e] at hg; simp [Value.ownBlock] at hg
        · rw [e] at hg; simp [Value.ownBlock] at hg; omega
      have hb1 : Below w.heap.size w w1 := Below.grown (w := wr.alloc _) (by repeat (first | with_reducible exact Below.refl _ _ | with_reducible assumption | with_reducible refine Below.drew ?_ | with_reducible refine below_drewN ?_ _ | (with_reducible refine Below.alloc ?_ ?_ _; rotate_left; (try simp) <;> omega) | (with_reducible refine Below.setCell ?_ ?_ _; rotate_left; (try simp) <;> omega))) hgrow (by simp; omega) (fun g hg => by have := hrow g hg; omega)
      have nx := (hbx.alloc (.cells #[.int .i64 ta, .int .i64 tb, .int .i64 tc] 84)).grown hgrow (fun e => by have := hrow _ e.symm; omega)
      have ny := (hby.alloc (.cells #[.int .i64 ta, .int .i64 tb, .int .i64 tc] 84)).grown hgrow (fun e => by have := hrow _ e.symm; omega)
      clear hgrow hown hrow
      go_wp2
      go_roundw
      case rel => exact ⟨k + 1, by omega, by go_num, hown', hb1, nx, ny⟩
      case measure => simp [intOf]; omega
    · obtain rfl : k = L.length := by omega
      rw [List.take_length] at hown
      have hform : ∃ A2 c2, u8 = .slice A2 L.length c2 := by
        rcases hown.2 with h | ⟨g', c2, _, h, _⟩
        · exact absurd h.2 (by omega)
        · exact ⟨_, _, h⟩
      obtain ⟨A2, c2, rfl⟩ := hform
      have HL := Lib.hid (ownsRow_lies hown)
      have x0 := hbx.cell 0 rfl
      have x1 := hbx.cell 1 rfl
      have x2 := hbx.cell 2 rfl
      clear hown hl hlt
      go_wp2_with fail
      refine (HWt.out _ _ _ HL.out).mono ?_
      rintro e w3 ⟨A3, n3, c3, b3, rfl, hm3, hn3, hc3, hb3⟩
      have hB3 : Below w.heap.size w w3 := hbw.trans (hb3.mono hbw.size)
      have ny := hby.below hb3 hby.lt
      have hy0 := ny.cell 0 rfl
      have hyf := ny.fro 0
      have hyl := ny.lt
      cases R with
      | none =>
        obtain rfl : b3 = false := hm3
        go_wp2
        refine bodyPost_ret (v := .tuple #[.agg #[.slice none 0 0], .bool false]) ?_ rfl ⟨rfl, ?_⟩
        · simp [results, Try.results69, go_sem, hy0, hyl]
        · exact (by repeat (first | with_reducible exact Below.refl _ _ | with_reducible assumption | with_reducible refine Below.drew ?_ | with_reducible refine below_drewN ?_ _ | (with_reducible refine Below.alloc ?_ ?_ _; rotate_left; (try simp) <;> omega) | (with_reducible refine Below.setCell ?_ ?_ _; rotate_left; (try simp) <;> omega)))
      | some ws =>
        obtain ⟨rfl, rfl, hL3⟩ := hm3
        have hany := HNo.out ws rfl
        have HA := Lib.hid (any87 ws A3 c3 w3 hL3 (by omega))
        have HAny := Lib.hid hany
        clear hany hL3
        go_wp2_with fail
        refine HA.out.mono ?_
        rintro e w4 ⟨rfl, rfl⟩
        rw [HAny.out]
        go_wp2
        refine bodyPost_ret (v := .tuple #[.agg #[.slice none 0 0], .bool false]) ?_ rfl ⟨rfl, ?_⟩
        · simp [results, Try.results69, go_sem, hy0, hyl]
        · exact (by repeat (first | with_reducible exact Below.refl _ _ | with_reducible assumption | with_reducible refine Below.drew ?_ | with_reducible refine below_drewN ?_ _ | (with_reducible refine Below.alloc ?_ ?_ _; rotate_left; (try simp) <;> omega) | (with_reducible refine Below.setCell ?_ ?_ _; rotate_left; (try simp) <;> omega)))
end Go.Proofs.Ytkjceegmmhnajaa
