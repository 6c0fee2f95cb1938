/- pigment.beyond. -/
import Derived.Test.YtkjceegmmhnajaaG07
import Derived.Test.YtkjceegmmhnajaaG08
import Derived.Test.YtkjceegmmhnajaaG19
import Derived.Test.YtkjceegmmhnajaaG21

set_option linter.unusedVariables false
set_option linter.unusedSimpArgs false

namespace Go.Proofs.Ytkjceegmmhnajaa
open Go.RowKit

def nT (n : Vc) (t : Tn) : Int := n.x * t.a + n.y * t.b + n.z * t.c
def topF (n : Vc) (c : Int) (l : List Tn) : Int := l.foldl (fun c t => max c (nT n t)) c
/-- how far the tints go along a normal -/
def topN (n : Vc) (l : List Tn) : Int := match l with
  | [] => 0
  | t :: r => topF n (nT n t) (t :: r)
theorem topF_take (n : Vc) (c : Int) (l : List Tn) {k : Nat} (h : k < l.length) : topF n c (l.take (k + 1)) = max (topF n c (l.take k)) (nT n l[k]) := by
  unfold topF
  rw [List.take_succ_eq_append_getElem h, List.foldl_append]; rfl
theorem topN_zero (n : Vc) {l : List Tn} (h : 0 < l.length) : topN n l = topF n (nT n l[0]) l := by
  cases l with
  | nil => simp at h
  | cons t r => rfl
def BeyE (n : Vc) (l : List Tn) (x : Vc) (w : World) (e : Ending) (w' : World) : Prop := e = .returned (.tuple #[.agg #[.int .i64 n.x, .int .i64 n.y, .int .i64 n.z, .int .i64 (topN n l)], .bool (decide (topN n l < n.x * x.x + n.y * x.y + n.z * x.z))]) ∧ Below w.heap.size w w'
theorem sh_vb {a b c : Int} (h : shIn a b c) : vb 1000 a b c := ⟨⟨by have := h.1; omega, by have := h.1; omega⟩, ⟨by have := h.2.1; omega, by have := h.2.1; omega⟩, ⟨by have := h.2.2; omega, by have := h.2.2; omega⟩⟩
theorem ab_max {N : Nat} {a b : Int} (h : ab N a) (k : ab N b) : ab N (max a b) := by
  unfold ab at *; rcases Int.le_total a b with h1 | h1
  · rw [Int.max_eq_right h1]; exact k
  · rw [Int.max_eq_left h1]; exact h
theorem nT_b {n : Vc} {t : Tn} (h : nB n) (k : shIn t.a t.b t.c) : ab 18000000000000 (nT n t) := by
  have k' := sh_vb k
  have := ab_add (ab_add (ab_mul h.1 k'.1) (ab_mul h.2.1 k'.2.1)) (ab_mul h.2.2 k'.2.2)
  exact ab_mono this (by omega)
theorem topF_b {n : Vc} (h : nB n) : ∀ (l : List Tn) (c : Int), ab 18000000000000 c → (∀ t ∈ l, shIn t.a t.b t.c) → ab 18000000000000 (topF n c l)
  | [], _, hc, _ => hc
  | t :: l, c, hc, hs => topF_b h l (max c (nT n t)) (ab_max hc (nT_b h (hs t (by simp)))) (fun u hu => hs u (by simp [hu]))

set_option maxRecDepth 100000 in
set_option maxHeartbeats 2000000 in
theorem beyond_any (l : List Tn) (At : Option Addr) (ct : Nat) (n x : Vc) (w : World) (hl : Lies w w.heap.size At (tintsC l)) (hm : l.length ≤ 1000) (h1 : 0 < l.length) (hsh : ∀ t ∈ l, shIn t.a t.b t.c) (hx : shIn x.x x.y x.z) (hn : nB n) :
    Calls Try.prog 56 #[.slice At l.length ct, .agg #[.int .i64 x.x, .int .i64 x.y, .int .i64 x.z], .agg #[.int .i64 n.x, .int .i64 n.y, .int .i64 n.z]] w (BeyE n l x w) := by
  obtain ⟨at0, rfl, hatb, p0, p1, p2⟩ := tint_vec hl h1
  have HD : Hid (∀ (k : Nat) (hk : k < l.length), ∃ r, Hid (r = nT n l[k]) ∧ ab 18000000000000 r ∧ Hid (∀ W, Calls Try.prog 46 #[.agg #[.int .i64 n.x, .int .i64 n.y, .int .i64 n.z], .agg #[.int .i64 l[k].a, .int .i64 l[k].b, .int .i64 l[k].c]] W fun e w' => e = .returned (.int .i64 r) ∧ Below W.heap.size W w')) := fun k hk => by
    obtain ⟨r, h1, h2, h3⟩ := pdot hn (sh_vb (hsh _ (List.getElem_mem hk))) (by omega)
    exact ⟨r, h1, ab_mono h2 (by omega), h3⟩
  obtain ⟨xr, HXR, bXR, CXR⟩ := pdot hn (sh_vb hx) (by omega)
  obtain ⟨r0, HR0, bR0, CR0⟩ := HD.out 0 h1
  have HL := Lib.hid hl
  have HSH := Lib.hid hsh
  have HTZ := Lib.hid (topN_zero n h1)
  have HTB := Lib.hid (fun k => topF_b hn (l.take k) r0 bR0 (fun t ht => hsh t (List.mem_of_mem_take ht)))
  have HTK := Lib.hid (fun c k (h : k < l.length) => topF_take n c l h)
  have h1I : (0 : Int) < (l.length : Int) := by omega
  clear hl hsh hx hn
  obtain ⟨n1, n2, n3⟩ := n
  obtain ⟨x1, x2, x3⟩ := x
  dsimp only at *
  have e00 : at0.add (0 * 5) = at0 := by unfold Addr.add; simp
  rw [e00] at p0 p1 p2
  obtain ⟨w3, hw3⟩ : ∃ v, v = ((w.alloc (.cells #[.int .i64 x1, .int .i64 x2, .int .i64 x3] 84)).alloc (.cells #[.int .i64 n1, .int .i64 n2, .int .i64 n3] 84)).alloc (.cells #[.int .i64 0, .int .i64 0, .int .i64 0, .int .i64 0] 51) := ⟨_, rfl⟩
  have kx : Bk w3 w.heap.size 84 #[.int .i64 x1, .int .i64 x2, .int .i64 x3] := by rw [hw3]; exact ((Bk.new _ _ _).alloc _).alloc _
  have kn : Bk w3 (w.heap.size + 1) 84 #[.int .i64 n1, .int .i64 n2, .int .i64 n3] := by rw [hw3]; exact Bk.alloc (by simpa using Bk.new (w.alloc (.cells #[.int .i64 x1, .int .i64 x2, .int .i64 x3] 84)) 84 #[.int .i64 n1, .int .i64 n2, .int .i64 n3]) _
  have kr : Bk w3 (w.heap.size + 2) 51 #[.int .i64 0, .int .i64 0, .int .i64 0, .int .i64 0] := by rw [hw3]; simpa using Bk.new ((w.alloc (.cells #[.int .i64 x1, .int .i64 x2, .int .i64 x3] 84)).alloc (.cells #[.int .i64 n1, .int .i64 n2, .int .i64 n3] 84)) 51 #[.int .i64 0, .int .i64 0, .int .i64 0, .int .i64 0]
  have hb3 : Below w.heap.size w w3 := by rw [hw3]; exact (by repeat (first | with_reducible exact Below.refl _ _ | with_reducible assumption | with_reducible refine Below.drew ?_ | with_reducible refine below_drewN ?_ _ | (with_reducible refine Below.alloc ?_ ?_ _; rotate_left; (try simp) <;> omega) | (with_reducible refine Below.setCell ?_ ?_ _; rotate_left; (try simp) <;> omega)))
  have HS1 : Hid (∀ V, Below w3.heap.size w3 V → (V.cell? ⟨w.heap.size + 1, 0, none⟩ = some (.int .i64 n1) ∧ V.cell? ⟨w.heap.size + 1, 1, none⟩ = some (.int .i64 n2) ∧ V.cell? ⟨w.heap.size + 1, 2, none⟩ = some (.int .i64 n3)) ∧ (V.cell? ⟨at0.block, at0.off + 1, none⟩ = some (.int .i64 l[0].a) ∧ V.cell? ⟨at0.block, at0.off + 2, none⟩ = some (.int .i64 l[0].b) ∧ V.cell? ⟨at0.block, at0.off + 3, none⟩ = some (.int .i64 l[0].c))) := fun V hV => by
    have hV' := hb3.trans (hV.mono hb3.size)
    have kn' := kn.below hV kn.lt
    exact ⟨⟨kn'.cell 0 rfl, kn'.cell 1 rfl, kn'.cell 2 rfl⟩, (hV'.cell (cell_lt p0)).trans p0, (hV'.cell (cell_lt p1)).trans p1, (hV'.cell (cell_lt p2)).trans p2⟩
  go_enter Try.func56, Try.ntmps56
  go_upto_region 1 with fail
  rw [← hw3]
  clear hw3 p0 p1 p2
  refine wp_region_held_drew (S := fun V => (V.cell? ⟨w.heap.size + 1, 0, none⟩ = some (.int .i64 n1) ∧ V.cell? ⟨w.heap.size + 1, 1, none⟩ = some (.int .i64 n2) ∧ V.cell? ⟨w.heap.size + 1, 2, none⟩ = some (.int .i64 n3)) ∧ (V.cell? ⟨at0.block, at0.off + 1, none⟩ = some (.int .i64 l[0].a) ∧ V.cell? ⟨at0.block, at0.off + 2, none⟩ = some (.int .i64 l[0].b) ∧ V.cell? ⟨at0.block, at0.off + 3, none⟩ = some (.int .i64 l[0].c))) (by kernel_rfl) ?_ (fun hHeld => ?_)
  · exact HS1.out _ (Below.refl _ _).drew
  have hb4 : Below w3.heap.size w3 w3.drew := (Below.refl _ _).drew
  have hz4 := hb4.size
  generalize w3.drew = w4 at *
  refine tk 0 11 ?_
  refine tk 1 12 ?_
  refine tk 2 13 ?_
  refine tk 3 14 ?_
  refine tk 4 15 ?_
  refine tk 5 16 ?_
  refine quiet_new (cs := [⟨6, 17, .int .i64 r0, []⟩, ⟨7, 18, .agg #[.int .i64 n1, .int .i64 n2, .int .i64 n3, .int .i64 r0], [6]⟩]) (p := 8) (s := 9) (kp := 8) (ds := [17, 18, 8]) (ty := 51) (Z := #[.int .i64 0, .int .i64 0, .int .i64 0, .int .i64 0]) (R := #[.int .i64 n1, .int .i64 n2, .int .i64 n3, .int .i64 r0]) (B := w4.heap.size) (by kernel_rfl) (by simp [left]) (by simp) (Nat.le_refl _) ?hq ?hS ⟨_, rfl, rfl, rfl, ?hal⟩ ⟨_, rfl, rfl, rfl, by kernel_rfl, ?hst⟩ ?hQ
  case hq =>
    intro q hq
    simp only [List.mem_cons, List.not_mem_nil, or_false] at hq
    rcases hq with rfl | rfl
    · refine ⟨by simp, _, rfl, rfl, rfl, by kernel_rfl, fun V w hb hd => .inr ⟨46, #[.agg #[.int .i64 n1, .int .i64 n2, .int .i64 n3], .agg #[.int .i64 l[0].a, .int .i64 l[0].b, .int .i64 l[0].c]], ?_, CR0.out w⟩⟩
      simp only [canon, List.foldl_cons, List.foldl_nil, List.setIfInBounds_toArray, List.set_cons_zero, List.set_cons_succ]
      go_simp
    · refine ⟨by simp, _, rfl, rfl, rfl, by kernel_rfl, fun V w hb hd => .inl ?_⟩
      have e6 : V 17 = .int .i64 r0 := hd ⟨6, 17, .int .i64 r0, []⟩ (by simp) (by simp)
      simp only [canon, List.foldl_cons, List.foldl_nil, List.setIfInBounds_toArray, List.set_cons_zero, List.set_cons_succ]
      go_simp
  case hS => exact fun V hV => HS1.out V (hb4.trans (hV.mono hz4))
  case hal => exact fun a w => by go_simp; (try rfl)
  case hst =>
    intro V w g hb hd hg hk
    have e18 : V 18 = .agg #[.int .i64 n1, .int .i64 n2, .int .i64 n3, .int .i64 r0] := hd ⟨7, 18, _, [6]⟩ (by simp)
    have t0 := hk.cell 0 rfl
    have t1 := hk.cell 1 rfl
    have t2 := hk.cell 2 rfl
    have t3 := hk.cell 3 rfl
    have f0 := hk.fro 0
    have f1 := hk.fro 1
    have f2 := hk.fro 2
    have f3 := hk.fro 3
    refine ⟨_, _, ?_, .inl rfl, ((((hk.set 0 _).set 1 _).set 2 _).set 3 _), fun B v hB hb => (((hb.setCell (p := ⟨g, 0, none⟩) hB _).setCell (p := ⟨g, 1, none⟩) hB _).setCell (p := ⟨g, 2, none⟩) hB _).setCell (p := ⟨g, 3, none⟩) hB _⟩
    simp only [canon, List.foldl_cons, List.foldl_nil, List.setIfInBounds_toArray, List.set_cons_zero, List.set_cons_succ]
    go_simp
  intro V w5 g hV hg hgB hb5 kp
  have e17 : V 17 = .int .i64 r0 := hV ⟨6, 17, _, []⟩ (by simp)
  have e18 : V 18 = .agg #[.int .i64 n1, .int .i64 n2, .int .i64 n3, .int .i64 r0] := hV ⟨7, 18, _, [6]⟩ (by simp)
  simp only [canon, List.foldl_cons, List.foldl_nil, List.setIfInBounds_toArray, List.set_cons_zero, List.set_cons_succ]
  rw [e17, e18, hg]
  clear hV e17 e18 hg hHeld HS1
  have hb45 := hb4.trans (hb5.mono hz4)
  have kx5 := kx.below hb45 kx.lt
  have kn5 := kn.below hb45 kn.lt
  have kr5 := kr.below hb45 kr.lt
  have hB5 := hb3.trans (hb45.mono hb3.size)
  have hgw : w.heap.size + 3 ≤ g := by have := kr.lt; omega
  clear kx kn kr
  go_wp2
  go_loopw [21] (fun y wr => ∃ k : Nat, k ≤ l.length ∧ y = .int .i64 (k : Int) ∧ Below w.heap.size w wr ∧ (Bk wr w.heap.size 84 #[.int .i64 x1, .int .i64 x2, .int .i64 x3] ∧ (Bk wr (w.heap.size + 1) 84 #[.int .i64 n1, .int .i64 n2, .int .i64 n3] ∧ (Bk wr (w.heap.size + 2) 51 #[.int .i64 0, .int .i64 0, .int .i64 0, .int .i64 0] ∧ Bk wr g 51 #[.int .i64 n1, .int .i64 n2, .int .i64 n3, .int .i64 (topF ⟨n1, n2, n3⟩ r0 (l.take k))])))) (fun y _ => l.length - (intOf y).toNat)
  case atStart => exact ⟨0, Nat.zero_le _, rfl, hB5, kx5, kn5, kr5, kp⟩
  case round =>
    clear hB5 kx5 kn5 kr5 kp hb45 hb5
    obtain ⟨k, hk, rfl, hbw, kx, kn, kr, kp⟩ := hrel
    have lx := kx.lt
    have ln := kn.lt
    have lr := kr.lt
    have lp := kp.lt
    by_cases hlt : k < l.length
    · have hkI : (k : Int) < (l.length : Int) := by omega
      have hk0 : 0 ≤ (k : Int) := by omega
      have hwk : IntKind.i64.wrap ((k : Int) + 1) = (k : Int) + 1 := IntWalk.i64_in _ (by omega)
      obtain ⟨ad', e, hab, c0, c1, c2, c3, c4⟩ := tint_at (HL.out.below hbw (Nat.le_refl _)) hlt
      cases e
      have hab' : (at0.add (k * 5)).block < wr.heap.size := by rw [add_block]; have := hbw.size; omega
      obtain ⟨r, HR, bR, CR⟩ := HD.out k hlt
      have HMX : Hid (topF ⟨n1, n2, n3⟩ r0 (l.take (k + 1)) = max (topF ⟨n1, n2, n3⟩ r0 (l.take k)) r) := by
        show _ = _
        rw [HTK.out _ _ hlt, HR.out]
      generalize topF ⟨n1, n2, n3⟩ r0 (l.take k) = cv at *
      have kt := Bk.new wr 39 #[.string l[k].name, .int .i64 l[k].a, .int .i64 l[k].b, .int .i64 l[k].c, .int .i64 l[k].price]
      have kp6 := kp.alloc (.cells #[.string l[k].name, .int .i64 l[k].a, .int .i64 l[k].b, .int .i64 l[k].c, .int .i64 l[k].price] 39)
      have kn6 := kn.alloc (.cells #[.string l[k].name, .int .i64 l[k].a, .int .i64 l[k].b, .int .i64 l[k].c, .int .i64 l[k].price] 39)
      have kx6 := kx.alloc (.cells #[.string l[k].name, .int .i64 l[k].a, .int .i64 l[k].b, .int .i64 l[k].c, .int .i64 l[k].price] 39)
      have kr6 := kr.alloc (.cells #[.string l[k].name, .int .i64 l[k].a, .int .i64 l[k].b, .int .i64 l[k].c, .int .i64 l[k].price] 39)
      have hb6 : Below w.heap.size w (wr.alloc (.cells #[.string l[k].name, .int .i64 l[k].a, .int .i64 l[k].b, .int .i64 l[k].c, .int .i64 l[k].price] 39)) := hbw.alloc hbw.size _
      go_upto_region 5 with fail
      clear c0 c1 c2 c3 c4
      refine wp_region_held_drew (S := fun _ => True) (by kernel_rfl) trivial (fun hHeld => ?_)
      replace kt := kt.drew
      replace kp6 := kp6.drew
      replace kn6 := kn6.drew
      replace kx6 := kx6.drew
      replace kr6 := kr6.drew
      replace hb6 := hb6.drew
      generalize (wr.alloc (.cells #[.string l[k].name, .int .i64 l[k].a, .int .i64 l[k].b, .int .i64 l[k].c, .int .i64 l[k].price] 39)).drew = w6 at *
      refine tk 0 25 ?_
      refine tk 3 28 ?_
      refine quiet_laid (cs := [⟨1, 26, .int .i64 cv, []⟩, ⟨2, 27, .agg #[.int .i64 n1, .int .i64 n2, .int .i64 n3], []⟩, ⟨4, 29, .agg #[.int .i64 l[k].a, .int .i64 l[k].b, .int .i64 l[k].c], []⟩, ⟨5, 30, .int .i64 r, [2, 4]⟩, ⟨6, 31, .int .i64 (max cv r), [1, 5]⟩, ⟨7, 32, .pointer (some ⟨g, 3, none⟩), []⟩]) (s := 8) (ds := [26, 27, 29, 30, 31, 32]) (B := w6.heap.size) (Fin := fun V => Below w.heap.size w V ∧ (Bk V w.heap.size 84 #[.int .i64 x1, .int .i64 x2, .int .i64 x3] ∧ (Bk V (w.heap.size + 1) 84 #[.int .i64 n1, .int .i64 n2, .int .i64 n3] ∧ (Bk V (w.heap.size + 2) 51 #[.int .i64 0, .int .i64 0, .int .i64 0, .int .i64 0] ∧ Bk V g 51 #[.int .i64 n1, .int .i64 n2, .int .i64 n3, .int .i64 (max cv r)])))) (by kernel_rfl) (by simp [left]) (Nat.le_refl _) ?hq2 (fun _ _ => trivial) (fun h => absurd h (by decide)) ?hs2 ?hQ2
      case hq2 =>
        intro q hq
        simp only [List.mem_cons, List.not_mem_nil, or_false] at hq
        rcases hq with rfl | rfl | rfl | rfl | rfl | rfl
        · refine ⟨by simp, _, rfl, rfl, rfl, by kernel_rfl, fun V w hb hd => .inl ?_⟩
          have f := kp6.below hb kp6.lt
          have f3 := f.cell 3 rfl
          simp only [canon, List.foldl_cons, List.foldl_nil, List.setIfInBounds_toArray, List.set_cons_zero, List.set_cons_succ]
          go_simp
        · refine ⟨by simp, _, rfl, rfl, rfl, by kernel_rfl, fun V w hb hd => .inl ?_⟩
          have f := kn6.below hb kn6.lt
          have f0 := f.cell 0 rfl
          have f1 := f.cell 1 rfl
          have f2 := f.cell 2 rfl
          simp only [canon, List.foldl_cons, List.foldl_nil, List.setIfInBounds_toArray, List.set_cons_zero, List.set_cons_succ]
          go_simp
        · refine ⟨by simp, _, rfl, rfl, rfl, by kernel_rfl, fun V w hb hd => .inl ?_⟩
          have f := kt.below hb kt.lt
          have f0 := f.cell 1 rfl
          have f1 := f.cell 2 rfl
          have f2 := f.cell 3 rfl
          simp only [canon, List.foldl_cons, List.foldl_nil, List.setIfInBounds_toArray, List.set_cons_zero, List.set_cons_succ]
          go_simp
        · refine ⟨by simp, _, rfl, rfl, rfl, by kernel_rfl, fun V w hb hd => .inr ⟨46, #[.agg #[.int .i64 n1, .int .i64 n2, .int .i64 n3], .agg #[.int .i64 l[k].a, .int .i64 l[k].b, .int .i64 l[k].c]], ?_, CR.out w⟩⟩
          have e2 : V 27 = _ := hd ⟨2, 27, .agg #[.int .i64 n1, .int .i64 n2, .int .i64 n3], []⟩ (by simp) (by simp)
          have e4 : V 29 = _ := hd ⟨4, 29, .agg #[.int .i64 l[k].a, .int .i64 l[k].b, .int .i64 l[k].c], []⟩ (by simp) (by simp)
          simp only [canon, List.foldl_cons, List.foldl_nil, List.setIfInBounds_toArray, List.set_cons_zero, List.set_cons_succ]
          go_simp
        · refine ⟨by simp, _, rfl, rfl, rfl, by kernel_rfl, fun V w hb hd => .inl ?_⟩
          have e1 : V 26 = _ := hd ⟨1, 26, .int .i64 cv, []⟩ (by simp) (by simp)
          have e5 : V 30 = _ := hd ⟨5, 30, .int .i64 r, [2, 4]⟩ (by simp) (by simp)
          have em : max cv r = if cv < r then r else cv := by rw [Int.max_def]; split <;> split <;> omega
          rw [em]
          simp only [canon, List.foldl_cons, List.foldl_nil, List.setIfInBounds_toArray, List.set_cons_zero, List.set_cons_succ]
          go_simp
        · refine ⟨by simp, _, rfl, rfl, rfl, by kernel_rfl, fun V w hb hd => .inl ?_⟩
          simp only [canon, List.foldl_cons, List.foldl_nil, List.setIfInBounds_toArray, List.set_cons_zero, List.set_cons_succ]
          go_simp
      case hs2 =>
        intro o ho
        cases ho
        refine ⟨rfl, rfl, by kernel_rfl, fun V w' hb hd => ?_⟩
        have e6 : V 31 = .int .i64 (max cv r) := hd ⟨6, 31, _, [1, 5]⟩ (by simp)
        have e7 : V 32 = .pointer (some ⟨g, 3, none⟩) := hd ⟨7, 32, _, []⟩ (by simp)
        have f := kp6.below hb kp6.lt
        have f3 := f.cell 3 rfl
        have r3 := f.fro 3
        have hne : g ≠ w.heap.size ∧ g ≠ w.heap.size + 1 ∧ g ≠ w.heap.size + 2 := by omega
        refine ⟨_, _, ?_, .inl rfl, trivial, (hb6.trans (hb.mono hb6.size)).setCell (p := ⟨g, 3, none⟩) (by simp; omega) _, (kx6.below hb kx6.lt).far (p := ⟨g, 3, none⟩) (fun e => hne.1 e.symm) _, (kn6.below hb kn6.lt).far (p := ⟨g, 3, none⟩) (fun e => hne.2.1 e.symm) _, (kr6.below hb kr6.lt).far (p := ⟨g, 3, none⟩) (fun e => hne.2.2 e.symm) _, f.set 3 _⟩
        simp only [canon, List.foldl_cons, List.foldl_nil, List.setIfInBounds_toArray, List.set_cons_zero, List.set_cons_succ]
        go_simp
      intro V w7 hV hrest ⟨hB7, kx7, kn7, kr7, kp7⟩
      simp only [canon, List.foldl_cons, List.foldl_nil, List.setIfInBounds_toArray, List.set_cons_zero, List.set_cons_succ]
      clear hHeld hV hrest kx6 kn6 kr6 kp6 kt hb6 kx kn kr kp hbw
      rw [← HMX.out] at kp7
      go_wp2
      go_roundw
      case rel => exact ⟨k + 1, by omega, by go_num, hB7, kx7, kn7, kr7, kp7⟩
      case measure => simp [intOf] <;> omega
    · obtain rfl : k = l.length := by omega
      have hirr : ¬ (l.length : Int) < (l.length : Int) := by omega
      rw [List.take_length] at kp
      have HE : Hid (topN ⟨n1, n2, n3⟩ l = topF ⟨n1, n2, n3⟩ r0 l) := by show _ = _; rw [HTZ.out, HR0.out]
      generalize topF ⟨n1, n2, n3⟩ r0 l = cv at *
      have HXE : Hid (n1 * x1 + n2 * x2 + n3 * x3 = xr) := HXR.out.symm
      go_upto_region 7 with fail
      refine wp_region_held_drew (S := fun V => (V.cell? ⟨w.heap.size, 0, none⟩ = some (.int .i64 x1) ∧ V.cell? ⟨w.heap.size, 1, none⟩ = some (.int .i64 x2) ∧ V.cell? ⟨w.heap.size, 2, none⟩ = some (.int .i64 x3)) ∧ ((V.cell? ⟨w.heap.size + 1, 0, none⟩ = some (.int .i64 n1) ∧ V.cell? ⟨w.heap.size + 1, 1, none⟩ = some (.int .i64 n2) ∧ V.cell? ⟨w.heap.size + 1, 2, none⟩ = some (.int .i64 n3)) ∧ (V.cell? ⟨g, 0, none⟩ = some (.int .i64 n1) ∧ V.cell? ⟨g, 1, none⟩ = some (.int .i64 n2) ∧ V.cell? ⟨g, 2, none⟩ = some (.int .i64 n3) ∧ V.cell? ⟨g, 3, none⟩ = some (.int .i64 cv)))) (by kernel_rfl) ?_ (fun hHeld => ?_)
      · exact ⟨⟨kx.cell 0 rfl, kx.cell 1 rfl, kx.cell 2 rfl⟩, ⟨kn.cell 0 rfl, kn.cell 1 rfl, kn.cell 2 rfl⟩, kp.cell 0 rfl, kp.cell 1 rfl, kp.cell 2 rfl, kp.cell 3 rfl⟩
      replace hbw := hbw.drew
      replace kx := kx.drew
      replace kn := kn.drew
      replace kr := kr.drew
      replace kp := kp.drew
      generalize wr.drew = w8 at *
      refine tk 0 34 ?_
      refine tk 1 35 ?_
      refine tk 2 36 ?_
      refine tk 4 38 ?_
      refine tk 5 39 ?_
      (refine held_call 3 (some 37) 46 _ rfl (by kernel_rfl) (by rfl) ?_ ((CXR.out _)) ?_; rotate_left; rotate_left; (simp only [List.getElem?_toArray, List.getElem?_cons_zero, List.getElem?_cons_succ, Option.map_some]; refine congrArg some ?_; go_simp))
      rintro e w9 ⟨rfl, hb9⟩
      replace kx := kx.below hb9 kx.lt
      replace kn := kn.below hb9 kn.lt
      replace kr := kr.below hb9 kr.lt
      replace kp := kp.below hb9 kp.lt
      replace hbw := hbw.trans (hb9.mono hbw.size)
      refine ⟨_, rfl, ⟨⟨kx.cell 0 rfl, kx.cell 1 rfl, kx.cell 2 rfl⟩, ⟨kn.cell 0 rfl, kn.cell 1 rfl, kn.cell 2 rfl⟩, kp.cell 0 rfl, kp.cell 1 rfl, kp.cell 2 rfl, kp.cell 3 rfl⟩, fun hHeld => ?_⟩
      (try simp only [Act.put, List.setIfInBounds_toArray, List.set_cons_zero, List.set_cons_succ])
      refine tk 6 40 ?_
      have z0 := kr.cell 0 rfl
      have z1 := kr.cell 1 rfl
      have z2 := kr.cell 2 rfl
      have z3 := kr.cell 3 rfl
      have f0 := kr.fro 0
      have f1 := kr.fro 1
      have f2 := kr.fro 2
      have f3 := kr.fro 3
      refine held_one 7 ⟨none, .store 51 (.tmp 6) (.tmp 34), _, _, _, none⟩ rfl (by kernel_rfl) (by rfl) ?_
      unfold Oper.wp
      go_simp
      have hb10 := (((hbw.setCell (p := ⟨w.heap.size + 2, 0, none⟩) (by simp) (.int .i64 n1)).setCell (p := ⟨w.heap.size + 2, 1, none⟩) (by simp) (.int .i64 n2)).setCell (p := ⟨w.heap.size + 2, 2, none⟩) (by simp) (.int .i64 n3)).setCell (p := ⟨w.heap.size + 2, 3, none⟩) (by simp) (.int .i64 cv)
      have kr10 := (((kr.set 0 (.int .i64 n1)).set 1 (.int .i64 n2)).set 2 (.int .i64 n3)).set 3 (.int .i64 cv)
      have far4 : ∀ {b t : Nat} {cs : Array Value} (_ : b ≠ w.heap.size + 2), Bk w9 b t cs → Bk ((((w9.setCell ⟨w.heap.size + 2, 0, none⟩ (.int .i64 n1)).setCell ⟨w.heap.size + 2, 1, none⟩ (.int .i64 n2)).setCell ⟨w.heap.size + 2, 2, none⟩ (.int .i64 n3)).setCell ⟨w.heap.size + 2, 3, none⟩ (.int .i64 cv)) b t cs := fun hne h => (((h.far (p := ⟨w.heap.size + 2, 0, none⟩) hne _).far (p := ⟨w.heap.size + 2, 1, none⟩) hne _).far (p := ⟨w.heap.size + 2, 2, none⟩) hne _).far (p := ⟨w.heap.size + 2, 3, none⟩) hne _
      have kx10 := far4 (by omega) kx
      have kn10 := far4 (by omega) kn
      have kp10 := far4 (by omega) kp
      clear far4
      simp only [Nat.add_assoc, Nat.reduceAdd] at kx10 kn10 kp10 hb10 kr10 ⊢
      generalize World.setCell _ _ _ = w10 at *
      clear hHeld
      have hHeld := And.intro (And.intro (kx10.cell 0 rfl) (And.intro (kx10.cell 1 rfl) (kx10.cell 2 rfl))) (And.intro (And.intro (kn10.cell 0 rfl) (And.intro (kn10.cell 1 rfl) (kn10.cell 2 rfl))) (And.intro (kp10.cell 0 rfl) (And.intro (kp10.cell 1 rfl) (And.intro (kp10.cell 2 rfl) (kp10.cell 3 rfl)))))
      (try simp only [Act.put, List.setIfInBounds_toArray, List.set_cons_zero, List.set_cons_succ])
      refine tk 8 7 ?_
      refine wpAnyH_done (by kernel_rfl) ?_ _
      clear hHeld z0 z1 z2 z3 f0 f1 f2 f3
      go_wp2
      have z0 := kr10.cell 0 rfl
      have z1 := kr10.cell 1 rfl
      have z2 := kr10.cell 2 rfl
      have z3 := kr10.cell 3 rfl
      refine bodyPost_ret (v := .tuple #[.agg #[.int .i64 n1, .int .i64 n2, .int .i64 n3, .int .i64 cv], .bool (decide (cv < xr))]) ?_ rfl ⟨by dsimp only; rw [HE.out, HXE.out], hb10⟩
      simp [results, Try.results56, go_sem, z0, z1, z2, z3]
end Go.Proofs.Ytkjceegmmhnajaa

namespace Go.Proofs.Ytkjceegmmhnajaa
open Go.RowKit LPX

def vV (v : Vc) : V := ⟨v.x, v.y, v.z⟩
theorem vV_inj {a b : Vc} : vV a = vV b ↔ a = b := by
  cases a; cases b; unfold vV; simp
theorem dot_pos {d : Vc} : 0 < d.dot d ↔ d.dot d ≠ 0 := by
  have h1 : 0 ≤ d.x * d.x := by rcases Int.le_total 0 d.x with h | h; exact Int.mul_nonneg h h; exact Int.mul_nonneg_of_nonpos_of_nonpos h h
  have h2 : 0 ≤ d.y * d.y := by rcases Int.le_total 0 d.y with h | h; exact Int.mul_nonneg h h; exact Int.mul_nonneg_of_nonpos_of_nonpos h h
  have h3 : 0 ≤ d.z * d.z := by rcases Int.le_total 0 d.z with h | h; exact Int.mul_nonneg h h; exact Int.mul_nonneg_of_nonpos_of_nonpos h h
  unfold Vc.dot
  omega
theorem dot_zero {n : Vc} : n.dot n = 0 ↔ n = ⟨0, 0, 0⟩ := by
  have sq : ∀ a : Int, 0 ≤ a * a ∧ (a * a = 0 → a = 0) := fun a => ⟨by rcases Int.le_total 0 a with h | h; exact Int.mul_nonneg h h; exact Int.mul_nonneg_of_nonpos_of_nonpos h h, fun h => by rcases Int.mul_eq_zero.1 h with h | h <;> exact h⟩
  constructor
  · intro h
    obtain ⟨a1, a2⟩ := sq n.x
    obtain ⟨b1, b2⟩ := sq n.y
    obtain ⟨c1, c2⟩ := sq n.z
    unfold Vc.dot at h
    have e1 := a2 (by omega)
    have e2 := b2 (by omega)
    have e3 := c2 (by omega)
    cases n; simp only at e1 e2 e3; rw [e1, e2, e3]
  · rintro rfl; rfl
theorem rpw_rwts : ∀ (ps : List Vc) (x : Vc), rpw ps x = rwts (ps.map vV) (vV x)
  | [], _ => rfl
  | [a], x => by
    simp only [rpw, List.map, rwts, vV_inj]
  | [a, b], x => by
    have e0 : ∀ u v : Vc, u.dot v = v.dot u := fun u v => by unfold Vc.dot; grind
    have e1 : (b.sub a).dot (x.sub a) = ((vV x).sub (vV a)).dot ((vV b).sub (vV a)) := e0 _ _
    have e2 : (b.sub a).dot (b.sub a) = ((vV b).sub (vV a)).dot ((vV b).sub (vV a)) := rfl
    simp only [rpw, List.map, rwts]
    split
    · rename_i h
      split
      · rw [e1, e2]
      · rename_i k; exact absurd ⟨dot_pos.1 h.1, (vV_inj (b := ⟨0, 0, 0⟩)).2 h.2⟩ k
    · rename_i h
      split
      · rename_i k; exact absurd ⟨dot_pos.2 k.1, (vV_inj (b := ⟨0, 0, 0⟩)).1 k.2⟩ h
      · rfl
  | [a, b, c], x => by
    have e0 : ∀ u v : Vc, u.dot v = v.dot u := fun u v => by unfold Vc.dot; grind
    have e1 : ((b.sub a).crs (c.sub a)).dot ((x.sub a).crs (c.sub a)) = (((vV x).sub (vV a)).crs ((vV c).sub (vV a))).dot (((vV b).sub (vV a)).crs ((vV c).sub (vV a))) := e0 _ _
    have e2 : ((b.sub a).crs (c.sub a)).dot ((b.sub a).crs (x.sub a)) = (((vV b).sub (vV a)).crs ((vV x).sub (vV a))).dot (((vV b).sub (vV a)).crs ((vV c).sub (vV a))) := e0 _ _
    have e3 : ((b.sub a).crs (c.sub a)).dot ((b.sub a).crs (c.sub a)) = (((vV b).sub (vV a)).crs ((vV c).sub (vV a))).dot (((vV b).sub (vV a)).crs ((vV c).sub (vV a))) := rfl
    have e4 : ((b.sub a).crs (c.sub a)).dot (x.sub a) = ((vV x).sub (vV a)).dot (((vV b).sub (vV a)).crs ((vV c).sub (vV a))) := e0 _ _
    simp only [rpw, List.map, rwts]
    split
    · rename_i h
      split
      · rw [e1, e2, e3]
      · rename_i k; exact absurd ⟨fun k2 => h.1 (dot_zero.1 k2), e4.symm.trans h.2⟩ k
    · rename_i h
      split
      · rename_i k; exact absurd ⟨fun k2 => k.1 (dot_zero.2 k2), e4.trans k.2⟩ h
      · rfl
  | [a, b, c, e], x => by
    have e1 : rwts (List.map vV [a, b, c, e]) (vV x) = (let u := x.sub a; let d := b.sub a; let f := c.sub a; let g := e.sub a; let y := (d.crs f).dot g
      if y = 0 then none else if y < 0 then some [-(y - (u.crs f).dot g - (d.crs u).dot g - (d.crs f).dot u), -(u.crs f).dot g, -(d.crs u).dot g, -(d.crs f).dot u]
        else some [y - (u.crs f).dot g - (d.crs u).dot g - (d.crs f).dot u, (u.crs f).dot g, (d.crs u).dot g, (d.crs f).dot u]) := rfl
    rw [e1]
    simp only [rpw]
    generalize ((b.sub a).crs (c.sub a)).dot (e.sub a) = y
    generalize ((x.sub a).crs (c.sub a)).dot (e.sub a) = p
    generalize ((b.sub a).crs (x.sub a)).dot (e.sub a) = q
    generalize ((b.sub a).crs (c.sub a)).dot (x.sub a) = r
    by_cases h0 : y = 0
    · subst h0; simp
    · by_cases h1 : y < 0
      · rw [if_pos h1, if_neg h0, if_pos h1]
        have : p + q + r - y = -(y - p - q - r) := by omega
        rw [this]
      · rw [if_neg h1, if_neg h0, if_neg h1, if_pos (by omega)]
  | _ :: _ :: _ :: _ :: _ :: _, _ => rfl

theorem tdiv_pos {v : Int} {g : Nat} (hg : 0 < g) (hd : g ∣ v.natAbs) : (v.tdiv g ≤ 0 ↔ v ≤ 0) := by
  obtain ⟨k, hk⟩ : ((g : Int)) ∣ v := Int.ofNat_dvd_left.2 hd
  have hg' : (0 : Int) < g := by omega
  subst hk
  rw [Int.mul_tdiv_cancel_left _ (by omega)]
  constructor
  · intro h
    exact Int.mul_nonpos_of_nonneg_of_nonpos (by omega) h
  · intro h
    rcases Int.lt_or_le 0 k with h1 | h1
    · have := Int.mul_pos hg' h1; omega
    · exact h1
theorem gcd_three {y x z : Int} : gcdL [y - x - z, x, z] = gcdL [x, y, z] := by
  unfold gcdL
  simp only [List.foldl_cons, List.foldl_nil, Nat.gcd_zero_left]
  apply Nat.dvd_antisymm
  · refine Nat.dvd_gcd (Nat.dvd_gcd ?_ ?_) ?_
    · exact Nat.dvd_trans (Nat.gcd_dvd_left _ _) (Nat.gcd_dvd_right _ _)
    · have h1 : (((Nat.gcd (Nat.gcd (y - x - z).natAbs x.natAbs) z.natAbs : Nat) : Int)) ∣ y - x - z := Int.ofNat_dvd_left.2 (Nat.dvd_trans (Nat.gcd_dvd_left _ _) (Nat.gcd_dvd_left _ _))
      have h2 : (((Nat.gcd (Nat.gcd (y - x - z).natAbs x.natAbs) z.natAbs : Nat) : Int)) ∣ x := Int.ofNat_dvd_left.2 (Nat.dvd_trans (Nat.gcd_dvd_left _ _) (Nat.gcd_dvd_right _ _))
      have h3 : (((Nat.gcd (Nat.gcd (y - x - z).natAbs x.natAbs) z.natAbs : Nat) : Int)) ∣ z := Int.ofNat_dvd_left.2 (Nat.gcd_dvd_right _ _)
      refine Int.ofNat_dvd_left.1 ?_
      have := Int.dvd_add (Int.dvd_add h1 h2) h3
      rw [show y - x - z + x + z = y by omega] at this
      exact this
    · exact Nat.gcd_dvd_right _ _
  · refine Nat.dvd_gcd (Nat.dvd_gcd ?_ ?_) ?_
    · have h1 : (((Nat.gcd (Nat.gcd x.natAbs y.natAbs) z.natAbs : Nat) : Int)) ∣ y := Int.ofNat_dvd_left.2 (Nat.dvd_trans (Nat.gcd_dvd_left _ _) (Nat.gcd_dvd_right _ _))
      have h2 : (((Nat.gcd (Nat.gcd x.natAbs y.natAbs) z.natAbs : Nat) : Int)) ∣ x := Int.ofNat_dvd_left.2 (Nat.dvd_trans (Nat.gcd_dvd_left _ _) (Nat.gcd_dvd_left _ _))
      have h3 : (((Nat.gcd (Nat.gcd x.natAbs y.natAbs) z.natAbs : Nat) : Int)) ∣ z := Int.ofNat_dvd_left.2 (Nat.gcd_dvd_right _ _)
      refine Int.ofNat_dvd_left.1 ?_
      exact Int.dvd_sub (Int.dvd_sub h1 h2) h3
    · exact Nat.dvd_trans (Nat.gcd_dvd_left _ _) (Nat.gcd_dvd_left _ _)
    · exact Nat.gcd_dvd_right _ _
theorem gcd_div {a b c : Int} {g : Nat} (hg : 0 < g) (h : gcdL [a, b, c] = g) : gcdL [a.tdiv g, b.tdiv g, c.tdiv g] = 1 := by
  unfold gcdL at *
  simp only [List.foldl_cons, List.foldl_nil, Nat.gcd_zero_left] at *
  have da : g ∣ a.natAbs := by rw [← h]; exact Nat.dvd_trans (Nat.gcd_dvd_left _ _) (Nat.gcd_dvd_left _ _)
  have db : g ∣ b.natAbs := by rw [← h]; exact Nat.dvd_trans (Nat.gcd_dvd_left _ _) (Nat.gcd_dvd_right _ _)
  have dc : g ∣ c.natAbs := by rw [← h]; exact Nat.gcd_dvd_right _ _
  have e : ∀ v : Int, (v.tdiv g).natAbs = v.natAbs / g := fun v => by rw [Int.natAbs_tdiv]; simp; rfl
  rw [e, e, e]
  rw [Nat.gcd_div da db, Nat.gcd_div (Nat.dvd_gcd da db) dc, h, Nat.div_self hg]
theorem recipes_same (L : List Int) : ∀ (ps : List Vc) (x : Vc), resOf L (pwts ps x) = resOf L (rpw ps x)
  | [], _ => rfl
  | [a], x => by simp only [pwts, rpw]
  | [a, b], x => by
    simp only [pwts, rpw]
    generalize hu : x.sub a = u
    generalize hd : b.sub a = d
    have e1 : u.dot d = d.dot u := by unfold Vc.dot; grind
    by_cases h0 : d.dot d = 0
    · rw [if_neg (fun h => h.1 h0), if_neg (fun h => by have := h.1; omega)]
    · have hiff : u.mul (d.dot d) = d.mul (u.dot d) ↔ d.crs u = ⟨0, 0, 0⟩ := by
        constructor
        · intro h
          have c1 : u.x * d.dot d = d.x * u.dot d := congrArg Vc.x h
          have c2 : u.y * d.dot d = d.y * u.dot d := congrArg Vc.y h
          have c3 : u.z * d.dot d = d.z * u.dot d := congrArg Vc.z h
          have f1 : d.dot d * (d.y * u.z - d.z * u.y) = 0 := by
            have : d.dot d * (d.y * u.z - d.z * u.y) = d.y * (u.z * d.dot d) - d.z * (u.y * d.dot d) := by grind
            rw [this, c3, c2]; grind
          have f2 : d.dot d * (d.z * u.x - d.x * u.z) = 0 := by
            have : d.dot d * (d.z * u.x - d.x * u.z) = d.z * (u.x * d.dot d) - d.x * (u.z * d.dot d) := by grind
            rw [this, c1, c3]; grind
          have f3 : d.dot d * (d.x * u.y - d.y * u.x) = 0 := by
            have : d.dot d * (d.x * u.y - d.y * u.x) = d.x * (u.y * d.dot d) - d.y * (u.x * d.dot d) := by grind
            rw [this, c2, c1]; grind
          have g1 := (Int.mul_eq_zero.1 f1).resolve_left h0
          have g2 := (Int.mul_eq_zero.1 f2).resolve_left h0
          have g3 := (Int.mul_eq_zero.1 f3).resolve_left h0
          unfold Vc.crs
          rw [g1, g2, g3]
        · intro h
          have g1 : d.y * u.z - d.z * u.y = 0 := congrArg Vc.x h
          have g2 : d.z * u.x - d.x * u.z = 0 := congrArg Vc.y h
          have g3 : d.x * u.y - d.y * u.x = 0 := congrArg Vc.z h
          have i1 : u.x * d.dot d = d.x * u.dot d + d.z * (d.z * u.x - d.x * u.z) - d.y * (d.x * u.y - d.y * u.x) := by unfold Vc.dot; grind
          have i2 : u.y * d.dot d = d.y * u.dot d + d.x * (d.x * u.y - d.y * u.x) - d.z * (d.y * u.z - d.z * u.y) := by unfold Vc.dot; grind
          have i3 : u.z * d.dot d = d.z * u.dot d + d.y * (d.y * u.z - d.z * u.y) - d.x * (d.z * u.x - d.x * u.z) := by unfold Vc.dot; grind
          unfold Vc.mul
          rw [i1, i2, i3, g1, g2, g3]
          simp
      by_cases hc : d.crs u = ⟨0, 0, 0⟩
      · rw [if_pos ⟨h0, hiff.2 hc⟩, if_pos ⟨dot_pos.2 h0, hc⟩, e1]
      · rw [if_neg (fun h => hc (hiff.1 h.2)), if_neg (fun h => hc h.2)]
  | [a, b, c], x => by
    simp only [pwts, rpw]
    generalize hu : x.sub a = u
    generalize hd : b.sub a = d
    generalize hf : c.sub a = f
    have e1 : ∀ u v : Vc, u.dot v = v.dot u := fun u v => by unfold Vc.dot; grind
    rw [e1 u (d.crs f), e1 (d.crs f) (u.crs f), e1 (d.crs f) (d.crs u)]
    by_cases h0 : (d.crs f).dot (d.crs f) = 0
    · rw [if_pos (.inl h0), if_neg (fun h => h.1 (dot_zero.1 h0))]
    · have hn : d.crs f ≠ ⟨0, 0, 0⟩ := fun h => h0 (dot_zero.2 h)
      by_cases h1 : (d.crs f).dot u = 0
      · rw [if_neg (fun h => h.elim h0 (fun k => k h1)), if_pos ⟨hn, h1⟩]
        generalize hy : (d.crs f).dot (d.crs f) = y at *
        generalize (u.crs f).dot (d.crs f) = p
        generalize (d.crs u).dot (d.crs f) = q
        have hg : 0 < gcdL [p, y, q] := by have := (gcd3_pos p y q h0).1; omega
        have hG := gcd_three (y := y) (x := p) (z := q)
        have hD := gcd_div hg hG
        have dv : ∀ v ∈ [y - p - q, p, q], gcdL [p, y, q] ∣ v.natAbs := fun v hv => by rw [← hG]; exact gcdL_dvd _ v hv
        have c1 := tdiv_pos hg (dv (y - p - q) (by simp))
        have c2 := tdiv_pos hg (dv p (by simp))
        have c3 := tdiv_pos hg (dv q (by simp))
        have hany : List.any [(y - p - q).tdiv (gcdL [p, y, q] : Nat), p.tdiv (gcdL [p, y, q] : Nat), q.tdiv (gcdL [p, y, q] : Nat)] notPos = List.any [y - p - q, p, q] notPos := by
          simp only [List.any_cons, List.any_nil, notPos, c1, c2, c3]
        simp only [resOf, hany]
        split
        · rfl
        · congr 1
          unfold mkParts
          rw [hD, hG]
          match L with
          | [] => rfl
          | [_] => simp
          | [_, _] => simp
          | _ :: _ :: _ :: _ => simp
      · rw [if_pos (.inr h1), if_neg (fun h => h1 h.2)]
  | [a, b, c, e], x => by
    simp only [pwts, rpw]
    generalize x.sub a = u
    generalize b.sub a = d
    generalize c.sub a = f
    generalize e.sub a = g
    generalize (d.crs f).dot g = y
    generalize (u.crs f).dot g = p
    generalize (d.crs u).dot g = q
    generalize (d.crs f).dot u = r
    by_cases h0 : y = 0
    · subst h0; simp
    · by_cases h1 : y < 0
      · rw [if_neg h0, if_pos h1, if_pos h1]
        have : -y - -p - -q - -r = p + q + r - y := by omega
        rw [this]
      · rw [if_neg h0, if_neg h1, if_neg h1, if_pos (by omega)]
  | _ :: _ :: _ :: _ :: _ :: _, _ => rfl
theorem rcp_same (l : List Tn) (x : Vc) (L : List Nat) : rcpF l x L = rrcpF l x L := recipes_same (natI L) (ptsOf l (natI L)) x
theorem all_same (l : List Tn) (x : Vc) : allR l x = rallR l x := by
  unfold allR rallR
  have : rcpF l x = rrcpF l x := funext fun L => rcp_same l x L
  rw [this]
/-- the tints as points -/
def ptV (l : List Tn) (i : Nat) : V := match l[i]? with | some t => ⟨t.a, t.b, t.c⟩ | none => ⟨0, 0, 0⟩
theorem pts_map (l : List Tn) (L : List Nat) : (ptsOf l (natI L)).map vV = L.map (ptV l) := by
  unfold ptsOf natI
  rw [List.map_map, List.map_map]
  refine List.map_congr_left fun i _ => ?_
  simp only [Function.comp, Int.toNat_natCast]
  unfold ptV
  cases l[i]? <;> rfl
theorem nrm_vV (ps : List Vc) (x : Vc) : nrm (ps.map vV) (vV x) = vV (nrmV ps x) := by
  match ps with
  | [] => rfl
  | [a] => rfl
  | [a, b] => rfl
  | [a, b, c] =>
    have e1 : nrm (List.map vV [a, b, c]) (vV x) = (if ((b.sub a).crs (c.sub a)).dot (x.sub a) < 0 then (vV ((b.sub a).crs (c.sub a))).mul (-1) else vV ((b.sub a).crs (c.sub a))) := rfl
    rw [e1]
    simp only [nrmV]
    split <;> rfl
  | _ :: _ :: _ :: _ :: _ => rfl
theorem rrcp_none {l : List Tn} {x : Vc} {L : List Nat} (h : rrcpF l x L = none) : recW (ptV l) (vV x) L = none := by
  cases hr : recW (ptV l) (vV x) L with
  | none => rfl
  | some ws =>
    obtain ⟨h1, h2⟩ := recW_iff.1 hr
    unfold rrcpF at h
    rw [rpw_rwts, pts_map, h1] at h
    simp only [resOf] at h
    split at h
    · rename_i ha
      obtain ⟨v, hv, hn⟩ := List.any_eq_true.1 ha
      have := h2 v hv
      unfold notPos at hn
      simp at hn; omega
    · cases h
theorem topF_le {n : Vc} {D : Int} : ∀ (l : List Tn) (c : Int), c < D → (∀ t ∈ l, nT n t < D) → topF n c l < D
  | [], _, h, _ => h
  | t :: l, c, h, ht => topF_le l (max c (nT n t)) (by have := ht t (by simp); omega) (fun u hu => ht u (by simp [hu]))
theorem topF_ge {n : Vc} : ∀ (l : List Tn) (c : Int), c ≤ topF n c l ∧ ∀ t ∈ l, nT n t ≤ topF n c l
  | [], _ => ⟨Int.le_refl _, fun _ h => by cases h⟩
  | t :: l, c => by
    obtain ⟨h1, h2⟩ := topF_ge l (max c (nT n t)) (n := n)
    change max c (nT n t) ≤ topF n c (t :: l) at h1
    refine ⟨by omega, fun u hu => ?_⟩
    rcases List.mem_cons.1 hu with rfl | hu
    · omega
    · exact h2 u hu
theorem topN_ge {n : Vc} {l : List Tn} {t : Tn} (h : t ∈ l) : nT n t ≤ topN n l := by
  cases l with
  | nil => cases h
  | cons u r => exact (topF_ge (u :: r) _).2 t h
end Go.Proofs.Ytkjceegmmhnajaa
