/- pigment.normals and its iterator. Printed by wip/gen_nf1.py. -/
import Derived.Test.YtkjceegmmhnajaaG08
import Derived.Test.YtkjceegmmhnajaaG10
import Derived.Test.YtkjceegmmhnajaaG20

set_option linter.unusedVariables false
set_option linter.unusedSimpArgs false

namespace Go.Proofs.Ytkjceegmmhnajaa
open Go.RowKit LPX
attribute [local go_sem] Oper.semAt_some choEnc

set_option maxHeartbeats 400000 in
theorem normals_any (A : Option Addr) (n c : Nat) (x y z : Int) (w : World) : Calls Try.prog 55 #[.slice A n c, .agg #[.int .i64 x, .int .i64 y, .int .i64 z]] w fun e w' => e = .returned (.func (.func 81) #[] #[.pointer (some ⟨w.heap.size, 0, none⟩), .pointer (some ⟨w.heap.size + 1, 0, none⟩)]) ∧ Bk w' w.heap.size 22 #[.slice A n c] ∧ Bk w' (w.heap.size + 1) 84 #[.int .i64 x, .int .i64 y, .int .i64 z] ∧ Below w.heap.size w w' ∧ w'.heap.size = w.heap.size + 2 := by
  have k1 : Bk ((w.alloc (.cells #[.slice A n c] 22)).alloc (.cells #[.int .i64 x, .int .i64 y, .int .i64 z] 84)) w.heap.size 22 #[.slice A n c] := (Bk.new _ _ _).alloc _
  have k2 : Bk ((w.alloc (.cells #[.slice A n c] 22)).alloc (.cells #[.int .i64 x, .int .i64 y, .int .i64 z] 84)) (w.heap.size + 1) 84 #[.int .i64 x, .int .i64 y, .int .i64 z] := by simpa using Bk.new (w.alloc (.cells #[.slice A n c] 22)) 84 #[.int .i64 x, .int .i64 y, .int .i64 z]
  have hb : Below w.heap.size w ((w.alloc (.cells #[.slice A n c] 22)).alloc (.cells #[.int .i64 x, .int .i64 y, .int .i64 z] 84)) := by exact (by repeat (first | with_reducible exact Below.refl _ _ | with_reducible assumption | with_reducible refine Below.drew ?_ | with_reducible refine below_drewN ?_ _ | (with_reducible refine Below.alloc ?_ ?_ _; rotate_left; (try simp) <;> omega) | (with_reducible refine Below.setCell ?_ ?_ _; rotate_left; (try simp) <;> omega)))
  have HE := Lib.hid (And.intro k1 (And.intro k2 (And.intro hb (show ((w.alloc (.cells #[.slice A n c] 22)).alloc (.cells #[.int .i64 x, .int .i64 y, .int .i64 z] 84)).heap.size = w.heap.size + 2 by simp))))
  clear k1 k2 hb
  go_enter Try.func55, Try.ntmps55
  go_wp2
  go_ret
  exact ⟨rfl, HE.out⟩

def nEnc (v : Vc) : Array Value := #[v.agg]
/-- the bounds of a normal -/
def nB (v : Vc) : Prop := vb 6000000000 v.x v.y v.z
theorem vb_mono {A B : Nat} {a b c : Int} (h : vb A a b c) (hA : A ≤ B) : vb B a b c := ⟨ab_mono h.1 hA, ab_mono h.2.1 hA, ab_mono h.2.2 hA⟩
/-- all normals, in order -/
def levN (l : List Tn) (x : Vc) (k : Nat) : List Vc := (levC l.length k).map (nrmL l x)
theorem levN_succ (l : List Tn) (x : Vc) {k : Nat} (h : 1 ≤ k) : levN l x (k + 1) = levN l x k ++ (chs l.length k 0).map (nrmL l x) := by
  unfold levN; rw [levC_succ _ h, List.map_append]
theorem levN_pre (l : List Tn) (x : Vc) {k : Nat} (h : 1 ≤ k) (h4 : k ≤ 3) : levN l x k ++ (chs l.length k 0).map (nrmL l x) <+: levN l x 4 := by
  rw [← levN_succ l x h]
  unfold levN
  obtain ⟨t, ht⟩ := levC_pre l.length (show 1 ≤ k + 1 by omega) 4 (by omega)
  rw [← ht, List.map_append]
  exact List.prefix_append _ _
theorem levN_len (l : List Tn) (x : Vc) {k : Nat} (h : 1 ≤ k) (h4 : k ≤ 3) : (levN l x k).length + (chs l.length k 0).length ≤ (levN l x 4).length := by
  have := (levN_pre l x h h4).length_le
  simpa using this

def upN (v : Value) (w : World) : Nat := match v with
  | .pointer (some p) => (match w.cell? p with | some u => 4 - (intOf u).toNat | none => 0)
  | _ => 0
theorem upN_at {w : World} {b : Nat} {e : Int} (h : w.cell? ⟨b, 0, none⟩ = some (.int .i64 e)) : upN (.pointer (some ⟨b, 0, none⟩)) w = 4 - e.toNat := by
  unfold upN; dsimp only; rw [h]; rfl

set_option maxRecDepth 100000 in
set_option maxHeartbeats 4000000 in
theorem normals_seq (m : Nat) (own : Nat → Prop) (bt bw : Nat) (l : List Tn) (At : Option Addr) (ct : Nat) (x y z : Int) (w : World) (hown : ∀ g, own g → g < w.heap.size) (h1 : ¬ own bt) (h2 : ¬ own bw) (hoA : ∀ ad, At = some ad → ¬ own ad.block)
    (hbt : w.cell? ⟨bt, 0, none⟩ = some (.slice At l.length ct)) (hbw : Bk w bw 84 #[.int .i64 x, .int .i64 y, .int .i64 z]) (hlt_ : Lies w w.heap.size At (tintsC l)) (hm2 : l.length ≤ 1000) (hsh : ∀ t ∈ l, shIn t.a t.b t.c) (hx : shIn x y z) :
    SeqP Fence.wide m Try.prog 81 #[.pointer (some ⟨bt, 0, none⟩), .pointer (some ⟨bw, 0, none⟩)] nEnc (fun v _ => nB v) (KpC own) (fun xs => xs = levN l ⟨x, y, z⟩ 4) (fun pre => pre <+: levN l ⟨x, y, z⟩ 4) (levN l ⟨x, y, z⟩ 4).length w := by
  intro lb J Jx W hlW hW hJ hJx hY h0
  have hz := hW.size
  have kY : Bk (W.alloc (.cells #[.func (.yield lb) #[] #[]] 117)) W.heap.size 117 #[.func (.yield lb) #[] #[]] := Bk.new _ _ _
  have hb0 : Below W.heap.size W (W.alloc (.cells #[.func (.yield lb) #[] #[]] 117)) := (Below.refl _ W).alloc (Nat.le_refl _) _
  refine callsIn_of_wp_marks Try.func81 rfl trivial ?_ rfl
  simp only [Try.ntmps81, List.size_toArray, List.length_cons, List.length_nil, Nat.reduceAdd, Nat.reduceSub, Array.replicate_succ, Array.replicate_zero, List.push_toArray, List.append_toArray, List.nil_append, List.cons_append]
  refine wpIn_wide.2 ?_
  go_wp2
  refine wp_loop (fun a' wr => ∃ (k bm : Nat) (xs : List Vc) (Ds : List Nat) (u10 u11 u12 u13 u14 u15 u16 u17 u83 : Value), (1 ≤ k ∧ k ≤ 4 ∧ W.heap.size + 1 ≤ bm ∧ Bk wr bm 3 #[.int .i64 (k : Int)] ∧ Hid (xs = levN l ⟨x, y, z⟩ k) ∧ Hid (J xs wr) ∧ KpC own (W.alloc (.cells #[.func (.yield lb) #[] #[]] 117)) wr ∧ Marks (W.heap.size + 1) Ds wr) ∧ a' = { tmps := List.toArray ((.func (.yield lb) #[] #[] : Value) :: .pointer (some ⟨bt, 0, none⟩) :: .pointer (some ⟨bw, 0, none⟩) :: .pointer (some ⟨W.heap.size, 0, none⟩) :: .pointer (some ⟨bm, 0, none⟩) :: undef :: undef :: undef :: undef :: undef :: u10 :: u11 :: u12 :: u13 :: u14 :: u15 :: u16 :: u17 :: undef :: undef :: undef :: undef :: undef :: undef :: undef :: undef :: undef :: undef :: undef :: undef :: undef :: undef :: undef :: undef :: undef :: undef :: undef :: undef :: undef :: undef :: undef :: undef :: undef :: undef :: undef :: undef :: undef :: undef :: undef :: undef :: undef :: undef :: undef :: undef :: undef :: undef :: undef :: undef :: undef :: undef :: undef :: undef :: undef :: undef :: undef :: undef :: undef :: undef :: undef :: undef :: undef :: undef :: undef :: undef :: undef :: undef :: undef :: undef :: undef :: undef :: undef :: undef :: undef :: u83 :: []), defers := marks Ds }) (fun a' w' => upN (a'.tmps.getD 4 undef) w') ?_ ?_
  · refine ⟨1, W.heap.size + 1, [], [], undef, undef, undef, undef, undef, undef, undef, undef, undef, ⟨by omega, by omega, by omega, by simpa using Bk.new (W.alloc (.cells #[.func (.yield lb) #[] #[]] 117)) 3 #[.int .i64 1], ?_, ?_, ?_, Marks.nil _ _⟩, rfl⟩
    · show _ = _; rfl
    · exact hJ _ _ _ none h0 (grown_below (hb0.alloc (by simp) _)) (fun r e => by cases e)
    · exact KpC.of_below ((Below.refl _ _).alloc (Nat.le_refl _) _)
  rintro _ wr ⟨k, bm, xs, Ds, u10, u11, u12, u13, u14, u15, u16, u17, u83, ⟨hk1, hk5, hbmW, hkb, HX, HJr, hkp, hM⟩, rfl⟩
  have kp0 : KpC own w wr := (KpC.of_below hW).trans ((KpC.of_below hb0).trans hkp)
  have hoY : ¬ own W.heap.size := fun h => by have := hown _ h; omega
  have hoM : ¬ own bm := fun h => by have := hown _ h; omega
  have ck := hkb.cell 0 rfl
  by_cases hlt : k ≤ 3
  · have hkI : (k : Int) ≤ 3 := by omega
    have c1 := kp0.cell hbt h1
    have HLEN : Hid (xs.length + (chs l.length k 0).length ≤ (levN l ⟨x, y, z⟩ 4).length) := by
      show _ ≤ _
      have := levN_len l ⟨x, y, z⟩ hk1 hlt
      rw [← HX.out] at this
      exact this
    have HPR := Lib.hid (levN_pre l ⟨x, y, z⟩ hk1 hlt)
    have HSU := Lib.hid (levN_succ l ⟨x, y, z⟩ hk1)
    have HBT := Lib.hid hbt
    have HBW := Lib.hid hbw
    have HHJ := Lib.hid hJ
    have HHX := Lib.hid hJx
    have HY := Lib.hid hY
    have HLT := Lib.hid hlt_
    clear hbt hbw hlt_ hJ hJx hY h0 kY
    go_wp2_with (go_at_call 39; refine (choices_any l.length k wr).mono ?_; rintro e w2 ⟨rfl, hm_, hn_, hb2, hz2⟩)
    have hz0 := kp0.size
    have hzW := hkp.size
    simp at hzW
    have hB2 := KpC.of_below (own := own) hb2
    have kp2 := kp0.trans hB2
    have hkp2 := hkp.trans hB2
    have hM2 := hM.below_ hb2
    have hM2l : ∀ E ∈ Ds, E < w2.heap.size := fun E hE => hM2.lt hE
    have hkb2 := hkb.below hb2 hkb.lt
    refine (wpIn_wide (n := m + 2)).1 ?_
    refine rangeFunc_pre (n := m + 2) rfl (by omega) (gf := 72) (lb := #[.pointer (some ⟨wr.heap.size + 1, 0, none⟩), .pointer (some ⟨wr.heap.size, 0, none⟩)]) rfl trivial (enters_of Try.func72 (by kernel_rfl) rfl)
      (encs := choEnc) (Pre := fun x W => x.At W ∧ x.L ∈ chs l.length k 0) (Kp := KpC own) (S := fun xs => xs.map El.L = chs l.length k 0) (Sp := fun pre => pre.map El.L <+: chs l.length k 0) (N := (chs l.length k 0).length) (w0 := w2) ?seq (fun h k => h.trans k) (fun W l o o' _ h1 h2 _ => KpC.putObj o' h1 h2) (Below.refl _ _) (fun _ => rfl)
      (fun pre W' => J (xs ++ (pre.map El.L).map (nrmL l ⟨x, y, z⟩)) W' ∧ KpC own w2 W' ∧ Marks (W.heap.size + 1) Ds W')
      (fun c pre W' => c = .ret ∧ Jx (xs ++ (pre.map El.L).map (nrmL l ⟨x, y, z⟩)) W' ∧ Marks (W.heap.size + 1) Ds W') ?own ?ownx ?pre ?start
      (fun e => { tmps := List.toArray ((.func (.yield lb) #[] #[] : Value) :: .pointer (some ⟨bt, 0, none⟩) :: .pointer (some ⟨bw, 0, none⟩) :: .pointer (some ⟨W.heap.size, 0, none⟩) :: .pointer (some ⟨bm, 0, none⟩) :: e.v :: undef :: undef :: undef :: undef :: .int .i64 (k : Int) :: .bool true :: u12 :: u13 :: .slice At l.length ct :: .int .i64 (l.length : Int) :: .int .i64 (k : Int) :: choFn (wr.heap.size + 1) wr.heap.size :: e.v :: undef :: undef :: undef :: undef :: undef :: undef :: undef :: undef :: undef :: undef :: undef :: undef :: undef :: undef :: undef :: undef :: undef :: undef :: undef :: undef :: undef :: undef :: undef :: undef :: undef :: undef :: undef :: undef :: undef :: undef :: undef :: undef :: undef :: undef :: undef :: undef :: undef :: undef :: undef :: undef :: undef :: undef :: undef :: undef :: undef :: undef :: undef :: undef :: undef :: undef :: undef :: undef :: undef :: undef :: undef :: undef :: undef :: undef :: undef :: undef :: undef :: undef :: undef :: undef :: u83 :: []), defers := [] }) ?assign ?body ?done ?stop
    case seq => exact choices_seq (m + 1) own (wr.heap.size + 1) wr.heap.size k l.length hm2 (by omega) w2 (fun g h => by have := hown g h; omega) (fun h => by have := hown _ h; omega) (fun h => by have := hown _ h; omega) hm_ hn_
    case own =>
      rintro pre A B row ⟨h2, h3, h4⟩ hg hr
      exact ⟨HHJ.out _ _ _ _ h2 hg (fun r e => ⟨by have := (hr r e).1; omega, (hr r e).2⟩), h3.trans (KpC.of_grown hg (fun r e => (hr r e).2)), h4.grown hg (fun r e hm => by have := (hr r e).1; have := hM2l r hm; omega)⟩
    case ownx =>
      rintro c pre A B row ⟨h0, h2, h4⟩ hg hr
      exact ⟨h0, HHX.out _ _ _ _ h2 hg (fun r e => ⟨by have := (hr r e).1; omega, (hr r e).2⟩), h4.grown hg (fun r e hm => by have := (hr r e).1; have := hM2l r hm; omega)⟩
    case pre =>
      rintro e A B row ⟨h1, h2⟩ hg hr
      exact ⟨h1.kp (KpC.of_grown hg (fun r e => (hr r e).2)), h2⟩
    case start => exact ⟨by simpa using HHJ.out _ _ _ none HJr.out (grown_below hb2) (fun r e => by cases e), KpC.refl _, hM2⟩
    case assign =>
      intro lb x W K hK
      gi_wp2
      exact hK
    case body =>
      rintro lb' pre e W' ⟨h2, h3, h4⟩ ⟨hat, hmem⟩ hlen
      have kpW := kp2.trans h3
      have d1 := kpW.cell HBT.out ‹¬ own bt›
      have d2 := kpW.bk HBW.out ‹¬ own bw›
      have kY2 := (hkp2.trans h3).bk (Bk.new W 117 #[.func (.yield lb) #[] #[]]) hoY
      have hkb3 := h3.bk hkb2 hoM
      have hlW := (kpW.lies HLT.out hoA)
      obtain ⟨m1, _, m3⟩ := (mem_chs _ _ _ _).1 hmem
      rcases (show k = 1 ∨ k = 2 ∨ k = 3 by omega) with rfl | rfl | rfl
      · obtain ⟨i0, hL⟩ : ∃ i0, e.L = [i0] := by
          match e.L, m1 with
          | [i], _ => exact ⟨i, rfl⟩
        obtain ⟨ae, hA, hab, q0, _⟩ := el_at hat hL
        have hi0 : i0 < l.length := (m3 i0 (by rw [hL]; simp)).2
        obtain ⟨at0, hAt, hatb, p0, p1, p2⟩ := tint_vec hlW hi0
        have hv : e.v = .slice (some ae) 1 e.c := by unfold El.v; rw [hA, hL]; rfl
        rw [hv]
        obtain ⟨u1, u2, u3, HU, bU, CU⟩ := pmin (tin_vb hsh (x := ⟨x, y, z⟩) hx hi0) (by omega)
        clear hkb2 ck
        subst hAt
        gi_wp2
        refine wpIn_region_round (S := fun V => V.cell? ⟨bt, 0, none⟩ = some (.slice (some at0) l.length ct) ∧ (V.cell? ae = some (.int .i64 (i0 : Int)) ∧ (V.cell? ⟨(at0.add (i0 * 5)).block, (at0.add (i0 * 5)).off + 1, none⟩ = some (.int .i64 l[i0].a) ∧ V.cell? ⟨(at0.add (i0 * 5)).block, (at0.add (i0 * 5)).off + 2, none⟩ = some (.int .i64 l[i0].b) ∧ V.cell? ⟨(at0.add (i0 * 5)).block, (at0.add (i0 * 5)).off + 3, none⟩ = some (.int .i64 l[i0].c)))) (by kernel_rfl) (by kernel_rfl) (fun ⟨_, _, h⟩ => h) ?_ (fun hHeld => ?_)
        · exact ⟨d1, q0, p0, p1, p2⟩
        have hi0I : (i0 : Int) < (l.length : Int) := by omega
        have hi00 : 0 ≤ (i0 : Int) := by omega
        refine tk 0 19 ?_
        refine tk 1 20 ?_
        refine tk 2 21 ?_
        refine tk 3 22 ?_
        refine tk 4 23 ?_
        refine tk 5 24 ?_
        refine tk 6 25 ?_
        refine new_laid (Z := zero3) (R := #[.int .i64 l[i0].a, .int .i64 l[i0].b, .int .i64 l[i0].c]) (ty := 84) 7 8 6 ⟨_, rfl, rfl, rfl, ?al⟩ ⟨_, rfl, rfl, rfl, ?st⟩ (by kernel_rfl) (by kernel_rfl) (by kernel_rfl) ?hS ?hK
        case al => exact fun a w => by go_simp; rfl
        case st =>
          intro w g hg
          have t0 := hg.cell 0 rfl
          have t1 := hg.cell 1 rfl
          have t2 := hg.cell 2 rfl
          have r0 := hg.fro 0
          have r1 := hg.fro 1
          have r2 := hg.fro 2
          refine ⟨_, ?_, (((hg.set 0 _).set 1 _).set 2 _), fun B v hB hb => ((hb.setCell (p := ⟨g, 0, none⟩) hB _).setCell (p := ⟨g, 1, none⟩) hB _).setCell (p := ⟨g, 2, none⟩) hB _⟩
          simp only [List.setIfInBounds_toArray, List.set_cons_zero, List.set_cons_succ]
          go_simp
        case hS =>
          intro V hV
          have hV' : Below W'.heap.size W' V := (Below.drew (Below.refl _ _)).trans hV
          exact ⟨(hV'.cell (cell_lt d1)).trans d1, (hV'.cell (cell_lt q0)).trans q0, (hV'.cell (cell_lt p0)).trans p0, (hV'.cell (cell_lt p1)).trans p1, (hV'.cell (cell_lt p2)).trans p2⟩
        intro g6 w6 hb6 hg6 k6
        (try simp only [Act.put, List.setIfInBounds_toArray, List.set_cons_zero, List.set_cons_succ])
        have hb6' : Below W'.heap.size W' w6 := (Below.drew (Below.refl _ _)).trans hb6
        clear hHeld hb6
        have hz6 := hb6'.size
        have a0 := k6.cell 0 rfl
        have a1 := k6.cell 1 rfl
        have a2 := k6.cell 2 rfl
        have d26 := d2.below hb6' d2.lt
        have b0 := d26.cell 0 rfl
        have b1 := d26.cell 1 rfl
        have b2 := d26.cell 2 rfl
        have d36 := hkb3.below hb6' hkb3.lt
        have ck6 := d36.cell 0 rfl
        gi_wp2
        refine ⟨trivial, fun h => (by cases h), ?_⟩
        refine CallsIn.mono (callsIn_round (CU.out _)) ?_
        rintro ee w7 ⟨rfl, hb7⟩
        have hB7 := hb6'.trans (hb7.mono hz6)
        have hz7 := hB7.size
        clear a0 a1 a2 b0 b1 b2 ck6
        have d37 := d36.below hb7 d36.lt
        have ck7 := d37.cell 0 rfl
        have l37 := d37.lt
        have kY7 := kY2.below hB7 kY2.lt
        have yY7 := kY7.cell 0 rfl
        have lY7 := kY7.lt
        have HN := Lib.hid (nrm_one (x := ⟨x, y, z⟩) hi0 HU.out)
        have HLL := Lib.hid hL
        have hBY : Below W'.heap.size W' ((w7.alloc (.cells #[.int .i64 u1, .int .i64 u2, .int .i64 u3] 84)).alloc (.cells #[.int .i64 u1, .int .i64 u2, .int .i64 u3] 84)) := by exact (by repeat (first | with_reducible exact Below.refl _ _ | with_reducible assumption | with_reducible refine Below.drew ?_ | with_reducible refine below_drewN ?_ _ | (with_reducible refine Below.alloc ?_ ?_ _; rotate_left; (try simp) <;> omega) | (with_reducible refine Below.setCell ?_ ?_ _; rotate_left; (try simp) <;> omega)))
        have HBY := Lib.hid hBY
        have hjY := HHJ.out _ _ _ none h2 (grown_below hBY) (fun r e => by cases e)
        have HKY := Lib.hid (h3.trans (KpC.of_below (own := own) hBY))
        have HMY := Lib.hid (h4.below_ hBY)
        have hpl : (xs ++ (pre.map El.L).map (nrmL l ⟨x, y, z⟩)).length < (levN l ⟨x, y, z⟩ 4).length := by have := HLEN.out; simp; omega
        obtain ⟨fn, tmps, assign, body, hy, hR⟩ := HY.out (xs ++ (pre.map El.L).map (nrmL l ⟨x, y, z⟩)) ⟨u1, u2, u3⟩ _ hjY (show nB _ from vb_mono bU (by omega)) hpl
        have hy : (Instr.yield lb #[.agg #[.int .i64 u1, .int .i64 u2, .int .i64 u3]]).run Try.prog _ = .ok (.round lb fn tmps assign body) _ := hy
        have HRR := Lib.hid hR
        have HAP : Hid ((xs ++ (pre.map El.L).map (nrmL l ⟨x, y, z⟩)) ++ [⟨u1, u2, u3⟩] = xs ++ ((pre ++ [e]).map El.L).map (nrmL l ⟨x, y, z⟩)) := by
          show _ = _
          rw [List.map_append, List.map_append, ← List.append_assoc]
          congr 1
          show _ = [nrmL l ⟨x, y, z⟩ e.L]
          rw [HLL.out, HN.out]
        clear hR hjY hBY hpl
        gi_wp2
        refine ⟨fun h => (by cases h), RoundIn.mono (show RoundIn (Fence.wide.inRound lb') _ _ _ _ _ _ _ _ _ from HRR.out) ?_⟩
        rintro e8 w8 (⟨rfl, hj8, hk8, hf8⟩ | ⟨rfl, hx8, hk8, hf8⟩)
        · rw [HAP.out] at hj8
          gi_wp2
          exact ⟨(keeps_below HBY.out).trans (keeps_up hf8 (by omega)), (KpC.of_below HBY.out).trans hk8, hj8, HKY.out.trans hk8, HMY.out.from_ hf8 (by omega)⟩
        · rw [HAP.out] at hx8
          gi_wp2
          exact ⟨(keeps_below HBY.out).trans (keeps_up hf8 (by omega)), (KpC.of_below HBY.out).trans hk8, rfl, hx8, HMY.out.from_ hf8 (by omega)⟩
      · obtain ⟨i0, i1, hL⟩ : ∃ i0 i1, e.L = [i0, i1] := by
          match e.L, m1 with
          | [j0, j1], _ => exact ⟨j0, j1, rfl⟩
        obtain ⟨ae, hA, hab, q0, qs⟩ := el_at hat hL
        have hi0 : i0 < l.length := (m3 i0 (by rw [hL]; simp)).2
        have hi1 : i1 < l.length := (m3 i1 (by rw [hL]; simp)).2
        obtain ⟨at0, hAt, hatb, p0, p1, p2⟩ := tint_vec hlW hi0
        obtain ⟨_, hAt1, _, p10, p11, p12⟩ := tint_vec hlW hi1
        rw [hAt] at hAt1; cases hAt1
        have q1 := qs 0 i1 rfl
        have hv : e.v = .slice (some ae) 2 e.c := by unfold El.v; rw [hA, hL]; rfl
        rw [hv]
        obtain ⟨u1, u2, u3, HU, bU, CU⟩ := pmin (tin_vb hsh (x := ⟨x, y, z⟩) hx hi0) (by omega)
        obtain ⟨d1_, d2_, d3_, HD, bD, CD⟩ := pmin (tin_vb2 hsh hi0 hi1) (by omega)
        obtain ⟨dd, HDD, bDD, CDD⟩ := pdot bD bD (by omega)
        obtain ⟨ud, HUD, bUD, CUD⟩ := pdot bU bD (by omega)
        obtain ⟨s1, s2, s3, HSS, bSS, CSS⟩ := pscl bU bDD (by omega)
        obtain ⟨t1_, t2_, t3_, HTT, bTT, CTT⟩ := pscl bD bUD (by omega)
        obtain ⟨n1, n2, n3, HNN, bNN, CNN⟩ := pmin (vsub_b bSS bTT) (by omega)
        have HN := Lib.hid (nrm_two (x := ⟨x, y, z⟩) hi0 hi1 HU.out HD.out HDD.out HUD.out HSS.out HTT.out HNN.out)
        have HLL := Lib.hid hL
        clear hkb2 ck
        subst hAt
        gi_wp2
        refine wpIn_region_round (S := fun V => V.cell? ⟨bt, 0, none⟩ = some (.slice (some at0) l.length ct) ∧ (V.cell? ae = some (.int .i64 (i0 : Int)) ∧ (V.cell? ⟨(at0.add (i0 * 5)).block, (at0.add (i0 * 5)).off + 1, none⟩ = some (.int .i64 l[i0].a) ∧ V.cell? ⟨(at0.add (i0 * 5)).block, (at0.add (i0 * 5)).off + 2, none⟩ = some (.int .i64 l[i0].b) ∧ V.cell? ⟨(at0.add (i0 * 5)).block, (at0.add (i0 * 5)).off + 3, none⟩ = some (.int .i64 l[i0].c)))) (by kernel_rfl) (by kernel_rfl) (fun ⟨_, _, h⟩ => h) ?_ (fun hHeld => ?_)
        · exact ⟨d1, q0, p0, p1, p2⟩
        have hi0I : (i0 : Int) < (l.length : Int) := by omega
        have hi00 : 0 ≤ (i0 : Int) := by omega
        refine tk 0 19 ?_
        refine tk 1 20 ?_
        refine tk 2 21 ?_
        refine tk 3 22 ?_
        refine tk 4 23 ?_
        refine tk 5 24 ?_
        refine tk 6 25 ?_
        refine new_laid (Z := zero3) (R := #[.int .i64 l[i0].a, .int .i64 l[i0].b, .int .i64 l[i0].c]) (ty := 84) 7 8 6 ⟨_, rfl, rfl, rfl, ?alb⟩ ⟨_, rfl, rfl, rfl, ?stb⟩ (by kernel_rfl) (by kernel_rfl) (by kernel_rfl) ?hSb ?hKb
        case alb => exact fun a w => by go_simp; rfl
        case stb =>
          intro w g hg
          have t0 := hg.cell 0 rfl
          have t1 := hg.cell 1 rfl
          have t2 := hg.cell 2 rfl
          have r0 := hg.fro 0
          have r1 := hg.fro 1
          have r2 := hg.fro 2
          refine ⟨_, ?_, (((hg.set 0 _).set 1 _).set 2 _), fun B v hB hb => ((hb.setCell (p := ⟨g, 0, none⟩) hB _).setCell (p := ⟨g, 1, none⟩) hB _).setCell (p := ⟨g, 2, none⟩) hB _⟩
          simp only [List.setIfInBounds_toArray, List.set_cons_zero, List.set_cons_succ]
          go_simp
        case hSb =>
          intro V hV
          have hV' : Below W'.heap.size W' V := (Below.drew (Below.refl _ _)).trans hV
          exact ⟨(hV'.cell (cell_lt d1)).trans d1, (hV'.cell (cell_lt q0)).trans q0, (hV'.cell (cell_lt p0)).trans p0, (hV'.cell (cell_lt p1)).trans p1, (hV'.cell (cell_lt p2)).trans p2⟩
        intro g6 w6 hb6 hg6 k6
        (try simp only [Act.put, List.setIfInBounds_toArray, List.set_cons_zero, List.set_cons_succ])
        have hb6' : Below W'.heap.size W' w6 := (Below.drew (Below.refl _ _)).trans hb6
        clear hHeld hb6
        have hz6 := hb6'.size
        have a0 := k6.cell 0 rfl
        have a1 := k6.cell 1 rfl
        have a2 := k6.cell 2 rfl
        have d26 := d2.below hb6' d2.lt
        have b0 := d26.cell 0 rfl
        have b1 := d26.cell 1 rfl
        have b2 := d26.cell 2 rfl
        have d36 := hkb3.below hb6' hkb3.lt
        have ck6 := d36.cell 0 rfl
        gi_wp2
        refine ⟨trivial, fun h => (by cases h), ?_⟩
        refine CallsIn.mono (callsIn_round (CU.out _)) ?_
        rintro ee w7 ⟨rfl, hb7⟩
        have hB7 := hb6'.trans (hb7.mono hz6)
        have hz7 := hB7.size
        clear a0 a1 a2 b0 b1 b2 ck6
        have d37 := d36.below hb7 d36.lt
        have ck7 := d37.cell 0 rfl
        have l37 := d37.lt
        have kY7 := kY2.below hB7 kY2.lt
        have yY7 := kY7.cell 0 rfl
        have lY7 := kY7.lt
        have kU : Bk ((w7.alloc (.cells #[.int .i64 u1, .int .i64 u2, .int .i64 u3] 84)).alloc (.cells #[.int .i64 u1, .int .i64 u2, .int .i64 u3] 84)).drew w7.heap.size 84 #[.int .i64 u1, .int .i64 u2, .int .i64 u3] := ((Bk.new _ _ _).alloc _).drew
        have kN : Bk ((w7.alloc (.cells #[.int .i64 u1, .int .i64 u2, .int .i64 u3] 84)).alloc (.cells #[.int .i64 u1, .int .i64 u2, .int .i64 u3] 84)).drew (w7.heap.size + 1) 84 #[.int .i64 u1, .int .i64 u2, .int .i64 u3] := Bk.drew (by simpa using Bk.new (w7.alloc (.cells #[.int .i64 u1, .int .i64 u2, .int .i64 u3] 84)) 84 #[.int .i64 u1, .int .i64 u2, .int .i64 u3])
        have hB9 : Below W'.heap.size W' ((w7.alloc (.cells #[.int .i64 u1, .int .i64 u2, .int .i64 u3] 84)).alloc (.cells #[.int .i64 u1, .int .i64 u2, .int .i64 u3] 84)).drew := by exact (by repeat (first | with_reducible exact Below.refl _ _ | with_reducible assumption | with_reducible refine Below.drew ?_ | with_reducible refine below_drewN ?_ _ | (with_reducible refine Below.alloc ?_ ?_ _; rotate_left; (try simp) <;> omega) | (with_reducible refine Below.setCell ?_ ?_ _; rotate_left; (try simp) <;> omega)))
        have hb79 : Below w7.heap.size w7 ((w7.alloc (.cells #[.int .i64 u1, .int .i64 u2, .int .i64 u3] 84)).alloc (.cells #[.int .i64 u1, .int .i64 u2, .int .i64 u3] 84)).drew := by exact (by repeat (first | with_reducible exact Below.refl _ _ | with_reducible assumption | with_reducible refine Below.drew ?_ | with_reducible refine below_drewN ?_ _ | (with_reducible refine Below.alloc ?_ ?_ _; rotate_left; (try simp) <;> omega) | (with_reducible refine Below.setCell ?_ ?_ _; rotate_left; (try simp) <;> omega)))
        have kA := (k6.below hb7 k6.lt).below hb79 (Nat.lt_of_lt_of_le k6.lt hb7.size)
        have d39 := d37.below hb79 l37
        have hSF : Hid (∀ V, Below ((w7.alloc (.cells #[.int .i64 u1, .int .i64 u2, .int .i64 u3] 84)).alloc (.cells #[.int .i64 u1, .int .i64 u2, .int .i64 u3] 84)).drew.heap.size ((w7.alloc (.cells #[.int .i64 u1, .int .i64 u2, .int .i64 u3] 84)).alloc (.cells #[.int .i64 u1, .int .i64 u2, .int .i64 u3] 84)).drew V → V.cell? ⟨bt, 0, none⟩ = some (.slice (some at0) l.length ct) ∧ ((V.cell? ⟨ae.block, ae.off + 1, none⟩ = some (.int .i64 (i1 : Int)) ∧ (V.cell? ⟨(at0.add (i1 * 5)).block, (at0.add (i1 * 5)).off + 1, none⟩ = some (.int .i64 l[i1].a) ∧ V.cell? ⟨(at0.add (i1 * 5)).block, (at0.add (i1 * 5)).off + 2, none⟩ = some (.int .i64 l[i1].b) ∧ V.cell? ⟨(at0.add (i1 * 5)).block, (at0.add (i1 * 5)).off + 3, none⟩ = some (.int .i64 l[i1].c))) ∧ (V.cell? ⟨g6, 0, none⟩ = some (.int .i64 l[i0].a) ∧ V.cell? ⟨g6, 1, none⟩ = some (.int .i64 l[i0].b) ∧ V.cell? ⟨g6, 2, none⟩ = some (.int .i64 l[i0].c)))) := fun V hV => by
          have hV' := hB9.trans (hV.mono hB9.size)
          have kA' := kA.below hV kA.lt
          exact ⟨(hV'.cell (cell_lt d1)).trans d1, ⟨(hV'.cell (cell_lt q1)).trans q1, (hV'.cell (cell_lt p10)).trans p10, (hV'.cell (cell_lt p11)).trans p11, (hV'.cell (cell_lt p12)).trans p12⟩, kA'.cell 0 rfl, kA'.cell 1 rfl, kA'.cell 2 rfl⟩
        gi_wp2
        refine wpIn_region_round (S := fun V => V.cell? ⟨bt, 0, none⟩ = some (.slice (some at0) l.length ct) ∧ ((V.cell? ⟨ae.block, ae.off + 1, none⟩ = some (.int .i64 (i1 : Int)) ∧ (V.cell? ⟨(at0.add (i1 * 5)).block, (at0.add (i1 * 5)).off + 1, none⟩ = some (.int .i64 l[i1].a) ∧ V.cell? ⟨(at0.add (i1 * 5)).block, (at0.add (i1 * 5)).off + 2, none⟩ = some (.int .i64 l[i1].b) ∧ V.cell? ⟨(at0.add (i1 * 5)).block, (at0.add (i1 * 5)).off + 3, none⟩ = some (.int .i64 l[i1].c))) ∧ (V.cell? ⟨g6, 0, none⟩ = some (.int .i64 l[i0].a) ∧ V.cell? ⟨g6, 1, none⟩ = some (.int .i64 l[i0].b) ∧ V.cell? ⟨g6, 2, none⟩ = some (.int .i64 l[i0].c)))) (by kernel_rfl) (by kernel_rfl) (fun ⟨_, _, h⟩ => h) ?_ (fun hHeld => ?_)
        · exact hSF.out _ (Below.refl _ _)
        have hi1I : (i1 : Int) < (l.length : Int) := by omega
        have hi10 : 0 ≤ (i1 : Int) := by omega
        have lU9 := kU.lt
        have lN9 := kN.lt
        generalize ((w7.alloc (.cells #[.int .i64 u1, .int .i64 u2, .int .i64 u3] 84)).alloc (.cells #[.int .i64 u1, .int .i64 u2, .int .i64 u3] 84)).drew = w9 at *
        refine tk 0 32 ?_
        refine tk 1 33 ?_
        refine tk 2 34 ?_
        refine tk 3 35 ?_
        refine tk 4 36 ?_
        refine tk 5 37 ?_
        refine tk 6 38 ?_
        refine tk 7 39 ?_
        refine box_laid (f := 75) (args := #[.agg #[.int .i64 l[i1].a, .int .i64 l[i1].b, .int .i64 l[i1].c], .agg #[.int .i64 l[i0].a, .int .i64 l[i0].b, .int .i64 l[i0].c]]) (ty := 84) (Z := zero3) (R := #[.int .i64 d1_, .int .i64 d2_, .int .i64 d3_]) 8 9 10 40 9 (by decide) ⟨_, rfl, rfl, rfl, ?c1c, ?c2c⟩ ⟨_, rfl, rfl, rfl, ?alc⟩ ⟨_, rfl, rfl, rfl, ?stc⟩ (by kernel_rfl) (by kernel_rfl) (by kernel_rfl) (by kernel_rfl) (by kernel_rfl) (by kernel_rfl) (by kernel_rfl) ?hSc ?hCc ?hKc
        case c1c => exact fun w => by go_simp
        case c2c => exact fun u w => by go_simp
        case alc => exact fun a w => by go_simp; rfl
        case stc =>
          intro w g hg
          have t0 := hg.cell 0 rfl
          have t1 := hg.cell 1 rfl
          have t2 := hg.cell 2 rfl
          have r0 := hg.fro 0
          have r1 := hg.fro 1
          have r2 := hg.fro 2
          refine ⟨_, ?_, (((hg.set 0 _).set 1 _).set 2 _), fun B v hB hb => ((hb.setCell (p := ⟨g, 0, none⟩) hB _).setCell (p := ⟨g, 1, none⟩) hB _).setCell (p := ⟨g, 2, none⟩) hB _⟩
          simp only [putCP, List.setIfInBounds_toArray, List.set_cons_zero, List.set_cons_succ]
          go_simp
        case hSc => exact fun V hV => hSF.out V hV
        case hCc => exact fun V hV => CD.out V
        intro g10 w10 hb10 hg10 k10
        simp only [putCP, Act.put, List.setIfInBounds_toArray, List.set_cons_zero, List.set_cons_succ]
        clear hHeld hSF
        have hB10 := hB9.trans (hb10.mono hB9.size)
        have hz10 := hB10.size
        have kU10 := kU.below hb10 kU.lt
        have kN10 := kN.below hb10 kN.lt
        have d310 := d39.below hb10 d39.lt
        gi_wp2
        have hSF : Hid (∀ V, Bk V w7.heap.size 84 #[.int .i64 u1, .int .i64 u2, .int .i64 u3] → Bk V g10 84 #[.int .i64 d1_, .int .i64 d2_, .int .i64 d3_] → (V.cell? ⟨w7.heap.size, 0, none⟩ = some (.int .i64 u1) ∧ V.cell? ⟨w7.heap.size, 1, none⟩ = some (.int .i64 u2) ∧ V.cell? ⟨w7.heap.size, 2, none⟩ = some (.int .i64 u3)) ∧ (V.cell? ⟨g10, 0, none⟩ = some (.int .i64 d1_) ∧ V.cell? ⟨g10, 1, none⟩ = some (.int .i64 d2_) ∧ V.cell? ⟨g10, 2, none⟩ = some (.int .i64 d3_))) := fun V h k => ⟨⟨h.cell 0 rfl, h.cell 1 rfl, h.cell 2 rfl⟩, k.cell 0 rfl, k.cell 1 rfl, k.cell 2 rfl⟩
        refine wpIn_region_round (S := fun V => (V.cell? ⟨w7.heap.size, 0, none⟩ = some (.int .i64 u1) ∧ V.cell? ⟨w7.heap.size, 1, none⟩ = some (.int .i64 u2) ∧ V.cell? ⟨w7.heap.size, 2, none⟩ = some (.int .i64 u3)) ∧ (V.cell? ⟨g10, 0, none⟩ = some (.int .i64 d1_) ∧ V.cell? ⟨g10, 1, none⟩ = some (.int .i64 d2_) ∧ V.cell? ⟨g10, 2, none⟩ = some (.int .i64 d3_))) (by kernel_rfl) (by kernel_rfl) (fun ⟨_, _, h⟩ => h) ?_ (fun hHeld => ?_)
        · exact hSF.out _ kU10 k10
        have hb1r : Below w10.heap.size w10 w10.drew := (Below.refl _ _).drew
        refine tk 0 41 ?_
        refine tk 1 42 ?_
        refine tk 2 43 ?_
        refine tk 5 46 ?_
        refine tk 6 47 ?_
        refine tk 7 48 ?_
        refine quiet_laid (cs := [⟨3, 44, .int .i64 dd, []⟩, ⟨4, 45, .agg #[.int .i64 s1, .int .i64 s2, .int .i64 s3], [3]⟩, ⟨8, 49, .int .i64 ud, []⟩, ⟨9, 50, .agg #[.int .i64 t1_, .int .i64 t2_, .int .i64 t3_], [8]⟩, ⟨10, 51, .agg #[.int .i64 n1, .int .i64 n2, .int .i64 n3], [4, 9]⟩]) (s := 11) (ds := [44, 45, 49, 50, 51]) (B := w10.drew.heap.size) (Fin := fun V => Below W'.heap.size W' V ∧ Bk V (w7.heap.size + 1) 84 #[.int .i64 n1, .int .i64 n2, .int .i64 n3]) (by kernel_rfl) (by simp [left]) (Nat.le_refl _) ?hqq ?hSq ?hFq ?hsq ?hQq
        case hFq => exact fun h => absurd h (by decide)
        case hqq =>
          intro q hq
          simp only [List.mem_cons, List.not_mem_nil, or_false] at hq
          rcases hq with rfl | rfl | rfl | rfl | rfl
          · refine ⟨by simp, _, rfl, rfl, rfl, by kernel_rfl, fun V w hb hd => .inr ⟨46, #[.agg #[.int .i64 d1_, .int .i64 d2_, .int .i64 d3_], .agg #[.int .i64 d1_, .int .i64 d2_, .int .i64 d3_]], ?_, CDD.out w⟩⟩
            simp only [canon, List.foldl_cons, List.foldl_nil, List.setIfInBounds_toArray, List.set_cons_zero, List.set_cons_succ]
            go_simp
          · refine ⟨by simp, _, rfl, rfl, rfl, by kernel_rfl, fun V w hb hd => .inr ⟨77, #[.agg #[.int .i64 u1, .int .i64 u2, .int .i64 u3], .int .i64 dd], ?_, CSS.out w⟩⟩
            have e3 : V 44 = .int .i64 dd := hd ⟨3, 44, .int .i64 dd, []⟩ (by simp) (by simp)
            simp only [canon, List.foldl_cons, List.foldl_nil, List.setIfInBounds_toArray, List.set_cons_zero, List.set_cons_succ]
            go_simp
          · refine ⟨by simp, _, rfl, rfl, rfl, by kernel_rfl, fun V w hb hd => .inr ⟨46, #[.agg #[.int .i64 u1, .int .i64 u2, .int .i64 u3], .agg #[.int .i64 d1_, .int .i64 d2_, .int .i64 d3_]], ?_, CUD.out w⟩⟩
            simp only [canon, List.foldl_cons, List.foldl_nil, List.setIfInBounds_toArray, List.set_cons_zero, List.set_cons_succ]
            go_simp
          · refine ⟨by simp, _, rfl, rfl, rfl, by kernel_rfl, fun V w hb hd => .inr ⟨77, #[.agg #[.int .i64 d1_, .int .i64 d2_, .int .i64 d3_], .int .i64 ud], ?_, CTT.out w⟩⟩
            have e8 : V 49 = .int .i64 ud := hd ⟨8, 49, .int .i64 ud, []⟩ (by simp) (by simp)
            simp only [canon, List.foldl_cons, List.foldl_nil, List.setIfInBounds_toArray, List.set_cons_zero, List.set_cons_succ]
            go_simp
          · refine ⟨by simp, _, rfl, rfl, rfl, by kernel_rfl, fun V w hb hd => .inr ⟨75, #[.agg #[.int .i64 s1, .int .i64 s2, .int .i64 s3], .agg #[.int .i64 t1_, .int .i64 t2_, .int .i64 t3_]], ?_, CNN.out w⟩⟩
            have e4 : V 45 = .agg #[.int .i64 s1, .int .i64 s2, .int .i64 s3] := hd ⟨4, 45, .agg #[.int .i64 s1, .int .i64 s2, .int .i64 s3], [3]⟩ (by simp) (by simp)
            have e9 : V 50 = .agg #[.int .i64 t1_, .int .i64 t2_, .int .i64 t3_] := hd ⟨9, 50, .agg #[.int .i64 t1_, .int .i64 t2_, .int .i64 t3_], [8]⟩ (by simp) (by simp)
            simp only [canon, List.foldl_cons, List.foldl_nil, List.setIfInBounds_toArray, List.set_cons_zero, List.set_cons_succ]
            go_simp
        case hSq =>
          intro V hV
          exact hSF.out V ((kU10.drew).below hV kU10.lt) ((k10.drew).below hV k10.lt)
        case hsq =>
          intro o ho
          cases ho
          refine ⟨rfl, rfl, by kernel_rfl, fun V w hb hd => ?_⟩
          have e51 : V 51 = .agg #[.int .i64 n1, .int .i64 n2, .int .i64 n3] := hd ⟨10, 51, .agg #[.int .i64 n1, .int .i64 n2, .int .i64 n3], [4, 9]⟩ (by simp)
          have kn := (kN10.drew).below hb kN10.lt
          have ku := (kU10.drew).below hb kU10.lt
          have kd := (k10.drew).below hb k10.lt
          have t0 := kn.cell 0 rfl
          have t1 := kn.cell 1 rfl
          have t2 := kn.cell 2 rfl
          have r0 := kn.fro 0
          have r1 := kn.fro 1
          have r2 := kn.fro 2
          have hbw : Below W'.heap.size W' w := hB10.trans ((hb1r.trans (hb.mono (Nat.le_refl _))).mono hz10)
          refine ⟨_, _, ?_, .inl rfl, hSF.out _ (((ku.far (p := ⟨w7.heap.size + 1, 0, none⟩) (by simp) (.int .i64 n1)).far (p := ⟨w7.heap.size + 1, 1, none⟩) (by simp) (.int .i64 n2)).far (p := ⟨w7.heap.size + 1, 2, none⟩) (by simp) (.int .i64 n3)) (((kd.far (p := ⟨w7.heap.size + 1, 0, none⟩) (by show g10 ≠ w7.heap.size + 1; omega) (.int .i64 n1)).far (p := ⟨w7.heap.size + 1, 1, none⟩) (by show g10 ≠ w7.heap.size + 1; omega) (.int .i64 n2)).far (p := ⟨w7.heap.size + 1, 2, none⟩) (by show g10 ≠ w7.heap.size + 1; omega) (.int .i64 n3)), ((hbw.setCell (p := ⟨w7.heap.size + 1, 0, none⟩) (by simp; omega) (.int .i64 n1)).setCell (p := ⟨w7.heap.size + 1, 1, none⟩) (by simp; omega) (.int .i64 n2)).setCell (p := ⟨w7.heap.size + 1, 2, none⟩) (by simp; omega) (.int .i64 n3), ((kn.set 0 _).set 1 _).set 2 _⟩
          simp only [canon, List.foldl_cons, List.foldl_nil, List.setIfInBounds_toArray, List.set_cons_zero, List.set_cons_succ]
          go_simp
        intro V w11 hV hrest ⟨hB11, kN11⟩
        simp only [canon, List.foldl_cons, List.foldl_nil, List.setIfInBounds_toArray, List.set_cons_zero, List.set_cons_succ]
        clear hHeld hV hrest
        have y0 := kN11.cell 0 rfl
        have y1 := kN11.cell 1 rfl
        have y2 := kN11.cell 2 rfl
        have ck11 := (hkb3.below hB11 hkb3.lt).cell 0 rfl
        have yY11 := (kY2.below hB11 kY2.lt).cell 0 rfl
        have hBY : Below W'.heap.size W' w11 := by exact (by repeat (first | with_reducible exact Below.refl _ _ | with_reducible assumption | with_reducible refine Below.drew ?_ | with_reducible refine below_drewN ?_ _ | (with_reducible refine Below.alloc ?_ ?_ _; rotate_left; (try simp) <;> omega) | (with_reducible refine Below.setCell ?_ ?_ _; rotate_left; (try simp) <;> omega)))
        have HBY := Lib.hid hBY
        have hjY := HHJ.out _ _ _ none h2 (grown_below hBY) (fun r e => by cases e)
        have HKY := Lib.hid (h3.trans (KpC.of_below (own := own) hBY))
        have HMY := Lib.hid (h4.below_ hBY)
        have hpl : (xs ++ (pre.map El.L).map (nrmL l ⟨x, y, z⟩)).length < (levN l ⟨x, y, z⟩ 4).length := by have := HLEN.out; simp; omega
        obtain ⟨fn, tmps, assign, body, hy, hR⟩ := HY.out (xs ++ (pre.map El.L).map (nrmL l ⟨x, y, z⟩)) ⟨n1, n2, n3⟩ _ hjY (show nB _ from vb_mono bNN (by omega)) hpl
        have hy : (Instr.yield lb #[.agg #[.int .i64 n1, .int .i64 n2, .int .i64 n3]]).run Try.prog _ = .ok (.round lb fn tmps assign body) _ := hy
        have HRR := Lib.hid hR
        have HAP : Hid ((xs ++ (pre.map El.L).map (nrmL l ⟨x, y, z⟩)) ++ [⟨n1, n2, n3⟩] = xs ++ ((pre ++ [e]).map El.L).map (nrmL l ⟨x, y, z⟩)) := by
          show _ = _
          rw [List.map_append, List.map_append, ← List.append_assoc]
          congr 1
          show _ = [nrmL l ⟨x, y, z⟩ e.L]
          rw [HLL.out, HN.out]
        clear hR hjY hBY hpl
        gi_wp2
        refine ⟨fun h => (by cases h), RoundIn.mono (show RoundIn (Fence.wide.inRound lb') _ _ _ _ _ _ _ _ _ from HRR.out) ?_⟩
        rintro e8 w8 (⟨rfl, hj8, hk8, hf8⟩ | ⟨rfl, hx8, hk8, hf8⟩)
        · rw [HAP.out] at hj8
          gi_wp2
          exact ⟨(keeps_below HBY.out).trans (keeps_up hf8 (by omega)), (KpC.of_below HBY.out).trans hk8, hj8, HKY.out.trans hk8, HMY.out.from_ hf8 (by omega)⟩
        · rw [HAP.out] at hx8
          gi_wp2
          exact ⟨(keeps_below HBY.out).trans (keeps_up hf8 (by omega)), (KpC.of_below HBY.out).trans hk8, rfl, hx8, HMY.out.from_ hf8 (by omega)⟩
      · obtain ⟨i0, i1, i2, hL⟩ : ∃ i0 i1 i2, e.L = [i0, i1, i2] := by
          match e.L, m1 with
          | [j0, j1, j2], _ => exact ⟨j0, j1, j2, rfl⟩
        obtain ⟨ae, hA, hab, q0, qs⟩ := el_at hat hL
        have hi0 : i0 < l.length := (m3 i0 (by rw [hL]; simp)).2
        have hi1 : i1 < l.length := (m3 i1 (by rw [hL]; simp)).2
        have hi2 : i2 < l.length := (m3 i2 (by rw [hL]; simp)).2
        obtain ⟨at0, hAt, hatb, p0, p1, p2⟩ := tint_vec hlW hi0
        obtain ⟨_, hAt1, _, p10, p11, p12⟩ := tint_vec hlW hi1
        rw [hAt] at hAt1; cases hAt1
        have q1 := qs 0 i1 rfl
        obtain ⟨_, hAt2, _, p20, p21, p22⟩ := tint_vec hlW hi2
        rw [hAt] at hAt2; cases hAt2
        have q2 := qs 1 i2 rfl
        have hv : e.v = .slice (some ae) 3 e.c := by unfold El.v; rw [hA, hL]; rfl
        rw [hv]
        obtain ⟨u1, u2, u3, HU, bU, CU⟩ := pmin (tin_vb hsh (x := ⟨x, y, z⟩) hx hi0) (by omega)
        obtain ⟨d1_, d2_, d3_, HD, bD, CD⟩ := pmin (tin_vb2 hsh hi0 hi1) (by omega)
        obtain ⟨f1_, f2_, f3_, HF, bF, CF⟩ := pmin (tin_vb2 hsh hi0 hi2) (by omega)
        obtain ⟨m1_, m2_, m3_, HMM, bMM, CMM⟩ := pcrs bD bF (by omega)
        obtain ⟨mu, HMU, bMU, CMU⟩ := pdot bMM bU (by omega)
        obtain ⟨s1, s2, s3, HSS, bSS, CSS⟩ := pscl (n := -1) (B := 1) bMM ⟨by omega, by omega⟩ (by omega)
        have HN := Lib.hid (nrm_three (x := ⟨x, y, z⟩) hi0 hi1 hi2 HU.out HD.out HF.out HMM.out)
        have HLL := Lib.hid hL
        clear hkb2 ck
        subst hAt
        gi_wp2
        refine wpIn_region_round (S := fun V => V.cell? ⟨bt, 0, none⟩ = some (.slice (some at0) l.length ct) ∧ (V.cell? ae = some (.int .i64 (i0 : Int)) ∧ (V.cell? ⟨(at0.add (i0 * 5)).block, (at0.add (i0 * 5)).off + 1, none⟩ = some (.int .i64 l[i0].a) ∧ V.cell? ⟨(at0.add (i0 * 5)).block, (at0.add (i0 * 5)).off + 2, none⟩ = some (.int .i64 l[i0].b) ∧ V.cell? ⟨(at0.add (i0 * 5)).block, (at0.add (i0 * 5)).off + 3, none⟩ = some (.int .i64 l[i0].c)))) (by kernel_rfl) (by kernel_rfl) (fun ⟨_, _, h⟩ => h) ?_ (fun hHeld => ?_)
        · exact ⟨d1, q0, p0, p1, p2⟩
        have hi0I : (i0 : Int) < (l.length : Int) := by omega
        have hi00 : 0 ≤ (i0 : Int) := by omega
        refine tk 0 19 ?_
        refine tk 1 20 ?_
        refine tk 2 21 ?_
        refine tk 3 22 ?_
        refine tk 4 23 ?_
        refine tk 5 24 ?_
        refine tk 6 25 ?_
        refine new_laid (Z := zero3) (R := #[.int .i64 l[i0].a, .int .i64 l[i0].b, .int .i64 l[i0].c]) (ty := 84) 7 8 6 ⟨_, rfl, rfl, rfl, ?ald⟩ ⟨_, rfl, rfl, rfl, ?std⟩ (by kernel_rfl) (by kernel_rfl) (by kernel_rfl) ?hSd ?hKd
        case ald => exact fun a w => by go_simp; rfl
        case std =>
          intro w g hg
          have t0 := hg.cell 0 rfl
          have t1 := hg.cell 1 rfl
          have t2 := hg.cell 2 rfl
          have r0 := hg.fro 0
          have r1 := hg.fro 1
          have r2 := hg.fro 2
          refine ⟨_, ?_, (((hg.set 0 _).set 1 _).set 2 _), fun B v hB hb => ((hb.setCell (p := ⟨g, 0, none⟩) hB _).setCell (p := ⟨g, 1, none⟩) hB _).setCell (p := ⟨g, 2, none⟩) hB _⟩
          simp only [List.setIfInBounds_toArray, List.set_cons_zero, List.set_cons_succ]
          go_simp
        case hSd =>
          intro V hV
          have hV' : Below W'.heap.size W' V := (Below.drew (Below.refl _ _)).trans hV
          exact ⟨(hV'.cell (cell_lt d1)).trans d1, (hV'.cell (cell_lt q0)).trans q0, (hV'.cell (cell_lt p0)).trans p0, (hV'.cell (cell_lt p1)).trans p1, (hV'.cell (cell_lt p2)).trans p2⟩
        intro g6 w6 hb6 hg6 k6
        (try simp only [Act.put, List.setIfInBounds_toArray, List.set_cons_zero, List.set_cons_succ])
        have hb6' : Below W'.heap.size W' w6 := (Below.drew (Below.refl _ _)).trans hb6
        clear hHeld hb6
        have hz6 := hb6'.size
        have a0 := k6.cell 0 rfl
        have a1 := k6.cell 1 rfl
        have a2 := k6.cell 2 rfl
        have d26 := d2.below hb6' d2.lt
        have b0 := d26.cell 0 rfl
        have b1 := d26.cell 1 rfl
        have b2 := d26.cell 2 rfl
        have d36 := hkb3.below hb6' hkb3.lt
        have ck6 := d36.cell 0 rfl
        gi_wp2
        refine ⟨trivial, fun h => (by cases h), ?_⟩
        refine CallsIn.mono (callsIn_round (CU.out _)) ?_
        rintro ee w7 ⟨rfl, hb7⟩
        have hB7 := hb6'.trans (hb7.mono hz6)
        have hz7 := hB7.size
        clear a0 a1 a2 b0 b1 b2 ck6
        have d37 := d36.below hb7 d36.lt
        have ck7 := d37.cell 0 rfl
        have l37 := d37.lt
        have kY7 := kY2.below hB7 kY2.lt
        have yY7 := kY7.cell 0 rfl
        have lY7 := kY7.lt
        have kU : Bk ((w7.alloc (.cells #[.int .i64 u1, .int .i64 u2, .int .i64 u3] 84)).alloc (.cells #[.int .i64 u1, .int .i64 u2, .int .i64 u3] 84)).drew w7.heap.size 84 #[.int .i64 u1, .int .i64 u2, .int .i64 u3] := ((Bk.new _ _ _).alloc _).drew
        have kN : Bk ((w7.alloc (.cells #[.int .i64 u1, .int .i64 u2, .int .i64 u3] 84)).alloc (.cells #[.int .i64 u1, .int .i64 u2, .int .i64 u3] 84)).drew (w7.heap.size + 1) 84 #[.int .i64 u1, .int .i64 u2, .int .i64 u3] := Bk.drew (by simpa using Bk.new (w7.alloc (.cells #[.int .i64 u1, .int .i64 u2, .int .i64 u3] 84)) 84 #[.int .i64 u1, .int .i64 u2, .int .i64 u3])
        have hB9 : Below W'.heap.size W' ((w7.alloc (.cells #[.int .i64 u1, .int .i64 u2, .int .i64 u3] 84)).alloc (.cells #[.int .i64 u1, .int .i64 u2, .int .i64 u3] 84)).drew := by exact (by repeat (first | with_reducible exact Below.refl _ _ | with_reducible assumption | with_reducible refine Below.drew ?_ | with_reducible refine below_drewN ?_ _ | (with_reducible refine Below.alloc ?_ ?_ _; rotate_left; (try simp) <;> omega) | (with_reducible refine Below.setCell ?_ ?_ _; rotate_left; (try simp) <;> omega)))
        have hb79 : Below w7.heap.size w7 ((w7.alloc (.cells #[.int .i64 u1, .int .i64 u2, .int .i64 u3] 84)).alloc (.cells #[.int .i64 u1, .int .i64 u2, .int .i64 u3] 84)).drew := by exact (by repeat (first | with_reducible exact Below.refl _ _ | with_reducible assumption | with_reducible refine Below.drew ?_ | with_reducible refine below_drewN ?_ _ | (with_reducible refine Below.alloc ?_ ?_ _; rotate_left; (try simp) <;> omega) | (with_reducible refine Below.setCell ?_ ?_ _; rotate_left; (try simp) <;> omega)))
        have kA := (k6.below hb7 k6.lt).below hb79 (Nat.lt_of_lt_of_le k6.lt hb7.size)
        have d39 := d37.below hb79 l37
        have hSF : Hid (∀ V, Below W'.heap.size W' V → Bk V g6 84 #[.int .i64 l[i0].a, .int .i64 l[i0].b, .int .i64 l[i0].c] → V.cell? ⟨bt, 0, none⟩ = some (.slice (some at0) l.length ct) ∧ ((V.cell? ⟨ae.block, ae.off + 1, none⟩ = some (.int .i64 (i1 : Int)) ∧ (V.cell? ⟨(at0.add (i1 * 5)).block, (at0.add (i1 * 5)).off + 1, none⟩ = some (.int .i64 l[i1].a) ∧ V.cell? ⟨(at0.add (i1 * 5)).block, (at0.add (i1 * 5)).off + 2, none⟩ = some (.int .i64 l[i1].b) ∧ V.cell? ⟨(at0.add (i1 * 5)).block, (at0.add (i1 * 5)).off + 3, none⟩ = some (.int .i64 l[i1].c))) ∧ ((V.cell? ⟨ae.block, ae.off + 2, none⟩ = some (.int .i64 (i2 : Int)) ∧ (V.cell? ⟨(at0.add (i2 * 5)).block, (at0.add (i2 * 5)).off + 1, none⟩ = some (.int .i64 l[i2].a) ∧ V.cell? ⟨(at0.add (i2 * 5)).block, (at0.add (i2 * 5)).off + 2, none⟩ = some (.int .i64 l[i2].b) ∧ V.cell? ⟨(at0.add (i2 * 5)).block, (at0.add (i2 * 5)).off + 3, none⟩ = some (.int .i64 l[i2].c))) ∧ (V.cell? ⟨g6, 0, none⟩ = some (.int .i64 l[i0].a) ∧ V.cell? ⟨g6, 1, none⟩ = some (.int .i64 l[i0].b) ∧ V.cell? ⟨g6, 2, none⟩ = some (.int .i64 l[i0].c))))) := fun V hV' kA' => by
          exact ⟨(hV'.cell (cell_lt d1)).trans d1, ⟨(hV'.cell (cell_lt q1)).trans q1, (hV'.cell (cell_lt p10)).trans p10, (hV'.cell (cell_lt p11)).trans p11, (hV'.cell (cell_lt p12)).trans p12⟩, ⟨(hV'.cell (cell_lt q2)).trans q2, (hV'.cell (cell_lt p20)).trans p20, (hV'.cell (cell_lt p21)).trans p21, (hV'.cell (cell_lt p22)).trans p22⟩, kA'.cell 0 rfl, kA'.cell 1 rfl, kA'.cell 2 rfl⟩
        gi_wp2
        refine wpIn_region_round (S := fun V => V.cell? ⟨bt, 0, none⟩ = some (.slice (some at0) l.length ct) ∧ ((V.cell? ⟨ae.block, ae.off + 1, none⟩ = some (.int .i64 (i1 : Int)) ∧ (V.cell? ⟨(at0.add (i1 * 5)).block, (at0.add (i1 * 5)).off + 1, none⟩ = some (.int .i64 l[i1].a) ∧ V.cell? ⟨(at0.add (i1 * 5)).block, (at0.add (i1 * 5)).off + 2, none⟩ = some (.int .i64 l[i1].b) ∧ V.cell? ⟨(at0.add (i1 * 5)).block, (at0.add (i1 * 5)).off + 3, none⟩ = some (.int .i64 l[i1].c))) ∧ ((V.cell? ⟨ae.block, ae.off + 2, none⟩ = some (.int .i64 (i2 : Int)) ∧ (V.cell? ⟨(at0.add (i2 * 5)).block, (at0.add (i2 * 5)).off + 1, none⟩ = some (.int .i64 l[i2].a) ∧ V.cell? ⟨(at0.add (i2 * 5)).block, (at0.add (i2 * 5)).off + 2, none⟩ = some (.int .i64 l[i2].b) ∧ V.cell? ⟨(at0.add (i2 * 5)).block, (at0.add (i2 * 5)).off + 3, none⟩ = some (.int .i64 l[i2].c))) ∧ (V.cell? ⟨g6, 0, none⟩ = some (.int .i64 l[i0].a) ∧ V.cell? ⟨g6, 1, none⟩ = some (.int .i64 l[i0].b) ∧ V.cell? ⟨g6, 2, none⟩ = some (.int .i64 l[i0].c))))) (by kernel_rfl) (by kernel_rfl) (fun ⟨_, _, h⟩ => h) ?_ (fun hHeld => ?_)
        · exact hSF.out _ hB9 kA
        have hi1I : (i1 : Int) < (l.length : Int) := by omega
        have hi10 : 0 ≤ (i1 : Int) := by omega
        have hi2I : (i2 : Int) < (l.length : Int) := by omega
        have hi20 : 0 ≤ (i2 : Int) := by omega
        have lU9 := kU.lt
        have lN9 := kN.lt
        generalize ((w7.alloc (.cells #[.int .i64 u1, .int .i64 u2, .int .i64 u3] 84)).alloc (.cells #[.int .i64 u1, .int .i64 u2, .int .i64 u3] 84)).drew = w9 at *
        refine tk 0 54 ?_
        refine tk 1 55 ?_
        refine tk 2 56 ?_
        refine tk 3 57 ?_
        refine tk 4 58 ?_
        refine tk 5 59 ?_
        refine tk 6 60 ?_
        refine tk 7 61 ?_
        refine tk 9 63 ?_
        refine tk 10 64 ?_
        refine tk 11 65 ?_
        refine tk 12 66 ?_
        refine tk 13 67 ?_
        refine tk 14 68 ?_
        refine tk 15 69 ?_
        refine tk 16 70 ?_
        refine quiet_laid (cs := [⟨8, 62, .agg #[.int .i64 d1_, .int .i64 d2_, .int .i64 d3_], []⟩, ⟨17, 71, .agg #[.int .i64 f1_, .int .i64 f2_, .int .i64 f3_], []⟩, ⟨18, 72, .agg #[.int .i64 m1_, .int .i64 m2_, .int .i64 m3_], [8, 17]⟩]) (s := 19) (ds := [62, 71, 72]) (B := w9.heap.size) (Fin := fun V => Below W'.heap.size W' V ∧ (Bk V (w7.heap.size + 1) 84 #[.int .i64 m1_, .int .i64 m2_, .int .i64 m3_] ∧ Bk V w7.heap.size 84 #[.int .i64 u1, .int .i64 u2, .int .i64 u3])) (by kernel_rfl) (by simp [left]) (Nat.le_refl _) ?hqr ?hSr ?hFr ?hsr ?hQr
        case hFr => exact fun h => absurd h (by decide)
        case hqr =>
          intro q hq
          simp only [List.mem_cons, List.not_mem_nil, or_false] at hq
          rcases hq with rfl | rfl | rfl
          · refine ⟨by simp, _, rfl, rfl, rfl, by kernel_rfl, fun V w hb hd => .inr ⟨75, #[.agg #[.int .i64 l[i1].a, .int .i64 l[i1].b, .int .i64 l[i1].c], .agg #[.int .i64 l[i0].a, .int .i64 l[i0].b, .int .i64 l[i0].c]], ?_, CD.out w⟩⟩
            simp only [canon, List.foldl_cons, List.foldl_nil, List.setIfInBounds_toArray, List.set_cons_zero, List.set_cons_succ]
            go_simp
          · refine ⟨by simp, _, rfl, rfl, rfl, by kernel_rfl, fun V w hb hd => .inr ⟨75, #[.agg #[.int .i64 l[i2].a, .int .i64 l[i2].b, .int .i64 l[i2].c], .agg #[.int .i64 l[i0].a, .int .i64 l[i0].b, .int .i64 l[i0].c]], ?_, CF.out w⟩⟩
            simp only [canon, List.foldl_cons, List.foldl_nil, List.setIfInBounds_toArray, List.set_cons_zero, List.set_cons_succ]
            go_simp
          · refine ⟨by simp, _, rfl, rfl, rfl, by kernel_rfl, fun V w hb hd => .inr ⟨82, #[.agg #[.int .i64 d1_, .int .i64 d2_, .int .i64 d3_], .agg #[.int .i64 f1_, .int .i64 f2_, .int .i64 f3_]], ?_, CMM.out w⟩⟩
            have e8 : V 62 = .agg #[.int .i64 d1_, .int .i64 d2_, .int .i64 d3_] := hd ⟨8, 62, .agg #[.int .i64 d1_, .int .i64 d2_, .int .i64 d3_], []⟩ (by simp) (by simp)
            have e17 : V 71 = .agg #[.int .i64 f1_, .int .i64 f2_, .int .i64 f3_] := hd ⟨17, 71, .agg #[.int .i64 f1_, .int .i64 f2_, .int .i64 f3_], []⟩ (by simp) (by simp)
            simp only [canon, List.foldl_cons, List.foldl_nil, List.setIfInBounds_toArray, List.set_cons_zero, List.set_cons_succ]
            go_simp
        case hSr =>
          intro V hV
          exact hSF.out V (hB9.trans (hV.mono hB9.size)) (kA.below hV kA.lt)
        case hsr =>
          intro o ho
          cases ho
          refine ⟨rfl, rfl, by kernel_rfl, fun V w hb hd => ?_⟩
          have e72 : V 72 = .agg #[.int .i64 m1_, .int .i64 m2_, .int .i64 m3_] := hd ⟨18, 72, .agg #[.int .i64 m1_, .int .i64 m2_, .int .i64 m3_], [8, 17]⟩ (by simp)
          have kn := kN.below hb kN.lt
          have ku := kU.below hb kU.lt
          have ka := kA.below hb kA.lt
          have t0 := kn.cell 0 rfl
          have t1 := kn.cell 1 rfl
          have t2 := kn.cell 2 rfl
          have r0 := kn.fro 0
          have r1 := kn.fro 1
          have r2 := kn.fro 2
          have hbw : Below W'.heap.size W' w := hB9.trans (hb.mono hB9.size)
          have hbs := (((hbw.setCell (p := ⟨w7.heap.size + 1, 0, none⟩) (by simp; omega) (.int .i64 m1_)).setCell (p := ⟨w7.heap.size + 1, 1, none⟩) (by simp; omega) (.int .i64 m2_)).setCell (p := ⟨w7.heap.size + 1, 2, none⟩) (by simp; omega) (.int .i64 m3_))
          have hg67 : g6 < w7.heap.size := Nat.lt_of_lt_of_le k6.lt hb7.size
          refine ⟨_, _, ?_, .inl rfl, hSF.out _ hbs (((ka.far (p := ⟨w7.heap.size + 1, 0, none⟩) (by show g6 ≠ w7.heap.size + 1; omega) (.int .i64 m1_)).far (p := ⟨w7.heap.size + 1, 1, none⟩) (by show g6 ≠ w7.heap.size + 1; omega) (.int .i64 m2_)).far (p := ⟨w7.heap.size + 1, 2, none⟩) (by show g6 ≠ w7.heap.size + 1; omega) (.int .i64 m3_)), hbs, ((kn.set 0 _).set 1 _).set 2 _, (((ku.far (p := ⟨w7.heap.size + 1, 0, none⟩) (by simp) (.int .i64 m1_)).far (p := ⟨w7.heap.size + 1, 1, none⟩) (by simp) (.int .i64 m2_)).far (p := ⟨w7.heap.size + 1, 2, none⟩) (by simp) (.int .i64 m3_))⟩
          simp only [canon, List.foldl_cons, List.foldl_nil, List.setIfInBounds_toArray, List.set_cons_zero, List.set_cons_succ]
          go_simp
        intro V w11 hV hrest ⟨hB11, kN11, kU11⟩
        simp only [canon, List.foldl_cons, List.foldl_nil, List.setIfInBounds_toArray, List.set_cons_zero, List.set_cons_succ]
        clear hHeld hV hrest hSF
        have y0 := kN11.cell 0 rfl
        have y1 := kN11.cell 1 rfl
        have y2 := kN11.cell 2 rfl
        have z0 := kU11.cell 0 rfl
        have z1 := kU11.cell 1 rfl
        have z2 := kU11.cell 2 rfl
        gi_wp2
        refine ⟨trivial, fun h => (by cases h), ?_⟩
        refine CallsIn.mono (callsIn_round (CMU.out _)) ?_
        rintro ee w12 ⟨rfl, hb12⟩
        have kN12 := kN11.below hb12 kN11.lt
        have hB12 := hB11.trans (hb12.mono hB11.size)
        clear y0 y1 y2 z0 z1 z2
        have y0 := kN12.cell 0 rfl
        have y1 := kN12.cell 1 rfl
        have y2 := kN12.cell 2 rfl
        by_cases hneg : mu < 0
        · have HN3 : Hid (nrmL l ⟨x, y, z⟩ [i0, i1, i2] = ⟨s1, s2, s3⟩) := by
            show _ = _
            rw [HN.out, ← HMU.out, if_pos hneg, HSS.out.1, HSS.out.2.1, HSS.out.2.2]
          replace HN := HN3
          gi_wp2
          refine ⟨trivial, fun h => (by cases h), ?_⟩
          refine CallsIn.mono (callsIn_round (CSS.out _)) ?_
          rintro ee w13 ⟨rfl, hb13⟩
          have hB13 := hB12.trans (hb13.mono hB12.size)
          have kN13 := kN12.below hb13 kN12.lt
          clear y0 y1 y2
          have y0 := kN13.cell 0 rfl
          have y1 := kN13.cell 1 rfl
          have y2 := kN13.cell 2 rfl
          have r0 := kN13.fro 0
          have r1 := kN13.fro 1
          have r2 := kN13.fro 2
          have kb13 := hkb3.below hB13 hkb3.lt
          have kY13 := kY2.below hB13 kY2.lt
          have ck13 := kb13.cell 0 rfl
          have yY13 := kY13.cell 0 rfl
          have lb13 := kb13.lt
          have lY13 := kY13.lt
          have hnb : bm ≠ w7.heap.size + 1 := by omega
          have hnY : W.heap.size ≠ w7.heap.size + 1 := by omega
          have hBY : Below W'.heap.size W' (((w13.setCell ⟨w7.heap.size + 1, 0, none⟩ (.int .i64 s1)).setCell ⟨w7.heap.size + 1, 1, none⟩ (.int .i64 s2)).setCell ⟨w7.heap.size + 1, 2, none⟩ (.int .i64 s3)) := ((hB13.setCell (p := ⟨w7.heap.size + 1, 0, none⟩) (by simp; omega) (.int .i64 s1)).setCell (p := ⟨w7.heap.size + 1, 1, none⟩) (by simp; omega) (.int .i64 s2)).setCell (p := ⟨w7.heap.size + 1, 2, none⟩) (by simp; omega) (.int .i64 s3)
          have HBY := Lib.hid hBY
          have hjY := HHJ.out _ _ _ none h2 (grown_below hBY) (fun r e => by cases e)
          have HKY := Lib.hid (h3.trans (KpC.of_below (own := own) hBY))
          have HMY := Lib.hid (h4.below_ hBY)
          have hpl : (xs ++ (pre.map El.L).map (nrmL l ⟨x, y, z⟩)).length < (levN l ⟨x, y, z⟩ 4).length := by have := HLEN.out; simp; omega
          obtain ⟨fn, tmps, assign, body, hy, hR⟩ := HY.out (xs ++ (pre.map El.L).map (nrmL l ⟨x, y, z⟩)) ⟨s1, s2, s3⟩ _ hjY (show nB _ from vb_mono bSS (by omega)) hpl
          have hy : (Instr.yield lb #[.agg #[.int .i64 s1, .int .i64 s2, .int .i64 s3]]).run Try.prog _ = .ok (.round lb fn tmps assign body) _ := hy
          have HRR := Lib.hid hR
          have HAP : Hid ((xs ++ (pre.map El.L).map (nrmL l ⟨x, y, z⟩)) ++ [⟨s1, s2, s3⟩] = xs ++ ((pre ++ [e]).map El.L).map (nrmL l ⟨x, y, z⟩)) := by
            show _ = _
            rw [List.map_append, List.map_append, ← List.append_assoc]
            congr 1
            show _ = [nrmL l ⟨x, y, z⟩ e.L]
            rw [HLL.out, HN.out]
          clear hR hjY hBY hpl
          gi_wp2
          refine ⟨fun h => (by cases h), RoundIn.mono (show RoundIn (Fence.wide.inRound lb') _ _ _ _ _ _ _ _ _ from HRR.out) ?_⟩
          rintro e8 w8 (⟨rfl, hj8, hk8, hf8⟩ | ⟨rfl, hx8, hk8, hf8⟩)
          · rw [HAP.out] at hj8
            gi_wp2
            exact ⟨(keeps_below HBY.out).trans (keeps_up hf8 (by omega)), (KpC.of_below HBY.out).trans hk8, hj8, HKY.out.trans hk8, HMY.out.from_ hf8 (by omega)⟩
          · rw [HAP.out] at hx8
            gi_wp2
            exact ⟨(keeps_below HBY.out).trans (keeps_up hf8 (by omega)), (KpC.of_below HBY.out).trans hk8, rfl, hx8, HMY.out.from_ hf8 (by omega)⟩
        · have HN3 : Hid (nrmL l ⟨x, y, z⟩ [i0, i1, i2] = ⟨m1_, m2_, m3_⟩) := by
            show _ = _
            rw [HN.out, ← HMU.out, if_neg hneg]
          replace HN := HN3
          have kb12 := hkb3.below hB12 hkb3.lt
          have kY12 := kY2.below hB12 kY2.lt
          have ck12 := kb12.cell 0 rfl
          have yY12 := kY12.cell 0 rfl
          have hBY : Below W'.heap.size W' w12 := by exact (by repeat (first | with_reducible exact Below.refl _ _ | with_reducible assumption | with_reducible refine Below.drew ?_ | with_reducible refine below_drewN ?_ _ | (with_reducible refine Below.alloc ?_ ?_ _; rotate_left; (try simp) <;> omega) | (with_reducible refine Below.setCell ?_ ?_ _; rotate_left; (try simp) <;> omega)))
          have HBY := Lib.hid hBY
          have hjY := HHJ.out _ _ _ none h2 (grown_below hBY) (fun r e => by cases e)
          have HKY := Lib.hid (h3.trans (KpC.of_below (own := own) hBY))
          have HMY := Lib.hid (h4.below_ hBY)
          have hpl : (xs ++ (pre.map El.L).map (nrmL l ⟨x, y, z⟩)).length < (levN l ⟨x, y, z⟩ 4).length := by have := HLEN.out; simp; omega
          obtain ⟨fn, tmps, assign, body, hy, hR⟩ := HY.out (xs ++ (pre.map El.L).map (nrmL l ⟨x, y, z⟩)) ⟨m1_, m2_, m3_⟩ _ hjY (show nB _ from vb_mono bMM (by omega)) hpl
          have hy : (Instr.yield lb #[.agg #[.int .i64 m1_, .int .i64 m2_, .int .i64 m3_]]).run Try.prog _ = .ok (.round lb fn tmps assign body) _ := hy
          have HRR := Lib.hid hR
          have HAP : Hid ((xs ++ (pre.map El.L).map (nrmL l ⟨x, y, z⟩)) ++ [⟨m1_, m2_, m3_⟩] = xs ++ ((pre ++ [e]).map El.L).map (nrmL l ⟨x, y, z⟩)) := by
            show _ = _
            rw [List.map_append, List.map_append, ← List.append_assoc]
            congr 1
            show _ = [nrmL l ⟨x, y, z⟩ e.L]
            rw [HLL.out, HN.out]
          clear hR hjY hBY hpl
          gi_wp2
          refine ⟨fun h => (by cases h), RoundIn.mono (show RoundIn (Fence.wide.inRound lb') _ _ _ _ _ _ _ _ _ from HRR.out) ?_⟩
          rintro e8 w8 (⟨rfl, hj8, hk8, hf8⟩ | ⟨rfl, hx8, hk8, hf8⟩)
          · rw [HAP.out] at hj8
            gi_wp2
            exact ⟨(keeps_below HBY.out).trans (keeps_up hf8 (by omega)), (KpC.of_below HBY.out).trans hk8, hj8, HKY.out.trans hk8, HMY.out.from_ hf8 (by omega)⟩
          · rw [HAP.out] at hx8
            gi_wp2
            exact ⟨(keeps_below HBY.out).trans (keeps_up hf8 (by omega)), (KpC.of_below HBY.out).trans hk8, rfl, hx8, HMY.out.from_ hf8 (by omega)⟩
    case done =>
      rintro D xs' W' hwD hS ⟨h2, h3, h4⟩ hK
      have hMW := Marks.cons h4 (by omega : W.heap.size + 1 ≤ D) (fun hm => by have := hM2l D hm; omega) hK
      have HX' : Hid (xs ++ (xs'.map El.L).map (nrmL l ⟨x, y, z⟩) = levN l ⟨x, y, z⟩ (k + 1)) := by show _ = _; rw [HSU.out, HX.out, hS]
      have hkb3 := h3.bk hkb2 hoM
      have hkp' := hkp2.trans h3
      have ck3 := hkb3.cell 0 rfl
      have hkI2 : IntKind.i64.wrap ((k : Int) + 1) = (k : Int) + 1 := IntWalk.i64_in _ (by omega)
      have HCK := Lib.hid ck
      have hl3 := hkb3.lt
      clear ck hS h3 h4 hK
      go_wp2
      have hbA : Below W'.heap.size W' (W'.alloc (.cells #[.int .i64 ((k : Int) + 1)] 3)) := (Below.refl _ _).alloc (Nat.le_refl _) _
      refine ⟨⟨k + 1, W'.heap.size, _, D :: Ds, _, _, _, _, _, _, _, _, _, ⟨by omega, by omega, by omega, Bk.new _ _ _, HX', ?_, ?_, hMW.below_ hbA⟩, rfl⟩, ?_⟩
      · exact HHJ.out _ _ _ none h2 (grown_below hbA) (fun r e => by cases e)
      · exact hkp'.trans (KpC.of_below hbA)
      show upN (.pointer (some ⟨W'.heap.size, 0, none⟩)) _ < upN (.pointer (some ⟨bm, 0, none⟩)) wr
      rw [upN_at ((Bk.new W' 3 #[.int .i64 ((k : Int) + 1)]).cell 0 rfl), upN_at HCK.out]
      omega
    case stop =>
      rintro D cc pre W' hwD hp ⟨rfl, h2, h4⟩ hK
      have hMW := Marks.cons h4 (by omega : W.heap.size + 1 ≤ D) (fun hm => by have := hM2l D hm; omega) hK
      gi_wp2
      refine leaves_marks (.inl rfl) hMW rfl (results_none rfl _ _ _) ⟨⟨_, rfl⟩, .inr ⟨xs ++ (pre.map El.L).map (nrmL l ⟨x, y, z⟩), ?_, hMW.own HHX.out (by omega) h2⟩⟩
      refine List.IsPrefix.trans ?_ HPR.out
      rw [HX.out]
      refine (List.prefix_append_right_inj _).2 ?_
      obtain ⟨t, ht⟩ := hp
      rw [← ht, List.map_append]
      exact List.prefix_append _ _
  · obtain rfl : k = 4 := by omega
    go_wp2
    refine leaves_marks (.inr rfl) hM rfl (results_none rfl _ _ _) ⟨⟨_, rfl⟩, .inl ⟨xs, ?_, hM.own hJ (by omega) HJr.out⟩⟩
    exact HX.out
end Go.Proofs.Ytkjceegmmhnajaa
