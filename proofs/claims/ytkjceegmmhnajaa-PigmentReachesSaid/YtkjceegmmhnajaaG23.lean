/- pigment.Plane. Printed by wip/gen_py1.py. -/
import Derived.Test.YtkjceegmmhnajaaG06
import Derived.Test.YtkjceegmmhnajaaG08
import Derived.Test.YtkjceegmmhnajaaG12
import Derived.Test.YtkjceegmmhnajaaG19
import Derived.Test.YtkjceegmmhnajaaG22

set_option linter.unusedVariables false
set_option linter.unusedSimpArgs false

namespace Go.Proofs.Ytkjceegmmhnajaa
open Go.RowKit LPX
attribute [local go_sem] Oper.semAt_some nEnc

theorem kpc_set2 {own : Nat → Prop} (W : World) {b : Nat} (h : own b) (i : Nat) (v : Value) : KpC own W (W.setCell ⟨b, i, none⟩ v) :=
  ⟨by simp, fun g o h1 _ h3 => (Below.heap_setCell _ _ _ _ (by show g ≠ b; intro e; subst e; exact h3 h)).trans h1⟩
def dotV (n x : Vc) : Int := n.x * x.x + n.y * x.y + n.z * x.z
/-- what Plane returns -/
def PlaneE (l : List Tn) (x y z : Int) (w : World) (e : Ending) (w' : World) : Prop :=
  Below w.heap.size w w' ∧ ((chkW l x y z ≠ 0 ∧ e = .returned (.tuple #[.agg #[.int .i64 0, .int .i64 0, .int .i64 0, .int .i64 0], .bool false, .int .i64 (chkW l x y z)]))
    ∨ (chkW l x y z = 0 ∧ allR l ⟨x, y, z⟩ ≠ [] ∧ e = .returned (.tuple #[.agg #[.int .i64 0, .int .i64 0, .int .i64 0, .int .i64 0], .bool false, .int .i64 0]))
    ∨ (chkW l x y z = 0 ∧ allR l ⟨x, y, z⟩ = [] ∧ ∃ n : Vc, n ∈ levN l ⟨x, y, z⟩ 4 ∧ nB n ∧ topN n l < dotV n ⟨x, y, z⟩ ∧ e = .returned (.tuple #[.agg #[.int .i64 n.x, .int .i64 n.y, .int .i64 n.z, .int .i64 (topN n l)], .bool true, .int .i64 0]))
    ∨ (chkW l x y z = 0 ∧ allR l ⟨x, y, z⟩ = [] ∧ (∀ n ∈ levN l ⟨x, y, z⟩ 4, ¬ topN n l < dotV n ⟨x, y, z⟩) ∧ e = .returned (.tuple #[.agg #[.int .i64 0, .int .i64 0, .int .i64 0, .int .i64 0], .bool false, .int .i64 0])))
theorem reach_form {l : List Tn} {x y z : Int} {w w' : World} {e : Ending} (h : ReachE l x y z w e w') : ∃ (A : Option Addr) (n c : Nat) (b : Bool), e = .returned (.tuple #[.agg #[.slice A n c], .bool b, .int .i64 (chkW l x y z)]) ∧ Below w.heap.size w w' ∧ (b = true ↔ (chkW l x y z = 0 ∧ allR l ⟨x, y, z⟩ ≠ [])) := by
  obtain ⟨hb, (⟨h1, rfl⟩ | ⟨h1, h2, rfl⟩ | ⟨h1, r, rs, h2, rfl, _⟩)⟩ := h
  · exact ⟨none, 0, 0, false, rfl, hb, by simp [h1]⟩
  · exact ⟨none, 0, 0, false, by rw [h1], hb, by simp [h2]⟩
  · exact ⟨r.A, r.ps.length, r.c, true, by rw [h1], hb, by simp [h1, h2]⟩

set_option maxRecDepth 100000 in
set_option maxHeartbeats 2000000 in
theorem plane_any (l : List Tn) (A : Option Addr) (c : Nat) (x y z : Int) (w : World) (hl : Lies w w.heap.size A (tintsC l)) (hm : l.length ≤ 1000) (hs : ∀ t ∈ l, t.name.size ≤ 100) :
    Calls Try.prog 26 #[.slice A l.length c, .agg #[.int .i64 x, .int .i64 y, .int .i64 z]] w (PlaneE l x y z w) := by
  have HW := Lib.hid (fun W (hb : Below w.heap.size w W) => reach_any l A c x y z W ((hl.below hb (Nat.le_refl _)).more hb.size) hm hs)
  have k0 : Bk (((((w.alloc (.cells #[.slice A l.length c] 22)).alloc (.cells #[.int .i64 x, .int .i64 y, .int .i64 z] 37)).alloc (.cells #[.int .i64 0, .int .i64 0, .int .i64 0, .int .i64 0] 51)).alloc (.cells #[.bool false] 4)).alloc (.cells #[.int .i64 0] 31)) w.heap.size 22 #[.slice A l.length c] := by simpa using ((((Bk.new w 22 #[.slice A l.length c]).alloc (.cells #[.int .i64 x, .int .i64 y, .int .i64 z] 37)).alloc (.cells #[.int .i64 0, .int .i64 0, .int .i64 0, .int .i64 0] 51)).alloc (.cells #[.bool false] 4)).alloc (.cells #[.int .i64 0] 31)
  have k1 : Bk (((((w.alloc (.cells #[.slice A l.length c] 22)).alloc (.cells #[.int .i64 x, .int .i64 y, .int .i64 z] 37)).alloc (.cells #[.int .i64 0, .int .i64 0, .int .i64 0, .int .i64 0] 51)).alloc (.cells #[.bool false] 4)).alloc (.cells #[.int .i64 0] 31)) (w.heap.size + 1) 37 #[.int .i64 x, .int .i64 y, .int .i64 z] := by simpa using (((Bk.new (w.alloc (.cells #[.slice A l.length c] 22)) 37 #[.int .i64 x, .int .i64 y, .int .i64 z]).alloc (.cells #[.int .i64 0, .int .i64 0, .int .i64 0, .int .i64 0] 51)).alloc (.cells #[.bool false] 4)).alloc (.cells #[.int .i64 0] 31)
  have k2 : Bk (((((w.alloc (.cells #[.slice A l.length c] 22)).alloc (.cells #[.int .i64 x, .int .i64 y, .int .i64 z] 37)).alloc (.cells #[.int .i64 0, .int .i64 0, .int .i64 0, .int .i64 0] 51)).alloc (.cells #[.bool false] 4)).alloc (.cells #[.int .i64 0] 31)) (w.heap.size + 2) 51 #[.int .i64 0, .int .i64 0, .int .i64 0, .int .i64 0] := by simpa using ((Bk.new ((w.alloc (.cells #[.slice A l.length c] 22)).alloc (.cells #[.int .i64 x, .int .i64 y, .int .i64 z] 37)) 51 #[.int .i64 0, .int .i64 0, .int .i64 0, .int .i64 0]).alloc (.cells #[.bool false] 4)).alloc (.cells #[.int .i64 0] 31)
  have k3 : Bk (((((w.alloc (.cells #[.slice A l.length c] 22)).alloc (.cells #[.int .i64 x, .int .i64 y, .int .i64 z] 37)).alloc (.cells #[.int .i64 0, .int .i64 0, .int .i64 0, .int .i64 0] 51)).alloc (.cells #[.bool false] 4)).alloc (.cells #[.int .i64 0] 31)) (w.heap.size + 3) 4 #[.bool false] := by simpa using (Bk.new (((w.alloc (.cells #[.slice A l.length c] 22)).alloc (.cells #[.int .i64 x, .int .i64 y, .int .i64 z] 37)).alloc (.cells #[.int .i64 0, .int .i64 0, .int .i64 0, .int .i64 0] 51)) 4 #[.bool false]).alloc (.cells #[.int .i64 0] 31)
  have k4 : Bk (((((w.alloc (.cells #[.slice A l.length c] 22)).alloc (.cells #[.int .i64 x, .int .i64 y, .int .i64 z] 37)).alloc (.cells #[.int .i64 0, .int .i64 0, .int .i64 0, .int .i64 0] 51)).alloc (.cells #[.bool false] 4)).alloc (.cells #[.int .i64 0] 31)) (w.heap.size + 4) 31 #[.int .i64 0] := by simpa using Bk.new ((((w.alloc (.cells #[.slice A l.length c] 22)).alloc (.cells #[.int .i64 x, .int .i64 y, .int .i64 z] 37)).alloc (.cells #[.int .i64 0, .int .i64 0, .int .i64 0, .int .i64 0] 51)).alloc (.cells #[.bool false] 4)) 31 #[.int .i64 0]
  have hb4 : Below w.heap.size w (((((w.alloc (.cells #[.slice A l.length c] 22)).alloc (.cells #[.int .i64 x, .int .i64 y, .int .i64 z] 37)).alloc (.cells #[.int .i64 0, .int .i64 0, .int .i64 0, .int .i64 0] 51)).alloc (.cells #[.bool false] 4)).alloc (.cells #[.int .i64 0] 31)) := by exact (by repeat (first | with_reducible exact Below.refl _ _ | with_reducible assumption | with_reducible refine Below.drew ?_ | with_reducible refine below_drewN ?_ _ | (with_reducible refine Below.alloc ?_ ?_ _; rotate_left; (try simp) <;> omega) | (with_reducible refine Below.setCell ?_ ?_ _; rotate_left; (try simp) <;> omega)))
  have hlW := Lib.hid hl
  have hCK := Lib.hid (fun h => chkW_ok (l := l) (x := x) (y := y) (z := z) h)
  have hKE : ∃ q, q = chkW l x y z := ⟨_, rfl⟩
  obtain ⟨q, hq⟩ := hKE
  have HQ := Lib.hid hq
  have hAB : Hid (q = 0 → ∀ ad, A = some ad → ad.block < w.heap.size) := fun h0 ad e => by
    have h1 := (chkW_ok (hq.symm.trans h0)).1.2
    obtain ⟨ad', e', hb', _⟩ := hl (by
      intro e
      have h5 : 0 = l.length * 5 := by rw [← tintsC_length l, e]; rfl
      omega)
    rw [e] at e'; cases e'; exact hb'
  have HRF := Lib.hid (fun W e W' (h : ReachE l x y z W e W') => reach_form h)
  rw [← hq] at HRF
  clear hl hq hs
  refine (callsIn_wide (n := 3)).1 ?_
  refine callsIn_of_wp_marks Try.func26 rfl trivial ?_ rfl
  simp only [Try.ntmps26, List.size_toArray, List.length_cons, List.length_nil, Nat.reduceAdd, Nat.reduceSub, Array.replicate_succ, Array.replicate_zero, List.push_toArray, List.append_toArray, List.nil_append, List.cons_append]
  refine wpIn_wide.2 ?_
  go_wp2_with fail
  refine (HW.out _ hb4).mono ?_
  rintro e w5 hR
  obtain ⟨Ar, nr, cr, b, rfl, hb5, hbiff⟩ := HRF.out _ _ _ hR
  have hB5 := hb4.trans (hb5.mono hb4.size)
  have p0 := k0.below hb5 k0.lt
  have p1 := k1.below hb5 k1.lt
  have p2 := k2.below hb5 k2.lt
  have p3 := k3.below hb5 k3.lt
  have p4 := k4.below hb5 k4.lt
  have HBI := Lib.hid hbiff
  clear hR hb5 k0 k1 k2 k3 k4 hb4 hbiff
  obtain ⟨w6, hw6⟩ : ∃ v, v = w5.alloc (.cells #[.slice Ar nr cr] 25) := ⟨_, rfl⟩
  have hB : Below w.heap.size w w6 := by rw [hw6]; exact hB5.alloc hB5.size _
  have r0 : Bk w6 w.heap.size 22 #[.slice A l.length c] := by rw [hw6]; exact p0.alloc _
  have r1 : Bk w6 (w.heap.size + 1) 37 #[.int .i64 x, .int .i64 y, .int .i64 z] := by rw [hw6]; exact p1.alloc _
  have r2 : Bk w6 (w.heap.size + 2) 51 #[.int .i64 0, .int .i64 0, .int .i64 0, .int .i64 0] := by rw [hw6]; exact p2.alloc _
  have r3 : Bk w6 (w.heap.size + 3) 4 #[.bool false] := by rw [hw6]; exact p3.alloc _
  have r4 : Bk w6 (w.heap.size + 4) 31 #[.int .i64 0] := by rw [hw6]; exact p4.alloc _
  have l6 := r4.lt
  have HR6 := Lib.hid (And.intro r0 (And.intro r1 (And.intro r2 (And.intro r3 r4))))
  clear p0 p1 p2 p3 p4 hB5
  go_upto_region 2 with fail
  rw [← hw6]
  clear hw6
  by_cases hfind : q = 0 ∧ b = false
  · obtain ⟨rfl, rfl⟩ := hfind
    have hck := hCK.out HQ.out.symm
    have hnf : allR l ⟨x, y, z⟩ = [] := by
      cases hr : allR l ⟨x, y, z⟩ with
      | nil => rfl
      | cons a b => exact absurd (HBI.out.2 ⟨rfl, by rw [hr]; simp⟩) (by simp)
    have HNF := Lib.hid hnf
    clear hnf
    have y0 := r0.cell 0 rfl
    have y10 := r1.cell 0 rfl
    have y11 := r1.cell 1 rfl
    have y12 := r1.cell 2 rfl
    go_wp2_with (go_at_call 55; refine (normals_any A l.length c x y z w6).mono ?_; rintro e w7 ⟨rfl, rt, rwt, hb7, hz7⟩)
    have s0 := r0.below hb7 r0.lt
    have s1 := r1.below hb7 r1.lt
    have s2 := r2.below hb7 r2.lt
    have s3 := r3.below hb7 r3.lt
    have s4 := r4.below hb7 r4.lt
    have hB7 := hB.trans (hb7.mono hB.size)
    have hn1 : 0 < l.length := by omega
    have HTS := Lib.hid (fun t ht => offTint_sh (hck.2.1 t ht))
    have HXS := Lib.hid hck.2.2
    have HCP := Lib.hid (And.intro rt rwt)
    clear y0 y10 y11 y12 hb7 r0 r1 r2 r3 r4 hck rt rwt
    refine (wpIn_wide (n := 3)).1 ?_
    refine rangeFunc_box (n := 3) rfl (by omega) (gf := 81) (lb := #[.pointer (some ⟨w6.heap.size, 0, none⟩), .pointer (some ⟨w6.heap.size + 1, 0, none⟩)]) rfl trivial (enters_of Try.func81 (by kernel_rfl) rfl)
      (encs := nEnc) (Pre := fun v _ => nB v) (Kp := KpC (fun g => g = w.heap.size + 2 ∨ g = w.heap.size + 3 ∨ g = w.heap.size + 4)) (S := fun xs => xs = levN l ⟨x, y, z⟩ 4) (Sp := fun pre => pre <+: levN l ⟨x, y, z⟩ 4) (N := (levN l ⟨x, y, z⟩ 4).length) (w0 := w7) ?seq (fun h k => h.trans k) (fun W l o o' _ h1 h2 _ => KpC.putObj o' h1 h2) (Below.refl _ _) (fun _ => rfl)
      (fun pre W => (∀ n ∈ pre, ¬ topN n l < dotV n ⟨x, y, z⟩) ∧ (Below w.heap.size w W ∧ (Bk W w.heap.size 22 #[.slice A l.length c] ∧ (Bk W (w.heap.size + 1) 37 #[.int .i64 x, .int .i64 y, .int .i64 z] ∧ (Bk W (w.heap.size + 2) 51 #[.int .i64 0, .int .i64 0, .int .i64 0, .int .i64 0] ∧ (Bk W (w.heap.size + 3) 4 #[.bool false] ∧ Bk W (w.heap.size + 4) 31 #[.int .i64 0]))))))
      (fun cc pre W => cc = .ret ∧ ∃ (n : Vc), n ∈ pre ∧ nB n ∧ topN n l < dotV n ⟨x, y, z⟩ ∧ (Below w.heap.size w W ∧ (Bk W (w.heap.size + 2) 51 #[.int .i64 n.x, .int .i64 n.y, .int .i64 n.z, .int .i64 (topN n l)] ∧ (Bk W (w.heap.size + 3) 4 #[.bool true] ∧ Bk W (w.heap.size + 4) 31 #[.int .i64 0])))) ?own ?ownx ?pre ⟨fun n hn => (by cases hn), hB7, s0, s1, s2, s3, s4⟩
      (fun e => .cells #[.int .i64 e.x, .int .i64 e.y, .int .i64 e.z] 84) (fun W o => KpC.of_below ((Below.refl _ W).alloc (Nat.le_refl _) o))
      (fun e k => { tmps := #[.slice A l.length c, .agg #[.int .i64 x, .int .i64 y, .int .i64 z], .pointer (some ⟨w.heap.size, 0, none⟩), .pointer (some ⟨w.heap.size + 1, 0, none⟩), .pointer (some ⟨w.heap.size + 1 + 1, 0, none⟩), .pointer (some ⟨w.heap.size + 1 + 1 + 1, 0, none⟩), .pointer (some ⟨w.heap.size + 1 + 1 + 1 + 1, 0, none⟩), .pointer (some ⟨w5.heap.size, 0, none⟩), .bool false, .int .i64 0, .pointer (some ⟨k, 0, none⟩), undef, undef, .tuple #[.agg #[.slice Ar nr cr], .bool false, .int .i64 0], .slice A l.length c, .agg #[.int .i64 x, .int .i64 y, .int .i64 z], .tuple #[.agg #[.slice Ar nr cr], .bool false, .int .i64 0], .agg #[.slice Ar nr cr], .bool false, .int .i64 0, .int .i64 0, .bool false, .bool false, .bool false, .bool false, undef, undef, .slice A l.length c, .agg #[.int .i64 x, .int .i64 y, .int .i64 z], .func (.func 81) #[] #[.pointer (some ⟨w6.heap.size, 0, none⟩), .pointer (some ⟨w6.heap.size + 1, 0, none⟩)], e.agg, undef, undef, undef, undef, undef, undef, undef, undef, undef, undef], defers := [] }) ?assign ?body ?done ?stop
    case seq => exact normals_seq 2 (fun g => g = w.heap.size + 2 ∨ g = w.heap.size + 3 ∨ g = w.heap.size + 4) w6.heap.size (w6.heap.size + 1) l A c x y z w7 (fun g h => by omega) (by omega) (by omega) (fun ad e => by have := hAB.out (by first | trivial | rfl) ad e; omega) (HCP.out.1.cell 0 rfl) HCP.out.2 ((hlW.out.below hB7 (Nat.le_refl _)).more hB7.size) hm HTS.out HXS.out
    case own =>
      rintro pre W W' row ⟨h1, h2, h3, h4, h5, h6, h7⟩ hg hr
      exact ⟨h1, h2.grown hg h2.size (fun k e => by have := (hr k e).1; omega), h3.grown hg (fun e => by have := (hr _ e.symm).1; omega), h4.grown hg (fun e => by have := (hr _ e.symm).1; omega), h5.grown hg (fun e => by have := (hr _ e.symm).1; omega), h6.grown hg (fun e => by have := (hr _ e.symm).1; omega), h7.grown hg (fun e => by have := (hr _ e.symm).1; omega)⟩
    case ownx =>
      rintro cc pre W W' row ⟨h0, n, h1, h2, h3, h4, h5, h6, h7⟩ hg hr
      exact ⟨h0, n, h1, h2, h3, h4.grown hg h4.size (fun k e => by have := (hr k e).1; omega), h5.grown hg (fun e => by have := (hr _ e.symm).1; omega), h6.grown hg (fun e => by have := (hr _ e.symm).1; omega), h7.grown hg (fun e => by have := (hr _ e.symm).1; omega)⟩
    case pre =>
      rintro e W W' row h1 hg hr
      exact h1
    case assign =>
      intro lb e W K hK
      gi_wp2
      exact hK
    case body =>
      rintro lb pre e W k hk1 hk2 ⟨h1, h2, h3, h4, h5, h6, h7⟩ hnB _
      have kb : Bk W k 84 #[.int .i64 e.x, .int .i64 e.y, .int .i64 e.z] := hk2
      have HBY := Lib.hid (beyond_any l A c e ⟨x, y, z⟩ W ((hlW.out.below h2 (Nat.le_refl _)).more h2.size) hm hn1 HTS.out HXS.out hnB)
      obtain ⟨n1, n2, n3⟩ := e
      obtain ⟨C, hC⟩ : ∃ C, C = topN ⟨n1, n2, n3⟩ l := ⟨_, rfl⟩
      have HCC := Lib.hid hC
      unfold BeyE at HBY
      rw [← hC] at HBY
      clear hC
      dsimp only at *
      have y0 := h3.cell 0 rfl
      have y10 := h4.cell 0 rfl
      have y11 := h4.cell 1 rfl
      have y12 := h4.cell 2 rfl
      have yn0 := kb.cell 0 rfl
      have yn1 := kb.cell 1 rfl
      have yn2 := kb.cell 2 rfl
      gi_wp2
      refine ⟨trivial, ?_⟩
      refine CallsIn.mono (callsIn_round HBY.out) ?_
      rintro ee w8 ⟨rfl, hb8⟩
      obtain ⟨w9, hw9⟩ : ∃ v, v = w8.alloc (.cells #[.int .i64 n1, .int .i64 n2, .int .i64 n3, .int .i64 C] 51) := ⟨_, rfl⟩
      have hB89 : Below W.heap.size W w9 := by rw [hw9]; exact hb8.alloc hb8.size _
      have k11 : Bk w9 w8.heap.size 51 #[.int .i64 n1, .int .i64 n2, .int .i64 n3, .int .i64 C] := by rw [hw9]; exact Bk.new _ _ _
      have hB := h2.trans (hB89.mono h2.size)
      have q0 := h3.below hB89 h3.lt
      have q1 := h4.below hB89 h4.lt
      have r2 := h5.below hB89 h5.lt
      have r3 := h6.below hB89 h6.lt
      have r4 := h7.below hB89 h7.lt
      clear y0 y10 y11 y12 yn0 yn1 yn2
      have hdv : Hid (dotV ⟨n1, n2, n3⟩ ⟨x, y, z⟩ = n1 * x + n2 * y + n3 * z) := rfl
      generalize n1 * x + n2 * y + n3 * z = dt at *
      have l9 := r4.lt
      have t2 := h5.below hb8 h5.lt
      have t3 := h6.below hb8 h6.lt
      have t4 := h7.below hb8 h7.lt
      have l8 := t4.lt
      by_cases hlt : C < dt
      · have HIX : Hid (nB ⟨n1, n2, n3⟩ ∧ topN ⟨n1, n2, n3⟩ l < dotV ⟨n1, n2, n3⟩ ⟨x, y, z⟩) := ⟨hnB, by rw [← HCC.out, hdv.out]; exact hlt⟩
        have z20 := t2.fro 0
        have z21 := t2.fro 1
        have z22 := t2.fro 2
        have z23 := t2.fro 3
        have z3 := t3.fro 0
        have z4 := t4.fro 0
        have y20 := t2.cell 0 rfl
        have y21 := t2.cell 1 rfl
        have y22 := t2.cell 2 rfl
        have y23 := t2.cell 3 rfl
        have y3 := t3.cell 0 rfl
        have y4 := t4.cell 0 rfl
        have m2 : w.heap.size + 1 + 1 < w8.heap.size := by omega
        have m3 : w.heap.size + 1 + 1 + 1 < w8.heap.size := by omega
        have m4 : w.heap.size + 1 + 1 + 1 + 1 < w8.heap.size := by omega
        clear h3 h4 h5 h6 h7 kb hk2
        gi_wp2
        have hB8 := h2.trans (hb8.mono h2.size)
        have g2 := ((((((t2.set 0 (.int .i64 n1)).set 1 (.int .i64 n2)).set 2 (.int .i64 n3)).set 3 (.int .i64 C)).far (p := ⟨w.heap.size + 3, 0, none⟩) (by simp) (.bool true)).far (p := ⟨w.heap.size + 4, 0, none⟩) (by simp) (.int .i64 0))
        have g3 := ((((((t3.far (p := ⟨w.heap.size + 2, 0, none⟩) (by simp) (.int .i64 n1)).far (p := ⟨w.heap.size + 2, 1, none⟩) (by simp) (.int .i64 n2)).far (p := ⟨w.heap.size + 2, 2, none⟩) (by simp) (.int .i64 n3)).far (p := ⟨w.heap.size + 2, 3, none⟩) (by simp) (.int .i64 C)).set 0 (.bool true)).far (p := ⟨w.heap.size + 4, 0, none⟩) (by simp) (.int .i64 0))
        have g4 := ((((((t4.far (p := ⟨w.heap.size + 2, 0, none⟩) (by simp) (.int .i64 n1)).far (p := ⟨w.heap.size + 2, 1, none⟩) (by simp) (.int .i64 n2)).far (p := ⟨w.heap.size + 2, 2, none⟩) (by simp) (.int .i64 n3)).far (p := ⟨w.heap.size + 2, 3, none⟩) (by simp) (.int .i64 C)).far (p := ⟨w.heap.size + 3, 0, none⟩) (by simp) (.bool true)).set 0 (.int .i64 0))
        have gb := ((((((hB8.setCell (p := ⟨w.heap.size + 2, 0, none⟩) (by simp) (.int .i64 n1)).setCell (p := ⟨w.heap.size + 2, 1, none⟩) (by simp) (.int .i64 n2)).setCell (p := ⟨w.heap.size + 2, 2, none⟩) (by simp) (.int .i64 n3)).setCell (p := ⟨w.heap.size + 2, 3, none⟩) (by simp) (.int .i64 C)).setCell (p := ⟨w.heap.size + 3, 0, none⟩) (by simp) (.bool true)).setCell (p := ⟨w.heap.size + 4, 0, none⟩) (by simp) (.int .i64 0))
        simp only [Nat.add_assoc, Nat.reduceAdd] at g2 g3 g4 gb ⊢
        have hkf := (((((((keeps_below (B := w6.heap.size + 2) hb8).trans ((KeepsOthers.setCell _ ⟨w.heap.size + 2, 0, none⟩ (.int .i64 n1)).from _)).trans ((KeepsOthers.setCell _ ⟨w.heap.size + 2, 1, none⟩ (.int .i64 n2)).from _)).trans ((KeepsOthers.setCell _ ⟨w.heap.size + 2, 2, none⟩ (.int .i64 n3)).from _)).trans ((KeepsOthers.setCell _ ⟨w.heap.size + 2, 3, none⟩ (.int .i64 C)).from _)).trans ((KeepsOthers.setCell _ ⟨w.heap.size + 3, 0, none⟩ (.bool true)).from _)).trans ((KeepsOthers.setCell _ ⟨w.heap.size + 4, 0, none⟩ (.int .i64 0)).from _))
        have hkp := (((((((KpC.of_below (own := fun g => g = w.heap.size + 2 ∨ g = w.heap.size + 3 ∨ g = w.heap.size + 4) hb8).trans (kpc_set2 _ (b := w.heap.size + 2) (by simp) 0 (.int .i64 n1))).trans (kpc_set2 _ (b := w.heap.size + 2) (by simp) 1 (.int .i64 n2))).trans (kpc_set2 _ (b := w.heap.size + 2) (by simp) 2 (.int .i64 n3))).trans (kpc_set2 _ (b := w.heap.size + 2) (by simp) 3 (.int .i64 C))).trans (kpc_set2 _ (b := w.heap.size + 3) (by simp) 0 (.bool true))).trans (kpc_set2 _ (b := w.heap.size + 4) (by simp) 0 (.int .i64 0)))
        generalize World.setCell _ _ _ = wS at *
        exact ⟨hkf.trans (keeps_below ((Below.refl _ _).alloc (Nat.le_refl _) _)), hkp.trans (KpC.of_below ((Below.refl _ _).alloc (Nat.le_refl _) _)), rfl, ⟨n1, n2, n3⟩, by simp, HIX.out.1, HIX.out.2, gb.alloc gb.size _, by rw [← HCC.out]; exact g2.alloc _, g3.alloc _, g4.alloc _⟩
      · have HIX : Hid (∀ n ∈ pre ++ [(⟨n1, n2, n3⟩ : Vc)], ¬ topN n l < dotV n ⟨x, y, z⟩) := fun n hn => by
          rcases List.mem_append.1 hn with h | h
          · have := h1 n h; omega
          · obtain rfl := List.mem_singleton.1 h
            rw [← HCC.out, hdv.out]; exact hlt
        clear h3 h4 h5 h6 h7 kb hk2
        gi_wp2
        rw [← hw9]
        exact ⟨keeps_below hB89, KpC.of_below hB89, HIX.out, hB, q0, q1, r2, r3, r4⟩
    case done =>
      rintro D xs W hwD hS ⟨h1, hB, h3, h4, r2, r3, r4⟩ hK
      have hMW := Marks.cons (Marks.nil (w.heap.size + 5) W) (by omega : w.heap.size + 5 ≤ D) (by simp) hK
      have l9 := r4.lt
      have z20 := r2.fro 0
      have z21 := r2.fro 1
      have z22 := r2.fro 2
      have z23 := r2.fro 3
      have z3 := r3.fro 0
      have z4 := r4.fro 0
      have y20 := r2.cell 0 rfl
      have y21 := r2.cell 1 rfl
      have y22 := r2.cell 2 rfl
      have y23 := r2.cell 3 rfl
      have y3 := r3.cell 0 rfl
      have y4 := r4.cell 0 rfl
      go_wp2
      have g2 := ((((((r2.set 0 (.int .i64 0)).set 1 (.int .i64 0)).set 2 (.int .i64 0)).set 3 (.int .i64 0)).far (p := ⟨w.heap.size + 3, 0, none⟩) (by simp) (.bool false)).far (p := ⟨w.heap.size + 4, 0, none⟩) (by simp) (.int .i64 0))
      have g3 := ((((((r3.far (p := ⟨w.heap.size + 2, 0, none⟩) (by simp) (.int .i64 0)).far (p := ⟨w.heap.size + 2, 1, none⟩) (by simp) (.int .i64 0)).far (p := ⟨w.heap.size + 2, 2, none⟩) (by simp) (.int .i64 0)).far (p := ⟨w.heap.size + 2, 3, none⟩) (by simp) (.int .i64 0)).set 0 (.bool false)).far (p := ⟨w.heap.size + 4, 0, none⟩) (by simp) (.int .i64 0))
      have g4 := ((((((r4.far (p := ⟨w.heap.size + 2, 0, none⟩) (by simp) (.int .i64 0)).far (p := ⟨w.heap.size + 2, 1, none⟩) (by simp) (.int .i64 0)).far (p := ⟨w.heap.size + 2, 2, none⟩) (by simp) (.int .i64 0)).far (p := ⟨w.heap.size + 2, 3, none⟩) (by simp) (.int .i64 0)).far (p := ⟨w.heap.size + 3, 0, none⟩) (by simp) (.bool false)).set 0 (.int .i64 0))
      have gb := ((((((hB.setCell (p := ⟨w.heap.size + 2, 0, none⟩) (by simp) (.int .i64 0)).setCell (p := ⟨w.heap.size + 2, 1, none⟩) (by simp) (.int .i64 0)).setCell (p := ⟨w.heap.size + 2, 2, none⟩) (by simp) (.int .i64 0)).setCell (p := ⟨w.heap.size + 2, 3, none⟩) (by simp) (.int .i64 0)).setCell (p := ⟨w.heap.size + 3, 0, none⟩) (by simp) (.bool false)).setCell (p := ⟨w.heap.size + 4, 0, none⟩) (by simp) (.int .i64 0))
      have gM := hMW.keep (w' := ((((((W.setCell ⟨w.heap.size + 2, 0, none⟩ (.int .i64 0)).setCell ⟨w.heap.size + 2, 1, none⟩ (.int .i64 0)).setCell ⟨w.heap.size + 2, 2, none⟩ (.int .i64 0)).setCell ⟨w.heap.size + 2, 3, none⟩ (.int .i64 0)).setCell ⟨w.heap.size + 3, 0, none⟩ (.bool false)).setCell ⟨w.heap.size + 4, 0, none⟩ (.int .i64 0))) fun E hE h => ((Below.heap_setCell _ _ _ _ (by show E ≠ w.heap.size + 4; omega)).trans ((Below.heap_setCell _ _ _ _ (by show E ≠ w.heap.size + 3; omega)).trans ((Below.heap_setCell _ _ _ _ (by show E ≠ w.heap.size + 2; omega)).trans ((Below.heap_setCell _ _ _ _ (by show E ≠ w.heap.size + 2; omega)).trans ((Below.heap_setCell _ _ _ _ (by show E ≠ w.heap.size + 2; omega)).trans ((Below.heap_setCell _ _ _ _ (by show E ≠ w.heap.size + 2; omega)).trans h))))))
      have x20 := (gM.bk g2).cell 0 rfl
      have x21 := (gM.bk g2).cell 1 rfl
      have x22 := (gM.bk g2).cell 2 rfl
      have x23 := (gM.bk g2).cell 3 rfl
      have x3 := (gM.bk g3).cell 0 rfl
      have x4 := (gM.bk g4).cell 0 rfl
      have gB := Marks.below (by omega) gM gb
      refine leaves_marks (v := .tuple #[.agg #[.int .i64 0, .int .i64 0, .int .i64 0, .int .i64 0], .bool false, .int .i64 0]) (.inl rfl) gM rfl ?_ ⟨gB, .inr (.inr (.inr ⟨HQ.out.symm, HNF.out, ?_, rfl⟩))⟩
      · simp only [Nat.add_assoc, Nat.reduceAdd] at x20 x21 x22 x23 x3 x4 ⊢
        generalize shut [D] _ = w9 at *
        simp [results, Try.results26, go_sem, x20, x21, x22, x23, x3, x4]
      · intro n hn
        rw [← hS] at hn
        have := h1 n hn; omega
    case stop =>
      rintro D cc pre W hwD hp ⟨rfl, n, hn, hnB, hlt, hB, r2, r3, r4⟩ hK
      have hMW := Marks.cons (Marks.nil (w.heap.size + 5) W) (by omega : w.heap.size + 5 ≤ D) (by simp) hK
      gi_wp2
      have x20 := (hMW.bk r2).cell 0 rfl
      have x21 := (hMW.bk r2).cell 1 rfl
      have x22 := (hMW.bk r2).cell 2 rfl
      have x23 := (hMW.bk r2).cell 3 rfl
      have x3 := (hMW.bk r3).cell 0 rfl
      have x4 := (hMW.bk r4).cell 0 rfl
      have gB := Marks.below (by omega) hMW hB
      refine leaves_marks (v := .tuple #[.agg #[.int .i64 n.x, .int .i64 n.y, .int .i64 n.z, .int .i64 (topN n l)], .bool true, .int .i64 0]) (.inl rfl) hMW rfl ?_ ⟨gB, .inr (.inr (.inl ⟨HQ.out.symm, HNF.out, n, hp.subset hn, hnB, hlt, rfl⟩))⟩
      generalize shut [D] W = w9 at *
      simp [results, Try.results26, go_sem, x20, x21, x22, x23, x3, x4]
  · have HE1 : Hid (∀ W', Below w.heap.size w W' → PlaneE l x y z w (.returned (.tuple #[.agg #[.int .i64 0, .int .i64 0, .int .i64 0, .int .i64 0], .bool false, .int .i64 q])) W') := fun W' hb => by
      refine ⟨hb, ?_⟩
      by_cases h0 : q = 0
      · subst h0
        have hbt : b = true := by
          cases b with
          | true => rfl
          | false => exact absurd ⟨rfl, rfl⟩ hfind
        have := HBI.out.1 hbt
        exact .inr (.inl ⟨HQ.out.symm, this.2, rfl⟩)
      · exact .inl ⟨by rw [← HQ.out]; exact h0, by rw [← HQ.out]⟩
    have z20 := r2.fro 0
    have z21 := r2.fro 1
    have z22 := r2.fro 2
    have z23 := r2.fro 3
    have z3 := r3.fro 0
    have z4 := r4.fro 0
    have y20 := r2.cell 0 rfl
    have y21 := r2.cell 1 rfl
    have y22 := r2.cell 2 rfl
    have y23 := r2.cell 3 rfl
    have y3 := r3.cell 0 rfl
    have y4 := r4.cell 0 rfl
    by_cases h0 : q = 0
    · obtain rfl : b = true := by
        cases b with
        | true => rfl
        | false => exact absurd ⟨h0, rfl⟩ hfind
      subst h0
      clear hfind
      go_wp2
      have g2 := ((((((r2.set 0 (.int .i64 0)).set 1 (.int .i64 0)).set 2 (.int .i64 0)).set 3 (.int .i64 0)).far (p := ⟨w.heap.size + 3, 0, none⟩) (by simp) (.bool false)).far (p := ⟨w.heap.size + 4, 0, none⟩) (by simp) (.int .i64 0))
      have g3 := ((((((r3.far (p := ⟨w.heap.size + 2, 0, none⟩) (by simp) (.int .i64 0)).far (p := ⟨w.heap.size + 2, 1, none⟩) (by simp) (.int .i64 0)).far (p := ⟨w.heap.size + 2, 2, none⟩) (by simp) (.int .i64 0)).far (p := ⟨w.heap.size + 2, 3, none⟩) (by simp) (.int .i64 0)).set 0 (.bool false)).far (p := ⟨w.heap.size + 4, 0, none⟩) (by simp) (.int .i64 0))
      have g4 := ((((((r4.far (p := ⟨w.heap.size + 2, 0, none⟩) (by simp) (.int .i64 0)).far (p := ⟨w.heap.size + 2, 1, none⟩) (by simp) (.int .i64 0)).far (p := ⟨w.heap.size + 2, 2, none⟩) (by simp) (.int .i64 0)).far (p := ⟨w.heap.size + 2, 3, none⟩) (by simp) (.int .i64 0)).far (p := ⟨w.heap.size + 3, 0, none⟩) (by simp) (.bool false)).set 0 (.int .i64 0))
      have gb := ((((((hB.setCell (p := ⟨w.heap.size + 2, 0, none⟩) (by simp) (.int .i64 0)).setCell (p := ⟨w.heap.size + 2, 1, none⟩) (by simp) (.int .i64 0)).setCell (p := ⟨w.heap.size + 2, 2, none⟩) (by simp) (.int .i64 0)).setCell (p := ⟨w.heap.size + 2, 3, none⟩) (by simp) (.int .i64 0)).setCell (p := ⟨w.heap.size + 3, 0, none⟩) (by simp) (.bool false)).setCell (p := ⟨w.heap.size + 4, 0, none⟩) (by simp) (.int .i64 0))
      have x20 := g2.cell 0 rfl
      have x21 := g2.cell 1 rfl
      have x22 := g2.cell 2 rfl
      have x23 := g2.cell 3 rfl
      have x3 := g3.cell 0 rfl
      have x4 := g4.cell 0 rfl
      refine leaves_marks (Ds := []) (B := 0) (v := .tuple #[.agg #[.int .i64 0, .int .i64 0, .int .i64 0, .int .i64 0], .bool false, .int .i64 0]) (.inl rfl) (Marks.nil _ _) rfl ?_ (HE1.out _ gb)
      simp only [Nat.add_assoc, Nat.reduceAdd, shut] at x20 x21 x22 x23 x3 x4 ⊢
      generalize World.setCell _ _ _ = w9 at *
      simp [results, Try.results26, go_sem, x20, x21, x22, x23, x3, x4]
    · clear hfind
      go_wp2
      have g2 := ((((((r2.set 0 (.int .i64 0)).set 1 (.int .i64 0)).set 2 (.int .i64 0)).set 3 (.int .i64 0)).far (p := ⟨w.heap.size + 3, 0, none⟩) (by simp) (.bool false)).far (p := ⟨w.heap.size + 4, 0, none⟩) (by simp) (.int .i64 q))
      have g3 := ((((((r3.far (p := ⟨w.heap.size + 2, 0, none⟩) (by simp) (.int .i64 0)).far (p := ⟨w.heap.size + 2, 1, none⟩) (by simp) (.int .i64 0)).far (p := ⟨w.heap.size + 2, 2, none⟩) (by simp) (.int .i64 0)).far (p := ⟨w.heap.size + 2, 3, none⟩) (by simp) (.int .i64 0)).set 0 (.bool false)).far (p := ⟨w.heap.size + 4, 0, none⟩) (by simp) (.int .i64 q))
      have g4 := ((((((r4.far (p := ⟨w.heap.size + 2, 0, none⟩) (by simp) (.int .i64 0)).far (p := ⟨w.heap.size + 2, 1, none⟩) (by simp) (.int .i64 0)).far (p := ⟨w.heap.size + 2, 2, none⟩) (by simp) (.int .i64 0)).far (p := ⟨w.heap.size + 2, 3, none⟩) (by simp) (.int .i64 0)).far (p := ⟨w.heap.size + 3, 0, none⟩) (by simp) (.bool false)).set 0 (.int .i64 q))
      have gb := ((((((hB.setCell (p := ⟨w.heap.size + 2, 0, none⟩) (by simp) (.int .i64 0)).setCell (p := ⟨w.heap.size + 2, 1, none⟩) (by simp) (.int .i64 0)).setCell (p := ⟨w.heap.size + 2, 2, none⟩) (by simp) (.int .i64 0)).setCell (p := ⟨w.heap.size + 2, 3, none⟩) (by simp) (.int .i64 0)).setCell (p := ⟨w.heap.size + 3, 0, none⟩) (by simp) (.bool false)).setCell (p := ⟨w.heap.size + 4, 0, none⟩) (by simp) (.int .i64 q))
      have x20 := g2.cell 0 rfl
      have x21 := g2.cell 1 rfl
      have x22 := g2.cell 2 rfl
      have x23 := g2.cell 3 rfl
      have x3 := g3.cell 0 rfl
      have x4 := g4.cell 0 rfl
      refine leaves_marks (Ds := []) (B := 0) (v := .tuple #[.agg #[.int .i64 0, .int .i64 0, .int .i64 0, .int .i64 0], .bool false, .int .i64 q]) (.inl rfl) (Marks.nil _ _) rfl ?_ (HE1.out _ gb)
      simp only [Nat.add_assoc, Nat.reduceAdd, shut] at x20 x21 x22 x23 x3 x4 ⊢
      generalize World.setCell _ _ _ = w9 at *
      simp [results, Try.results26, go_sem, x20, x21, x22, x23, x3, x4]
end Go.Proofs.Ytkjceegmmhnajaa

namespace Go.Proofs.Ytkjceegmmhnajaa
open Go.RowKit LPX

theorem levC_four {n : Nat} {L : List Nat} : L ∈ levC n 4 ↔ L ∈ chs n 1 0 ∨ L ∈ chs n 2 0 ∨ L ∈ chs n 3 0 := by
  unfold levC
  simp [List.range', List.flatMap_cons]
theorem ptV_at {l : List Tn} {k : Nat} (h : k < l.length) : ptV l k = ⟨l[k].a, l[k].b, l[k].c⟩ := by
  unfold ptV; rw [List.getElem?_eq_getElem h]
theorem plane_ok {l : List Tn} {x y z : Int} (hW : chkW l x y z = 0) (hR : allR l ⟨x, y, z⟩ = []) : ∃ n ∈ levN l ⟨x, y, z⟩ 4, topN n l < dotV n ⟨x, y, z⟩ := by
  obtain ⟨⟨_, h1⟩, _, _⟩ := chkW_ok hW
  rw [all_same] at hR
  unfold rallR at hR
  rw [List.filterMap_eq_nil_iff] at hR
  obtain ⟨L, hL, hk⟩ := plane_found (n := l.length) (s := ptV l) (x := vV ⟨x, y, z⟩) (by omega) (fun L hL => rrcp_none (hR L hL))
  refine ⟨nrmL l ⟨x, y, z⟩ L, List.mem_map.2 ⟨L, levC_four.2 hL, rfl⟩, ?_⟩
  rw [← pts_map, nrm_vV] at hk
  have hk' : ∀ k (h : k < l.length), nT (nrmL l ⟨x, y, z⟩ L) l[k] < dotV (nrmL l ⟨x, y, z⟩ L) ⟨x, y, z⟩ := fun k h => by
    have := hk k h
    rw [ptV_at h] at this
    exact this
  rw [topN_zero _ (by omega)]
  refine topF_le l _ (hk' 0 (by omega)) fun t ht => ?_
  obtain ⟨k, h, rfl⟩ := List.mem_iff_getElem.1 ht
  exact hk' k h
theorem plane_cp {l : List Tn} {x y z : Int} {n : Vc} (hW : chkW l x y z = 0) (hB : nB n) (ht : topN n l < dotV n ⟨x, y, z⟩) : cpB l x y z ⟨n.x, n.y, n.z, topN n l⟩ = true := by
  obtain ⟨⟨_, h1⟩, hoff, _⟩ := chkW_ok hW
  have hs : ∀ t ∈ l, shIn t.a t.b t.c := fun t h => offTint_sh (hoff t h)
  have hb : ab 18000000000000 (topN n l) := by
    rw [topN_zero _ (by omega)]
    exact topF_b hB l _ (nT_b hB (hs _ (List.getElem_mem _))) hs
  obtain ⟨⟨b1, b2⟩, ⟨b3, b4⟩, b5, b6⟩ := hB
  obtain ⟨c1, c2⟩ := hb
  unfold cpB
  simp only [Bool.and_eq_true, decide_eq_true_iff, Bool.not_eq_true', List.any_eq_false]
  refine ⟨hW, ?_, ht, fun t h => ?_⟩
  · unfold planeB
    simp only [Bool.and_eq_true, norB_iff, asideB_iff]
    refine ⟨by omega, ⟨by omega, by omega⟩, ⟨by omega, by omega⟩, ⟨by omega, by omega⟩⟩
  · have := topN_ge (n := n) h
    unfold beyP
    simp only [decide_eq_true_iff]
    have e : onP ⟨n.x, n.y, n.z, topN n l⟩ t.a t.b t.c = nT n t := rfl
    rw [e]
    omega
end Go.Proofs.Ytkjceegmmhnajaa

namespace Go.Proofs.Ytkjceegmmhnajaa
open Go.RowKit

theorem eq64 (d : Nat) (a b x y : Int) (w : World) : (Op.equalIn (d + 2) 64 (.agg #[.int .i64 a, .int .i64 b]) (.agg #[.int .i64 x, .int .i64 y])).run Try.prog w = .ok (a == x && b == y) w := by
  rw [run_equalIn_agg w (d + 1) 64 _ _ (by kernel_rfl) (by kernel_rfl)]
  simp [go_sem, Program.fieldsOf, Try.underlying64, Op.eqFields, part, Try.underlying3]
  by_cases g1 : a = x <;> by_cases g2 : b = y <;> simp [g1, g2]
theorem cells37' : Try.prog.cellsOf 37 = 3 := by kernel_rfl
set_option maxRecDepth 100000 in
theorem eq51 (a b c d x y z u : Int) (w : World) : (Op.equalIn 10000 51 (.agg #[.int .i64 a, .int .i64 b, .int .i64 c, .int .i64 d]) (.agg #[.int .i64 x, .int .i64 y, .int .i64 z, .int .i64 u])).run Try.prog w = .ok ((a == x && (b == y && c == z)) && d == u) w := by
  rw [run_equalIn_agg w 9999 51 _ _ (by kernel_rfl) (by kernel_rfl)]
  have e0 : ∀ (a b c x y z : Int) w, (Op.equalIn 9999 37 (.agg #[.int .i64 a, .int .i64 b, .int .i64 c]) (.agg #[.int .i64 x, .int .i64 y, .int .i64 z])).run Try.prog w = .ok (a == x && (b == y && c == z)) w := fun a b c x y z w => by
    obtain ⟨i0, hi0, hz0, hz1, hz2⟩ := info_parts info3
    rw [run_equalIn_array w 9998 _ _ Try.underlying37 hi0, cells3]
    simp [Op.eqItems, part, List.range_succ, go_sem, Try.underlying3]
    by_cases h1 : a = x <;> by_cases h2 : b = y <;> by_cases h3 : c = z <;> simp [h1, h2, h3]
  simp [go_sem, Program.fieldsOf, Try.underlying51, Op.eqFields, part, Try.underlying3, cells37', e0]
  by_cases g1 : a = x <;> by_cases g2 : b = y <;> by_cases g3 : c = z <;> by_cases g4 : d = u <;> simp [g1, g2, g3, g4]

set_option maxRecDepth 100000 in
set_option maxHeartbeats 1000000 in
theorem sameRec_any (ps : List Pt) (A B : Option Addr) (c d : Nat) (w : World) (hA : Lies w w.heap.size A (partsC ps)) (hB : Lies w w.heap.size B (partsC ps)) (hm : ps.length ≤ 1000) :
    Calls Try.prog 22 #[.agg #[.slice A ps.length c], .agg #[.slice B ps.length d]] w (ShEnd true w) := by
  obtain ⟨w2, hw2⟩ : ∃ v, v = (w.alloc (.cells #[.slice A ps.length c] 25)).alloc (.cells #[.slice B ps.length d] 25) := ⟨_, rfl⟩
  have k0 : Bk w2 w.heap.size 25 #[.slice A ps.length c] := by rw [hw2]; exact (Bk.new _ _ _).alloc _
  have k1 : Bk w2 (w.heap.size + 1) 25 #[.slice B ps.length d] := by rw [hw2]; simpa using Bk.new (w.alloc (.cells #[.slice A ps.length c] 25)) 25 #[.slice B ps.length d]
  have hb2 : Below w.heap.size w w2 := by rw [hw2]; exact (by repeat (first | with_reducible exact Below.refl _ _ | with_reducible assumption | with_reducible refine Below.drew ?_ | with_reducible refine below_drewN ?_ _ | (with_reducible refine Below.alloc ?_ ?_ _; rotate_left; (try simp) <;> omega) | (with_reducible refine Below.setCell ?_ ?_ _; rotate_left; (try simp) <;> omega)))
  have E64 := eq64 9998
  have HA := Lib.hid hA
  have HB := Lib.hid hB
  clear hA hB
  go_enter Try.func22, Try.ntmps22
  go_upto_region 1 with fail
  rw [← hw2]
  clear hw2
  have x0 := k0.cell 0 rfl
  have x1 := k1.cell 0 rfl
  have l1 := k1.lt
  go_wp2
  go_loopw [5] (fun y wr => ∃ k : Nat, k ≤ ps.length ∧ y = .int .i64 k ∧ (Below w.heap.size w wr ∧ (Bk wr w.heap.size 25 #[.slice A ps.length c] ∧ Bk wr (w.heap.size + 1) 25 #[.slice B ps.length d]))) (fun y _ => ps.length - (intOf y).toNat)
  case atStart => exact ⟨0, Nat.zero_le _, rfl, hb2, k0, k1⟩
  case round =>
    clear hb2 k0 k1 x0 x1 l1
    obtain ⟨k, hk, rfl, hb, k0, k1⟩ := hrel
    have x0 := k0.cell 0 rfl
    have x1 := k1.cell 0 rfl
    have l1 := k1.lt
    by_cases hlt : k < ps.length
    · have hkI : (k : Int) < (ps.length : Int) := by omega
      have hk0 : 0 ≤ (k : Int) := by omega
      have hwk : IntKind.i64.wrap ((k : Int) + 1) = (k : Int) + 1 := IntWalk.i64_in _ (by omega)
      obtain ⟨a1, rfl, _, p0, p1⟩ := part_at (HA.out.below hb (Nat.le_refl _)) hlt
      obtain ⟨b1, rfl, _, q0, q1⟩ := part_at (HB.out.below hb (Nat.le_refl _)) hlt
      generalize ps[k].t = t at *
      generalize ps[k].w = v at *
      go_upto_region 6 with fail
      refine wp_region_held_drew (S := fun V => (V.cell? ⟨w.heap.size, 0, none⟩ = some (.slice (some a1) ps.length c) ∧ V.cell? ⟨w.heap.size + 1, 0, none⟩ = some (.slice (some b1) ps.length d)) ∧ ((V.cell? (a1.add (k * 2)) = some (.int .i64 t) ∧ V.cell? ⟨(a1.add (k * 2)).block, (a1.add (k * 2)).off + 1, none⟩ = some (.int .i64 v)) ∧ (V.cell? (b1.add (k * 2)) = some (.int .i64 t) ∧ V.cell? ⟨(b1.add (k * 2)).block, (b1.add (k * 2)).off + 1, none⟩ = some (.int .i64 v)))) (by kernel_rfl) ⟨⟨x0, x1⟩, ⟨p0, p1⟩, q0, q1⟩ (fun hHeld => ?_)
      replace hb := hb.drew
      replace k0 := k0.drew
      replace k1 := k1.drew
      clear x0 x1 p0 p1 q0 q1
      generalize wr.drew = w6 at *
      refine tk 0 20 ?_
      refine tk 1 21 ?_
      refine tk 2 22 ?_
      refine tk 3 23 ?_
      refine tk 4 24 ?_
      refine tk 5 25 ?_
      refine tk 6 26 ?_
      refine tk 7 27 ?_
      refine tk 8 28 ?_
      refine tk 9 29 ?_
      refine tk 10 30 ?_
      refine wpAnyH_done (by kernel_rfl) ?_ _
      clear hHeld
      go_wp2
      go_roundw
      case rel => exact ⟨k + 1, by omega, by go_num, hb, k0, k1⟩
      case measure => simp [intOf] <;> omega
    · obtain rfl : k = ps.length := by omega
      have hirr : ¬ (ps.length : Int) < (ps.length : Int) := by omega
      go_wp2
      go_ret
      exact ⟨rfl, hb⟩
end Go.Proofs.Ytkjceegmmhnajaa
