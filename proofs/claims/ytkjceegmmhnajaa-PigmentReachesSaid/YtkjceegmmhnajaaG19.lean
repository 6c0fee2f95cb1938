/- pigment.recipes and pigment.Reach. -/
import Derived.Test.YtkjceegmmhnajaaG06
import Derived.Test.YtkjceegmmhnajaaG08
import Derived.Test.YtkjceegmmhnajaaG09
import Derived.Test.YtkjceegmmhnajaaG17
import Derived.Test.YtkjceegmmhnajaaG18

set_option linter.unusedVariables false
set_option linter.unusedSimpArgs false

namespace Go.Proofs.Ytkjceegmmhnajaa
open Go.RowKit LPX
attribute [local go_sem] Oper.semAt_some erEnc Er.v

set_option maxHeartbeats 400000 in
theorem recipes_any (A : Option Addr) (n c : Nat) (x y z : Int) (w : World) : Calls Try.prog 37 #[.slice A n c, .agg #[.int .i64 x, .int .i64 y, .int .i64 z]] w fun e w' => e = .returned (.func (.func 68) #[] #[.pointer (some ⟨w.heap.size, 0, none⟩), .pointer (some ⟨w.heap.size + 1, 0, none⟩)]) ∧ Bk w' w.heap.size 22 #[.slice A n c] ∧ Bk w' (w.heap.size + 1) 37 #[.int .i64 x, .int .i64 y, .int .i64 z] ∧ Below w.heap.size w w' ∧ w'.heap.size = w.heap.size + 2 := by
  have k1 : Bk ((w.alloc (.cells #[.slice A n c] 22)).alloc (.cells #[.int .i64 x, .int .i64 y, .int .i64 z] 37)) w.heap.size 22 #[.slice A n c] := (Bk.new _ _ _).alloc _
  have k2 : Bk ((w.alloc (.cells #[.slice A n c] 22)).alloc (.cells #[.int .i64 x, .int .i64 y, .int .i64 z] 37)) (w.heap.size + 1) 37 #[.int .i64 x, .int .i64 y, .int .i64 z] := by simpa using Bk.new (w.alloc (.cells #[.slice A n c] 22)) 37 #[.int .i64 x, .int .i64 y, .int .i64 z]
  have hb : Below w.heap.size w ((w.alloc (.cells #[.slice A n c] 22)).alloc (.cells #[.int .i64 x, .int .i64 y, .int .i64 z] 37)) := by exact (by repeat (first | with_reducible exact Below.refl _ _ | with_reducible assumption | with_reducible refine Below.drew ?_ | with_reducible refine below_drewN ?_ _ | (with_reducible refine Below.alloc ?_ ?_ _; rotate_left; (try simp) <;> omega) | (with_reducible refine Below.setCell ?_ ?_ _; rotate_left; (try simp) <;> omega)))
  have HE := Lib.hid (And.intro k1 (And.intro k2 (And.intro hb (show ((w.alloc (.cells #[.slice A n c] 22)).alloc (.cells #[.int .i64 x, .int .i64 y, .int .i64 z] 37)).heap.size = w.heap.size + 2 by simp))))
  clear k1 k2 hb
  go_enter Try.func37, Try.ntmps37
  go_wp2
  go_ret
  exact ⟨rfl, HE.out⟩

theorem offTint_sh {t : Tn} (h : offTint t = false) : shIn t.a t.b t.c := by
  have h1 := sel_in h 0
  have h2 := sel_in h 1
  have h3 := sel_in h 2
  unfold shIn
  simp [sel] at h1 h2 h3
  omega
theorem chkW_ok {l : List Tn} {x y z : Int} (h : chkW l x y z = 0) : (l.length ≤ 12 ∧ 1 ≤ l.length) ∧ (∀ t ∈ l, offTint t = false) ∧ shIn x y z := by
  unfold chkW at h
  split at h
  · rename_i hc
    have hk := chkT_ok hc
    split at h
    · rename_i hs
      exact ⟨⟨hk.1, hk.2.1⟩, hk.2.2.1, shIn_of hs⟩
    · cases h
  · rename_i hc; exact absurd h hc
theorem kpc_set {own : Nat → Prop} (W : World) {b : Nat} (h : own b) (v : Value) : KpC own W (W.setCell ⟨b, 0, none⟩ v) :=
  ⟨by simp, fun g o h1 _ h3 => (Below.heap_setCell _ _ _ _ (by show g ≠ b; intro e; subst e; exact h3 h)).trans h1⟩
/-- what Reach returns -/
def ReachE (l : List Tn) (x y z : Int) (w : World) (e : Ending) (w' : World) : Prop :=
  Below w.heap.size w w' ∧ ((chkW l x y z ≠ 0 ∧ e = .returned (.tuple #[.agg #[.slice none 0 0], .bool false, .int .i64 (chkW l x y z)]))
    ∨ (chkW l x y z = 0 ∧ allR l ⟨x, y, z⟩ = [] ∧ e = .returned (.tuple #[.agg #[.slice none 0 0], .bool false, .int .i64 0]))
    ∨ (chkW l x y z = 0 ∧ ∃ (r : Er) (rs : List (List Pt)), allR l ⟨x, y, z⟩ = r.ps :: rs ∧ e = .returned (.tuple #[.agg #[.slice r.A r.ps.length r.c], .bool true, .int .i64 0]) ∧ r.At w.heap.size w'))

set_option maxRecDepth 100000 in
set_option maxHeartbeats 1000000 in
theorem reach_any (l : List Tn) (A : Option Addr) (c : Nat) (x y z : Int) (w : World) (hl : Lies w w.heap.size A (tintsC l)) (hm : l.length ≤ 1000) (hs : ∀ t ∈ l, t.name.size ≤ 100) :
    Calls Try.prog 15 #[.slice A l.length c, .agg #[.int .i64 x, .int .i64 y, .int .i64 z]] w (ReachE l x y z w) := by
  have HW := Lib.hid (fun W (hb : Below w.heap.size w W) => checkWant_any l A c x y z W ((hl.below hb (Nat.le_refl _)).more hb.size) hm hs)
  have k0 : Bk ((((w.alloc (.cells #[.int .i64 x, .int .i64 y, .int .i64 z] 37)).alloc (.cells #[.slice none 0 0] 25)).alloc (.cells #[.bool false] 4)).alloc (.cells #[.int .i64 0] 31)) w.heap.size 37 #[.int .i64 x, .int .i64 y, .int .i64 z] := (((Bk.new _ _ _).alloc _).alloc _).alloc _
  have k1 : Bk ((((w.alloc (.cells #[.int .i64 x, .int .i64 y, .int .i64 z] 37)).alloc (.cells #[.slice none 0 0] 25)).alloc (.cells #[.bool false] 4)).alloc (.cells #[.int .i64 0] 31)) (w.heap.size + 1) 25 #[.slice none 0 0] := by simpa using ((Bk.new (w.alloc (.cells #[.int .i64 x, .int .i64 y, .int .i64 z] 37)) 25 #[.slice none 0 0]).alloc (.cells #[.bool false] 4)).alloc (.cells #[.int .i64 0] 31)
  have k2 : Bk ((((w.alloc (.cells #[.int .i64 x, .int .i64 y, .int .i64 z] 37)).alloc (.cells #[.slice none 0 0] 25)).alloc (.cells #[.bool false] 4)).alloc (.cells #[.int .i64 0] 31)) (w.heap.size + 2) 4 #[.bool false] := by simpa using (Bk.new ((w.alloc (.cells #[.int .i64 x, .int .i64 y, .int .i64 z] 37)).alloc (.cells #[.slice none 0 0] 25)) 4 #[.bool false]).alloc (.cells #[.int .i64 0] 31)
  have k3 : Bk ((((w.alloc (.cells #[.int .i64 x, .int .i64 y, .int .i64 z] 37)).alloc (.cells #[.slice none 0 0] 25)).alloc (.cells #[.bool false] 4)).alloc (.cells #[.int .i64 0] 31)) (w.heap.size + 3) 31 #[.int .i64 0] := by simpa using Bk.new (((w.alloc (.cells #[.int .i64 x, .int .i64 y, .int .i64 z] 37)).alloc (.cells #[.slice none 0 0] 25)).alloc (.cells #[.bool false] 4)) 31 #[.int .i64 0]
  have hb4 : Below w.heap.size w ((((w.alloc (.cells #[.int .i64 x, .int .i64 y, .int .i64 z] 37)).alloc (.cells #[.slice none 0 0] 25)).alloc (.cells #[.bool false] 4)).alloc (.cells #[.int .i64 0] 31)) := by exact (by repeat (first | with_reducible exact Below.refl _ _ | with_reducible assumption | with_reducible refine Below.drew ?_ | with_reducible refine below_drewN ?_ _ | (with_reducible refine Below.alloc ?_ ?_ _; rotate_left; (try simp) <;> omega) | (with_reducible refine Below.setCell ?_ ?_ _; rotate_left; (try simp) <;> omega)))
  have hlW := Lib.hid hl
  have hCK := Lib.hid (fun h => chkW_ok (l := l) (x := x) (y := y) (z := z) h)
  have hKE : ∃ q, q = chkW l x y z := ⟨_, rfl⟩
  obtain ⟨q, hq⟩ := hKE
  have HQ := Lib.hid hq
  rw [← hq] at HW
  have hAB : Hid (q = 0 → ∀ ad, A = some ad → ad.block < w.heap.size) := fun h0 ad e => by
    have h1 := (chkW_ok (hq.symm.trans h0)).1.2
    obtain ⟨ad', e', hb', _⟩ := hl (by
      intro e
      have h5 : 0 = l.length * 5 := by rw [← tintsC_length l, e]; rfl
      omega)
    rw [e] at e'; cases e'; exact hb'
  clear hl hq hs
  refine (callsIn_wide (n := 3)).1 ?_
  refine callsIn_of_wp_marks Try.func15 rfl trivial ?_ rfl
  simp only [Try.ntmps15, List.size_toArray, List.length_cons, List.length_nil, Nat.reduceAdd, Nat.reduceSub, Array.replicate_succ, Array.replicate_zero, List.push_toArray, List.append_toArray, List.nil_append, List.cons_append]
  refine wpIn_wide.2 ?_
  by_cases h0 : q = 0
  · subst h0
    have hck := hCK.out HQ.out.symm
    go_wp2_with (first | (go_at_call 36; refine (HW.out _ hb4).mono ?_; rintro e w5 ⟨rfl, hb5⟩; have hB5 := hb4.trans (hb5.mono hb4.size); have p0 := k0.below hb5 k0.lt; have q1 := k1.below hb5 k1.lt; have q2 := k2.below hb5 k2.lt; have q3 := k3.below hb5 k3.lt; have y0 := p0.cell 0 rfl; have y1 := p0.cell 1 rfl; have y2 := p0.cell 2 rfl; clear hb5 k0 k1 k2 k3) | (go_at_call 37; refine (recipes_any A l.length c x y z w5).mono ?_; rintro e w6 ⟨rfl, r0, r1, hb6, hz6⟩))
    have hl4 := q3.lt
    have hB6 := hB5.trans (hb6.mono hB5.size)
    have s1 := q1.below hb6 q1.lt
    have s2 := q2.below hb6 q2.lt
    have s3 := q3.below hb6 q3.lt
    have l5 := hB5.size
    clear hb6 q1 q2 q3 y0 y1 y2 p0
    have HRR := Lib.hid (And.intro r0 r1)
    clear r0 r1
    refine (wpIn_wide (n := 3)).1 ?_
    refine rangeFunc_box (n := 3) rfl (by omega) (gf := 68) (lb := #[.pointer (some ⟨w5.heap.size, 0, none⟩), .pointer (some ⟨w5.heap.size + 1, 0, none⟩)]) rfl trivial (enters_of Try.func68 (by kernel_rfl) rfl)
      (encs := erEnc) (Pre := Er.At w6.heap.size) (Kp := KpC (fun g => g = w.heap.size + 1 ∨ g = w.heap.size + 2 ∨ g = w.heap.size + 3)) (S := fun xs => xs.map Er.ps = allR l ⟨x, y, z⟩) (Sp := fun pre => pre.map Er.ps <+: allR l ⟨x, y, z⟩) (N := (allc l.length).length) (w0 := w6) ?seq (fun h k => h.trans k) (fun W l o o' _ h1 h2 _ => KpC.putObj o' h1 h2) (Below.refl _ _) (fun _ => rfl)
      (fun pre W => pre = [] ∧ (Below w.heap.size w W ∧ (Bk W (w.heap.size + 1) 25 #[.slice none 0 0] ∧ (Bk W (w.heap.size + 2) 4 #[.bool false] ∧ Bk W (w.heap.size + 3) 31 #[.int .i64 0]))))
      (fun cc pre W => cc = .ret ∧ ∃ e : Er, pre = [e] ∧ (Below w.heap.size w W ∧ (e.At w.heap.size W ∧ (Bk W (w.heap.size + 1) 25 #[.slice e.A e.ps.length e.c] ∧ (Bk W (w.heap.size + 2) 4 #[.bool true] ∧ Bk W (w.heap.size + 3) 31 #[.int .i64 0]))))) ?own ?ownx ?pre ⟨rfl, hB6, s1, s2, s3⟩
      (fun e => .cells #[.slice e.A e.ps.length e.c] 25) (fun W o => KpC.of_below ((Below.refl _ W).alloc (Nat.le_refl _) o))
      (fun e k => { tmps := #[.slice A l.length c, .agg #[.int .i64 x, .int .i64 y, .int .i64 z], undef, .pointer (some ⟨w.heap.size, 0, none⟩), .pointer (some ⟨w.heap.size + 1, 0, none⟩), .pointer (some ⟨w.heap.size + 1 + 1, 0, none⟩), .pointer (some ⟨w.heap.size + 1 + 1 + 1, 0, none⟩), .int .i64 0, .pointer (some ⟨k, 0, none⟩), .slice A l.length c, .agg #[.int .i64 x, .int .i64 y, .int .i64 z], .int .i64 0, .int .i64 0, .bool false, undef, undef, .slice A l.length c, .agg #[.int .i64 x, .int .i64 y, .int .i64 z], .func (.func 68) #[] #[.pointer (some ⟨w5.heap.size, 0, none⟩), .pointer (some ⟨w5.heap.size + 1, 0, none⟩)], .agg #[.slice e.A e.ps.length e.c], undef, undef], defers := [] }) ?assign ?body ?done ?stop
    case seq => exact recipes_seq 2 (fun g => g = w.heap.size + 1 ∨ g = w.heap.size + 2 ∨ g = w.heap.size + 3) w5.heap.size (w5.heap.size + 1) l A c x y z w6 (fun g h => by omega) (by omega) (by omega) (fun ad e => by have := hAB.out (by first | trivial | rfl) ad e; omega) (HRR.out.1.cell 0 rfl) HRR.out.2 ((hlW.out.below hB6 (Nat.le_refl _)).more hB6.size) hm (fun t ht => offTint_sh (hck.2.1 t ht)) hck.2.2
    case own =>
      rintro pre W W' row ⟨h1, h2, h3, h4, h5⟩ hg hr
      exact ⟨h1, h2.grown hg h2.size (fun k e => by have := (hr k e).1; omega), h3.grown hg (fun e => by have := (hr _ e.symm).1; omega), h4.grown hg (fun e => by have := (hr _ e.symm).1; omega), h5.grown hg (fun e => by have := (hr _ e.symm).1; omega)⟩
    case ownx =>
      rintro cc pre W W' row ⟨h0, e, h1, h2, h6, h3, h4, h5⟩ hg hr
      exact ⟨h0, e, h1, h2.grown hg h2.size (fun k e => by have := (hr k e).1; omega), h6.kp (KpC.of_grown hg (fun r e => (hr r e).2)), h3.grown hg (fun e => by have := (hr _ e.symm).1; omega), h4.grown hg (fun e => by have := (hr _ e.symm).1; omega), h5.grown hg (fun e => by have := (hr _ e.symm).1; omega)⟩
    case pre =>
      rintro e W W' row h1 hg hr
      exact h1.kp (KpC.of_grown hg (fun r e => (hr r e).2))
    case assign =>
      intro lb e W K hK
      gi_wp2
      exact hK
    case body =>
      rintro lb pre e W k hk1 hk2 ⟨rfl, h2, h3, h4, h5⟩ hat _
      have kb : Bk W k 25 #[.slice e.A e.ps.length e.c] := hk2
      have v0 := kb.cell 0 rfl
      have z1 := h3.fro 0
      have z2 := h4.fro 0
      have z3 := h5.fro 0
      have y1 := h3.cell 0 rfl
      have y2 := h4.cell 0 rfl
      have y3 := h5.cell 0 rfl
      gi_wp2
      have h1W : KpC (fun g => g = w.heap.size + 1 ∨ g = w.heap.size + 2 ∨ g = w.heap.size + 3) W (((W.setCell ⟨w.heap.size + 1, 0, none⟩ (.slice e.A e.ps.length e.c)).setCell ⟨w.heap.size + 1 + 1, 0, none⟩ (.bool true)).setCell ⟨w.heap.size + 1 + 1 + 1, 0, none⟩ (.int .i64 0)) := ((kpc_set W (.inl rfl) _).trans (kpc_set _ (.inr (.inl rfl)) _)).trans (kpc_set _ (.inr (.inr rfl)) _)
      refine ⟨(((KeepsOthers.setCell _ _ _).trans (KeepsOthers.setCell _ _ _)).trans (KeepsOthers.setCell _ _ _)).from _, h1W, rfl, e, rfl, ((h2.setCell (by simp) _).setCell (by simp; omega) _).setCell (by simp; omega) _, ⟨(h1W.lies hat.1 (fun ad e => by have := hat.2 ad e; omega)).more h1W.size, fun ad e => by have := hat.2 ad e; have := hB6.size; omega⟩, ((h3.set 0 _).far (by simp) _).far (by simp) _, ((h4.far (by simp) _).set 0 _).far (by simp) _, ((h5.far (by simp) _).far (by simp) _).set 0 _⟩
    case done =>
      rintro D xs W hwD hS ⟨rfl, h2, h3, h4, h5⟩ hK
      have hMW := Marks.cons (Marks.nil (w.heap.size + 4) W) (by omega : w.heap.size + 4 ≤ D) (by simp) hK
      have z1 := h3.fro 0
      have z2 := h4.fro 0
      have z3 := h5.fro 0
      have y1 := h3.cell 0 rfl
      have y2 := h4.cell 0 rfl
      have y3 := h5.cell 0 rfl
      go_wp2
      have g1 := ((h3.set 0 (.slice none 0 0)).far (p := ⟨w.heap.size + 2, 0, none⟩) (by simp) (.bool false)).far (p := ⟨w.heap.size + 3, 0, none⟩) (by simp) (.int .i64 0)
      have g2 := ((h4.far (p := ⟨w.heap.size + 1, 0, none⟩) (by simp) (.slice none 0 0)).set 0 (.bool false)).far (p := ⟨w.heap.size + 3, 0, none⟩) (by simp) (.int .i64 0)
      have g3 := ((h5.far (p := ⟨w.heap.size + 1, 0, none⟩) (by simp) (.slice none 0 0)).far (p := ⟨w.heap.size + 2, 0, none⟩) (by simp) (.bool false)).set 0 (.int .i64 0)
      have gM := hMW.keep (w' := ((W.setCell ⟨w.heap.size + 1, 0, none⟩ (.slice none 0 0)).setCell ⟨w.heap.size + 2, 0, none⟩ (.bool false)).setCell ⟨w.heap.size + 3, 0, none⟩ (.int .i64 0)) fun E hE h => (Below.heap_setCell _ _ _ _ (by show E ≠ w.heap.size + 3; omega)).trans ((Below.heap_setCell _ _ _ _ (by show E ≠ w.heap.size + 2; omega)).trans ((Below.heap_setCell _ _ _ _ (by show E ≠ w.heap.size + 1; omega)).trans h))
      have gb := ((h2.setCell (p := ⟨w.heap.size + 1, 0, none⟩) (by simp) (.slice none 0 0)).setCell (p := ⟨w.heap.size + 2, 0, none⟩) (by simp) (.bool false)).setCell (p := ⟨w.heap.size + 3, 0, none⟩) (by simp) (.int .i64 0)
      have x1 := (gM.bk g1).cell 0 rfl
      have x2 := (gM.bk g2).cell 0 rfl
      have x3 := (gM.bk g3).cell 0 rfl
      have gB := Marks.below (by omega) gM gb
      refine leaves_marks (v := .tuple #[.agg #[.slice none 0 0], .bool false, .int .i64 0]) (.inl rfl) gM rfl ?_ ⟨gB, .inr (.inl ⟨HQ.out.symm, ?_, rfl⟩)⟩
      · simp only [Nat.add_assoc, Nat.reduceAdd] at x1 x2 x3 ⊢
        generalize shut [D] _ = w9 at *
        simp [results, Try.results15, go_sem, x1, x2, x3]
      · exact hS.symm
    case stop =>
      rintro D cc pre W hwD hp ⟨rfl, e, rfl, h2, h6, h3, h4, h5⟩ hK
      have hMW := Marks.cons (Marks.nil (w.heap.size + 4) W) (by omega : w.heap.size + 4 ≤ D) (by simp) hK
      gi_wp2
      have x1 := (hMW.bk h3).cell 0 rfl
      have x2 := (hMW.bk h4).cell 0 rfl
      have x3 := (hMW.bk h5).cell 0 rfl
      have gB := Marks.below (by omega) hMW h2
      have h6' : e.At w.heap.size (shut [D] W) := h6.kp (KpC.putObj _ hK rfl)
      obtain ⟨rs, hrs⟩ := hp
      refine leaves_marks (v := .tuple #[.agg #[.slice e.A e.ps.length e.c], .bool true, .int .i64 0]) (.inl rfl) hMW rfl ?_ ⟨gB, .inr (.inr ⟨HQ.out.symm, e, rs, hrs.symm, rfl, h6'⟩)⟩
      generalize shut [D] W = w9 at *
      simp [results, Try.results15, go_sem, x1, x2, x3]
  · go_wp2_with (first | (go_at_call 36; refine (HW.out _ hb4).mono ?_; rintro e w5 ⟨rfl, hb5⟩; have hB5 := hb4.trans (hb5.mono hb4.size); have q1 := k1.below hb5 k1.lt; have q2 := k2.below hb5 k2.lt; have q3 := k3.below hb5 k3.lt; have z1 := q1.fro 0; have z2 := q2.fro 0; have z3 := q3.fro 0; have y1 := q1.cell 0 rfl; have y2 := q2.cell 0 rfl; have y3 := q3.cell 0 rfl; clear hb5 k0 k1 k2 k3))
    have g1 := ((q1.set 0 (.slice none 0 0)).far (p := ⟨w.heap.size + 2, 0, none⟩) (by simp) (.bool false)).far (p := ⟨w.heap.size + 3, 0, none⟩) (by simp) (.int .i64 q)
    have g2 := ((q2.far (p := ⟨w.heap.size + 1, 0, none⟩) (by simp) (.slice none 0 0)).set 0 (.bool false)).far (p := ⟨w.heap.size + 3, 0, none⟩) (by simp) (.int .i64 q)
    have g3 := ((q3.far (p := ⟨w.heap.size + 1, 0, none⟩) (by simp) (.slice none 0 0)).far (p := ⟨w.heap.size + 2, 0, none⟩) (by simp) (.bool false)).set 0 (.int .i64 q)
    have gb := ((hB5.setCell (p := ⟨w.heap.size + 1, 0, none⟩) (by simp) (.slice none 0 0)).setCell (p := ⟨w.heap.size + 2, 0, none⟩) (by simp) (.bool false)).setCell (p := ⟨w.heap.size + 3, 0, none⟩) (by simp) (.int .i64 q)
    have x1 := g1.cell 0 rfl
    have x2 := g2.cell 0 rfl
    have x3 := g3.cell 0 rfl
    refine leaves_marks (Ds := []) (B := 0) (v := .tuple #[.agg #[.slice none 0 0], .bool false, .int .i64 q]) (.inl rfl) (Marks.nil _ _) rfl ?_ ⟨gb, .inl ⟨by rw [← HQ.out]; exact h0, by rw [← HQ.out]⟩⟩
    simp only [Nat.add_assoc, Nat.reduceAdd, shut] at x1 x2 x3 ⊢
    generalize World.setCell _ _ _ = w9 at *
    simp [results, Try.results15, go_sem, x1, x2, x3]
end Go.Proofs.Ytkjceegmmhnajaa

namespace Go.Proofs.Ytkjceegmmhnajaa
open Go.RowKit LPX

theorem rrecipe_any (l : List Tn) (L : List Nat) (x y z : Int) (At A : Option Addr) (ct c : Nat) (w : World) (hlt : Lies w w.heap.size At (tintsC l)) (hl : Lies w w.heap.size A (nats L)) (h4 : 1 ≤ L.length ∧ L.length ≤ 4) (hr : ∀ i ∈ L, i < l.length) (hm2 : l.length ≤ 1000)
    (hsh : ∀ t ∈ l, shIn t.a t.b t.c) (hx : shIn x y z) : Calls Try.prog 52 #[.slice At l.length ct, .slice A L.length c, .agg #[.int .i64 x, .int .i64 y, .int .i64 z]] w (RecR (rrcpF l ⟨x, y, z⟩ L) w) := by
  have hl' := hl
  rw [nats_ints] at hl'
  have h4' : 1 ≤ (natI L).length ∧ (natI L).length ≤ 4 := by rw [natI_len]; exact h4
  have hr' : ∀ i ∈ natI L, 0 ≤ i ∧ i < l.length := fun i hi => by
    unfold natI at hi
    obtain ⟨j, hj, rfl⟩ := List.mem_map.1 hi
    have := hr j hj
    omega
  have hpts : ∀ p ∈ ptsOf l (natI L), shadeV p := fun p hp => by
    unfold ptsOf at hp
    obtain ⟨i, hi, rfl⟩ := List.mem_map.1 hp
    obtain ⟨h1, h2⟩ := hr' i hi
    have h3 : i.toNat < l.length := by omega
    rw [List.getElem?_eq_getElem h3]
    exact hsh _ (List.getElem_mem h3)
  have h := rrecipe_all l (natI L) x y z At A ct c w hlt hl' h4' hr' hm2 hsh hx _ rfl (fun ws hws => by
    obtain ⟨b1, b2⟩ := rpw_bd hws hpts hx
    exact ⟨by rw [b1]; simp [ptsOf], fun v hv => by have := b2 v hv; unfold ab at this; omega⟩)
  rw [natI_len] at h
  exact h
theorem rec_form {r : Option (List Pt)} {w w' : World} {e : Ending} (h : RecR r w e w') : ∃ (A : Option Addr) (n c : Nat) (b : Bool), e = .returned (.tuple #[.agg #[.slice A n c], .bool b]) ∧ Below w.heap.size w w' ∧ ((b = false ∧ r = none) ∨ (b = true ∧ ∃ ps, r = some ps ∧ n = ps.length ∧ w'.ownsRow w.heap.size 64 2 (.slice A n c) n (partsC ps))) := by
  cases r with
  | none => exact ⟨none, 0, 0, false, h.1, h.2, .inl ⟨rfl, rfl⟩⟩
  | some ps =>
    obtain ⟨v, he, ho, hb⟩ := h
    obtain ⟨A, c, rfl, _, _⟩ := ownsSlice ho
    exact ⟨A, ps.length, c, true, he, hb, .inr ⟨rfl, ps, rfl, rfl, ho⟩⟩
theorem own_setCell2 {w : World} {base b o : Nat} {e : TypeId} {size n : Nat} {v u : Value} {xs : List Value} (ho : w.ownsRow base e size v n xs) (hb : v.ownBlock = some b → False) : (w.setCell ⟨b, o, none⟩ u).ownsRow base e size v n xs := by
  refine ⟨ho.1, ?_⟩
  rcases ho.2 with h | ⟨g, cap, cur, rfl, h2, h3, h4⟩
  · exact .inl h
  · exact .inr ⟨g, cap, cur, rfl, h2, (Below.heap_setCell _ _ _ g (show g ≠ b by intro e; subst e; exact hb rfl)).trans h3, h4⟩
/-- all recipes as the reference has them -/
def rallR (l : List Tn) (x : Vc) : List (List Pt) := (allc l.length).filterMap (rrcpF l x)
/-- what the reference's Reach returns -/
def RReachE (l : List Tn) (x y z : Int) (w : World) (e : Ending) (w' : World) : Prop :=
  Below w.heap.size w w' ∧ ((chkW l x y z ≠ 0 ∧ e = .returned (.tuple #[.agg #[.slice none 0 0], .bool false, .int .i64 (chkW l x y z)]))
    ∨ (chkW l x y z = 0 ∧ rallR l ⟨x, y, z⟩ = [] ∧ e = .returned (.tuple #[.agg #[.slice none 0 0], .bool false, .int .i64 0]))
    ∨ (chkW l x y z = 0 ∧ ∃ (r : Er) (rs : List (List Pt)), rallR l ⟨x, y, z⟩ = r.ps :: rs ∧ e = .returned (.tuple #[.agg #[.slice r.A r.ps.length r.c], .bool true, .int .i64 0]) ∧ r.At w.heap.size w'))
theorem first_of {F : List Nat → Option (List Pt)} {n k i : Nat} {ps : List Pt} (h1 : 1 ≤ k) (h4 : k ≤ 4) (hlev : (levC n k).filterMap F = []) (hi : i < (chs n k 0).length) (htk : ((chs n k 0).take i).filterMap F = []) (hf : F (chs n k 0)[i] = some ps) : ∃ rs, (allc n).filterMap F = ps :: rs := by
  obtain ⟨t, ht⟩ := levC_pre n (show 1 ≤ k + 1 by omega) 5 (by omega)
  rw [levC_all, levC_succ n h1] at ht
  have e : chs n k 0 = (chs n k 0).take i ++ (chs n k 0)[i] :: (chs n k 0).drop (i + 1) := by rw [List.getElem_cons_drop, List.take_append_drop]
  rw [← ht, List.filterMap_append, List.filterMap_append, hlev, e, List.filterMap_append]
  generalize hM : (chs n k 0)[i] = M at *
  generalize (chs n k 0).take i = tk0 at *
  rw [htk, List.filterMap_cons, hf]
  exact ⟨_, rfl⟩

set_option maxRecDepth 100000 in
set_option maxHeartbeats 2000000 in
theorem rreach_any (l : List Tn) (A : Option Addr) (c : Nat) (x y z : Int) (w : World) (hl : Lies w w.heap.size A (tintsC l)) (hm : l.length ≤ 1000) (hs : ∀ t ∈ l, t.name.size ≤ 100) :
    Calls Try.prog 25 #[.slice A l.length c, .agg #[.int .i64 x, .int .i64 y, .int .i64 z]] w (RReachE l x y z w) := by
  have HW := Lib.hid (fun W (hb : Below w.heap.size w W) => rwanted_any l A c x y z W ((hl.below hb (Nat.le_refl _)).more hb.size) hm hs)
  have k0 : Bk ((w.alloc (.cells #[.int .i64 x, .int .i64 y, .int .i64 z] 37)).alloc (.cells #[.slice none 0 0] 25)) w.heap.size 37 #[.int .i64 x, .int .i64 y, .int .i64 z] := (Bk.new _ _ _).alloc _
  have k1 : Bk ((w.alloc (.cells #[.int .i64 x, .int .i64 y, .int .i64 z] 37)).alloc (.cells #[.slice none 0 0] 25)) (w.heap.size + 1) 25 #[.slice none 0 0] := by simpa using Bk.new (w.alloc (.cells #[.int .i64 x, .int .i64 y, .int .i64 z] 37)) 25 #[.slice none 0 0]
  have hb4 : Below w.heap.size w ((w.alloc (.cells #[.int .i64 x, .int .i64 y, .int .i64 z] 37)).alloc (.cells #[.slice none 0 0] 25)) := by exact (by repeat (first | with_reducible exact Below.refl _ _ | with_reducible assumption | with_reducible refine Below.drew ?_ | with_reducible refine below_drewN ?_ _ | (with_reducible refine Below.alloc ?_ ?_ _; rotate_left; (try simp) <;> omega) | (with_reducible refine Below.setCell ?_ ?_ _; rotate_left; (try simp) <;> omega)))
  have hlW := Lib.hid hl
  have hCK := Lib.hid (fun h => chkW_ok (l := l) (x := x) (y := y) (z := z) h)
  obtain ⟨q, hq⟩ : ∃ q, q = chkW l x y z := ⟨_, rfl⟩
  have HQ := Lib.hid hq
  rw [← hq] at HW
  clear hl hq hs
  by_cases h0 : q = 0
  · subst h0
    obtain ⟨⟨hn12, hn1⟩, hoff, hsh⟩ := hCK.out HQ.out.symm
    have HREC : Hid (∀ (L : List Nat) (AL : Option Addr) (cL : Nat) (W : World), Below w.heap.size w W → Lies W W.heap.size AL (nats L) → (∃ k, 1 ≤ k ∧ k ≤ 4 ∧ L ∈ chs l.length k 0) → Calls Try.prog 52 #[.slice A l.length c, .slice AL L.length cL, .agg #[.int .i64 x, .int .i64 y, .int .i64 z]] W (RecR (rrcpF l ⟨x, y, z⟩ L) W)) := fun L AL cL W hb hL ⟨k, k1, k4, hm'⟩ => by
      obtain ⟨m1, _, m3⟩ := (mem_chs _ _ _ _).1 hm'
      exact rrecipe_any l L x y z A AL c cL W ((hlW.out.below hb (Nat.le_refl _)).more hb.size) hL (by omega) (fun i hi => (m3 i hi).2) hm (fun t ht => offTint_sh (hoff t ht)) hsh
    clear hoff hsh hCK
    have HNI : Hid (rallR l ⟨x, y, z⟩ = (levC l.length 5).filterMap (rrcpF l ⟨x, y, z⟩)) := by show _ = _; rw [levC_all]; rfl
    have HFI : Hid (∀ (k i : Nat) (ps : List Pt) (_ : 1 ≤ k) (_ : k ≤ 4) (_ : (levC l.length k).filterMap (rrcpF l ⟨x, y, z⟩) = []) (hi : i < (chs l.length k 0).length) (_ : ((chs l.length k 0).take i).filterMap (rrcpF l ⟨x, y, z⟩) = []) (_ : rrcpF l ⟨x, y, z⟩ (chs l.length k 0)[i] = some ps), ∃ rs, rallR l ⟨x, y, z⟩ = ps :: rs) := fun k i ps h1 h2 h3 hi h4 h5 => first_of h1 h2 h3 hi h4 h5
    generalize hF : rrcpF l ⟨x, y, z⟩ = F at *
    clear hF
    go_enter Try.func25, Try.ntmps25
    go_wp2_with (first | (go_at_call 49; refine (HW.out _ hb4).mono ?_; rintro e w5 ⟨rfl, hb5⟩; have hB5 := hb4.trans (hb5.mono hb4.size); have p0 := k0.below hb5 k0.lt; have q1 := k1.below hb5 k1.lt; clear hb5 k0 k1))
    go_loopw [8] (fun yk wr => ∃ k : Nat, 1 ≤ k ∧ k ≤ 5 ∧ yk = .int .i64 (k : Int) ∧ Hid ((levC l.length k).filterMap F = []) ∧ Below w.heap.size w wr ∧ Bk wr w.heap.size 37 #[.int .i64 x, .int .i64 y, .int .i64 z] ∧ Bk wr (w.heap.size + 1) 25 #[.slice none 0 0]) (fun yk _ => 5 - (intOf yk).toNat)
    case atStart => exact ⟨1, Nat.le_refl _, by omega, rfl, rfl, hB5, p0, q1⟩
    case round =>
      clear p0 q1 hB5
      obtain ⟨k, hk1, hk5, rfl, HLV, hbw, p0, q1⟩ := hrel
      have hz1 := q1.lt
      by_cases hk4 : k ≤ 4
      · have hkI : (k : Int) ≤ 4 := by omega
        have hwk : IntKind.i64.wrap ((k : Int) + 1) = (k : Int) + 1 := IntWalk.i64_in _ (by omega)
        go_wp2_with (go_at_call 51; refine (rchoices_any l.length k wr hn12 hk4).mono ?_; rintro e w6 ⟨hb6, v, zs, rfl, hzs, hown, hrows⟩; obtain ⟨Ao, co, rfl, _, _⟩ := ownsSlice hown)
        have hB6 := hbw.trans (hb6.mono hbw.size)
        have p6 := p0.below hb6 p0.lt
        have q6 := q1.below hb6 q1.lt
        have hzl := q6.lt
        have HZ := Lib.hid hzs
        have HRW := Lib.hid hrows
        have hlen0 : zs.length = (chs l.length k 0).length := by rw [← hzs, List.length_map]
        have HLEN := Lib.hid hlen0
        have hz20 : zs.length ≤ 20736 := by rw [hlen0]; exact chs_bd hn12 hk4
        have hb6s := hB6.size
        clear hzs hrows hlen0 hb6 p0 q1 hbw
        go_loopw [10] (fun yi wr2 => ∃ i : Nat, i ≤ zs.length ∧ yi = .int .i64 (i : Int) ∧ Hid (((chs l.length k 0).take i).filterMap F = []) ∧ Below w6.heap.size w6 wr2) (fun yi _ => zs.length - (intOf yi).toNat)
        case atStart => exact ⟨0, Nat.zero_le _, rfl, rfl, Below.refl _ _⟩
        case round =>
          obtain ⟨i, hi, rfl, HTK, hb7⟩ := hrel
          obtain ⟨w7, rfl⟩ : ∃ x, x = wr := ⟨_, rfl⟩
          by_cases hil : i < zs.length
          · have hiI : (i : Int) < (zs.length : Int) := by omega
            have hi0 : 0 ≤ (i : Int) := by omega
            have hwi : IntKind.i64.wrap ((i : Int) + 1) = (i : Int) + 1 := IntWalk.i64_in _ (by omega)
            have hic : i < (chs l.length k 0).length := by rw [← HLEN.out]; exact hil
            obtain ⟨ad, u, rfl, had, hu, hc⟩ := ((ownsRow_lies hown).below hb7 (Nat.le_refl _)).at_ (k := i) (by simpa using hil)
            obtain ⟨vi, L, hzE⟩ : ∃ v M, zs[i] = (v, M) := ⟨_, _, rfl⟩
            obtain rfl : vi = u := by simpa [List.getElem?_eq_getElem hil, hzE] using hu
            have hrow := (HRW.out zs[i] (List.getElem_mem hil)).below hb7
            have hLc : (chs l.length k 0)[i] = L := by simp only [← HZ.out, List.getElem_map, hzE]
            rw [hzE] at hrow
            unfold RowL at hrow
            dsimp only at hrow
            obtain ⟨AL, cL, rfl, _, _⟩ := ownsSlice hrow
            have hB7 := hB6.trans (hb7.mono hb6s)
            have HRC : Hid (∀ W, Below w7.heap.size w7 W → Calls Try.prog 52 #[.slice A l.length c, .slice AL L.length cL, .agg #[.int .i64 x, .int .i64 y, .int .i64 z]] W (RecR (F L) W)) := fun W hb => HREC.out L AL cL W (hB7.trans (hb.mono hB7.size)) (((ownsRow_lies hrow).below hb (Nat.le_refl _)).more hb.size) ⟨k, hk1, hk4, by rw [← hLc]; exact List.getElem_mem hic⟩
            have HNX : Hid (F L = none → ((chs l.length k 0).take (i + 1)).filterMap F = []) := fun h => by
              rw [List.take_succ_eq_append_getElem hic, List.filterMap_append, HTK.out, hLc]
              simp [h]
            have HFD : Hid (∀ ps, F L = some ps → ∃ rs, rallR l ⟨x, y, z⟩ = ps :: rs) := fun ps h => HFI.out k i ps hk1 hk4 HLV.out hic HTK.out (by rw [hLc]; exact h)
            have p7 := p6.below hb7 p6.lt
            have q7 := q6.below hb7 q6.lt
            have y0 := p7.cell 0 rfl
            have y1 := p7.cell 1 rfl
            have y2 := p7.cell 2 rfl
            have lp := p7.lt
            clear hrow hLc hzE hu hic
            go_upto_region 11 with fail
            go_cut [11, 12] (fun s11 s12 wx => ∃ (g : Nat) (A2 : Option Addr) (n2 c2 : Nat) (b : Bool), s11 = .pointer (some ⟨g, 0, none⟩) ∧ s12 = .bool b ∧ Bk wx g 25 #[.slice A2 n2 c2] ∧ Below w7.heap.size w7 wx ∧ ((b = false ∧ F L = none) ∨ (b = true ∧ ∃ ps, F L = some ps ∧ n2 = ps.length ∧ wx.ownsRow w7.heap.size 64 2 (.slice A2 n2 c2) n2 (partsC ps))))
            case first =>
              have HS : Hid (∀ W, Below w7.heap.size w7 W → W.cell? (ad.add i) = some (.slice AL L.length cL) ∧ (W.cell? ⟨w.heap.size, 0, none⟩ = some (.int .i64 x) ∧ W.cell? ⟨w.heap.size, 1, none⟩ = some (.int .i64 y) ∧ W.cell? ⟨w.heap.size, 2, none⟩ = some (.int .i64 z))) := fun W hb => by
                have p8 := p7.below hb p7.lt
                exact ⟨(hb.cell (p := ad.add i) (by rw [add_block]; exact Nat.lt_of_lt_of_le had hb7.size)).trans hc, p8.cell 0 rfl, p8.cell 1 rfl, p8.cell 2 rfl⟩
              refine wp_region_held_drew (S := (fun W => W.cell? (ad.add i) = some (.slice AL L.length cL) ∧ (W.cell? ⟨w.heap.size, 0, none⟩ = some (.int .i64 x) ∧ W.cell? ⟨w.heap.size, 1, none⟩ = some (.int .i64 y) ∧ W.cell? ⟨w.heap.size, 2, none⟩ = some (.int .i64 z)))) (by kernel_rfl) ?_ (fun hHeld => ?_)
              · exact HS.out _ (Below.refl _ _).drew
              have hb8 : Below w7.heap.size w7 w7.drew := (Below.refl _ _).drew
              clear hc y0 y1 y2 lp
              generalize w7.drew = w8 at *
              refine tk 0 35 ?_
              refine tk 1 36 ?_
              refine tk 2 37 ?_
              refine tk 3 38 ?_
              refine tk 4 39 ?_
              refine tk 5 40 ?_
              have hz8 := hb8.size
              refine held_two 6 10 ⟨some 41, .call { callee := .value (.func 52), args := #[.tmp 35, .tmp 39, .tmp 40], argTypes := #[22, 77, 37] }, _, _, _, none⟩ ⟨some 11, .alloc 25, _, _, _, none⟩ rfl rfl (by kernel_rfl) (by rfl) (by rfl) ?_ ?_
              · refine wp_call (f := 52) (args := #[.slice A l.length c, .slice AL L.length cL, .agg #[.int .i64 x, .int .i64 y, .int .i64 z]]) (by go_simp) (HRC.out _ hb8) ?_
                rintro e w9 h9
                obtain ⟨A2, n2, c2, b, rfl, hb9, h9⟩ := rec_form h9
                replace hb9 := hb8.trans (hb9.mono hz8)
                have hz9 := hb9.size
                refine ⟨_, rfl, HS.out _ hb9, ?_⟩
                (try simp only [Act.put, List.setIfInBounds_toArray, List.set_cons_zero, List.set_cons_succ])
                clear hHeld
                have hHeld := HS.out _ hb9
                refine tk 7 34 ?_
                refine tk 8 42 ?_
                refine tk 9 43 ?_
                clear hHeld
                refine held_one 10 ⟨some 11, .alloc 25, _, _, _, none⟩ rfl (by kernel_rfl) (by rfl) ?_
                unfold Oper.wp
                go_simp
                have kb := Bk.new w9 25 #[.slice none 0 0]
                have hbA : Below w7.heap.size w7 (w9.alloc (.cells #[.slice none 0 0] 25)) := hb9.alloc hz9 _
                refine ⟨HS.out _ hbA, ?_⟩
                (try simp only [Act.put, List.setIfInBounds_toArray, List.set_cons_zero, List.set_cons_succ])
                have xb := kb.cell 0 rfl
                have fb := kb.fro 0
                refine held_one 11 ⟨none, .store 25 (.tmp 11) (.tmp 42), _, _, _, none⟩ rfl (by kernel_rfl) (by rfl) ?_
                unfold Oper.wp
                go_simp
                have kb2 := Bk.new w9 25 #[.slice A2 n2 c2]
                have hbC : Below w7.heap.size w7 (w9.alloc (.cells #[.slice A2 n2 c2] 25)) := hb9.alloc hz9 _
                refine ⟨HS.out _ hbC, ?_⟩
                (try simp only [Act.put, List.setIfInBounds_toArray, List.set_cons_zero, List.set_cons_succ])
                have hHeld := HS.out _ hbC
                refine tk 12 12 ?_
                refine wpAnyH_done (by kernel_rfl) ?_ _
                clear hHeld xb fb kb
                go_wp2_with fail
                go_meet
                refine ⟨w9.heap.size, A2, n2, c2, b, rfl, rfl, kb2, hbC, ?_⟩
                rcases h9 with h9 | ⟨h9, ps, e1, e2, e3⟩
                · exact .inl h9
                · exact .inr ⟨h9, ps, e1, e2, ((own_more e3 hz8).alloc _)⟩
              · unfold Oper.wp
                go_simp
                have kb := Bk.new w8 25 #[.slice none 0 0]
                have hbA : Below w7.heap.size w7 (w8.alloc (.cells #[.slice none 0 0] 25)) := hb8.alloc hz8 _
                refine ⟨HS.out _ hbA, ?_⟩
                (try simp only [Act.put, List.setIfInBounds_toArray, List.set_cons_zero, List.set_cons_succ])
                clear hHeld
                generalize hgb : w8.heap.size = gb at *
                obtain ⟨wA, hwA⟩ : ∃ v, v = w8.alloc (.cells #[.slice none 0 0] 25) := ⟨_, rfl⟩
                rw [← hwA] at kb hbA ⊢
                have hzA := hbA.size
                have lA := kb.lt
                clear hwA
                refine held_one 6 ⟨some 41, .call { callee := .value (.func 52), args := #[.tmp 35, .tmp 39, .tmp 40], argTypes := #[22, 77, 37] }, _, _, _, none⟩ rfl (by kernel_rfl) (by rfl) ?_
                refine wp_call (f := 52) (args := #[.slice A l.length c, .slice AL L.length cL, .agg #[.int .i64 x, .int .i64 y, .int .i64 z]]) (by go_simp) (HRC.out _ hbA) ?_
                rintro e w9 h9
                obtain ⟨A2, n2, c2, b, rfl, hb9', h9⟩ := rec_form h9
                have hb9 := hbA.trans (hb9'.mono hzA)
                have hz9 := hb9.size
                replace kb := kb.below hb9' kb.lt
                refine ⟨_, rfl, HS.out _ hb9, ?_⟩
                (try simp only [Act.put, List.setIfInBounds_toArray, List.set_cons_zero, List.set_cons_succ])
                have hHeld := HS.out _ hb9
                refine tk 7 34 ?_
                refine tk 8 42 ?_
                refine tk 9 43 ?_
                clear hHeld
                have xb := kb.cell 0 rfl
                have fb := kb.fro 0
                refine held_one 11 ⟨none, .store 25 (.tmp 11) (.tmp 42), _, _, _, none⟩ rfl (by kernel_rfl) (by rfl) ?_
                unfold Oper.wp
                go_simp
                have kb2 := kb.set 0 (.slice A2 n2 c2)
                have hbC := hb9.setCell (p := ⟨gb, 0, none⟩) (show w7.heap.size ≤ gb from hz8) (.slice A2 n2 c2)
                have t1 := HS.out _ hbC
                have t2 := HS.out _ hb9
                refine ⟨⟨t1.1, t1.2.1, t2.2.2.1, t2.2.2.2⟩, ?_⟩
                (try simp only [Act.put, List.setIfInBounds_toArray, List.set_cons_zero, List.set_cons_succ])
                have hHeld := HS.out _ hbC
                refine tk 12 12 ?_
                refine wpAnyH_done (by kernel_rfl) ?_ _
                clear hHeld xb fb kb
                go_wp2_with fail
                go_meet
                refine ⟨gb, A2, n2, c2, b, rfl, rfl, kb2, hbC, ?_⟩
                rcases h9 with h9 | ⟨h9, ps, e1, e2, e3⟩
                · exact .inl h9
                · exact .inr ⟨h9, ps, e1, e2, own_setCell2 (own_more e3 hzA) (fun h => by have := (e3.lt _ h).1; omega)⟩
            case rest =>
              obtain ⟨g, A2, n2, c2, b, rfl, rfl, kb, hbc, hres⟩ := hcut
              have hBc := hB7.trans (hbc.mono hB7.size)
              have xb := kb.cell 0 rfl
              cases b with
              | false =>
                have hno : F L = none := by
                  rcases hres with ⟨_, h⟩ | ⟨h, _⟩
                  · exact h
                  · cases h
                have HN9 := Lib.hid (HNX.out hno)
                have hb79 := hb7.trans (hbc.mono hb7.size)
                clear hres hno y0 y1 y2 hc
                go_wp2
                go_roundw
                case rel => exact ⟨i + 1, by omega, by go_num, HN9, hb79⟩
                case measure => simp [intOf] <;> omega
              | true =>
                obtain ⟨ps, hps, rfl, hown9⟩ : ∃ ps, F L = some ps ∧ n2 = ps.length ∧ wc.ownsRow w7.heap.size 64 2 (.slice A2 n2 c2) n2 (partsC ps) := by
                  rcases hres with ⟨h, _⟩ | ⟨_, h⟩
                  · cases h
                  · exact h
                have HFF := Lib.hid (HFD.out ps hps)
                have q9 := q7.below hbc q7.lt
                have x9 := q9.cell 0 rfl
                have f9 := q9.fro 0
                have lq := q9.lt
                have hgw : w.heap.size + 1 ≠ g ∨ True := .inr trivial
                clear hres hps y0 y1 y2 hc
                go_wp2
                have s9 := q9.set 0 (.slice A2 ps.length c2)
                have hb9 := hBc.setCell (p := ⟨w.heap.size + 1, 0, none⟩) (by simp) (.slice A2 ps.length c2)
                have xs9 := s9.cell 0 rfl
                have ho9 := own_setCell (u := .slice A2 ps.length c2) (o := 0) hown9 (show w.heap.size + 1 < w7.heap.size by have := q7.lt; omega)
                generalize wc.setCell ⟨w.heap.size + 1, 0, none⟩ (.slice A2 ps.length c2) = w9 at *
                refine bodyPost_ret (v := .tuple #[.agg #[.slice A2 ps.length c2], .bool true, .int .i64 0]) (by simp [results, Try.results25, go_sem, xs9]) rfl ?_
                obtain ⟨rs, hrs⟩ := HFF.out
                refine ⟨hb9, .inr (.inr ⟨HQ.out.symm, ⟨ps, A2, c2⟩, rs, hrs, rfl, ownsRow_lies ho9, fun ad e => ?_⟩)⟩
                have e : A2 = some ad := e
                subst e
                have := (ho9.lt ad.block rfl).1
                have := hB7.size
                omega
          · obtain rfl : i = zs.length := by omega
            have hirr : ¬ (zs.length : Int) < (zs.length : Int) := by omega
            have HLN : Hid ((levC l.length (k + 1)).filterMap F = []) := by
              show _ = _
              rw [levC_succ _ hk1, List.filterMap_append, HLV.out, List.nil_append]
              have := HTK.out
              rw [HLEN.out, List.take_length] at this
              exact this
            have hB7 := hB6.trans (hb7.mono hb6s)
            have p7 := p6.below hb7 p6.lt
            have q7 := q6.below hb7 q6.lt
            go_wp2
            go_roundw
            case rel => exact ⟨k + 1, by omega, by omega, by go_num, HLN, hB7, p7, q7⟩
            case measure => simp [intOf] <;> omega
      · obtain rfl : k = 5 := by omega
        have x9 := q1.cell 0 rfl
        have f9 := q1.fro 0
        go_wp2
        have s9 := q1.set 0 (.slice none 0 0)
        have hb9 := hbw.setCell (p := ⟨w.heap.size + 1, 0, none⟩) (by simp) (.slice none 0 0)
        have xs9 := s9.cell 0 rfl
        generalize wr.setCell ⟨w.heap.size + 1, 0, none⟩ (.slice none 0 0) = w9 at *
        refine bodyPost_ret (v := .tuple #[.agg #[.slice none 0 0], .bool false, .int .i64 0]) (by simp [results, Try.results25, go_sem, xs9]) rfl ?_
        exact ⟨hb9, .inr (.inl ⟨HQ.out.symm, by rw [HNI.out]; exact HLV.out, rfl⟩)⟩
  · go_enter Try.func25, Try.ntmps25
    go_wp2_with (first | (go_at_call 49; refine (HW.out _ hb4).mono ?_; rintro e w5 ⟨rfl, hb5⟩; have hB5 := hb4.trans (hb5.mono hb4.size); have q1 := k1.below hb5 k1.lt; have x9 := q1.cell 0 rfl; have f9 := q1.fro 0; clear hb5 k0 k1))
    have s9 := q1.set 0 (.slice none 0 0)
    have hb9 := hB5.setCell (p := ⟨w.heap.size + 1, 0, none⟩) (by simp) (.slice none 0 0)
    have xs9 := s9.cell 0 rfl
    generalize w5.setCell ⟨w.heap.size + 1, 0, none⟩ (.slice none 0 0) = w9 at *
    refine bodyPost_ret (v := .tuple #[.agg #[.slice none 0 0], .bool false, .int .i64 q]) (by simp [results, Try.results25, go_sem, xs9]) rfl ?_
    exact ⟨hb9, .inl ⟨by rw [← HQ.out]; exact h0, by rw [← HQ.out]⟩⟩
end Go.Proofs.Ytkjceegmmhnajaa

namespace Go.Proofs.Ytkjceegmmhnajaa
open Go.RowKit

/-- a quiet operation: its place in the region, its slot, its answer, the places of those that it waits for -/
structure Qj where
  c : Nat
  k : Nat
  r : Value
  deps : List Nat
section
variable {P : Program} {ops : Array Oper} {Q : Exit → Act → World → Prop} {S : World → Prop}
def depsB (o : Oper) (l : List Nat) : Bool := l.all fun d => o.after.any fun e => e.on == d && Region.binds .any e
structure QjOk (P : Program) (ops : Array Oper) (T : Array Value) (ds : List Nat) (cs : List Qj) (B : Nat) (w0 : World) (q : Qj) : Prop where
  k : q.k ∈ ds
  step : ∃ o, ops[q.c]? = some o ∧ o.guard = none ∧ o.dst = some q.k ∧ depsB o q.deps = true ∧ ∀ V w, Below B w0 w → (∀ d ∈ cs, d.c ∈ q.deps → V d.k = d.r) →
    ((execOp (Act.eval { tmps := canon T ds V, defers := [] }) o).run P w = .ok (.value q.r) w ∨ ∃ f args, (execOp (Act.eval { tmps := canon T ds V, defers := [] }) o).run P w = .ok (.enter f args) w ∧ Calls P f args w fun e w' => e = .returned q.r ∧ Below w.heap.size w w')
theorem depsB_at {o : Oper} {l : List Nat} (h : depsB o l = true) {d : Nat} (hd : d ∈ l) : ∃ e ∈ o.after, e.on = d ∧ Region.binds .any e = true := dep_of (List.all_eq_true.1 h d hd)
def qlB (n : Nat) (listed : Array Bool) (cs : List Qj) (s : Nat) : Bool := (List.range n).all fun i => listed.getD i false || (i == s || cs.any fun q => i == q.c)
theorem qlB_spec {n : Nat} {listed : Array Bool} {cs : List Qj} {s : Nat} (h : qlB n listed cs s = true) (i : Nat) (hi : i < n) (hf : listed.getD i false = false) : i = s ∨ ∃ q ∈ cs, i = q.c := by
  have := List.all_eq_true.1 h i (by simpa using hi)
  rw [hf, Bool.false_or, Bool.or_eq_true, List.any_eq_true] at this
  rcases this with h | ⟨q, hq, h⟩
  · exact .inl (by simpa using h)
  · exact .inr ⟨q, hq, by simpa using h⟩
/-- what must be so of the places and slots: all by reckoning -/
def placesB (ops : Array Oper) (listed : Array Bool) (cs : List Qj) (s : Nat) : Bool :=
  acB ops && (listed.size == ops.size) && qlB ops.size listed cs s && cs.all (fun q => !(listed.getD q.c false) && (decide (q.c < ops.size) && !(q.c == s))) && !(listed.getD s false)
  && decide ((cs.map Qj.c).Nodup) && decide ((cs.map Qj.k).Nodup)

theorem nodup_inj {α : Type} {f : α → Nat} {l : List α} (h : (l.map f).Nodup) {a b : α} (ha : a ∈ l) (hb : b ∈ l) (e : f a = f b) : a = b := by
  obtain ⟨i, hi, rfl⟩ := List.mem_iff_getElem.1 ha
  obtain ⟨j, hj, rfl⟩ := List.mem_iff_getElem.1 hb
  have hi' : i < (l.map f).length := by simpa using hi
  have hj' : j < (l.map f).length := by simpa using hj
  have := (List.getElem_inj (h₀ := hi') (h₁ := hj') h).1 (by simpa using e)
  subst this; rfl

/-- the region's last operation writes: place s; ops.size: there is none -/
theorem quiet_laid {T : Array Value} {ds : List Nat} {cs : List Qj} {s : Nat} {w0 : World} {B : Nat} {listed : Array Bool} {fuel : Nat} (hp : placesB ops listed cs s = true) (hfuel : left listed ≤ fuel) (hB : B ≤ w0.heap.size)
    (hq : ∀ q ∈ cs, QjOk P ops T ds cs B w0 q) (hS : ∀ W, Below B w0 W → S W) {Fin : World → Prop} (hF0 : ops.size ≤ s → ∀ W, Below B w0 W → Fin W)
    (hst : ∀ o, ops[s]? = some o → o.guard = none ∧ o.dst = none ∧ depsB o (cs.map Qj.c) = true ∧ ∀ V w, Below B w0 w → (∀ d ∈ cs, V d.k = d.r) → ∃ w' nx, (execOp (Act.eval { tmps := canon T ds V, defers := [] }) o).run P w = .ok nx w' ∧ (nx = .skip ∨ ∃ u, nx = .value u) ∧ S w' ∧ Fin w')
    (hQ : ∀ V W, (∀ d ∈ cs, V d.k = d.r) → (∀ k, (∀ q ∈ cs, k ≠ q.k) → V k = T.getD k undef) → Fin W → Q .normal { tmps := canon T ds V, defers := [] } W) : wpAnyH P .any ops Q S fuel listed { tmps := T, defers := [] } w0 := by
  unfold placesB at hp
  simp only [Bool.and_eq_true, decide_eq_true_iff, beq_iff_eq, Bool.not_eq_true'] at hp
  obtain ⟨⟨⟨⟨⟨⟨hac, hsz⟩, hl⟩, hcs⟩, hls⟩, hnc⟩, hnk⟩ := hp
  have hcs' : ∀ q ∈ cs, listed.getD q.c false = false ∧ q.c < ops.size ∧ q.c ≠ s := fun q hq => by
    have := List.all_eq_true.1 hcs q hq
    simp only [Bool.and_eq_true, decide_eq_true_iff, Bool.not_eq_true', beq_eq_false_iff_ne] at this
    exact ⟨this.1, this.2.1, this.2.2⟩
  let Inv : (Nat → Bool) → Act → World → Prop := fun D a w => (∀ i, i < ops.size → listed.getD i false = true → D i = true) ∧ ∃ V : Nat → Value, a = { tmps := canon T ds V, defers := [] } ∧ (∀ q ∈ cs, D q.c = true → V q.k = q.r) ∧ (∀ k, (∀ q ∈ cs, k ≠ q.k) → V k = T.getD k undef) ∧ (D s = false → Below B w0 w) ∧ (D s = true → (∀ q ∈ cs, D q.c = true) ∧ Fin w)
  refine wpAnyH_inv (acB_spec hac) Inv ?_ ?_ fuel listed _ w0 hsz hfuel ?_
  · intro D a w i o ho hDi hdep ⟨hold, V, ha, hv, hrest, hb, hfin⟩
    subst ha
    have hi : i < ops.size := (Array.getElem?_eq_some_iff.1 ho).1
    have hnl : listed.getD i false = false := by
      cases hx : listed.getD i false with
      | false => rfl
      | true => have := hold i hi hx; rw [hDi] at this; cases this
    have hold' : ∀ i', ∀ i, i < ops.size → listed.getD i false = true → (D i || i == i') = true := fun i' i h1 h2 => by rw [hold i h1 h2]; rfl
    rcases qlB_spec hl i hi hnl with rfl | ⟨q, hqm, rfl⟩
    · obtain ⟨g1, g2, g3, g4⟩ := hst o ho
      have hall : ∀ q ∈ cs, D q.c = true := fun q hqm => by
        obtain ⟨e, he, e1, e2⟩ := depsB_at g3 (List.mem_map.2 ⟨q, hqm, rfl⟩)
        rw [← e1]; exact hdep e he e2
      obtain ⟨w', nx, hr, hnx, h5, h6⟩ := g4 V w (hb hDi) (fun d hd => hv d hd (hall d hd))
      have fin : S w' ∧ Inv (fun j => D j || j == i) { tmps := canon T ds V, defers := [] } w' := by
        refine ⟨h5, hold' _, V, rfl, fun q hqm h => hv q hqm (hall q hqm), hrest, fun h => ?_, fun _ => ⟨fun q hqm => by simp [hall q hqm], h6⟩⟩
        simp at h
      rcases hnx with rfl | ⟨x, rfl⟩
      · refine held_plain ho g1 (oper_skip hr ?_)
        rw [g2]; exact fin
      · refine held_plain ho g1 (oper_run hr ?_)
        rw [g2]; exact fin
    · have ok := hq q hqm
      obtain ⟨o', e1, e2, e3, e4, e5⟩ := ok.step
      rw [ho] at e1; cases e1
      have hDs : D s = false := by
        cases hx : D s with
        | false => rfl
        | true => have := (hfin hx).1 q hqm; rw [hDi] at this; cases this
      have hbw := hb hDs
      have hsne : s ≠ q.c := fun e => (hcs' q hqm).2.2 e.symm
      have fin : ∀ w', Below B w0 w' → S w' ∧ Inv (fun j => D j || j == q.c) { tmps := canon T ds (updV V q.k q.r), defers := [] } w' := fun w' hb' => by
        refine ⟨hS _ hb', hold' _, updV V q.k q.r, rfl, fun u hu h => ?_, fun k hk => ?_, fun _ => hb', fun h => ?_⟩
        · by_cases huq : u = q
          · subst huq; exact updV_same _ _ _
          · have hne : u.c ≠ q.c := fun e => huq (nodup_inj hnc hu hqm e)
            rw [updV_other _ _ (fun e => huq (nodup_inj hnk hu hqm e))]
            exact hv u hu (by simpa [hne] using h)
        · rw [updV_other _ _ (hk q hqm)]; exact hrest k hk
        · simp [hDs, hsne] at h
      rcases e5 V w hbw (fun d hd hdd => hv d hd (by
        obtain ⟨e, he, h1, h2⟩ := depsB_at e4 hdd
        rw [← h1]; exact hdep e he h2)) with hr | ⟨f, args, hr, hc⟩
      · refine held_plain ho e2 (oper_run hr ?_)
        rw [e3]
        simp only [Act.put, canon_set _ ok.k]
        exact fin w hbw
      · refine held_plain ho e2 (oper_call hr hc fun e w' ⟨he, hb'⟩ => ⟨_, he, ?_⟩)
        rw [e3]
        simp only [Act.put, canon_set _ ok.k]
        exact fin w' (hbw.trans (hb'.mono (Nat.le_trans hB hbw.size)))
  · intro D a w hall ⟨_, V, ha, hv, hrest, hb, hfin⟩
    subst ha
    refine hQ V w (fun d hd => hv d hd (hall _ (hcs' d hd).2.1)) hrest ?_
    by_cases hs : s < ops.size
    · exact (hfin (hall s hs)).2
    · cases hx : D s with
      | true => exact (hfin hx).2
      | false =>
        exact hF0 (by omega) w (hb hx)
  · refine ⟨fun i _ h => h, fun k => T.getD k undef, by rw [canon_start], fun q hqm h => ?_, fun _ _ => rfl, fun _ => Below.refl _ _, fun h => ?_⟩
    · dsimp only at h; rw [(hcs' q hqm).1] at h; cases h
    · dsimp only at h; rw [hls] at h; cases h
/-- quiet operations, a new block, and a store into it at the end -/
def places2B (ops : Array Oper) (listed : Array Bool) (cs : List Qj) (p s kp : Nat) : Bool :=
  acB ops && (listed.size == ops.size) && (List.range ops.size).all (fun i => listed.getD i false || (i == s || (i == p || cs.any fun q => i == q.c))) && cs.all (fun q => !(listed.getD q.c false) && (decide (q.c < ops.size) && (!(q.c == s) && (!(q.c == p) && !(q.k == kp))))) && (!(listed.getD s false) && (!(listed.getD p false) && (!(p == s) && (decide (p < ops.size) && decide (s < ops.size)))))
  && decide ((cs.map Qj.c).Nodup) && decide ((cs.map Qj.k).Nodup)
theorem quiet_new {T : Array Value} {ds : List Nat} {cs : List Qj} {p s kp : Nat} {ty : TypeId} {Z R : Array Value} {w0 : World} {B : Nat} {listed : Array Bool} {fuel : Nat} (hp : places2B ops listed cs p s kp = true) (hfuel : left listed ≤ fuel) (hkp : kp ∈ ds) (hB : B ≤ w0.heap.size)
    (hq : ∀ q ∈ cs, QjOk P ops T ds cs B w0 q) (hS : ∀ W, Below B w0 W → S W)
    (hal : ∃ o, ops[p]? = some o ∧ o.guard = none ∧ o.dst = some kp ∧ ∀ (a : Act) w, (execOp a.eval o).run P w = .ok (.value (.pointer (some ⟨w.heap.size, 0, none⟩))) (w.alloc (.cells Z ty)))
    (hst : ∃ o, ops[s]? = some o ∧ o.guard = none ∧ o.dst = none ∧ depsB o (p :: cs.map Qj.c) = true ∧ ∀ V w g, Below B w0 w → (∀ d ∈ cs, V d.k = d.r) → V kp = .pointer (some ⟨g, 0, none⟩) → Bk w g ty Z →
      ∃ w' nx, (execOp (Act.eval { tmps := canon T ds V, defers := [] }) o).run P w = .ok nx w' ∧ (nx = .skip ∨ ∃ u, nx = .value u) ∧ Bk w' g ty R ∧ ∀ (B : Nat) (v : World), B ≤ g → Below B v w → Below B v w')
    (hQ : ∀ V W g, (∀ d ∈ cs, V d.k = d.r) → V kp = .pointer (some ⟨g, 0, none⟩) → B ≤ g → Below B w0 W → Bk W g ty R → Q .normal { tmps := canon T ds V, defers := [] } W) : wpAnyH P .any ops Q S fuel listed { tmps := T, defers := [] } w0 := by
  unfold places2B at hp
  simp only [Bool.and_eq_true, decide_eq_true_iff, beq_iff_eq, Bool.not_eq_true', beq_eq_false_iff_ne] at hp
  obtain ⟨⟨⟨⟨⟨⟨hac, hsz⟩, hl⟩, hcs⟩, hls, hlp, hps, hpl, hsl⟩, hnc⟩, hnk⟩ := hp
  have hcs' : ∀ q ∈ cs, listed.getD q.c false = false ∧ q.c < ops.size ∧ q.c ≠ s ∧ q.c ≠ p ∧ q.k ≠ kp := fun q hq => by
    have := List.all_eq_true.1 hcs q hq
    simp only [Bool.and_eq_true, decide_eq_true_iff, Bool.not_eq_true', beq_eq_false_iff_ne] at this
    exact this
  have hl' : ∀ i, i < ops.size → listed.getD i false = false → i = s ∨ i = p ∨ ∃ q ∈ cs, i = q.c := fun i hi hf => by
    have := List.all_eq_true.1 hl i (by simpa using hi)
    rw [hf, Bool.false_or, Bool.or_eq_true, Bool.or_eq_true, List.any_eq_true] at this
    rcases this with h | h | ⟨q, hq, h⟩
    · exact .inl (by simpa using h)
    · exact .inr (.inl (by simpa using h))
    · exact .inr (.inr ⟨q, hq, by simpa using h⟩)
  let Inv : (Nat → Bool) → Act → World → Prop := fun D a w => (∀ i, i < ops.size → listed.getD i false = true → D i = true) ∧ Below B w0 w ∧ ∃ V : Nat → Value, a = { tmps := canon T ds V, defers := [] } ∧ (∀ q ∈ cs, D q.c = true → V q.k = q.r) ∧ (D p = true → ∃ g, V kp = .pointer (some ⟨g, 0, none⟩) ∧ B ≤ g ∧ Bk w g ty (bif D s then R else Z)) ∧ (D s = true → (∀ q ∈ cs, D q.c = true) ∧ D p = true)
  refine wpAnyH_inv (acB_spec hac) Inv ?_ ?_ fuel listed _ w0 hsz hfuel ?_
  · intro D a w i o ho hDi hdep ⟨hold, hbw, V, ha, hv, hg, hds⟩
    subst ha
    have hi : i < ops.size := (Array.getElem?_eq_some_iff.1 ho).1
    have hbs := hbw.size
    have hnl : listed.getD i false = false := by
      cases hx : listed.getD i false with
      | false => rfl
      | true => have := hold i hi hx; rw [hDi] at this; cases this
    have hold' : ∀ i', ∀ i, i < ops.size → listed.getD i false = true → (D i || i == i') = true := fun i' i h1 h2 => by rw [hold i h1 h2]; rfl
    rcases hl' i hi hnl with rfl | rfl | ⟨q, hqm, rfl⟩
    · obtain ⟨o', g0, g1, g2, g3, g4⟩ := hst
      rw [ho] at g0; cases g0
      have hall : ∀ q ∈ cs, D q.c = true := fun q hqm => by
        obtain ⟨e, he, e1, e2⟩ := depsB_at g3 (List.mem_cons_of_mem _ (List.mem_map.2 ⟨q, hqm, rfl⟩))
        rw [← e1]; exact hdep e he e2
      have hDp : D p = true := by
        obtain ⟨e, he, e1, e2⟩ := depsB_at g3 (List.mem_cons_self ..)
        rw [← e1]; exact hdep e he e2
      obtain ⟨g, v1, v2, v3⟩ := hg hDp
      rw [hDi] at v3
      obtain ⟨w', nx, hr, hnx, h5, h6⟩ := g4 V w g hbw (fun d hd => hv d hd (hall d hd)) v1 v3
      have hb' := h6 B w0 v2 hbw
      have fin : S w' ∧ Inv (fun j => D j || j == i) { tmps := canon T ds V, defers := [] } w' := by
        refine ⟨hS _ hb', hold' _, hb', V, rfl, fun q hqm h => hv q hqm (hall q hqm), fun _ => ⟨g, v1, v2, ?_⟩, fun _ => ⟨fun q hqm => by simp [hall q hqm], by simp [hDp]⟩⟩
        have : (D i || i == i) = true := by simp
        dsimp only
        rw [this]; exact h5
      rcases hnx with rfl | ⟨x, rfl⟩
      · refine held_plain ho g1 (oper_skip hr ?_)
        rw [g2]; exact fin
      · refine held_plain ho g1 (oper_run hr ?_)
        rw [g2]; exact fin
    · obtain ⟨o', e1, e2, e3, e4⟩ := hal
      rw [ho] at e1; cases e1
      have hDs : D s = false := by
        cases hx : D s with
        | false => rfl
        | true => have := (hds hx).2; rw [hDi] at this; cases this
      have hb2 : Below B w0 (w.alloc (.cells Z ty)) := hbw.alloc (by omega) _
      refine held_plain ho e2 (oper_run (e4 _ w) ?_)
      rw [e3]
      simp only [Act.put, canon_set _ hkp]
      refine ⟨hS _ hb2, hold' _, hb2, updV V kp (.pointer (some ⟨w.heap.size, 0, none⟩)), rfl, fun u hu h => ?_, fun _ => ⟨w.heap.size, updV_same _ _ _, by omega, ?_⟩, fun h => ?_⟩
      · have hc := hcs' u hu
        rw [updV_other _ _ hc.2.2.2.2]
        exact hv u hu (by simpa [hc.2.2.2.1] using h)
      · have hne : s ≠ i := fun e => hps e.symm
        have : (D s || s == i) = false := by simp [hDs, hne]
        dsimp only
        rw [this]; exact Bk.new w ty Z
      · have hne : s ≠ i := fun e => hps e.symm
        have : (D s || s == i) = false := by simp [hDs, hne]
        dsimp only at h
        rw [this] at h; cases h
    · have ok := hq q hqm
      have hc := hcs' q hqm
      obtain ⟨o', e1, e2, e3, e4, e5⟩ := ok.step
      rw [ho] at e1; cases e1
      have hDs : D s = false := by
        cases hx : D s with
        | false => rfl
        | true => have := (hds hx).1 q hqm; rw [hDi] at this; cases this
      have hsne : s ≠ q.c := fun e => hc.2.2.1 e.symm
      have hpne : p ≠ q.c := fun e => hc.2.2.2.1 e.symm
      have hss : (D s || s == q.c) = false := by simp [hDs, hsne]
      have fin : ∀ w', Below w.heap.size w w' → S w' ∧ Inv (fun j => D j || j == q.c) { tmps := canon T ds (updV V q.k q.r), defers := [] } w' := fun w' hb0 => by
        have hb' := hbw.trans (hb0.mono (Nat.le_trans hB hbs))
        refine ⟨hS _ hb', hold' _, hb', updV V q.k q.r, rfl, fun u hu h => ?_, fun h => ?_, fun h => ?_⟩
        · by_cases huq : u = q
          · subst huq; exact updV_same _ _ _
          · have hne : u.c ≠ q.c := fun e => huq (nodup_inj hnc hu hqm e)
            rw [updV_other _ _ (fun e => huq (nodup_inj hnk hu hqm e))]
            exact hv u hu (by simpa [hne] using h)
        · obtain ⟨g, v1, v2, v3⟩ := hg (by simpa [hpne] using h)
          refine ⟨g, by rw [updV_other _ _ (fun e => hc.2.2.2.2 e.symm)]; exact v1, v2, ?_⟩
          dsimp only
          rw [hss]
          rw [hDs] at v3
          exact v3.below hb0 v3.lt
        · dsimp only at h
          rw [hss] at h; cases h
      rcases e5 V w hbw (fun d hd hdd => hv d hd (by
        obtain ⟨e, he, h1, h2⟩ := depsB_at e4 hdd
        rw [← h1]; exact hdep e he h2)) with hr | ⟨f, args, hr, hcl⟩
      · refine held_plain ho e2 (oper_run hr ?_)
        rw [e3]
        simp only [Act.put, canon_set _ ok.k]
        exact fin w (Below.refl _ _)
      · refine held_plain ho e2 (oper_call hr hcl fun e w' ⟨he, hb'⟩ => ⟨_, he, ?_⟩)
        rw [e3]
        simp only [Act.put, canon_set _ ok.k]
        exact fin w' hb'
  · intro D a w hall ⟨_, hbw, V, ha, hv, hg, hds⟩
    subst ha
    obtain ⟨g, v1, v2, v3⟩ := hg (hall p hpl)
    rw [hall s hsl] at v3
    exact hQ V w g (fun d hd => hv d hd (hall _ (hcs' d hd).2.1)) v1 v2 hbw v3
  · refine ⟨fun i _ h => h, Below.refl _ _, fun k => T.getD k undef, by rw [canon_start], fun q hqm h => ?_, fun h => ?_, fun h => ?_⟩
    · dsimp only at h; rw [(hcs' q hqm).1] at h; cases h
    · dsimp only at h; rw [hlp] at h; cases h
    · dsimp only at h; rw [hls] at h; cases h
/-- a block is made, and something stored there -/
theorem new_laid {fuel : Nat} {listed : Array Bool} {T R Z : Array Value} {ty : TypeId} {w0 : World} (p s kp : Nat)
    (halloc : ∃ o, ops[p]? = some o ∧ o.guard = none ∧ o.dst = some kp ∧ ∀ (a : Act) w, (execOp a.eval o).run P w = .ok (.value (.pointer (some ⟨w.heap.size, 0, none⟩))) (w.alloc (.cells Z ty)))
    (hstore : ∃ o, ops[s]? = some o ∧ o.guard = none ∧ o.dst = none ∧ ∀ w g, Bk w g ty Z → ∃ w', (execOp (Act.eval { tmps := T.setIfInBounds kp (.pointer (some ⟨g, 0, none⟩)), defers := [] }) o).run P w = .ok .skip w' ∧ Bk w' g ty R ∧ ∀ (B : Nat) (v : World), B ≤ g → Below B v w → Below B v w')
    (hr0 : Region.ready .any ops listed = [p]) (hr1 : Region.ready .any ops (listed.setIfInBounds p true) = [s]) (hr2 : Region.ready .any ops ((listed.setIfInBounds p true).setIfInBounds s true) = [])
    (hS : ∀ W, Below w0.heap.size w0 W → S W) (hK : ∀ g W, Below w0.heap.size w0 W → w0.heap.size ≤ g → Bk W g ty R → Q .normal { tmps := T.setIfInBounds kp (.pointer (some ⟨g, 0, none⟩)), defers := [] } W) : wpAnyH P .any ops Q S (fuel + 2) listed { tmps := T, defers := [] } w0 := by
  obtain ⟨op, p1, p2, p3, p4⟩ := halloc
  obtain ⟨os, s1, s2, s3, s4⟩ := hstore
  refine wpAnyH_all hr0 (by simp) fun j hj => ?_
  obtain rfl : j = p := by simpa using hj
  refine held_plain p1 p2 (oper_run (p4 _ w0) ?_)
  have hb1 : Below w0.heap.size w0 (w0.alloc (.cells Z ty)) := (Below.refl _ _).alloc (Nat.le_refl _) _
  refine ⟨hS _ hb1, ?_⟩
  rw [p3]
  refine wpAnyH_all hr1 (by simp) fun j hj => ?_
  obtain rfl : j = s := by simpa using hj
  obtain ⟨w', q1, q2, q3⟩ := s4 _ _ (Bk.new w0 ty Z)
  refine held_plain s1 s2 (oper_skip q1 ?_)
  rw [s3]
  have hb' := q3 _ _ (Nat.le_refl _) hb1
  refine ⟨hS _ hb', ?_⟩
  cases fuel with
  | zero => exact ⟨hr2, hK _ _ hb' (Nat.le_refl _) q2⟩
  | succ n => exact ⟨fun _ => hK _ _ hb' (Nat.le_refl _) q2, by rw [hr2]; simp⟩
end
end Go.Proofs.Ytkjceegmmhnajaa
