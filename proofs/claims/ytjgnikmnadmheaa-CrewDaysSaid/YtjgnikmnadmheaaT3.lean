/- The first day that suits a task. -/
import Derived.Test.YtjgnikmnadmheaaT2
namespace Go.Proofs.Ytjgnikmnadmheaa
open Go.RowKit
attribute [local go_sem] Oper.semAt_some

theorem none_own (W W' : World) (h : KpC (fun _ => False) W W') (B : Nat) (C : Array Value) (Y : Yd) (l : List Tk) (A : Option Addr) (c i b1 b2 b3 b4 b5 : Nat) (d0 d1 : Int) (hs : SuitW B C Y l A c i b1 b2 b3 b4 b5 d0 d1 W) : SuitW B C Y l A c i b1 b2 b3 b4 b5 d0 d1 W' :=
  hs.kp h (fun _ _ h => h) id id id id id
/-- the rounds' own block for deferred calls is taken up -/
theorem leaves_mark {F : Fence} {n : Nat} {P : Program} {fn : Func} {R : Ending → World → Prop} {a : Act} {w : World} {D : Nat} {v : Value} (hD : w.heap[D]? = some (.deferred (some []))) (hd : a.defers = [{ target := .collected D, args := #[] }])
    (hr : (results fn a.tmps).run P (w.putObj D (.deferred none)) = .ok v (w.putObj D (.deferred none))) (hR : R (.returned v) (w.putObj D (.deferred none))) : bodyPostM F n P fn R .ret a w := by
  show LeavesInM F n P fn a.tmps R a.defers .returning w
  rw [hd]
  refine ⟨by simp, .inl ⟨_, _, rfl, run_takeDeferred hD, ?_⟩⟩
  exact ⟨v, hr, hR⟩
theorem Bk.putObj {w : World} {g t D : Nat} {cs : Array Value} (h : Bk w g t cs) (hne : g ≠ D) (o : Obj) : Bk (w.putObj D o) g t cs := (World.putObj_heap_other hne).trans h
theorem below_putObj {a w : World} {D : Nat} (h : Below a.heap.size a w) (hD : a.heap.size ≤ D) (o : Obj) : Below a.heap.size a (w.putObj D o) := h.grown (grownBy_putObj' w D o) h.size (fun k e => by cases e; exact hD)
/-- a piece that does not panic -/
theorem wp_calm {P : Program} {c : Code} {K : Act → World → Prop} {Q : Exit → Act → World → Prop} {a : Act} {w : World} (h : c.wp P (Exit.then K fun _ _ _ => False) a w) : c.wp P (Exit.then K Q) a w :=
  wp_mono h (fun e a w hq => by cases e <;> first | exact hq | exact hq.elim)

set_option maxRecDepth 100000 in
set_option maxHeartbeats 1000000 in
theorem first_any (bj : Nat) (C : Array Value) (Y : Yd) (l : List Tk) (A : Option Addr) (c i : Nat) (f d : Int) (w : World) (hj : JobAt w w.heap.size bj C Y l A c f) (hv : Valid Y) (hl : l.length ≤ 1000) (hi : i < l.length) (hf : 0 ≤ f ∧ f ≤ 100000) (hd : 0 ≤ d ∧ d ≤ 1000000) :
    Calls Try.prog 117 #[.pointer (some ⟨bj, 0, none⟩), .int .i64 i, .int .i64 d] w (FirstEnd (suitK Y l[i] i d (f + 400 - d).toNat) w) := by
  have hlj := hj.lt
  have HJ := Lib.hid (fun W (hb : Below w.heap.size w W) => (hj.below hb (Nat.le_refl _)))
  have HSU := Lib.hid (fun W (hb : Below w.heap.size w W) => suited_any C Y l A c i d (f + 400) W ((hj.yat.below hb (Nat.le_refl _)).more hb.size) ((hj.tat.below hb (Nat.le_refl _)).more hb.size))
  have HV := Lib.hid hv
  have h28 : C.toList.length = 28 := by rw [Array.length_toList]; exact hj.yat.size
  have hi29 : (Try.prog.info? 29).map (·.size) = some C.toList.length := by rw [h28]; exact info29
  obtain ⟨hf0, hf1⟩ := hf
  obtain ⟨hd0, hd1⟩ := hd
  have HU := Lib.hid (fun W (h : W.cell? ⟨bj, 29, none⟩ = some (.int .i64 f)) => until_any bj f W h ⟨hf0, by omega⟩)
  clear hj hv h28
  refine (callsIn_wide (n := 3)).1 ?_
  refine callsIn_of_wp_marks Try.func117 rfl trivial ?_ rfl
  simp only [Try.ntmps117, List.size_toArray, List.length_cons, List.length_nil, Nat.reduceAdd, Nat.reduceSub, Array.replicate_succ, Array.replicate_zero, List.push_toArray, List.append_toArray, List.nil_append, List.cons_append]
  refine wpIn_wide.2 ?_
  go_wp2
  have hb2 : Below w.heap.size w ((w.alloc (.cells #[.int .i64 0] 3)).alloc (.cells #[.bool false] 4)) := by exact (by repeat (first | with_reducible exact Below.refl _ _ | with_reducible assumption | with_reducible refine Below.drew ?_ | with_reducible refine below_drewN ?_ _ | (with_reducible refine Below.alloc ?_ ?_ _; rotate_left; (try simp) <;> omega) | (with_reducible refine Below.setCell ?_ ?_ _; rotate_left; (try simp) <;> omega)))
  have hj2 := HJ.out _ hb2
  have k6 : Bk ((w.alloc (.cells #[.int .i64 0] 3)).alloc (.cells #[.bool false] 4)) w.heap.size 3 #[.int .i64 0] := (Bk.new _ _ _).alloc _
  have k7 : Bk ((w.alloc (.cells #[.int .i64 0] 3)).alloc (.cells #[.bool false] 4)) (w.heap.size + 1) 4 #[.bool false] := by simpa using Bk.new (w.alloc (.cells #[.int .i64 0] 3)) 4 #[.bool false]
  have hz2 : ((w.alloc (.cells #[.int .i64 0] 3)).alloc (.cells #[.bool false] 4)).heap.size = w.heap.size + 2 := by simp
  generalize (w.alloc (.cells #[.int .i64 0] 3)).alloc (.cells #[.bool false] 4) = w2 at *
  have c28 := hj2.tasks
  have c29 := hj2.from_
  have cr := hj2.yard
  have hu29 := Try.underlying29
  refine wp_calm ?_
  refine wp_region_held_drew (S := (fun w' => w'.rangeAt bj 0 C.toList ∧ w'.cell? ⟨bj, 28, none⟩ = some (.slice A l.length c) ∧ w'.cell? ⟨bj, 29, none⟩ = some (.int .i64 f))) (by kernel_rfl) ?_ (fun hHeld => ?_)
  · (refine ⟨?_, ?_, ?_⟩ <;> first | assumption | go_keep)
  (refine held_take 0 (some 9) ?_ rfl (by kernel_rfl) (by kernel_rfl) (by kernel_rfl) (by rfl) (fun _ _ _ h => h) (by assumption) (fun w hSw => ?_) ?_; rotate_left; ((try dsimp only at hSw); simp only [List.getElem?_toArray, List.getElem?_cons_zero, List.getElem?_cons_succ, Option.map_some]; refine congrArg some ?_; go_simp; (try with_reducible rfl)); (try simp only [Act.put, List.setIfInBounds_toArray, List.set_cons_zero, List.set_cons_succ]))
  (refine held_take 1 (some 10) ?_ rfl (by kernel_rfl) (by kernel_rfl) (by kernel_rfl) (by rfl) (fun _ _ _ h => h) (by assumption) (fun w hSw => ?_) ?_; rotate_left; ((try dsimp only at hSw); simp only [List.getElem?_toArray, List.getElem?_cons_zero, List.getElem?_cons_succ, Option.map_some]; refine congrArg some ?_; go_simp; (try with_reducible rfl)); (try simp only [Act.put, List.setIfInBounds_toArray, List.set_cons_zero, List.set_cons_succ]))
  (refine held_take 2 (some 11) ?_ rfl (by kernel_rfl) (by kernel_rfl) (by kernel_rfl) (by rfl) (fun _ _ _ h => h) (by assumption) (fun w hSw => ?_) ?_; rotate_left; ((try dsimp only at hSw); simp only [List.getElem?_toArray, List.getElem?_cons_zero, List.getElem?_cons_succ, Option.map_some]; refine congrArg some ?_; go_simp; (try with_reducible rfl)); (try simp only [Act.put, List.setIfInBounds_toArray, List.set_cons_zero, List.set_cons_succ]))
  (refine held_row 3 (some 12) 29 (.tmp 11) (bj) 0 C.toList _ rfl rfl (by kernel_rfl) (by kernel_rfl) (by kernel_rfl) (by rfl) rfl (fun _ _ _ h => h) (by assumption) (fun _ hS => hS.1) Try.underlying29 rfl (by assumption) ?_; (try simp only [Act.put, List.setIfInBounds_toArray, List.set_cons_zero, List.set_cons_succ]))
  (refine held_take 4 (some 13) ?_ rfl (by kernel_rfl) (by kernel_rfl) (by kernel_rfl) (by rfl) (fun _ _ _ h => h) (by assumption) (fun w hSw => ?_) ?_; rotate_left; ((try dsimp only at hSw); simp only [List.getElem?_toArray, List.getElem?_cons_zero, List.getElem?_cons_succ, Option.map_some]; refine congrArg some ?_; go_simp; (try with_reducible rfl)); (try simp only [Act.put, List.setIfInBounds_toArray, List.set_cons_zero, List.set_cons_succ]))
  (refine held_take 5 (some 14) ?_ rfl (by kernel_rfl) (by kernel_rfl) (by kernel_rfl) (by rfl) (fun _ _ _ h => h) (by assumption) (fun w hSw => ?_) ?_; rotate_left; ((try dsimp only at hSw); simp only [List.getElem?_toArray, List.getElem?_cons_zero, List.getElem?_cons_succ, Option.map_some]; refine congrArg some ?_; go_simp; (try with_reducible rfl)); (try simp only [Act.put, List.setIfInBounds_toArray, List.set_cons_zero, List.set_cons_succ]))
  (refine held_take 6 (some 15) ?_ rfl (by kernel_rfl) (by kernel_rfl) (by kernel_rfl) (by rfl) (fun _ _ _ h => h) (by assumption) (fun w hSw => ?_) ?_; rotate_left; ((try dsimp only at hSw); simp only [List.getElem?_toArray, List.getElem?_cons_zero, List.getElem?_cons_succ, Option.map_some]; refine congrArg some ?_; go_simp; (try with_reducible rfl)); (try simp only [Act.put, List.setIfInBounds_toArray, List.set_cons_zero, List.set_cons_succ]))
  (refine held_take 7 (some 16) ?_ rfl (by kernel_rfl) (by kernel_rfl) (by kernel_rfl) (by rfl) (fun _ _ _ h => h) (by assumption) (fun w hSw => ?_) ?_; rotate_left; ((try dsimp only at hSw); simp only [List.getElem?_toArray, List.getElem?_cons_zero, List.getElem?_cons_succ, Option.map_some]; refine congrArg some ?_; go_simp; (try with_reducible rfl)); (try simp only [Act.put, List.setIfInBounds_toArray, List.set_cons_zero, List.set_cons_succ]))
  (refine held_take 8 (some 17) ?_ rfl (by kernel_rfl) (by kernel_rfl) (by kernel_rfl) (by rfl) (fun _ _ _ h => h) (by assumption) (fun w hSw => ?_) ?_; rotate_left; ((try dsimp only at hSw); simp only [List.getElem?_toArray, List.getElem?_cons_zero, List.getElem?_cons_succ, Option.map_some]; refine congrArg some ?_; go_simp; (try with_reducible rfl)); (try simp only [Act.put, List.setIfInBounds_toArray, List.set_cons_zero, List.set_cons_succ]))
  (refine held_take 9 (some 18) ?_ rfl (by kernel_rfl) (by kernel_rfl) (by kernel_rfl) (by rfl) (fun _ _ _ h => h) (by assumption) (fun w hSw => ?_) ?_; rotate_left; ((try dsimp only at hSw); simp only [List.getElem?_toArray, List.getElem?_cons_zero, List.getElem?_cons_succ, Option.map_some]; refine congrArg some ?_; go_simp; (try with_reducible rfl)); (try simp only [Act.put, List.setIfInBounds_toArray, List.set_cons_zero, List.set_cons_succ]))
  (refine held_take 10 (some 19) ?_ rfl (by kernel_rfl) (by kernel_rfl) (by kernel_rfl) (by rfl) (fun _ _ _ h => h) (by assumption) (fun w hSw => ?_) ?_; rotate_left; ((try dsimp only at hSw); simp only [List.getElem?_toArray, List.getElem?_cons_zero, List.getElem?_cons_succ, Option.map_some]; refine congrArg some ?_; go_simp; (try with_reducible rfl)); (try simp only [Act.put, List.setIfInBounds_toArray, List.set_cons_zero, List.set_cons_succ]))
  (refine held_call 11 (some 20) 95 _ rfl (by kernel_rfl) (by rfl) ?_ (HU.out _ (by assumption)) ?_; rotate_left; rotate_left; (simp only [List.getElem?_toArray, List.getElem?_cons_zero, List.getElem?_cons_succ, Option.map_some]; refine congrArg some ?_; go_simp))
  rintro e w5 ⟨rfl, rfl⟩
  refine ⟨_, rfl, ⟨by assumption, by assumption, by assumption⟩, fun hHeld => ?_⟩
  (try simp only [Act.put, List.setIfInBounds_toArray, List.set_cons_zero, List.set_cons_succ])
  (refine held_call 12 (some 21) 92 _ rfl (by kernel_rfl) (by rfl) ?_ (HSU.out _ (by exact (by repeat (first | with_reducible exact Below.refl _ _ | with_reducible assumption | with_reducible refine Below.drew ?_ | with_reducible refine below_drewN ?_ _ | (with_reducible refine Below.alloc ?_ ?_ _; rotate_left; (try simp) <;> omega) | (with_reducible refine Below.setCell ?_ ?_ _; rotate_left; (try simp) <;> omega))))) ?_; rotate_left; rotate_left; (simp only [List.getElem?_toArray, List.getElem?_cons_zero, List.getElem?_cons_succ, Option.map_some]; refine congrArg some ?_; go_simp))
  rintro e w6 ⟨rfl, hs6, hb6, hz6⟩
  have hB6 : Below w.heap.size w w6 := Below.trans (by exact (by repeat (first | with_reducible exact Below.refl _ _ | with_reducible assumption | with_reducible refine Below.drew ?_ | with_reducible refine below_drewN ?_ _ | (with_reducible refine Below.alloc ?_ ?_ _; rotate_left; (try simp) <;> omega) | (with_reducible refine Below.setCell ?_ ?_ _; rotate_left; (try simp) <;> omega)))) (hb6.mono (by first | omega | (simp; omega)))
  have hj6 := HJ.out _ hB6
  have q6 : Bk w6 w.heap.size 3 #[.int .i64 0] := Bk.below (by exact (by repeat (first | with_reducible assumption | with_reducible exact Bk.new _ _ _ | with_reducible refine Bk.drew ?_ | with_reducible refine Bk.drewN ?_ _ | with_reducible refine Bk.alloc ?_ _ | (with_reducible refine Bk.far ?_ ?_ _; rotate_left; (try simp) <;> omega)))) hb6 (by first | omega | (simp; omega))
  have q7 : Bk w6 (w.heap.size + 1) 4 #[.bool false] := Bk.below (by exact (by repeat (first | with_reducible assumption | with_reducible exact Bk.new _ _ _ | with_reducible refine Bk.drew ?_ | with_reducible refine Bk.drewN ?_ _ | with_reducible refine Bk.alloc ?_ _ | (with_reducible refine Bk.far ?_ ?_ _; rotate_left; (try simp) <;> omega)))) hb6 (by first | omega | (simp; omega))
  refine ⟨_, rfl, ⟨hj6.yard, hj6.tasks, hj6.from_⟩, fun hHeld => ?_⟩
  (try simp only [Act.put, List.setIfInBounds_toArray, List.set_cons_zero, List.set_cons_succ])
  refine wpAnyH_done (by kernel_rfl) ?_ _
  clear hHeld hj6 hj2 hb2 k6 k7 c28 c29 cr hb6
  go_wp2
  have hn2 : w2.drew.heap.size = w.heap.size + 2 := hz2
  rw [hn2] at hs6 hz6 ⊢
  have HL : Hid (SuitW (w.heap.size + 2) C Y l A c i (w.heap.size + 2 + 3) (w.heap.size + 2 + 4) (w.heap.size + 2) (w.heap.size + 2 + 1) (w.heap.size + 2 + 2) d (f + 400) w6) := hs6
  clear hs6 hn2 hz2
  generalize hL : suitK Y l[i] i d (f + 400 - d).toNat = L at *
  have HLL := Lib.hid hL; clear hL
  refine (wpIn_wide (n := 3)).1 ?_
  refine wpIn_rangeFunc_ownF (n := 3) rfl (by omega) (gf := 122) (lb := #[.pointer (some ⟨w.heap.size + 2 + 3, 0, none⟩), .pointer (some ⟨w.heap.size + 2 + 4, 0, none⟩), .pointer (some ⟨w.heap.size + 2, 0, none⟩), .pointer (some ⟨w.heap.size + 2 + 1, 0, none⟩), .pointer (some ⟨w.heap.size + 2 + 2, 0, none⟩)]) rfl trivial (enters_of Try.func122 (by kernel_rfl) rfl)
    (encs := fun x : Int => #[.int .i64 x]) (Kp := KpC fun _ => False) (S := fun xs => xs = L) (Sp := fun pre => pre <+: L) (N := (f + 400 - d).toNat) (w0 := w6) ?seq (fun h k => h.trans k) (fun W l o o' _ h1 h2 _ => KpC.putObj o' h1 h2) (Below.refl _ _) (fun _ => rfl)
    (fun pre W => pre = [] ∧ (Below w.heap.size w W ∧ (Bk W w.heap.size 3 #[.int .i64 0] ∧ Bk W (w.heap.size + 1) 4 #[.bool false])))
    (fun c pre W => c = .ret ∧ ∃ x, pre = [x] ∧ (Below w.heap.size w W ∧ (Bk W w.heap.size 3 #[.int .i64 x] ∧ Bk W (w.heap.size + 1) 4 #[.bool true]))) ?own ?ownx ⟨rfl, hB6, q6, q7⟩
    (fun x => { tmps := #[.pointer (some ⟨bj, 0, none⟩), .int .i64 i, .int .i64 d, undef, undef, undef, .pointer (some ⟨w.heap.size, 0, none⟩), .pointer (some ⟨w.heap.size + 1, 0, none⟩), .int .i64 x, .pointer (some ⟨bj, 0, none⟩), .pointer (some ⟨bj, 0, none⟩), .pointer (some ⟨bj, 0, none⟩), .agg C.toList.toArray, .pointer (some ⟨bj, 0, none⟩), .pointer (some ⟨bj, 0, none⟩), .pointer (some ⟨bj, 28, none⟩), .slice A l.length c, .int .i64 i, .int .i64 d, .pointer (some ⟨bj, 0, none⟩), .int .i64 (f + 400), suitFn (w.heap.size + 2), .int .i64 x, undef], defers := [] }) ?assign ?body ?done ?stop
  case seq =>
    intro lb J Jx W hW hJ _ hY h0
    have := suited1_iter 2 (w.heap.size + 2) C Y l A c i (w.heap.size + 2 + 3) (w.heap.size + 2 + 4) (w.heap.size + 2) (w.heap.size + 2 + 1) (w.heap.size + 2 + 2) d (f + 400) HV.out hl hi (by omega) ⟨hd1, by omega⟩
      (SuitW (w.heap.size + 2) C Y l A c i (w.heap.size + 2 + 3) (w.heap.size + 2 + 4) (w.heap.size + 2) (w.heap.size + 2 + 1) (w.heap.size + 2 + 2) d (f + 400)) (KpC fun _ => False) (fun W W' h hb => h.below hb) (fun W W' h hk => none_own W W' hk _ _ _ _ _ _ _ _ _ _ _ _ _ _ h) (fun _ h => h) lb J Jx W (HL.out.below hW) hJ hY h0
    rw [HLL.out] at this
    exact this
  case own =>
    rintro pre W W' row ⟨h1, h2, h3, h4⟩ hg hr
    exact ⟨h1, h2.grown hg h2.size (fun k e => by have := (hr k e).1; omega), h3.grown hg (fun e => by have := (hr _ e.symm).1; omega), h4.grown hg (fun e => by have := (hr _ e.symm).1; omega)⟩
  case ownx =>
    rintro cc pre W W' row ⟨h0, x, h1, h2, h3, h4⟩ hg hr
    exact ⟨h0, x, h1, h2.grown hg h2.size (fun k e => by have := (hr k e).1; omega), h3.grown hg (fun e => by have := (hr _ e.symm).1; omega), h4.grown hg (fun e => by have := (hr _ e.symm).1; omega)⟩
  case assign =>
    intro lb x W K hK
    gi_wp2
    exact hK
  case body =>
    rintro lb pre x W ⟨rfl, h2, h3, h4⟩ _
    have y1 := h3.cell 0 rfl
    have y2 := h4.cell 0 rfl
    have z1 := h3.fro 0
    have z2 := h4.fro 0
    gi_wp2
    exact ⟨(KeepsOthers.setCell _ _ _).trans (KeepsOthers.setCell _ _ _), rfl, x, rfl, (h2.setCell (Nat.le_refl _) _).setCell (by simp) _, (h3.set 0 _).far (by simp) _, (h4.far (by simp) _).set 0 _⟩
  case done =>
    rintro D xs W hwD rfl ⟨h1, h2, h3, h4⟩ hK
    have y1 := h3.cell 0 rfl
    have y2 := h4.cell 0 rfl
    have z1 := h3.fro 0
    have z2 := h4.fro 0
    go_wp2
    have g3 := (((h3.set 0 (.int .i64 0)).far (p := ⟨w.heap.size + 1, 0, none⟩) (by simp) (.bool false))).putObj (D := D) (by omega) (.deferred none)
    have g4 := (((h4.far (p := ⟨w.heap.size, 0, none⟩) (by simp) (.int .i64 0)).set 0 (.bool false))).putObj (D := D) (by omega) (.deferred none)
    have gb := below_putObj ((h2.setCell (p := ⟨w.heap.size, 0, none⟩) (Nat.le_refl _) (.int .i64 0)).setCell (p := ⟨w.heap.size + 1, 0, none⟩) (by simp) (.bool false)) (D := D) (by omega) (.deferred none)
    refine leaves_mark (v := .tuple #[.int .i64 0, .bool false]) (D := D) ?_ rfl ?_ ?_
    · exact (Below.heap_setCell _ _ _ _ (by show D ≠ w.heap.size + 1; omega)).trans ((Below.heap_setCell _ _ _ _ (by show D ≠ w.heap.size; omega)).trans hK)
    · have x3 := g3.cell 0 rfl
      have x4 := g4.cell 0 rfl
      generalize World.putObj _ D (.deferred none) = w9 at *
      simp [results, Try.results117, go_sem, x3, x4]
    · subst h1
      exact ⟨by rw [HLL.out]; rfl, gb⟩
  case stop =>
    rintro D cc pre W hwD hp ⟨rfl, x, rfl, h2, h3, h4⟩ hK
    gi_wp2
    have g3 := h3.putObj (D := D) (by omega) (.deferred none)
    have g4 := h4.putObj (D := D) (by omega) (.deferred none)
    have gb := below_putObj h2 (D := D) (by omega) (.deferred none)
    refine leaves_mark (v := .tuple #[.int .i64 x, .bool true]) (D := D) hK rfl ?_ ?_
    · have x3 := g3.cell 0 rfl
      have x4 := g4.cell 0 rfl
      generalize World.putObj _ D (.deferred none) = w9 at *
      simp [results, Try.results117, go_sem, x3, x4]
    · obtain ⟨r, rfl⟩ := hp
      exact ⟨by rw [HLL.out]; rfl, gb⟩
end Go.Proofs.Ytjgnikmnadmheaa
