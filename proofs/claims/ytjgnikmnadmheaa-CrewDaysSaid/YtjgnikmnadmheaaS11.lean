/- slices.Insert of one integer, into a list of the call's own. -/
import Derived.Test.YtjgnikmnadmheaaS4
import Derived.Laws.IdiomCopy
import Derived.Lib.LazyBuf
namespace Go.Proofs.Ytjgnikmnadmheaa
open Go.RowKit Go.Shelf Go.Lib

def insL (l : List Int) (i : Nat) (x : Int) : List Int := l.take i ++ x :: l.drop i
theorem insL_len (l : List Int) (i : Nat) (x : Int) (hi : i ≤ l.length) : (insL l i x).length = l.length + 1 := by
  unfold insL; simp; omega
theorem ints_insL (l : List Int) (i : Nat) (x : Int) : ints (insL l i x) = (ints l).take i ++ Value.int .i64 x :: (ints l).drop i := by
  unfold insL ints; simp
theorem ins_at {cs : List Value} {i : Nat} {x : Value} (hi : i ≤ cs.length) {j : Nat} {u : Value} (h : (cs.take i ++ x :: cs.drop i)[j]? = some u) :
    (j < i ∧ cs[j]? = some u) ∨ (j = i ∧ u = x) ∨ (i < j ∧ j ≤ cs.length ∧ (cs.drop i)[j - (i + 1)]? = some u) := by
  have hl : (cs.take i).length = i := by simp; omega
  rcases Nat.lt_trichotomy j i with hj | rfl | hj
  · rw [List.getElem?_append_left (by omega), List.getElem?_take, if_pos hj] at h
    exact .inl ⟨hj, h⟩
  · rw [List.getElem?_append_right (by omega), hl] at h
    simp at h
    exact .inr (.inl ⟨rfl, h.symm⟩)
  · rw [List.getElem?_append_right (by omega), hl] at h
    rw [show j - i = (j - (i + 1)) + 1 by omega, List.getElem?_cons_succ] at h
    have := (List.getElem?_eq_some_iff.1 h).1
    simp at this
    exact .inr (.inr ⟨hj, by omega, h⟩)
theorem drop_cell {W : World} {g o : Nat} {cs : List Value} {i : Nat} {k : Nat} {u : Value} (hs : ∀ j, j < (cs.drop i).length → (W.cell? ⟨g, o + j, none⟩).isSome = true) (h : (cs.drop i)[k]? = some u) :
    (W.setCells g o (cs.drop i)).cell? ⟨g, o + k, none⟩ = some u := by
  obtain ⟨hk, e⟩ := List.getElem?_eq_some_iff.1 h
  rw [World.cell?_setCells_in g (cs.drop i) o W hs k hk, e]
theorem one_cell {W : World} {g o : Nat} {x : Value} (hs : (W.cell? ⟨g, o, none⟩).isSome = true) : (W.setCells g o [x]).cell? ⟨g, o, none⟩ = some x := by
  have := World.cell?_setCells_in g [x] o W (fun j hj => by rw [show j = 0 by simpa using hj]; exact hs) 0 (by simp)
  simpa using this
theorem far_cell {W : World} {g o k : Nat} {vs : List Value} (h : k < o ∨ o + vs.length ≤ k) : (W.setCells g o vs).cell? ⟨g, k, none⟩ = W.cell? ⟨g, k, none⟩ :=
  World.cell?_setCells_out g vs o W ⟨g, k, none⟩ (fun _ _ => h)

/-- the tail is laid, then the new cell -/
theorem ins_cells1 {W : World} {g i : Nat} {cs : List Value} {x : Value} (hi : i ≤ cs.length) (hs : ∀ j, j < cs.length + 1 → (W.cell? ⟨g, j, none⟩).isSome = true) (hp : ∀ j u, j < i → cs[j]? = some u → W.cell? ⟨g, j, none⟩ = some u) :
    ∀ j u, (cs.take i ++ x :: cs.drop i)[j]? = some u → ((W.setCells g (i + 1) (cs.drop i)).setCells g i [x]).cell? ⟨g, j, none⟩ = some u := fun j u hu => by
  have hl : (cs.drop i).length = cs.length - i := by simp
  rcases ins_at hi hu with ⟨hj, h⟩ | ⟨rfl, rfl⟩ | ⟨hj, hj2, h⟩
  · rw [far_cell (by left; omega), far_cell (by left; omega)]; exact hp j u hj h
  · refine one_cell ?_
    rw [far_cell (by left; omega)]; exact hs _ (by omega)
  · rw [far_cell (by right; first | omega | (simp; omega) | simp)]
    have := drop_cell (W := W) (g := g) (o := i + 1) (k := j - (i + 1)) (fun k hk => hs _ (by omega)) h
    rw [show i + 1 + (j - (i + 1)) = j by omega] at this
    exact this
/-- the new cell is laid, then the tail -/
theorem ins_cells2 {W : World} {g i : Nat} {cs : List Value} {x : Value} (hi : i ≤ cs.length) (hs : ∀ j, j < cs.length + 1 → (W.cell? ⟨g, j, none⟩).isSome = true) (hp : ∀ j u, j < i → cs[j]? = some u → W.cell? ⟨g, j, none⟩ = some u) :
    ∀ j u, (cs.take i ++ x :: cs.drop i)[j]? = some u → ((W.setCells g i [x]).setCells g (i + 1) (cs.drop i)).cell? ⟨g, j, none⟩ = some u := fun j u hu => by
  have hl : (cs.drop i).length = cs.length - i := by simp
  rcases ins_at hi hu with ⟨hj, h⟩ | ⟨rfl, rfl⟩ | ⟨hj, hj2, h⟩
  · rw [far_cell (by left; omega), far_cell (by left; omega)]; exact hp j u hj h
  · rw [far_cell (by left; omega)]; exact one_cell (hs _ (by omega))
  · have := drop_cell (W := W.setCells g i [x]) (g := g) (o := i + 1) (k := j - (i + 1)) (fun k hk => by rw [far_cell (by right; first | omega | (simp; omega) | simp)]; exact hs _ (by omega)) h
    rw [show i + 1 + (j - (i + 1)) = j by omega] at this
    exact this
def InsEnd (l : List Int) (base : Nat) (w : World) (e : Ending) (w' : World) : Prop := ∃ g c R, e = .returned (.slice (some ⟨g, 0, none⟩) l.length c) ∧ Lies w' w'.heap.size (some ⟨g, 0, none⟩) (ints l) ∧ base ≤ g ∧ Bk w' g 3 R ∧ l.length ≤ c ∧ Below base w w'
theorem Bk.setCells {t b : Nat} : ∀ (vs : List Value) (o : Nat) (w : World) (C : Array Value), Bk w b t C → ∃ C2, Bk (w.setCells b o vs) b t C2 ∧ C2.size = C.size ∧ ∀ j, C2[j]? = if o ≤ j ∧ j < o + vs.length ∧ j < C.size then vs[j - o]? else C[j]?
  | [], o, w, C, h => ⟨C, h, rfl, fun j => by rw [if_neg (by simp; omega)]⟩
  | v :: r, o, w, C, h => by
    obtain ⟨C2, h1, h2, h3⟩ := Bk.setCells r (o + 1) _ _ (h.set o v)
    refine ⟨C2, h1, by simpa using h2, fun j => ?_⟩
    rw [h3 j]
    simp only [Array.size_setIfInBounds, List.length_cons]
    by_cases hj : j = o
    · subst hj
      rw [if_neg (by omega)]
      by_cases hc : j < C.size
      · rw [if_pos (by omega)]; simp [hc]
      · rw [if_neg (by omega)]; simp [hc]
    · by_cases hc : o + 1 ≤ j ∧ j < o + 1 + r.length ∧ j < C.size
      · rw [if_pos hc, if_pos (by omega), show j - o = (j - (o + 1)) + 1 by omega]; rfl
      · rw [if_neg hc, if_neg (by omega), Array.getElem?_setIfInBounds_ne (by omega)]
/-- all but one block is as it was -/
structure Far (w w' : World) (b : Nat) : Prop where
  size : w'.heap.size = w.heap.size
  blk : ∀ g, g ≠ b → w'.heap[g]? = w.heap[g]?
  bel : ∀ B a, B ≤ b → Below B a w → Below B a w'
theorem lies_at {w : World} {g : Nat} {cs : List Value} (h : ∀ j u, cs[j]? = some u → w.cell? ⟨g, j, none⟩ = some u) (hne : cs ≠ []) : Lies w w.heap.size (some ⟨g, 0, none⟩) cs := by
  obtain ⟨u, hu⟩ : ∃ u, cs[0]? = some u := by
    cases cs with
    | nil => exact absurd rfl hne
    | cons x r => exact ⟨x, rfl⟩
  exact Lies.lit h (block_lt_of_cell (h 0 u hu))

set_option maxHeartbeats 400000 in
theorem insert_any (l : List Int) (i : Nat) (x : Int) (v : Value) (base vb : Nat) (w : World) (ho : w.ownsRow base 3 1 v l.length (ints l)) (hb : Bk w vb 3 #[.int .i64 x]) (hne : vb < base ∨ some vb ≠ v.ownBlock) (hi : i ≤ l.length) (hm : l.length ≤ 1000) (hbase : base ≤ w.heap.size) :
    Calls Try.prog 77 #[v, .int .i64 i, .slice (some ⟨vb, 0, none⟩) 1 1] w (InsEnd (insL l i x) base w) := by
  have hll : (ints l).length = l.length := ints_len l
  have hvs : ∀ j u, ([Value.int .i64 x])[j]? = some u → w.cell? ⟨vb, 0 + j, none⟩ = some u := fun j u hu => by rw [Nat.zero_add]; exact hb.cell j (by simpa using hu)
  have h1v : ∀ u ∈ ([Value.int .i64 x]), u.oneCell' = true := fun u hu => by simp at hu; subst hu; rfl
  have h1c : ∀ u ∈ ints l, u.oneCell' = true := fun u hu => by unfold ints at hu; obtain ⟨k, _, rfl⟩ := List.mem_map.1 hu; rfl
  have hlen := insL_len l i x hi
  have hne' : ints (insL l i x) ≠ [] := fun e => by have := congrArg List.length e; rw [ints_len, hlen] at this; simp at this
  rcases ho.2 with ⟨rfl, hn⟩ | ⟨g, cap, cur, rfl, hg, hcur, hnc, hcm, hsz, htake⟩
  · have hl0 : l = [] := List.length_eq_zero_iff.1 hn
    subst hl0
    obtain rfl : i = 0 := by simpa using hi
    refine (Any2.slices_Insert_int_end_grow (P := Try.prog) Lay21 none 0 0 vb 0 1 1 [] [.int .i64 x] w (by omega) (by omega) (by omega) (by omega) rfl rfl (fun _ => rfl) (fun a ha => by cases ha) hvs h1v).mono ?_
    rintro e w' ⟨rfl, rfl⟩
    refine ⟨w.heap.size, _, _, rfl, ?_, hbase, heap_alloc_new w.drew _, grownCap_ge w 1 0 3, by exact (by repeat (first | with_reducible exact Below.refl _ _ | with_reducible assumption | with_reducible refine Below.drew ?_ | with_reducible refine below_drewN ?_ _ | (with_reducible refine Below.alloc ?_ ?_ _; rotate_left; (try simp) <;> omega) | (with_reducible refine Below.setCell ?_ ?_ _; rotate_left; (try simp) <;> omega)))⟩
    refine lies_at (fun j u hu => ?_) hne'
    rw [ints_insL] at hu
    have hj : j = 0 ∧ u = .int .i64 x := by
      cases j with
      | zero => simp [ints] at hu; exact ⟨rfl, hu.symm⟩
      | succ j => simp [ints] at hu
    obtain ⟨rfl, rfl⟩ := hj
    rw [cell_of_row _ w.heap.size 0 _ (Lay21_ren.t 3) (0, 0) (heap_alloc_new w.drew _), Array.getElem?_append_left (by simp)]
    simp
  · have hcell : ∀ j u, (ints l)[j]? = some u → w.cell? ⟨g, j, none⟩ = some u := fun j u hu => by
      rw [cell_of_row w g j cur 3 (0, 0) hcur, ← Array.getElem?_toList]
      rw [← htake, List.getElem?_take] at hu
      split at hu
      · exact hu
      · cases hu
    have hsome : ∀ j, j < cap → (w.cell? ⟨g, j, none⟩).isSome = true := fun j hj => by
      rw [cell_of_row w g j cur 3 (0, 0) hcur]
      simp; omega
    have hgl : g < w.heap.size := (Array.getElem?_eq_some_iff.1 hcur).1
    have hvg : vb ≠ g := by
      rcases hne with h | h
      · omega
      · intro e; subst e; exact h rfl
    by_cases hroom : l.length + 1 ≤ cap
    · by_cases hlt : i < l.length
      · have hfr : ∀ o, w.frozen? ⟨g, o, none⟩ = false := fun o => by simp [World.frozen?, hcur]
        refine (Any2.slices_Insert_int_shift (P := Try.prog) Lay21 g 0 l.length cap i vb 0 1 1 (ints l) [.int .i64 x] w hlt (by omega) hroom (by unfold maxLen at hcm; omega) hvg hll rfl (fun j u hu => by rw [Nat.zero_add]; exact hcell j u hu) (fun j hj => by rw [Nat.zero_add]; exact hsome j (by omega)) (fun j _ => hfr _) hvs h1c h1v 3 3 1 cur.size (by simp [World.shape?, show w.heap[vb]? = some (.cells #[.int .i64 x] 3 (0, 0)) from hb]) (by simp [World.shape?, hcur]) (by omega) (hb.fro 0) (hb.fro 1)).mono ?_
        rintro e w' ⟨rfl, rfl⟩
        rw [Nat.zero_add, Nat.zero_add]
        obtain ⟨R1, hR1, _, _⟩ := Bk.setCells ((ints l).drop i) (i + 1) w.drew cur hcur
        obtain ⟨R2, hR2, _, _⟩ := Bk.setCells [.int .i64 x] i _ R1 hR1
        refine ⟨g, _, _, by rw [hlen], ?_, hg, hR2, by omega, ?_⟩
        · rw [ints_insL] at hne' ⊢
          exact lies_at (ins_cells1 (W := w.drew) (by omega) (fun j hj => by simpa using hsome j (by omega)) (fun j u _ hu => by simpa using hcell j u hu)) hne'
        · exact below_setCells hg _ _ _ (below_setCells hg _ _ _ (by exact (by repeat (first | with_reducible exact Below.refl _ _ | with_reducible assumption | with_reducible refine Below.drew ?_ | with_reducible refine below_drewN ?_ _ | (with_reducible refine Below.alloc ?_ ?_ _; rotate_left; (try simp) <;> omega) | (with_reducible refine Below.setCell ?_ ?_ _; rotate_left; (try simp) <;> omega)))))
      · obtain rfl : i = l.length := by omega
        refine (Any2.slices_Insert_int_end_room (P := Try.prog) Lay21 g 0 l.length cap vb 0 1 1 [.int .i64 x] w (by omega) hroom (by unfold maxLen at hcm; omega) rfl (fun j hj => by rw [Nat.zero_add]; exact hsome _ (by omega)) (fun j _ => by simp [World.frozen?, hcur]) hvs h1v).mono ?_
        rintro e w' ⟨rfl, rfl⟩
        rw [Nat.zero_add]
        obtain ⟨R2, hR2, _, _⟩ := Bk.setCells [.int .i64 x] l.length w cur hcur
        refine ⟨g, _, _, by rw [hlen], ?_, hg, hR2, by omega, below_setCells hg _ _ _ (Below.refl _ _)⟩
        rw [ints_insL] at hne' ⊢
        have := ins_cells1 (W := w) (g := g) (i := l.length) (cs := ints l) (x := .int .i64 x) (by omega) (fun j hj => hsome j (by omega)) (fun j u _ hu => hcell j u hu)
        rw [List.drop_of_length_le (by omega)] at this hne' ⊢
        exact lies_at this hne'
    · by_cases hlt : i < l.length
      · refine (Any2.slices_Insert_int_grow (P := Try.prog) Lay21 g 0 l.length cap i vb 0 1 1 (ints l) [.int .i64 x] w hlt (by omega) hnc (by omega) (by omega) hll rfl (fun j u hu => by rw [Nat.zero_add]; exact hcell j u hu) hvs h1c h1v).mono ?_
        have hcap := grownCap_ge w (l.length + 1) cap 3
        rintro e w' ⟨rfl, rfl⟩
        have hk0 : Bk (w.alloc (.cells (((ints l).take i).toArray ++ Builtin.zeroCells (Value.int .i64 0).cells (l.length + 1 - i) ++ Builtin.zeroCells (Value.int .i64 0).cells (grownCap w (l.length + 1) cap 3 - (l.length + 1))) 3)).drew w.heap.size 3 _ := heap_alloc_new w _
        obtain ⟨R1, hR1, _, _⟩ := Bk.setCells [.int .i64 x] i _ _ hk0
        obtain ⟨R2, hR2, _, _⟩ := Bk.setCells ((ints l).drop i) (i + 1) (World.setCells _ w.heap.size i [.int .i64 x]).drew R1 hR1
        refine ⟨w.heap.size, _, R2, by rw [hlen], ?_, hbase, hR2, by rw [hlen]; exact hcap, ?_⟩
        · rw [ints_insL] at hne' ⊢
          have hcs : ∀ j, (w.alloc (.cells (((ints l).take i).toArray ++ Builtin.zeroCells (Value.int .i64 0).cells (l.length + 1 - i) ++ Builtin.zeroCells (Value.int .i64 0).cells (grownCap w (l.length + 1) cap 3 - (l.length + 1))) 3)).cell? ⟨w.heap.size, j, none⟩ = (((ints l).take i).toArray ++ Builtin.zeroCells (Value.int .i64 0).cells (l.length + 1 - i) ++ Builtin.zeroCells (Value.int .i64 0).cells (grownCap w (l.length + 1) cap 3 - (l.length + 1)))[j]? := fun j => cell_of_row _ _ j _ 3 (0, 0) (heap_alloc_new w _)
          rw [drew_setCells]
          refine lies_at (ins_cells2 (W := (w.alloc (.cells (((ints l).take i).toArray ++ Builtin.zeroCells (Value.int .i64 0).cells (l.length + 1 - i) ++ Builtin.zeroCells (Value.int .i64 0).cells (grownCap w (l.length + 1) cap 3 - (l.length + 1))) 3)).drew.drew) (g := w.heap.size) (i := i) (cs := ints l) (x := .int .i64 x) (by omega) (fun j hj => ?_) (fun j u hj hu => ?_)) hne'
          · rw [World.cell?_drew, World.cell?_drew, hcs]
            have : j < (((ints l).take i).toArray ++ Builtin.zeroCells (Value.int .i64 0).cells (l.length + 1 - i) ++ Builtin.zeroCells (Value.int .i64 0).cells (grownCap w (l.length + 1) cap 3 - (l.length + 1))).size := by
              simp [Builtin.zeroCells, Value.cells]; omega
            rw [Array.getElem?_eq_getElem this]; rfl
          · rw [World.cell?_drew, World.cell?_drew, hcs, Array.getElem?_append_left (by simp [Builtin.zeroCells, Value.cells]; omega), Array.getElem?_append_left (by simp; omega)]
            simp only [List.getElem?_toArray, List.getElem?_take, hj, if_true]
            exact hu
        · exact below_setCells hbase _ _ _ ((below_setCells hbase _ _ _ (((Below.refl _ _).alloc hbase _).drew)).drew)
      · obtain rfl : i = l.length := by omega
        refine (Any2.slices_Insert_int_end_grow (P := Try.prog) Lay21 (some ⟨g, 0, none⟩) l.length cap vb 0 1 1 (ints l) [.int .i64 x] w (by omega) hnc (by omega) (by omega) hll rfl (fun e => by cases e) (fun a ha j u hu => ?_) hvs h1v).mono ?_
        · cases ha
          rw [show (⟨g, 0, none⟩ : Addr).add j = ⟨g, j, none⟩ by unfold Addr.add; split <;> simp_all]
          exact hcell j u hu
        rintro e w' ⟨rfl, rfl⟩
        refine ⟨w.heap.size, _, _, by rw [hlen], ?_, hbase, heap_alloc_new w.drew _, by rw [hlen]; exact grownCap_ge w (l.length + 1) cap 3, ((Below.refl _ _).drew).alloc hbase _⟩
        rw [ints_insL] at hne' ⊢
        rw [List.take_of_length_le (by omega), List.drop_of_length_le (by omega)] at hne' ⊢
        refine lies_at (fun j u hu => ?_) hne'
        rw [cell_of_row _ w.heap.size j _ (Lay21_ren.t 3) (0, 0) (heap_alloc_new w.drew _)]
        have hj := (List.getElem?_eq_some_iff.1 hu).1
        rw [Array.getElem?_append_left (by simpa using hj)]
        simpa using hu
end Go.Proofs.Ytjgnikmnadmheaa
