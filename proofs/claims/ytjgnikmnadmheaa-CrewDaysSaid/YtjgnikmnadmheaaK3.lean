/- What the contracts of the closed run say holds of the program: the yards and the tasks of the examples, read out of the machine's memory. -/
import Derived.Test.YtjgnikmnadmheaaK2
import Derived.Test.YtjgnikmnadmheaaS15
namespace Go.Proofs.Ytjgnikmnadmheaa
open Go.RowKit

abbrev HoB (H : Tr AO) (q : Nat → Option (Nat × Nat)) (w : World) : Prop := ∀ i o, H.get i = some o → ∃ b k o', q i = some (b, k) ∧ w.heap[b]? = some o' ∧ OR q k o o'

theorem isInt_eq {v : Value} {k : Int} (h : isInt v k = true) : v = .int .i64 k := by
  unfold isInt at h
  split at h
  · rw [of_decide_eq_true h]
  · cases h
theorem isInts_eq : ∀ (l : List Value) (ks : List Int), isInts l ks = true → l = ints ks
  | [], [], _ => rfl
  | [], _ :: _, h => nomatch h
  | _ :: _, [], h => nomatch h
  | v :: l, k :: ks, h => by
    have h' : (Bool.rec false (isInts l ks) (isInt v k) : Bool) = true := h
    cases h1 : isInt v k with
    | false => rw [h1] at h'; cases h'
    | true => rw [h1] at h'; rw [isInt_eq h1, isInts_eq l ks h']; rfl
def annB : ByteArray := ⟨#[97, 110, 110]⟩
def exY (two : Bool) : Yd := ⟨fun k => seas.getD k 0, cond two [2, 3] [3], [⟨0, 2, 2⟩, ⟨0, 5, 9⟩], [⟨annB, 0, 100, 4⟩], 1⟩
theorem isAnn_eq {l : List Value} (h : isAnn l = true) : l = massC (exY false).ma := by
  unfold isAnn at h
  split at h
  · rename_i s l
    cases h1 : decide (s = ⟨#[97, 110, 110]⟩) with
    | false => rw [h1] at h; cases h
    | true => rw [h1] at h; rw [of_decide_eq_true h1, isInts_eq l _ h]; rfl
  · cases h
theorem isNil_eq {v : Value} (h : isNil v = true) : v = .slice none 0 0 := by
  unfold isNil at h
  split at h
  · rfl
  · cases h

theorem row_lies {H : Tr AO} {v v' : Value} {m e n : Nat} {row : List Value} (h : rowAt H v m e n = row) (hne : row ≠ []) {q : Nat → Option (Nat × Nat)} {w : World} (hv : VR q v v') (hob : HoB H q w) :
    ∃ A c, v' = .slice (some A) m c ∧ A.block < w.heap.size ∧ ∀ j u, row[j]? = some u → ∃ u', w.cell? (A.add j) = some u' ∧ CR q u u' := by
  unfold rowAt at h
  split at h
  case h_2 => exact absurd h.symm hne
  rename_i b o l c
  split at h
  case h_2 => exact absurd h.symm hne
  rename_i r e' sz hb
  cases h1 : Nat.beq e' e with
  | false => rw [h1] at h; exact absurd h.symm hne
  | true =>
  rw [h1] at h
  cases h2 : Nat.beq l m with
  | false => rw [h2] at h; exact absurd h.symm hne
  | true =>
  rw [h2] at h
  dsimp only at h
  obtain rfl := Nat.eq_of_beq_eq_true h2
  rw [takeQ_eq, dropQ_eq] at h
  obtain ⟨b', k, o', g1, g2, g3⟩ := hob b _ hb
  obtain ⟨b2, c', k2, rfl, g4, _⟩ := VR.slice_inv hv
  rw [g1] at g4; cases g4
  cases o' with
  | cells cs e2 fr =>
    obtain ⟨_, _, g5, _, g6⟩ := g3
    refine ⟨_, _, rfl, (Array.getElem?_eq_some_iff.1 g2).1, fun j u hu => ?_⟩
    have hj : o + j < r.size := by
      rw [← h, List.getElem?_take] at hu
      split at hu
      · rw [List.getElem?_drop] at hu
        have := (List.getElem?_eq_some_iff.1 hu).1
        simpa using this
      · cases hu
    have hru : r.getD (o + j) undef = u := by
      rw [← h, List.getElem?_take] at hu
      split at hu
      · rw [List.getElem?_drop] at hu
        have : r[o + j]? = some u := by simpa using hu
        rw [Array.getD_eq_getD_getElem?, this]; rfl
      · cases hu
    have h7 := g6 (o + j) hj
    rw [hru] at h7
    refine ⟨cs.getD (o + j) undef, ?_, h7⟩
    rw [add_eq]
    have hcs : o + j < cs.size := by omega
    unfold World.cell?
    dsimp only
    rw [g2]
    rw [Array.getD_eq_getD_getElem?, Array.getElem?_eq_getElem hcs]
    exact Array.getElem?_eq_getElem hcs
  | _ => exact g3.elim
theorem CR.flat {q : Nat → Option (Nat × Nat)} {u u' : Value} (h : CR q u u') (hg : ground 1 u = true) : u' = u := by
  rcases h with rfl | h
  · cases hg
  · exact VR.eq_of_ground 1 hg h
theorem row_flat {H : Tr AO} {v v' : Value} {m e n : Nat} {row : List Value} (h : rowAt H v m e n = row) (hne : row ≠ []) (hg : ∀ u ∈ row, ground 1 u = true) {q : Nat → Option (Nat × Nat)} {w : World} (hv : VR q v v') (hob : HoB H q w) :
    ∃ A c, v' = .slice (some A) m c ∧ Lies w w.heap.size (some A) row := by
  obtain ⟨A, c, h1, h2, h3⟩ := row_lies h hne hv hob
  refine ⟨A, c, h1, fun _ => ⟨A, rfl, h2, fun j u hu => ?_⟩⟩
  obtain ⟨u', h4, h5⟩ := h3 j u hu
  rw [h5.flat (hg u (List.mem_of_getElem? hu))] at h4
  exact h4
theorem ground_ints (l : List Int) : ∀ u ∈ ints l, ground 1 u = true := fun u hu => by unfold ints at hu; obtain ⟨k, _, rfl⟩ := List.mem_map.1 hu; rfl

theorem yard_of {y C : Array Value} {H : Tr AO} {n : Nat} {cl : List Int} (h : isYardC y.toList H n cl = true) (hn : cl.length = n) (hcl : cl ≠ []) {q : Nat → Option (Nat × Nat)} {w : World} (hv : AR q y C) (hob : HoB H q w) :
    YardAt w w.heap.size C { exY false with cl := cl } := by
  unfold isYardC at h
  cases h1 : isInts (takeQ y.toList 24) seas with
  | false => rw [h1] at h; cases h
  | true =>
  rw [h1] at h
  dsimp only at h
  split at h
  case h_2 => cases h
  rename_i c p m d hd
  cases h2 : isInts (rowAt H c n 3 n) cl with
  | false => rw [h2] at h; cases h
  | true =>
  rw [h2] at h
  dsimp only at h
  cases h3 : isInts (rowAt H p 2 87 6) [0, 2, 2, 0, 5, 9] with
  | false => rw [h3] at h; cases h
  | true =>
  rw [h3] at h
  dsimp only at h
  cases h4 : isAnn (rowAt H m 1 78 4) with
  | false => rw [h4] at h; cases h
  | true =>
  rw [h4] at h
  have h5 : d = .int .i64 1 := isInt_eq h
  have e1 := isInts_eq _ _ h1
  rw [takeQ_eq] at e1
  rw [dropQ_eq] at hd
  have e2 := isInts_eq _ _ h2
  have e3 := isInts_eq _ _ h3
  have e4 := isAnn_eq h4
  have hlen : y.size = 28 := by
    have k := congrArg List.length hd
    simp at k
    omega
  have at_ : ∀ k u, [c, p, m, d][k]? = some u → ∃ u', C[24 + k]? = some u' ∧ VR q u u' := fun k u hu => by
    rw [← hd, List.getElem?_drop] at hu
    exact hv.get (24 + k) u (by simpa using hu)
  obtain ⟨c', k1, r1⟩ := at_ 0 c rfl
  obtain ⟨p', k2, r2⟩ := at_ 1 p rfl
  obtain ⟨m', k3, r3⟩ := at_ 2 m rfl
  obtain ⟨d', k4, r4⟩ := at_ 3 d rfl
  refine ⟨by rw [← hv.1]; exact hlen, fun k hk => ?_, ?_, ?_, ?_, ?_⟩
  · have hs : (ints seas)[k]? = some (.int .i64 (seas.getD k 0)) := by
      unfold ints
      have : k < seas.length := hk
      rw [List.getElem?_map, List.getElem?_eq_getElem this, List.getD_eq_getElem?_getD, List.getElem?_eq_getElem this]; rfl
    rw [← e1, List.getElem?_take, if_pos hk] at hs
    obtain ⟨u', g1, g2⟩ := hv.get k _ (by simpa using hs)
    rw [VR.int_inv g2] at g1
    exact g1
  · obtain ⟨A, k, rfl, g⟩ := row_flat e2 (by intro e; unfold ints at e; exact hcl (List.map_eq_nil_iff.1 e)) (ground_ints _) r1 hob
    exact ⟨some A, k, by rw [← hn] at k1; exact k1, g⟩
  · obtain ⟨A, k, rfl, g⟩ := row_flat e3 (by intro e; cases e) (ground_ints _) r2 hob
    exact ⟨some A, k, k2, g⟩
  · obtain ⟨A, k, rfl, g⟩ := row_flat e4 (by intro e; cases e) (by decide) r3 hob
    exact ⟨some A, k, k3, g⟩
  · rw [h5] at r4
    rw [VR.int_inv r4] at k4
    exact k4

theorem yardNo_of {y C : Array Value} {H : Tr AO} {two : Bool} (h : yardNo y.toList H = some two) {q : Nat → Option (Nat × Nat)} {w : World} (hv : AR q y C) (hob : HoB H q w) : YardAt w w.heap.size C (exY two) := by
  unfold yardNo at h
  cases h1 : isYardC y.toList H 1 [3] with
  | true => rw [h1] at h; cases h; exact yard_of h1 rfl (by simp) hv hob
  | false =>
    rw [h1] at h
    dsimp only at h
    cases h2 : isYardC y.toList H 2 [2, 3] with
    | true => rw [h2] at h; cases h; exact yard_of h2 rfl (by simp) hv hob
    | false => rw [h2] at h; cases h

def exT (A : Addr) (c : Nat) : List Tk := [⟨400, 3, none, 0, [], none, 0, []⟩, ⟨400, 3, none, 0, [], none, 0, []⟩, ⟨400, 3, some A, c, [0, 1], none, 0, []⟩]
theorem tasks_of {v v' : Value} {H : Tr AO} (h : isTasks v H = true) {q : Nat → Option (Nat × Nat)} {w : World} (hv : VR q v v') (hob : HoB H q w) : ∃ A c a k, v' = .slice (some A) (exT a k).length c ∧ TasksAt w w.heap.size (some A) (exT a k) := by
  unfold isTasks at h
  split at h
  case h_2 => cases h
  rename_i w1 n1 a1 c1 w2 n2 a2 c2 w3 n3 a3 c3 hrow
  cases h1 : isInts [w1, n1, w2, n2, w3, n3] [400, 3, 400, 3, 400, 3] with
  | false => rw [h1] at h; cases h
  | true =>
  rw [h1] at h; dsimp only at h
  cases h2 : isNil c1 with
  | false => rw [h2] at h; cases h
  | true =>
  rw [h2] at h; dsimp only at h
  cases h3 : isNil c2 with
  | false => rw [h3] at h; cases h
  | true =>
  rw [h3] at h; dsimp only at h
  cases h4 : isNil c3 with
  | false => rw [h4] at h; cases h
  | true =>
  rw [h4] at h; dsimp only at h
  cases h5 : isNil a1 with
  | false => rw [h5] at h; cases h
  | true =>
  rw [h5] at h; dsimp only at h
  cases h6 : isNil a2 with
  | false => rw [h6] at h; cases h
  | true =>
  rw [h6] at h; dsimp only at h
  have e0 := isInts_eq _ _ h1
  have e1 := isNil_eq h2
  have e2 := isNil_eq h3
  have e3 := isNil_eq h4
  have e4 := isNil_eq h5
  have e5 := isNil_eq h6
  have e6 := isInts_eq _ _ h
  simp only [ints, List.map_cons, List.map_nil, List.cons.injEq, and_true] at e0
  obtain ⟨rfl, rfl, rfl, rfl, rfl, rfl⟩ := e0
  subst e1; subst e2; subst e3; subst e4; subst e5
  obtain ⟨A, c, rfl, hA, hc⟩ := row_lies hrow (by simp) hv hob
  obtain ⟨u, hu, hr⟩ := hc 10 a3 rfl
  have hr' : VR q a3 u := by
    rcases hr with rfl | hr
    · unfold rowAt at e6; cases e6
    · exact hr
  obtain ⟨a, k, rfl, g⟩ := row_flat e6 (by intro e; cases e) (ground_ints _) hr' hob
  refine ⟨A, c, a, k, rfl, fun _ => ⟨A, rfl, hA, fun j v hj => ?_⟩, ?_, ?_⟩
  · have key : ∀ x, (∀ y, CR q x y → y = v) → ([Value.int .i64 400, .int .i64 3, .slice none 0 0, .slice none 0 0, .int .i64 400, .int .i64 3, .slice none 0 0, .slice none 0 0, .int .i64 400, .int .i64 3, a3, .slice none 0 0][j]? = some x) → w.cell? (A.add j) = some v := fun x hx hj => by
      obtain ⟨y, g1, g2⟩ := hc j x hj
      rw [hx y g2] at g1; exact g1
    match j, hj with
    | 0, rfl => exact key _ (fun y h => h.flat rfl) rfl
    | 1, rfl => exact key _ (fun y h => h.flat rfl) rfl
    | 2, rfl => exact key _ (fun y h => h.flat rfl) rfl
    | 3, rfl => exact key _ (fun y h => h.flat rfl) rfl
    | 4, rfl => exact key _ (fun y h => h.flat rfl) rfl
    | 5, rfl => exact key _ (fun y h => h.flat rfl) rfl
    | 6, rfl => exact key _ (fun y h => h.flat rfl) rfl
    | 7, rfl => exact key _ (fun y h => h.flat rfl) rfl
    | 8, rfl => exact key _ (fun y h => h.flat rfl) rfl
    | 9, rfl => exact key _ (fun y h => h.flat rfl) rfl
    | 10, rfl => exact hu
    | 11, rfl => exact key _ (fun y h => h.flat rfl) rfl
    | j + 12, h => cases h
  · intro t ht
    simp only [exT, List.mem_cons, List.not_mem_nil, or_false] at ht
    rcases ht with rfl | rfl | rfl
    · exact fun h => absurd rfl h
    · exact fun h => absurd rfl h
    · exact g
  · intro t ht
    simp only [exT, List.mem_cons, List.not_mem_nil, or_false] at ht
    rcases ht with rfl | rfl | rfl <;> exact fun h => absurd rfl h
end Go.Proofs.Ytjgnikmnadmheaa
