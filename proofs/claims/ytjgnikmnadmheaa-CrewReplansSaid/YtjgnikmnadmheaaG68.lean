/- The second machine over this program: its types, its functions; a call without arguments. -/
import Derived.Test.YtjgnikmnadmheaaProg
import Derived.KernelRfl
import Derived.Test.YtjgnikmnadmheaaG07
import Derived.Test.YtjgnikmnadmheaaG21
import Derived.Test.YtjgnikmnadmheaaG61
import Derived.Test.YtjgnikmnadmheaaG64

namespace Go.Proofs.Ytjgnikmnadmheaa
open Go.RowKit

noncomputable def tree {α : Type} (f : Nat → Option α) (k : Nat) : Tr α → Tr α := Nat.rec (fun t => t) (fun k ih t => match f k with | some x => ih (t.set k x) | none => ih t) k
theorem tree_get {α : Type} (f : Nat → Option α) : ∀ (k : Nat) (t : Tr α) (i : Nat) (x : α), (tree f k t).get i = some x → (i < k ∧ f i = some x) ∨ t.get i = some x
  | 0, t, i, x, h => .inr h
  | k + 1, t, i, x, h => by
    change (match f k with | some y => tree f k (t.set k y) | none => tree f k t : Tr α).get i = some x at h
    split at h
    · rename_i y hy
      rcases tree_get f k _ i x h with ⟨h1, h2⟩ | h1
      · exact .inl ⟨by omega, h2⟩
      · rw [Tr.get_set] at h1
        by_cases e : i = k
        · subst e; rw [if_pos rfl] at h1; cases h1; exact .inl ⟨by omega, hy⟩
        · rw [if_neg e] at h1; exact .inr h1
    · rcases tree_get f k _ i x h with ⟨h1, h2⟩ | h1
      · exact .inl ⟨by omega, h2⟩
      · exact .inr h1

noncomputable def mkTv (P : Program) (t : Nat) : Option TV :=
  match P.info? t with
  | some i => match i.zero, P.underlying t with
    | some z, some u => Bool.rec none (some ⟨i.size, i.bytes, z, u, isAggD u⟩) (ground 3 z && z.cells.size == i.size)
    | _, _ => none
  | none => none
noncomputable def mkFn (P : Program) (wrs : List Nat) (f : Nat) : Option FI :=
  match P.funcs[f]? with
  | some fn => match fn.body with
    | some c => some ⟨c, fn.ntmps, fn.results.toList, wrs.contains f⟩
    | none => none
  | none => none
def fnOk (P : Program) (f : Nat) : Bool :=
  match P.funcs[f]? with
  | some fn => match fn.body with
    | some c => ck c && !(fn.name == "runtime.NumGoroutine")
    | none => true
  | none => true

theorem tvOk_of (P : Program) (n : Nat) : TvOk P (tree (mkTv P) n .e).get := ⟨fun t x h => by
  rcases tree_get _ _ _ _ _ h with ⟨_, h1⟩ | h1
  · unfold mkTv at h1
    split at h1
    · rename_i i hi
      split at h1
      · rename_i z u hz hu
        cases hg : (ground 3 z && z.cells.size == i.size) with
        | false => rw [hg] at h1; cases h1
        | true =>
          rw [hg] at h1; cases h1
          simp only [Bool.and_eq_true, beq_iff_eq] at hg
          exact ⟨⟨i, hi, rfl, rfl, hz⟩, hu, rfl, hg.1, hg.2⟩
      · cases h1
    · cases h1
  · rw [Tr.get_e] at h1; cases h1⟩

theorem fnsOk_of (P : Program) (wrs : List Nat) (N : Nat) (hck : (List.range N).all (fnOk P) = true) (f : Nat) (fi : FI) (h : (tree (mkFn P wrs) N .e).get f = some fi) :
    ∃ fn, P.funcs[f]? = some fn ∧ fn.body = some fi.body ∧ fn.ntmps = fi.ntmps ∧ fn.results.toList = fi.results ∧ ck fi.body = true ∧ (fn.name == "runtime.NumGoroutine") = false := by
  rcases tree_get _ _ _ _ _ h with ⟨hlt, h1⟩ | h1
  · have hok := List.all_eq_true.1 hck f (by simpa using hlt)
    unfold fnOk at hok
    unfold mkFn at h1
    split at h1
    · rename_i fn hfn
      rw [hfn] at hok
      dsimp only at hok
      split at h1
      · rename_i c hc
        rw [hc] at hok
        dsimp only at hok
        cases h1
        simp only [Bool.and_eq_true, Bool.not_eq_true'] at hok
        exact ⟨fn, hfn, hc, rfl, rfl, hok.1, hok.2⟩
      · cases h1
    · cases h1
  · rw [Tr.get_e] at h1; cases h1

noncomputable def tvs : Tr TV := tree (mkTv Try.prog) 157 .e
set_option maxRecDepth 100000 in
theorem fns_ok : (List.range 133).all (fnOk Try.prog) = true := by decide +kernel

end Go.Proofs.Ytjgnikmnadmheaa

namespace Go.Proofs.Ytjgnikmnadmheaa
open Go.RowKit

noncomputable def isInt (v : Value) (k : Int) : Bool := match v with
  | .int .i64 m => decide (m = k)
  | _ => false
noncomputable def isInts (l : List Value) : List Int → Bool := List.rec (fun ks => match ks with | [] => true | _ => false) (fun v _ ih ks => match ks with
  | k :: ks => Bool.rec false (ih ks) (isInt v k)
  | [] => false) l
noncomputable def isAnn (l : List Value) : Bool := match l with
  | .string s :: l => Bool.rec false (isInts l [0, 100, 4]) (decide (s = ⟨#[97, 110, 110]⟩))
  | _ => false
noncomputable def rowAt (H : Tr AO) (v : Value) (m e n : Nat) : List Value := match v with
  | .slice (some ⟨b, o, none⟩) l _ => match H.get b with
    | some (.cells row e' _) => Bool.rec [] (Bool.rec [] (takeQ (dropQ row.toList o) n) (Nat.beq l m)) (Nat.beq e' e)
    | _ => []
  | _ => []
def seas : List Int := [600, 500, 0, 0, 0, 0, 0, 0, 0, 0, 0, 0, 0, 0, 0, 0, 0, 0, 0, 0, 0, 0, 0, 0]
noncomputable def isYard (l : List Value) (H : Tr AO) : Bool := Bool.rec false (match dropQ l 24 with
    | [c, p, m, d] => Bool.rec false (Bool.rec false (Bool.rec false (isInt d 1) (isAnn (rowAt H m 1 78 4))) (isInts (rowAt H p 2 87 6) [0, 2, 2, 0, 5, 9])) (isInts (rowAt H c 1 3 1) [3])
    | _ => false) (isInts (takeQ l 24) seas)
def int1 (k : Int) : Value := .int .i64 k
def closedYard (n : Nat) : Value := .tuple #[.agg ((seas.map int1 ++ [.slice (some ⟨n, 0, none⟩) 2 unk, .slice (some ⟨n + 1, 0, none⟩) 2 unk, .slice (some ⟨n + 2, 0, none⟩) 1 unk, int1 1]).toArray), int1 0]
def closedRows : List AO := [.cells #[int1 2, int1 3] 3 none, .cells #[int1 0, int1 2, int1 2, int1 0, int1 5, int1 9] 87 none, .cells #[.string ⟨#[97, 110, 110]⟩, int1 0, int1 100, int1 4] 78 none]
noncomputable def extC (g : Nat) (args : Array Value) (H : Tr AO) (n : Nat) : Option (Value × List AO) := match args.toList with
  | [.agg y, d] => Bool.rec none (Bool.rec none (Bool.rec none (some (closedYard n, closedRows)) (isYard y.toList H)) (isInt d 2)) (Nat.beq g 20)
  | _ => none
noncomputable def fs : Tr FI := tree (mkFn Try.prog [87, 104, 122]) 133 .e
noncomputable def E1 : Env := ⟨Try.prog, tvs.get, fs.get, fun _ _ _ => none, fun _ _ _ => none, extC⟩
noncomputable def isTrueR (x : Option (Value × Tr AO × Nat)) : Bool := match x with | some (.bool b, _, _) => b | _ => false
end Go.Proofs.Ytjgnikmnadmheaa

namespace Go.Proofs.Ytjgnikmnadmheaa
open Go.RowKit

noncomputable def isNil (v : Value) : Bool := match v with
  | .slice none 0 0 => true
  | _ => false
noncomputable def isYardC (l : List Value) (H : Tr AO) (n : Nat) (cl : List Int) : Bool := Bool.rec false (match dropQ l 24 with
    | [c, p, m, d] => Bool.rec false (Bool.rec false (Bool.rec false (isInt d 1) (isAnn (rowAt H m 1 78 4))) (isInts (rowAt H p 2 87 6) [0, 2, 2, 0, 5, 9])) (isInts (rowAt H c n 3 n) cl)
    | _ => false) (isInts (takeQ l 24) seas)
noncomputable def yardNo (l : List Value) (H : Tr AO) : Option Bool := Bool.rec (Bool.rec none (some true) (isYardC l H 2 [2, 3])) (some false) (isYardC l H 1 [3])
noncomputable def isTasks (v : Value) (H : Tr AO) : Bool := match rowAt H v 3 48 12 with
  | [w1, n1, a1, c1, w2, n2, a2, c2, w3, n3, a3, c3] => Bool.rec false (Bool.rec false (Bool.rec false (Bool.rec false (Bool.rec false (Bool.rec false (isInts (rowAt H a3 2 3 2) [0, 1]) (isNil a2)) (isNil a1)) (isNil c3)) (isNil c2)) (isNil c1)) (isInts [w1, n1, w2, n2, w3, n3] [400, 3, 400, 3, 400, 3])
  | _ => false
def suitN (two : Bool) (i m : Nat) : Bool := Nat.ble m 100000 && (!(Nat.beq m 3) && (!(two && Nat.beq m 2) && (Nat.beq (m % 360 / 30) 0 && (Nat.ble (i + 1) (cond (Nat.ble 2 m) 2 0 + cond (Nat.ble 5 m) 9 0) && Nat.blt m 100))))
noncomputable def suitC2 (two : Bool) (i : Nat) (d : Int) : Bool := Int.rec (fun m => suitN two i m) (fun _ => false) d
noncomputable def task3 (v : Value) : Option Nat := match v with
  | .int .i64 (.ofNat i) => Bool.rec none (some i) (Nat.blt i 3)
  | _ => none
noncomputable def kIntOf (v : Value) : Option Int := match v with
  | .int .i64 i => some i
  | _ => none
noncomputable def extF (g : Nat) (args : Array Value) (H : Tr AO) : Option Value := match args.toList with
  | [y] => (match y with
    | .agg y => Bool.rec none (match yardNo y.toList H with | some _ => some (int1 0) | none => none) (Nat.beq g 16)
    | l => Bool.rec none (Bool.rec none (some (int1 0)) (isTasks l H)) (Nat.beq g 18))
  | [y, l, i, d] => (match y with
    | .agg y => Bool.rec none (Bool.rec none (match yardNo y.toList H with
        | some two => (match task3 i with
          | some i => (match kIntOf d with | some d => some (.bool (suitC2 two i d)) | none => none)
          | none => none)
        | none => none) (isTasks l H)) (Nat.beq g 97)
    | _ => none)
  | _ => none
noncomputable def E2 : Env := ⟨Try.prog, tvs.get, fs.get, fun _ _ _ => none, extF, extC⟩
end Go.Proofs.Ytjgnikmnadmheaa

namespace Go.Proofs.Ytjgnikmnadmheaa
open Go.RowKit

abbrev HoB (H : Tr AO) (q : Nat → Option (Nat × Nat)) (w : World) : Prop := ∀ i o, H.get i = some o → ∃ b k o', q i = some (b, k) ∧ w.heap[b]? = some o' ∧ OR q k o o'

theorem isInt_eq {v : Value} {k : Int} (h : isInt v k = true) : v = .int .i64 k := by
  unfold isInt at h
  split at h
  · rw [of_decide_eq_true h]
  · cases h
theorem isInts_eq : ∀ (l : List Value) (ks : List Int), isInts l ks = true → l = ints ks
  | [], [], _ => rfl
  | [], _ :: _, h => nomatch h
  | _ :: _, [], h => nomatch h
  | v :: l, k :: ks, h => by
    have h' : (Bool.rec false (isInts l ks) (isInt v k) : Bool) = true := h
    cases h1 : isInt v k with
    | false => rw [h1] at h'; cases h'
    | true => rw [h1] at h'; rw [isInt_eq h1, isInts_eq l ks h']; rfl
def annB : ByteArray := ⟨#[97, 110, 110]⟩
def exY (two : Bool) : Yd := ⟨fun k => seas.getD k 0, cond two [2, 3] [3], [⟨0, 2, 2⟩, ⟨0, 5, 9⟩], [⟨annB, 0, 100, 4⟩], 1⟩
theorem isAnn_eq {l : List Value} (h : isAnn l = true) : l = massC (exY false).ma := by
  unfold isAnn at h
  split at h
  · rename_i s l
    cases h1 : decide (s = ⟨#[97, 110, 110]⟩) with
    | false => rw [h1] at h; cases h
    | true => rw [h1] at h; rw [of_decide_eq_true h1, isInts_eq l _ h]; rfl
  · cases h
theorem isNil_eq {v : Value} (h : isNil v = true) : v = .slice none 0 0 := by
  unfold isNil at h
  split at h
  · rfl
  · cases h

theorem row_lies {H : Tr AO} {v v' : Value} {m e n : Nat} {row : List Value} (h : rowAt H v m e n = row) (hne : row ≠ []) {q : Nat → Option (Nat × Nat)} {w : World} (hv : VR q v v') (hob : HoB H q w) :
    ∃ A c, v' = .slice (some A) m c ∧ A.block < w.heap.size ∧ ∀ j u, row[j]? = some u → ∃ u', w.cell? (A.add j) = some u' ∧ CR q u u' := by
  unfold rowAt at h
  split at h
  case h_2 => exact absurd h.symm hne
  rename_i b o l c
  split at h
  case h_2 => exact absurd h.symm hne
  rename_i r e' sz hb
  cases h1 : Nat.beq e' e with
  | false => rw [h1] at h; exact absurd h.symm hne
  | true =>
  rw [h1] at h
  cases h2 : Nat.beq l m with
  | false => rw [h2] at h; exact absurd h.symm hne
  | true =>
  rw [h2] at h
  dsimp only at h
  obtain rfl := Nat.eq_of_beq_eq_true h2
  rw [takeQ_eq, dropQ_eq] at h
  obtain ⟨b', k, o', g1, g2, g3⟩ := hob b _ hb
  obtain ⟨b2, c', k2, rfl, g4, _⟩ := VR.slice_inv hv
  rw [g1] at g4; cases g4
  cases o' with
  | cells cs e2 fr =>
    obtain ⟨_, _, g5, _, g6⟩ := g3
    refine ⟨_, _, rfl, (Array.getElem?_eq_some_iff.1 g2).1, fun j u hu => ?_⟩
    have hj : o + j < r.size := by
      rw [← h, List.getElem?_take] at hu
      split at hu
      · rw [List.getElem?_drop] at hu
        have := (List.getElem?_eq_some_iff.1 hu).1
        simpa using this
      · cases hu
    have hru : r.getD (o + j) undef = u := by
      rw [← h, List.getElem?_take] at hu
      split at hu
      · rw [List.getElem?_drop] at hu
        have : r[o + j]? = some u := by simpa using hu
        rw [Array.getD_eq_getD_getElem?, this]; rfl
      · cases hu
    have h7 := g6 (o + j) hj
    rw [hru] at h7
    refine ⟨cs.getD (o + j) undef, ?_, h7⟩
    rw [add_eq]
    have hcs : o + j < cs.size := by omega
    unfold World.cell?
    dsimp only
    rw [g2]
    rw [Array.getD_eq_getD_getElem?, Array.getElem?_eq_getElem hcs]
    exact Array.getElem?_eq_getElem hcs
  | _ => exact g3.elim
theorem CR.flat {q : Nat → Option (Nat × Nat)} {u u' : Value} (h : CR q u u') (hg : ground 1 u = true) : u' = u := by
  rcases h with rfl | h
  · cases hg
  · exact VR.eq_of_ground 1 hg h
theorem row_flat {H : Tr AO} {v v' : Value} {m e n : Nat} {row : List Value} (h : rowAt H v m e n = row) (hne : row ≠ []) (hg : ∀ u ∈ row, ground 1 u = true) {q : Nat → Option (Nat × Nat)} {w : World} (hv : VR q v v') (hob : HoB H q w) :
    ∃ A c, v' = .slice (some A) m c ∧ Lies w w.heap.size (some A) row := by
  obtain ⟨A, c, h1, h2, h3⟩ := row_lies h hne hv hob
  refine ⟨A, c, h1, fun _ => ⟨A, rfl, h2, fun j u hu => ?_⟩⟩
  obtain ⟨u', h4, h5⟩ := h3 j u hu
  rw [h5.flat (hg u (List.mem_of_getElem? hu))] at h4
  exact h4
theorem ground_ints (l : List Int) : ∀ u ∈ ints l, ground 1 u = true := fun u hu => by unfold ints at hu; obtain ⟨k, _, rfl⟩ := List.mem_map.1 hu; rfl

theorem yard_of {y C : Array Value} {H : Tr AO} {n : Nat} {cl : List Int} (h : isYardC y.toList H n cl = true) (hn : cl.length = n) (hcl : cl ≠ []) {q : Nat → Option (Nat × Nat)} {w : World} (hv : AR q y C) (hob : HoB H q w) :
    YardAt w w.heap.size C { exY false with cl := cl } := by
  unfold isYardC at h
  cases h1 : isInts (takeQ y.toList 24) seas with
  | false => rw [h1] at h; cases h
  | true =>
  rw [h1] at h
  dsimp only at h
  split at h
  case h_2 => cases h
  rename_i c p m d hd
  cases h2 : isInts (rowAt H c n 3 n) cl with
  | false => rw [h2] at h; cases h
  | true =>
  rw [h2] at h
  dsimp only at h
  cases h3 : isInts (rowAt H p 2 87 6) [0, 2, 2, 0, 5, 9] with
  | false => rw [h3] at h; cases h
  | true =>
  rw [h3] at h
  dsimp only at h
  cases h4 : isAnn (rowAt H m 1 78 4) with
  | false => rw [h4] at h; cases h
  | true =>
  rw [h4] at h
  have h5 : d = .int .i64 1 := isInt_eq h
  have e1 := isInts_eq _ _ h1
  rw [takeQ_eq] at e1
  rw [dropQ_eq] at hd
  have e2 := isInts_eq _ _ h2
  have e3 := isInts_eq _ _ h3
  have e4 := isAnn_eq h4
  have hlen : y.size = 28 := by
    have k := congrArg List.length hd
    simp at k
    omega
  have at_ : ∀ k u, [c, p, m, d][k]? = some u → ∃ u', C[24 + k]? = some u' ∧ VR q u u' := fun k u hu => by
    rw [← hd, List.getElem?_drop] at hu
    exact hv.get (24 + k) u (by simpa using hu)
  obtain ⟨c', k1, r1⟩ := at_ 0 c rfl
  obtain ⟨p', k2, r2⟩ := at_ 1 p rfl
  obtain ⟨m', k3, r3⟩ := at_ 2 m rfl
  obtain ⟨d', k4, r4⟩ := at_ 3 d rfl
  refine ⟨by rw [← hv.1]; exact hlen, fun k hk => ?_, ?_, ?_, ?_, ?_⟩
  · have hs : (ints seas)[k]? = some (.int .i64 (seas.getD k 0)) := by
      unfold ints
      have : k < seas.length := hk
      rw [List.getElem?_map, List.getElem?_eq_getElem this, List.getD_eq_getElem?_getD, List.getElem?_eq_getElem this]; rfl
    rw [← e1, List.getElem?_take, if_pos hk] at hs
    obtain ⟨u', g1, g2⟩ := hv.get k _ (by simpa using hs)
    rw [VR.int_inv g2] at g1
    exact g1
  · obtain ⟨A, k, rfl, g⟩ := row_flat e2 (by intro e; unfold ints at e; exact hcl (List.map_eq_nil_iff.1 e)) (ground_ints _) r1 hob
    exact ⟨some A, k, by rw [← hn] at k1; exact k1, g⟩
  · obtain ⟨A, k, rfl, g⟩ := row_flat e3 (by intro e; cases e) (ground_ints _) r2 hob
    exact ⟨some A, k, k2, g⟩
  · obtain ⟨A, k, rfl, g⟩ := row_flat e4 (by intro e; cases e) (by decide) r3 hob
    exact ⟨some A, k, k3, g⟩
  · rw [h5] at r4
    rw [VR.int_inv r4] at k4
    exact k4

theorem yardNo_of {y C : Array Value} {H : Tr AO} {two : Bool} (h : yardNo y.toList H = some two) {q : Nat → Option (Nat × Nat)} {w : World} (hv : AR q y C) (hob : HoB H q w) : YardAt w w.heap.size C (exY two) := by
  unfold yardNo at h
  cases h1 : isYardC y.toList H 1 [3] with
  | true => rw [h1] at h; cases h; exact yard_of h1 rfl (by simp) hv hob
  | false =>
    rw [h1] at h
    dsimp only at h
    cases h2 : isYardC y.toList H 2 [2, 3] with
    | true => rw [h2] at h; cases h; exact yard_of h2 rfl (by simp) hv hob
    | false => rw [h2] at h; cases h

def exT (A : Addr) (c : Nat) : List Tk := [⟨400, 3, none, 0, [], none, 0, []⟩, ⟨400, 3, none, 0, [], none, 0, []⟩, ⟨400, 3, some A, c, [0, 1], none, 0, []⟩]
theorem tasks_of {v v' : Value} {H : Tr AO} (h : isTasks v H = true) {q : Nat → Option (Nat × Nat)} {w : World} (hv : VR q v v') (hob : HoB H q w) : ∃ A c a k, v' = .slice (some A) (exT a k).length c ∧ TasksAt w w.heap.size (some A) (exT a k) := by
  unfold isTasks at h
  split at h
  case h_2 => cases h
  rename_i w1 n1 a1 c1 w2 n2 a2 c2 w3 n3 a3 c3 hrow
  cases h1 : isInts [w1, n1, w2, n2, w3, n3] [400, 3, 400, 3, 400, 3] with
  | false => rw [h1] at h; cases h
  | true =>
  rw [h1] at h; dsimp only at h
  cases h2 : isNil c1 with
  | false => rw [h2] at h; cases h
  | true =>
  rw [h2] at h; dsimp only at h
  cases h3 : isNil c2 with
  | false => rw [h3] at h; cases h
  | true =>
  rw [h3] at h; dsimp only at h
  cases h4 : isNil c3 with
  | false => rw [h4] at h; cases h
  | true =>
  rw [h4] at h; dsimp only at h
  cases h5 : isNil a1 with
  | false => rw [h5] at h; cases h
  | true =>
  rw [h5] at h; dsimp only at h
  cases h6 : isNil a2 with
  | false => rw [h6] at h; cases h
  | true =>
  rw [h6] at h; dsimp only at h
  have e0 := isInts_eq _ _ h1
  have e1 := isNil_eq h2
  have e2 := isNil_eq h3
  have e3 := isNil_eq h4
  have e4 := isNil_eq h5
  have e5 := isNil_eq h6
  have e6 := isInts_eq _ _ h
  simp only [ints, List.map_cons, List.map_nil, List.cons.injEq, and_true] at e0
  obtain ⟨rfl, rfl, rfl, rfl, rfl, rfl⟩ := e0
  subst e1; subst e2; subst e3; subst e4; subst e5
  obtain ⟨A, c, rfl, hA, hc⟩ := row_lies hrow (by simp) hv hob
  obtain ⟨u, hu, hr⟩ := hc 10 a3 rfl
  have hr' : VR q a3 u := by
    rcases hr with rfl | hr
    · unfold rowAt at e6; cases e6
    · exact hr
  obtain ⟨a, k, rfl, g⟩ := row_flat e6 (by intro e; cases e) (ground_ints _) hr' hob
  refine ⟨A, c, a, k, rfl, fun _ => ⟨A, rfl, hA, fun j v hj => ?_⟩, ?_, ?_⟩
  · have key : ∀ x, (∀ y, CR q x y → y = v) → ([Value.int .i64 400, .int .i64 3, .slice none 0 0, .slice none 0 0, .int .i64 400, .int .i64 3, .slice none 0 0, .slice none 0 0, .int .i64 400, .int .i64 3, a3, .slice none 0 0][j]? = some x) → w.cell? (A.add j) = some v := fun x hx hj => by
      obtain ⟨y, g1, g2⟩ := hc j x hj
      rw [hx y g2] at g1; exact g1
    match j, hj with
    | 0, rfl => exact key _ (fun y h => h.flat rfl) rfl
    | 1, rfl => exact key _ (fun y h => h.flat rfl) rfl
    | 2, rfl => exact key _ (fun y h => h.flat rfl) rfl
    | 3, rfl => exact key _ (fun y h => h.flat rfl) rfl
    | 4, rfl => exact key _ (fun y h => h.flat rfl) rfl
    | 5, rfl => exact key _ (fun y h => h.flat rfl) rfl
    | 6, rfl => exact key _ (fun y h => h.flat rfl) rfl
    | 7, rfl => exact key _ (fun y h => h.flat rfl) rfl
    | 8, rfl => exact key _ (fun y h => h.flat rfl) rfl
    | 9, rfl => exact key _ (fun y h => h.flat rfl) rfl
    | 10, rfl => exact hu
    | 11, rfl => exact key _ (fun y h => h.flat rfl) rfl
    | j + 12, h => cases h
  · intro t ht
    simp only [exT, List.mem_cons, List.not_mem_nil, or_false] at ht
    rcases ht with rfl | rfl | rfl
    · exact fun h => absurd rfl h
    · exact fun h => absurd rfl h
    · exact g
  · intro t ht
    simp only [exT, List.mem_cons, List.not_mem_nil, or_false] at ht
    rcases ht with rfl | rfl | rfl <;> exact fun h => absurd rfl h
end Go.Proofs.Ytjgnikmnadmheaa

namespace Go.Proofs.Ytjgnikmnadmheaa
open Go.RowKit

theorem exY_small (two : Bool) : Small (exY two) := by
  cases two <;> exact ⟨by decide, by decide, by decide, by decide⟩
theorem exY_chk (two : Bool) : chkY (exY two) = 0 := by
  cases two <;> decide +kernel
theorem exY_ok (two : Bool) : okY (exY two) = true := by unfold okY; rw [exY_chk]; rfl
theorem exT_tame (A : Addr) (c : Nat) : tame (exT A c) := by
  refine ⟨by show 3 ≤ 1000; omega, fun t ht => ?_⟩
  simp only [exT, List.mem_cons, List.not_mem_nil, or_false] at ht
  rcases ht with rfl | rfl | rfl
  · exact ⟨by simp, by simp, by simp⟩
  · exact ⟨by simp, by simp, by simp⟩
  · exact ⟨by simp, by simp, by simp⟩
theorem exT_chk (A : Addr) (c : Nat) : chkL (exT A c) = 0 := by
  show chkL [⟨400, 3, none, 0, [], none, 0, []⟩, ⟨400, 3, none, 0, [], none, 0, []⟩, ⟨400, 3, some A, c, [0, 1], none, 0, []⟩] = 0
  rfl
theorem exT_at (A : Addr) (c : Nat) (i : Nat) (h : i < (exT A c).length) : ((exT A c)[i]).work = 400 ∧ ((exT A c)[i]).need = 3 := by
  match i, h with
  | 0, _ => exact ⟨rfl, rfl⟩
  | 1, _ => exact ⟨rfl, rfl⟩
  | 2, _ => exact ⟨rfl, rfl⟩
theorem min_ex (two : Bool) (i : Nat) (h : i < 12) : decide ((400 : Int) ≤ min ((exY two).se (2 * i)) ((exY two).se (2 * i + 1))) = Nat.beq i 0 := by
  match i, h with
  | 0, _ => cases two <;> decide
  | 1, _ => cases two <;> decide
  | 2, _ => cases two <;> decide
  | 3, _ => cases two <;> decide
  | 4, _ => cases two <;> decide
  | 5, _ => cases two <;> decide
  | 6, _ => cases two <;> decide
  | 7, _ => cases two <;> decide
  | 8, _ => cases two <;> decide
  | 9, _ => cases two <;> decide
  | 10, _ => cases two <;> decide
  | 11, _ => cases two <;> decide
theorem sk_ex (two : Bool) (d : Int) : decide (0 < (skL (exY two).ma d 3).length) = (decide (0 ≤ d) && decide (d < 100)) := by
  have e : (exY two).ma = [⟨annB, 0, 100, 4⟩] := rfl
  rw [e]
  unfold skL skK
  rw [List.length_map]
  have e2 : List.range [(⟨annB, 0, 100, 4⟩ : Mas)].length = [0] := rfl
  rw [e2]
  have e3 : skAt [(⟨annB, 0, 100, 4⟩ : Mas)] d 3 0 = (decide (0 ≤ d) && decide (d < 100)) := by
    show skB ⟨annB, 0, 100, 4⟩ d 3 = _
    unfold skB; simp
  cases h : (decide (0 ≤ d) && decide (d < 100)) with
  | true => rw [h] at e3; rw [List.filter_cons, if_pos e3]; rfl
  | false => rw [h] at e3; rw [List.filter_cons, if_neg (by rw [e3]; simp)]; rfl
theorem bat_ex (two : Bool) (d : Int) : batOf (exY two).pi d = (if 2 ≤ d then 2 else 0) + (if 5 ≤ d then 9 else 0) := by
  have e : (exY two).pi = [⟨0, 2, 2⟩, ⟨0, 5, 9⟩] := rfl
  rw [e]
  unfold batOf batAt agedB
  simp
theorem nble (a b : Nat) : Nat.ble a b = decide (a ≤ b) := by rw [Bool.eq_iff_iff, Nat.ble_eq]; simp
theorem nbeq (a b : Nat) : Nat.beq a b = decide (a = b) := by rw [Bool.eq_iff_iff, Nat.beq_eq]; simp
theorem nblt (a b : Nat) : Nat.blt a b = decide (a < b) := by unfold Nat.blt; rw [nble]; rfl
theorem open_ex (two : Bool) (m : Nat) : openB (exY two) m = (Nat.ble m 100000 && (!(Nat.beq m 3) && !(two && Nat.beq m 2))) := by
  unfold openB inB
  rw [nble, nbeq, nbeq, Bool.eq_iff_iff]
  cases two
  · have e : (exY false).cl = [3] := rfl
    rw [e]; simp; omega
  · have e : (exY true).cl = [2, 3] := rfl
    rw [e]; simp; omega
theorem suitC2_eq (two : Bool) (t : Tk) (i : Nat) (d : Int) (hw : t.work = 400) (hn : t.need = 3) : suitB (exY two) t i d = suitC2 two i d := by
  unfold suitB
  rw [hw, hn]
  cases d with
  | negSucc m =>
    have : openB (exY two) (Int.negSucc m) = false := by unfold openB inB; simp
    rw [this]; rfl
  | ofNat m =>
    show _ = suitN two i m
    rw [show Int.ofNat m = (m : Int) from rfl]
    unfold suitN
    rw [sk_ex, bat_ex]
    have hs : seaI (m : Int) = m % 360 / 30 := by unfold seaI; omega
    have h4 := min_ex two (seaI (m : Int)) (seaI_lt _)
    have hc : decide ((i : Int) + 1 ≤ (if (2 : Int) ≤ m then 2 else 0) + (if (5 : Int) ≤ m then 9 else 0)) = Nat.ble (i + 1) (cond (Nat.ble 2 m) 2 0 + cond (Nat.ble 5 m) 9 0) := by
      rw [nble, nble, nble, Bool.eq_iff_iff]
      by_cases h2 : 2 ≤ m <;> by_cases h5 : 5 ≤ m <;> simp [h2, h5] <;> omega
    have hd : (decide ((0 : Int) ≤ m) && decide ((m : Int) < 100)) = Nat.blt m 100 := by
      rw [nblt, Bool.eq_iff_iff]; simp; omega
    rw [hc, hd]
    unfold minOf
    cases ho : openB (exY two) (m : Int) with
    | false =>
      rw [open_ex] at ho
      rw [← Bool.and_assoc (!(Nat.beq m 3)), ← Bool.and_assoc (Nat.ble m 100000), ho]; rfl
    | true =>
      rw [open_ex] at ho
      rw [← Bool.and_assoc (!(Nat.beq m 3)), ← Bool.and_assoc (Nat.ble m 100000), ho]
      rw [if_pos rfl, h4, hs]
end Go.Proofs.Ytjgnikmnadmheaa

namespace Go.Proofs.Ytjgnikmnadmheaa
open Go.RowKit

set_option maxRecDepth 100000 in
theorem E2_tv : TvOk Try.prog (tree (mkTv Try.prog) 157 .e).get := tvOk_of Try.prog 157
theorem body16 : ∃ fn c, Try.prog.funcs[16]? = some fn ∧ fn.body = some c ∧ (fn.name == "runtime.NumGoroutine") = false := ⟨_, _, Try.func16, rfl, by kernel_rfl⟩
theorem body18 : ∃ fn c, Try.prog.funcs[18]? = some fn ∧ fn.body = some c ∧ (fn.name == "runtime.NumGoroutine") = false := ⟨_, _, Try.func18, rfl, by kernel_rfl⟩
theorem body97 : ∃ fn c, Try.prog.funcs[97]? = some fn ∧ fn.body = some c ∧ (fn.name == "runtime.NumGoroutine") = false := ⟨_, _, Try.func97, rfl, by kernel_rfl⟩
theorem body20 : ∃ fn c, Try.prog.funcs[20]? = some fn ∧ fn.body = some c ∧ (fn.name == "runtime.NumGoroutine") = false := ⟨_, _, Try.func20, rfl, by kernel_rfl⟩

/-- what extF knows -/
inductive ExtF (g : Nat) (args : Array Value) (H : Tr AO) (v : Value) : Prop
  | yard (y : Array Value) (two : Bool) (hg : g = 16) (ha : args.toList = [.agg y]) (hy : yardNo y.toList H = some two) (hv : v = int1 0)
  | tasks (l : Value) (hg : g = 18) (ha : args.toList = [l]) (hl : isTasks l H = true) (hv : v = int1 0)
  | suits (y : Array Value) (l : Value) (two : Bool) (i : Nat) (d : Int) (hg : g = 97) (ha : args.toList = [.agg y, l, .int .i64 i, .int .i64 d]) (hi : i < 3) (hy : yardNo y.toList H = some two) (hl : isTasks l H = true) (hv : v = .bool (suitC2 two i d))
theorem task3_eq {v : Value} {i : Nat} (h : task3 v = some i) : v = .int .i64 i ∧ i < 3 := by
  unfold task3 at h
  split at h
  · rename_i k
    cases h1 : Nat.blt k 3 with
    | false => rw [h1] at h; cases h
    | true => rw [h1] at h; cases h; exact ⟨rfl, by rw [nblt] at h1; exact of_decide_eq_true h1⟩
  · cases h
theorem intOf_eq {v : Value} {i : Int} (h : kIntOf v = some i) : v = .int .i64 i := by
  unfold kIntOf at h
  split at h
  · cases h; rfl
  · cases h
theorem extF_inv {g : Nat} {args : Array Value} {H : Tr AO} {v : Value} (h : extF g args H = some v) : ExtF g args H v := by
  unfold extF at h
  split at h
  · rename_i y ha
    split at h
    · rename_i y
      cases h1 : Nat.beq g 16 with
      | false => rw [h1] at h; cases h
      | true =>
        rw [h1] at h; dsimp only at h
        split at h
        · rename_i two hy
          cases h
          exact .yard y two (Nat.eq_of_beq_eq_true h1) ha hy rfl
        · cases h
    · cases h1 : Nat.beq g 18 with
      | false => rw [h1] at h; cases h
      | true =>
        rw [h1] at h; dsimp only at h
        cases h2 : isTasks y H with
        | false => rw [h2] at h; cases h
        | true => rw [h2] at h; cases h; exact .tasks y (Nat.eq_of_beq_eq_true h1) ha h2 rfl
  · rename_i y l i d ha
    split at h
    · rename_i y
      cases h1 : Nat.beq g 97 with
      | false => rw [h1] at h; cases h
      | true =>
        rw [h1] at h; dsimp only at h
        cases h2 : isTasks l H with
        | false => rw [h2] at h; cases h
        | true =>
          rw [h2] at h; dsimp only at h
          split at h
          · rename_i two hy
            split at h
            · rename_i k hk
              split at h
              · rename_i d hd
                cases h
                obtain ⟨rfl, h3⟩ := task3_eq hk
                rw [intOf_eq hd] at ha
                exact .suits y l two k d (Nat.eq_of_beq_eq_true h1) ha h3 hy h2 rfl
              · cases h
            · cases h
          · cases h
    · cases h
  · cases h
structure ExtC (g : Nat) (args : Array Value) (H : Tr AO) (n : Nat) (r : Value × List AO) : Prop where
  ex : ∃ y, g = 20 ∧ args.toList = [.agg y, .int .i64 2] ∧ isYardC y.toList H 1 [3] = true ∧ r = (closedYard n, closedRows)
theorem extC_inv {g : Nat} {args : Array Value} {H : Tr AO} {n : Nat} {r : Value × List AO} (h : extC g args H n = some r) : ExtC g args H n r := by
  unfold extC at h
  split at h
  · rename_i y d ha
    cases h1 : Nat.beq g 20 with
    | false => rw [h1] at h; cases h
    | true =>
      rw [h1] at h; dsimp only at h
      cases h2 : isInt d 2 with
      | false => rw [h2] at h; cases h
      | true =>
        rw [h2] at h; dsimp only at h
        cases h3 : isYard y.toList H with
        | false => rw [h3] at h; cases h
        | true =>
          rw [h3] at h; cases h
          rw [isInt_eq h2] at ha
          exact ⟨y, Nat.eq_of_beq_eq_true h1, ha, h3, rfl⟩
  · cases h

set_option maxRecDepth 100000 in
theorem E2_ok : EnvOk E2 where
  tv := E2_tv
  mixed := show Try.prog.follows .mixedOrders = true by kernel_rfl
  fns := fun f fi h => fnsOk_of Try.prog [87, 104, 122] 133 fns_ok f fi h
  ext := fun f args H v h => by
    cases extF_inv (show extF f args H = some v from h) with
    | yard _ _ hg => subst hg; exact body16
    | tasks _ hg => subst hg; exact body18
    | suits _ _ _ _ _ hg => subst hg; exact body97
  extn := fun f args H n r h => by
    obtain ⟨_, hg, _⟩ := (extC_inv (show extC f args H n = some r from h)).ex
    subst hg; exact body20

theorem one_arg {p : Nat → Option (Nat × Nat)} {args args' : Array Value} (h : AR p args args') {t : Value} (he : args.toList = [t]) : ∃ t', args' = #[t'] ∧ VR p t t' := by
  obtain ⟨al⟩ := args
  dsimp only at he
  subst he
  obtain ⟨u0, e0, g0⟩ := h.get 0 _ rfl
  have hs : args'.size = 1 := h.1.symm
  refine ⟨u0, ?_, g0⟩
  apply Array.ext_getElem?
  intro i
  match i with
  | 0 => exact e0
  | i + 1 => rw [Array.getElem?_eq_none (by omega), Array.getElem?_eq_none (by simp)]
theorem two_args {p : Nat → Option (Nat × Nat)} {args args' : Array Value} (h : AR p args args') {t w : Value} (he : args.toList = [t, w]) : ∃ t' w', args' = #[t', w'] ∧ VR p t t' ∧ VR p w w' := by
  obtain ⟨al⟩ := args
  dsimp only at he
  subst he
  obtain ⟨u0, e0, g0⟩ := h.get 0 _ rfl
  obtain ⟨u1, e1, g1⟩ := h.get 1 _ rfl
  have hs : args'.size = 2 := h.1.symm
  refine ⟨u0, u1, ?_, g0, g1⟩
  apply Array.ext_getElem?
  intro i
  match i with
  | 0 => exact e0
  | 1 => exact e1
  | i + 2 => rw [Array.getElem?_eq_none (by omega), Array.getElem?_eq_none (by simp)]
theorem four_args {p : Nat → Option (Nat × Nat)} {args args' : Array Value} (h : AR p args args') {t l w z : Value} (he : args.toList = [t, l, w, z]) : ∃ t' l' w' z', args' = #[t', l', w', z'] ∧ VR p t t' ∧ VR p l l' ∧ VR p w w' ∧ VR p z z' := by
  obtain ⟨al⟩ := args
  dsimp only at he
  subst he
  obtain ⟨u0, e0, g0⟩ := h.get 0 _ rfl
  obtain ⟨u1, e1, g1⟩ := h.get 1 _ rfl
  obtain ⟨u2, e2, g2⟩ := h.get 2 _ rfl
  obtain ⟨u3, e3, g3⟩ := h.get 3 _ rfl
  have hs : args'.size = 4 := h.1.symm
  refine ⟨u0, u1, u2, u3, ?_, g0, g1, g2, g3⟩
  apply Array.ext_getElem?
  intro i
  match i with
  | 0 => exact e0
  | 1 => exact e1
  | 2 => exact e2
  | 3 => exact e3
  | i + 4 => rw [Array.getElem?_eq_none (by omega), Array.getElem?_eq_none (by simp)]

theorem fitsF {g : Nat} {args args' : Array Value} {H : Tr AO} {v : Value} (h : extF g args H = some v) {q : Nat → Option (Nat × Nat)} {w : World} (hob : HoB H q w) (har : AR q args args') :
    Calls Try.prog g args' w fun e w' => ∃ v', e = .returned v' ∧ VR q v v' ∧ Below w.heap.size w w' := by
  cases extF_inv h with
  | yard y two hg ha hy hv =>
    subst hg; subst hv
    obtain ⟨t, rfl, g1⟩ := one_arg har ha
    obtain ⟨C, rfl, g2⟩ := VR.agg_inv g1
    have hs := exY_small two
    refine (checkYard_any C (exY two) w (yardNo_of hy g2 hob) hs.cl hs.pi hs.ma hs.nm).mono fun e w' ⟨h1, h2⟩ => ⟨_, h1, ?_, h2⟩
    rw [exY_chk]; exact .int _ _
  | tasks l hg ha hl hv =>
    subst hg; subst hv
    obtain ⟨t, rfl, g1⟩ := one_arg har ha
    obtain ⟨A, c, a, k, rfl, hT⟩ := tasks_of hl g1 hob
    refine (checkTasks_any (exT a k) (some A) c w hT (exT_tame a k)).mono fun e w' ⟨h1, h2⟩ => ⟨_, h1, ?_, h2⟩
    rw [exT_chk]; exact .int _ _
  | suits y l two i d hg ha hi hy hl hv =>
    subst hg; subst hv
    obtain ⟨t, l', i', d', rfl, g1, g2, g3, g4⟩ := four_args har ha
    obtain ⟨C, rfl, g5⟩ := VR.agg_inv g1
    obtain ⟨A, c, a, k, rfl, hT⟩ := tasks_of hl g2 hob
    rw [VR.int_inv g3, VR.int_inv g4]
    have hi' : i < (exT a k).length := hi
    refine (suits_any C (exY two) (exT a k) (some A) c i d w (yardNo_of hy g5 hob) (okY_valid (exY_ok two)) hT (by show 3 ≤ 1000; omega) hi').mono fun e w' ⟨h1, h2⟩ => ⟨_, h1, ?_, h2⟩
    rw [suitC2_eq two _ i d (exT_at a k i hi').1 (exT_at a k i hi').2]; exact .bool _
end Go.Proofs.Ytjgnikmnadmheaa

namespace Go.Proofs.Ytjgnikmnadmheaa
open Go.RowKit

theorem closedY : ({ exY false with cl := insL (exY false).cl (cntLt (exY false).cl 2) 2 } : Yd) = exY true := by
  have : insL [3] (cntLt [3] 2) 2 = [2, 3] := by decide
  show ({ exY false with cl := insL [3] (cntLt [3] 2) 2 } : Yd) = exY true
  rw [this]; rfl
/-- cells known of a block as an object of the closed run -/
theorem or_cells {g : Nat → Option (Nat × Nat)} {c b : Nat} {t : TypeId} {R : Array Value} {w : World} (hb : Bk w b t R) {l : List Value} (hl : ∀ j u, l[j]? = some u → w.cell? ⟨b, j, none⟩ = some u) (hg : ∀ u ∈ l, ground 2 u = true) :
    OR g c (.cells l.toArray t none) (.cells R t (0, 0)) := by
  have at_ : ∀ j u, l[j]? = some u → R[j]? = some u := fun j u hu => by
    have := hl j u hu
    unfold World.cell? at this
    unfold Bk at hb
    dsimp only at this
    rw [hb] at this
    exact this
  refine ⟨rfl, rfl, ?_, fun s hs => (by cases hs), fun i hi => .inr ?_⟩
  · by_cases h0 : l = []
    · subst h0; simp
    · have h1 : l.length - 1 < l.length := by have := List.length_pos_iff.2 h0; omega
      have h2 := at_ _ _ (List.getElem?_eq_getElem h1)
      have := (Array.getElem?_eq_some_iff.1 h2).1
      simp; omega
  · have hi' : i < l.length := by simpa using hi
    have h2 := at_ _ _ (List.getElem?_eq_getElem hi')
    have e1 : l.toArray.getD i undef = l[i] := by simp [Array.getD_eq_getD_getElem?, hi']
    have e2 : R.getD i undef = l[i] := by rw [Array.getD_eq_getD_getElem?, h2]; rfl
    rw [e1, e2]
    exact VR.of_ground g 2 _ (hg _ (List.getElem_mem hi'))
theorem lies_block {w : World} {B b : Nat} {l : List Value} (h : Lies w B (some ⟨b, 0, none⟩) l) : ∀ j u, l[j]? = some u → w.cell? ⟨b, j, none⟩ = some u := fun j u hu => by
  obtain ⟨ad, e, _, h3⟩ := h (by intro e; rw [e] at hu; cases hu)
  cases e
  have := h3 j u hu
  have e : (⟨b, 0, none⟩ : Addr).add j = ⟨b, j, none⟩ := by unfold Addr.add; split <;> simp_all
  rw [e] at this; exact this

theorem fitsC {f : Nat} {args args' : Array Value} {H : Tr AO} {m : Nat} {v : Value} {l : List AO} (h : extC f args H m = some (v, l)) {q : Nat → Option (Nat × Nat)} {w : World} (hn : ∀ i, m ≤ i → i < m + l.length → q i = none) (hob : HoB H q w) (har : AR q args args') :
    Calls Try.prog f args' w fun e w' => ∃ v' g, e = .returned v' ∧ VR g v v' ∧ MadeL q g m l w w' := by
  obtain ⟨y, hg, ha, hy, hv⟩ := (extC_inv h).ex
  cases hv
  subst hg
  obtain ⟨t, d, rfl, g1, g2⟩ := two_args har ha
  obtain ⟨C, rfl, g3⟩ := VR.agg_inv g1
  rw [VR.int_inv g2]
  have hY : YardAt w w.heap.size C (exY false) := yard_of hy rfl (by simp) g3 hob
  have hO := exY_ok false
  refine (close_ok C (exY false) 2 w hY (exY_small false) hO (by decide) (by decide) (by decide)).mono fun e w' ⟨C', h1, h2, h3, h4⟩ => ?_
  rw [closedY] at h2 h4
  obtain ⟨a, b, c, ca, cb, cc, R4, R6, R7, k1, k2, k3, e4, e6, e7, b4, b6, b7, l4, l6, l7⟩ := (h4 (by intro e; cases e) (by intro e; cases e)).out
  obtain ⟨A1, c1, x1, L1⟩ := h2.cl
  obtain ⟨A2, c2, x2, L2⟩ := h2.pi
  obtain ⟨A3, c3, x3, L3⟩ := h2.ma
  rw [e4] at x1; cases x1
  rw [e6] at x2; cases x2
  rw [e7] at x3; cases x3
  have hq0 := hn m (Nat.le_refl _) (by show m < m + 3; omega)
  have hq1 := hn (m + 1) (by omega) (by show m + 1 < m + 3; omega)
  have hq2 := hn (m + 2) (by omega) (by show m + 2 < m + 3; omega)
  obtain ⟨g, hgd⟩ : ∃ g : Nat → Option (Nat × Nat), g = fun i => if i = m then some (a, ca) else if i = m + 1 then some (b, cb) else if i = m + 2 then some (c, cc) else q i := ⟨_, rfl⟩
  have gm : g m = some (a, ca) := by rw [hgd]; simp
  have gm1 : g (m + 1) = some (b, cb) := by rw [hgd]; simp
  have gm2 : g (m + 2) = some (c, cc) := by rw [hgd]; simp
  refine ⟨_, g, h1, ?_, ?_⟩
  · refine .tuple rfl fun i hi => ?_
    match i, hi with
    | 0, _ =>
      refine .agg ?_ fun i => ?_
      · rw [h2.size]; rfl
      · by_cases h24 : i < 24
        · have k1 := h2.se i h24
          have k2 : (((seas.map int1 ++ [.slice (some ⟨m, 0, none⟩) 2 unk, .slice (some ⟨m + 1, 0, none⟩) 2 unk, .slice (some ⟨m + 2, 0, none⟩) 1 unk, int1 1]).toArray)).getD i undef = int1 (seas.getD i 0) := by
            have hs : i < seas.length := h24
            rw [Array.getD_eq_getD_getElem?, List.getElem?_toArray, List.getElem?_append_left (by simpa using hs), List.getElem?_map, List.getElem?_eq_getElem hs, List.getD_eq_getElem?_getD, List.getElem?_eq_getElem hs]; rfl
          rw [k2, Array.getD_eq_getD_getElem?, k1]
          exact .int _ _
        · by_cases e0 : i = 24
          · subst e0
            rw [Array.getD_eq_getD_getElem? (xs := C'), e4]
            exact .slice gm (.inr ⟨rfl, l4, fun _ => rfl⟩)
          by_cases e1 : i = 25
          · subst e1
            rw [Array.getD_eq_getD_getElem? (xs := C'), e6]
            exact .slice gm1 (.inr ⟨rfl, l6, fun _ => rfl⟩)
          by_cases e2 : i = 26
          · subst e2
            rw [Array.getD_eq_getD_getElem? (xs := C'), e7]
            exact .slice gm2 (.inr ⟨rfl, l7, fun _ => rfl⟩)
          by_cases e3 : i = 27
          · subst e3
            rw [Array.getD_eq_getD_getElem? (xs := C'), h2.dry]
            exact .int _ _
          · have n1 : C'.getD i undef = undef := by
              rw [Array.getD_eq_getD_getElem?, Array.getElem?_eq_none (by rw [h2.size]; omega)]; rfl
            rw [n1, Array.getD_eq_getD_getElem?, Array.getElem?_eq_none (by simp [seas]; omega)]
            exact VR.und _
    | 1, _ => exact .int _ _
    | i + 2, h => exact absurd h (by show ¬ i + 2 < 2; omega)
  · refine ⟨fun i b hb => ?_, fun i hi => ?_, fun k o ho => ?_, fun i j b' c' d' hi1 hi2 hj1 hj2 hgi hgj => ?_, h3⟩
    · have n0 : i ≠ m := fun e => by subst e; rw [hq0] at hb; cases hb
      have n1 : i ≠ m + 1 := fun e => by subst e; rw [hq1] at hb; cases hb
      have n2 : i ≠ m + 2 := fun e => by subst e; rw [hq2] at hb; cases hb
      rw [hgd]; simp only [n0, n1, n2, if_false]; exact hb
    · have hl : closedRows.length = 3 := rfl
      rw [hl] at hi
      have n0 : i ≠ m := by omega
      have n1 : i ≠ m + 1 := by omega
      have n2 : i ≠ m + 2 := by omega
      rw [hgd]; simp only [n0, n1, n2, if_false]
    · match k, ho with
      | 0, rfl => exact ⟨a, ca, _, gm, k1, b4, or_cells b4 (l := [int1 2, int1 3]) (lies_block L1) (by decide)⟩
      | 1, rfl => exact ⟨b, cb, _, gm1, by omega, b6, or_cells b6 (l := [int1 0, int1 2, int1 2, int1 0, int1 5, int1 9]) (lies_block L2) (by decide)⟩
      | 2, rfl => exact ⟨c, cc, _, gm2, by omega, b7, or_cells b7 (l := [.string ⟨#[97, 110, 110]⟩, int1 0, int1 100, int1 4]) (lies_block L3) (by intro u hu; simp only [List.mem_cons, List.not_mem_nil, or_false] at hu; rcases hu with rfl | rfl | rfl | rfl <;> rfl)⟩
      | k + 3, h => cases h
    · have hl : closedRows.length = 3 := rfl
      rw [hl] at hi2 hj2
      have ci : i = m ∨ i = m + 1 ∨ i = m + 2 := by omega
      have cj : j = m ∨ j = m + 1 ∨ j = m + 2 := by omega
      rcases ci with rfl | rfl | rfl <;> rcases cj with rfl | rfl | rfl <;> first | rfl | (exfalso; simp only [gm, gm1, gm2, Option.some.injEq, Prod.mk.injEq] at hgi hgj; omega)

theorem E2_fits (w : World) : Fits E2 w.heap.size w fun _ => none := fun q _ j args args' H v w' _ hob har =>
  ⟨fun he => (by cases he), fun he => callsIn_wide.2 (fitsF he hob har), fun m l hn he => callsIn_wide.2 (fitsC he hn hob har)⟩

/-- a call without arguments, reckoned out -/
theorem closed_call {E : Env} (hE : EnvOk E) {k g : Nat} {v : Value} {H : Tr AO} {n : Nat} (h : callF E (exec E k) 0 g #[] .e 0 = some (v, H, n)) (hg : ground 2 v = true) (w : World) (hF : Fits E w.heap.size w fun _ => none) :
    Calls E.P g #[] w fun e w' => e = .returned v ∧ Below w.heap.size w w' := by
  obtain ⟨_, hc⟩ := callF_ok hE (exec_sound hE k) h (Nat.le_refl _) (fun i _ => Tr.get_e i)
  have := hc (B := ⟨w.heap.size, 0, Nat.le_refl _⟩) (w0 := w) (p := fun _ => none) (h := fun _ => none) (w := w) (args' := #[]) (R := fun e w' => e = .returned v ∧ Below w.heap.size w w') (ro := none)
    (fun i o hi => by rw [Tr.get_e] at hi; cases hi) (fun i _ _ => rfl) ⟨Nat.le_refl _, Below.refl _ _, hF, fun i o hi => (by cases hi), fun i j b k k' hi => (by cases hi)⟩ (AR.empty _)
    (fun v' w' q hv _ hr => ⟨by rw [VR.eq_of_ground 2 hg hv], hr.low⟩)
  exact callsIn_wide.1 this

set_option maxRecDepth 100000 in
theorem works_run : isTrueR (callF E2 (exec E2 100000) 0 15 #[] .e 0) = true := by decide +kernel
theorem works_any (w : World) : Calls Try.prog 15 #[] w fun e w' => e = .returned (.bool true) ∧ Below w.heap.size w w' := by
  have h := works_run
  unfold isTrueR at h
  split at h
  · rename_i b H n hc
    subst h
    exact closed_call E2_ok hc rfl w (E2_fits w)
  · cases h
end Go.Proofs.Ytjgnikmnadmheaa

namespace Go.Proofs.Ytjgnikmnadmheaa
open Go.RowKit

def longName (m : Mas) : Bool := decide ((100 : Int) < m.name.size)
def longStr (s : ByteArray) : Bool := decide ((100 : Int) < s.size)
def bigTask (t : Tk) : Bool := decide ((30 : Int) < t.af.length) || decide ((50 : Int) < t.co.length) || t.co.any longStr
def vastB (Y : Yd) (l : List Tk) : Bool := decide (300 < Y.cl.length ∨ 20 < Y.pi.length ∨ 20 < Y.ma.length ∨ 20 < l.length) || (Y.ma.any longName || l.any bigTask)

set_option maxRecDepth 100000 in
set_option maxHeartbeats 1000000 in
theorem vast_any (C : Array Value) (Y : Yd) (l : List Tk) (A : Option Addr) (c : Nat) (w : World) (hY : YardAt w w.heap.size C Y) (hT : TasksAt w w.heap.size A l) :
    Calls Try.prog 14 #[.agg C, .slice A l.length c] w (ShEnd (vastB Y l) w) := by
  obtain ⟨A1, k1, e1, L1⟩ := hY.cl
  obtain ⟨A2, k2, e2, L2⟩ := hY.pi
  obtain ⟨A3, k3, e3, L3⟩ := hY.ma
  have HC : Hid (vastB Y l = (decide (300 < Y.cl.length ∨ 20 < Y.pi.length ∨ 20 < Y.ma.length ∨ 20 < l.length) || (Y.ma.any longName || l.any bigTask))) := rfl
  have HTA := Lib.hid (fun W (hb : Below w.heap.size w W) => (hT.below hb (Nat.le_refl _)).more hb.size)
  clear hY hT L1 L2
  by_cases h1 : 300 < Y.cl.length
  · have H : Hid (vastB Y l = true) := by show _ = _; rw [HC.out, decide_eq_true (.inl h1)]; rfl
    clear HC
    go_enter Try.func14, Try.ntmps14
    go_wp2
    go_ret
    exact sh_ret H.out.symm (by repeat (first | with_reducible exact Below.refl _ _ | with_reducible assumption | with_reducible refine Below.drew ?_ | with_reducible refine below_drewN ?_ _ | (with_reducible refine Below.alloc ?_ ?_ _; rotate_left; (try simp) <;> omega) | (with_reducible refine Below.setCell ?_ ?_ _; rotate_left; (try simp) <;> omega)))
  by_cases h2 : 20 < Y.pi.length
  · have H : Hid (vastB Y l = true) := by show _ = _; rw [HC.out, decide_eq_true (.inr (.inl h2))]; rfl
    clear HC
    go_enter Try.func14, Try.ntmps14
    go_wp2
    go_ret
    exact sh_ret H.out.symm (by repeat (first | with_reducible exact Below.refl _ _ | with_reducible assumption | with_reducible refine Below.drew ?_ | with_reducible refine below_drewN ?_ _ | (with_reducible refine Below.alloc ?_ ?_ _; rotate_left; (try simp) <;> omega) | (with_reducible refine Below.setCell ?_ ?_ _; rotate_left; (try simp) <;> omega)))
  by_cases h3 : 20 < Y.ma.length
  · have H : Hid (vastB Y l = true) := by show _ = _; rw [HC.out, decide_eq_true (.inr (.inr (.inl h3)))]; rfl
    clear HC
    go_enter Try.func14, Try.ntmps14
    go_wp2
    go_ret
    exact sh_ret H.out.symm (by repeat (first | with_reducible exact Below.refl _ _ | with_reducible assumption | with_reducible refine Below.drew ?_ | with_reducible refine below_drewN ?_ _ | (with_reducible refine Below.alloc ?_ ?_ _; rotate_left; (try simp) <;> omega) | (with_reducible refine Below.setCell ?_ ?_ _; rotate_left; (try simp) <;> omega)))
  by_cases h4 : 20 < l.length
  · have H : Hid (vastB Y l = true) := by show _ = _; rw [HC.out, decide_eq_true (.inr (.inr (.inr h4)))]; rfl
    clear HC
    go_enter Try.func14, Try.ntmps14
    go_wp2
    go_ret
    exact sh_ret H.out.symm (by repeat (first | with_reducible exact Below.refl _ _ | with_reducible assumption | with_reducible refine Below.drew ?_ | with_reducible refine below_drewN ?_ _ | (with_reducible refine Below.alloc ?_ ?_ _; rotate_left; (try simp) <;> omega) | (with_reducible refine Below.setCell ?_ ?_ _; rotate_left; (try simp) <;> omega)))
  have HV : Hid (vastB Y l = (Y.ma.any longName || l.any bigTask)) := by show _ = _; rw [HC.out, decide_eq_false (by omega)]; rfl
  have HY1 := Lib.hid (fun i (hi : i < Y.ma.length) (h : longName Y.ma[i] = true) => show Hid (vastB Y l = true) from HV.out.trans (by rw [anyl_yes hi h]; rfl))
  have HN1 := Lib.hid (fun (h : ∀ i (hi : i < Y.ma.length), longName Y.ma[i] = false) => show Hid (vastB Y l = l.any bigTask) from HV.out.trans (by rw [anyl_no h]; rfl))
  clear HC HV
  go_enter Try.func14, Try.ntmps14
  go_wp2
  go_loopw [5] (fun y wr => ∃ k : Nat, k ≤ Y.ma.length ∧ y = .int .i64 k ∧ Hid (∀ j (hj : j < k) (h' : j < Y.ma.length), longName Y.ma[j] = false) ∧ Below w.heap.size w wr ∧ Bk wr w.heap.size 29 C) (fun y _ => Y.ma.length - (intOf y).toNat)
  case atStart => exact ⟨0, by omega, rfl, fun j hj => absurd hj (by omega), by exact (by repeat (first | with_reducible exact Below.refl _ _ | with_reducible assumption | with_reducible refine Below.drew ?_ | with_reducible refine below_drewN ?_ _ | (with_reducible refine Below.alloc ?_ ?_ _; rotate_left; (try simp) <;> omega) | (with_reducible refine Below.setCell ?_ ?_ _; rotate_left; (try simp) <;> omega))), Bk.new _ _ _⟩
  case round =>
  obtain ⟨k, hk, rfl, hg, hbw, hbk⟩ := hrel
  have hbs := hbw.size
  have hlk := hbk.lt
  have x3 := hbk.cell 26 e3
  by_cases hlt : k < Y.ma.length
  · obtain ⟨ad, hA, hadb, c0, c1, c2, c3⟩ := mas_at (L3.below hbw (Nat.le_refl _)) hlt
    subst hA
    have HYk := Lib.hid (HY1.out k hlt)
    have HG := Lib.hid (fun (h : longName Y.ma[k] = false) => show Hid (∀ j (hj : j < k + 1) (h' : j < Y.ma.length), longName Y.ma[j] = false) from fun j hj h' => by
      by_cases e : j = k
      · subst e; exact h
      · exact hg.out j (by omega) h')
    have HX : Hid (longName Y.ma[k] = decide ((100 : Int) < Y.ma[k].name.size)) := rfl
    clear hg L3
    by_cases h5 : (100 : Int) < Y.ma[k].name.size
    · have H := HYk.out (by rw [HX.out]; exact decide_eq_true h5)
      go_wp2
      go_ret
      exact sh_ret H.out.symm hbw
    · have H := HG.out (by rw [HX.out]; exact decide_eq_false h5)
      go_wp2
      go_roundw
      case rel => (first | exact ⟨k + 1, by omega, by go_num, H, hbw, hbk⟩ | ((repeat apply Exists.intro); exact ⟨⟨k + 1, by omega, by go_num, H, hbw, hbk⟩, rfl⟩))
      case measure => simp [intOf]; omega
  have HC' := HN1.out (fun i hi => hg.out i (by omega) hi)
  have HY := Lib.hid (fun i (hi : i < l.length) (h : bigTask l[i] = true) => show Hid (vastB Y l = true) from HC'.out.trans (anyl_yes hi h))
  have HN := Lib.hid (fun (h : ∀ i (hi : i < l.length), bigTask l[i] = false) => show Hid (vastB Y l = false) from HC'.out.trans (anyl_no h))
  obtain rfl : k = Y.ma.length := by omega
  clear hg HC' HN1 HY1 hlt hk
  go_wp2
  go_loopw [6] (fun y wr => ∃ k : Nat, k ≤ l.length ∧ y = .int .i64 k ∧ Hid (∀ j (hj : j < k) (h' : j < l.length), bigTask l[j] = false) ∧ Below w.heap.size w wr) (fun y _ => l.length - (intOf y).toNat)
  case atStart => exact ⟨0, by omega, rfl, fun j hj => absurd hj (by omega), hbw⟩
  case round =>
  clear hbw hbs hbk hlk x3
  obtain ⟨k, hk, rfl, hg, hbw⟩ := hrel
  have hbs := hbw.size
  by_cases hlt : k < l.length
  · obtain ⟨ad, hA, hadb, c0, c1, c2, c3⟩ := task_at (HTA.out wr hbw).at_ hlt
    subst hA
    have HCO := Lib.hid (fun W (hb : Below w.heap.size w W) => (HTA.out W hb).co _ (List.getElem_mem hlt))
    have HYk := Lib.hid (HY.out k hlt)
    have HG := Lib.hid (fun (h : bigTask l[k] = false) => show Hid (∀ j (hj : j < k + 1) (h' : j < l.length), bigTask l[j] = false) from fun j hj h' => by
      by_cases e : j = k
      · subst e; exact h
      · exact hg.out j (by omega) h')
    clear hg
    have HX : Hid (bigTask l[k] = (decide ((30 : Int) < l[k].af.length) || decide ((50 : Int) < l[k].co.length) || l[k].co.any longStr)) := rfl
    generalize hq : bigTask l[k] = q at *
    have HQ := Lib.hid hq; clear hq
    generalize l[k] = t at *
    obtain ⟨wk, nd, aA, ac, af, cA, cc, co⟩ := t
    try dsimp only at *
    by_cases h5 : (30 : Int) < af.length
    · have H := HYk.out (by rw [HX.out, decide_eq_true h5]; rfl)
      go_wp2
      go_ret
      exact sh_ret H.out.symm hbw
    by_cases h6 : (50 : Int) < co.length
    · have H := HYk.out (by rw [HX.out, decide_eq_true h6]; simp)
      go_wp2
      go_ret
      exact sh_ret H.out.symm hbw
    have HX2 : Hid (q = co.any longStr) := by show _ = _; rw [HX.out, decide_eq_false h5, decide_eq_false h6]; rfl
    clear HX
    have hco : co.length ≤ 50 := by omega
    go_wp2
    go_loopw [7] (fun y wx => ∃ j : Nat, j ≤ co.length ∧ y = .int .i64 j ∧ Hid (∀ i (h : i < co.length), i < j → longStr co[i] = false) ∧ wx = wr) (fun y _ => co.length - (intOf y).toNat)
    case atStart => exact ⟨0, by omega, rfl, fun i _ hi => absurd hi (by omega), rfl⟩
    case round =>
    obtain ⟨j, hj, rfl, hg, rfl⟩ := hrel
    by_cases hjt : j < co.length
    · obtain ⟨ad2, hA2, had2, d0⟩ := str_at (HCO.out _ hbw) hjt
      subst hA2
      have HT : Hid (longStr co[j] = decide ((100 : Int) < co[j].size)) := rfl
      have HYj : Hid (longStr co[j] = true → Hid (vastB Y l = true)) := fun h => HYk.out (by rw [HX2.out]; exact anyl_yes hjt h)
      have HGj : Hid (longStr co[j] = false → Hid (∀ i (h : i < co.length), i < j + 1 → longStr co[i] = false)) := fun h i h' hi => by
        by_cases e : i = j
        · subst e; exact h
        · exact hg.out i h' (by omega)
      clear hg
      by_cases e1 : (100 : Int) < co[j].size
      · have H := HYj.out (by rw [HT.out]; exact decide_eq_true e1)
        clear HT HYj HGj
        go_wp2
        go_ret
        exact sh_ret H.out.symm hbw
      · have H := HGj.out (by rw [HT.out]; exact decide_eq_false e1)
        clear HT HYj HGj
        go_wp2
        go_roundw
        case rel => exact ⟨j + 1, by omega, by go_num, H, by first | trivial | rfl⟩
        case measure => simp [intOf]; omega
    obtain rfl : j = co.length := by omega
    have H := HG.out (by rw [HX2.out]; exact anyl_no fun i hi => hg.out i hi hi)
    clear hg
    go_wp2
    go_roundw
    case rel => (first | exact ⟨k + 1, by omega, by go_num, H, hbw⟩ | ((repeat apply Exists.intro); exact ⟨⟨k + 1, by omega, by go_num, H, hbw⟩, rfl⟩))
    case measure => simp [intOf]; omega
  · obtain rfl : k = l.length := by omega
    have H := HN.out (fun i hi => hg.out i hi hi)
    clear hg
    go_wp2
    go_ret
    exact sh_ret H.out.symm hbw
end Go.Proofs.Ytjgnikmnadmheaa
