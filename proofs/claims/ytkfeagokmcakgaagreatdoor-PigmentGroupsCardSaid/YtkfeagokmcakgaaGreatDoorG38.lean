/- The plain law of the reference's Chain: distances found by rounds. -/
import Derived.Maps.RangeWalk
import Derived.Sort.OwnSorted
import Derived.Test.YtkfeagokmcakgaaGreatDoorG02
import Derived.Test.YtkfeagokmcakgaaGreatDoorG07
import Derived.Test.YtkfeagokmcakgaaGreatDoorG08
import Derived.Test.YtkfeagokmcakgaaGreatDoorG13
import Derived.Test.YtkfeagokmcakgaaGreatDoorG16
import Derived.Test.YtkfeagokmcakgaaGreatDoorG17
import Derived.Test.YtkfeagokmcakgaaGreatDoorG37

set_option linter.unusedVariables false
set_option linter.unusedSimpArgs false

namespace Go.Proofs.YtkfeagokmcakgaaGreatDoor

theorem least_ex {P : Nat → Prop} : ∀ n, P n → ∃ k, P k ∧ ∀ m, P m → k ≤ m := by
  intro n
  induction n using Nat.strongRecOn with
  | _ n ih =>
    intro hn
    by_cases h : ∃ m, m < n ∧ P m
    · obtain ⟨m, hm, hp⟩ := h
      exact ih m hm hp
    · exact ⟨n, hn, fun m hm => Nat.le_of_not_lt fun hlt => h ⟨m, hlt, hm⟩⟩
open Classical in
theorem dist_ex (l : List Rul) (y : ByteArray) : ∃ g, IsDist l y g := by
  refine ⟨fun s => if h : ∃ k : Nat, Path l k s y ∧ ∀ m, Path l m s y → k ≤ m then some ((Classical.choose h : Nat) : Int) else none, ⟨?_, ?_⟩⟩
  · intro s n e
    split at e
    · rename_i h
      cases e
      exact ⟨_, rfl, Classical.choose_spec h⟩
    · cases e
  · intro s e m hp
    split at e
    · cases e
    · rename_i h
      exact h (least_ex (P := fun k => Path l k s y) m hp)
theorem IsDist.own {l : List Rul} {y : ByteArray} {g : ByteArray → Option Int} (h : IsDist l y g) : g y = some 0 := by
  cases e : g y with
  | none => exact absurd (.zero y) (h.none_ y e 0)
  | some n =>
    obtain ⟨k, rfl, _, hm⟩ := h.some_ y n e
    have := hm 0 (.zero y)
    rw [show k = 0 by omega]; rfl
theorem IsDist.pos {l : List Rul} {y a : ByteArray} {g : ByteArray → Option Int} {n : Int} (h : IsDist l y g) (e : g a = some n) : 0 ≤ n := by
  obtain ⟨k, rfl, _⟩ := h.some_ a n e; omega
theorem IsDist.zero {l : List Rul} {y a : ByteArray} {g : ByteArray → Option Int} (h : IsDist l y g) (e : g a = some 0) : a = y := by
  obtain ⟨k, hk, hp, _⟩ := h.some_ a 0 e
  obtain rfl : k = 0 := by omega
  cases hp; rfl
theorem IsDist.pred {l : List Rul} {y a : ByteArray} {g : ByteArray → Option Int} {q : Nat} (h : IsDist l y g) (e : g a = some ((q + 1 : Nat) : Int)) : ∃ r ∈ l, r.kind = 5 ∧ r.x = a ∧ g r.y = some (q : Int) := by
  obtain ⟨k, hk, hp, hm⟩ := h.some_ a _ e
  obtain rfl : k = q + 1 := by omega
  cases hp with
  | succ ed hp =>
    obtain ⟨r, hr, h5, hx, rfl⟩ := ed
    refine ⟨r, hr, h5, hx, ?_⟩
    cases e2 : g r.y with
    | none => exact absurd hp (h.none_ _ e2 q)
    | some m =>
      obtain ⟨k2, rfl, hp2, hm2⟩ := h.some_ _ m e2
      have h1 := hm2 q hp
      have h2 := hm (k2 + 1) (.succ ⟨r, hr, h5, hx, rfl⟩ hp2)
      rw [show k2 = q by omega]
theorem IsDist.edge {l : List Rul} {y : ByteArray} {g : ByteArray → Option Int} {n : Int} (h : IsDist l y g) {r : Rul} (hr : r ∈ l) (h5 : r.kind = 5) (e : g r.y = some n) : ∃ m, g r.x = some m ∧ m ≤ n + 1 := by
  obtain ⟨k, rfl, hp, _⟩ := h.some_ _ n e
  have hp2 : Path l (k + 1) r.x y := .succ ⟨r, hr, h5, rfl, rfl⟩ hp
  cases e2 : g r.x with
  | none => exact absurd hp2 (h.none_ _ e2 _)
  | some m =>
    obtain ⟨k2, rfl, _, hm2⟩ := h.some_ _ m e2
    have := hm2 _ hp2
    exact ⟨_, rfl, by omega⟩
theorem IsDist.reach {l : List Rul} {y a : ByteArray} {g : ByteArray → Option Int} (h : IsDist l y g) : (∃ n, g a = some n) ↔ Reach l a y := by
  constructor
  · rintro ⟨n, e⟩
    obtain ⟨k, _, hp, _⟩ := h.some_ a n e
    exact hp.reach
  · intro hr
    obtain ⟨n, hp⟩ := hr.path
    cases e : g a with
    | none => exact absurd hp (h.none_ a e n)
    | some m => exact ⟨m, rfl⟩
theorem dist_list {l : List Rul} {y : ByteArray} {g : ByteArray → Option Int} {G : List ByteArray} (h : IsDist l y g) (hG : ∀ r ∈ l, r.kind = 5 → r.x ∈ G → r.y ∈ G) : ∀ (q : Nat) (a : ByteArray), a ∈ G → g a = some (q : Int) → ∃ L : List ByteArray, L.length = q + 1 ∧ L.Nodup ∧ (∀ z ∈ L, z ∈ G) ∧ ∀ z ∈ L, ∃ m : Int, g z = some m ∧ m ≤ (q : Int)
  | 0, a, ha, e => ⟨[a], rfl, by simp, by simpa using ha, by simpa using ⟨0, e, Int.le_refl _⟩⟩
  | q + 1, a, ha, e => by
    obtain ⟨r, hr, h5, hx, e2⟩ := h.pred e
    obtain ⟨L, h1, h2, h3, h4⟩ := dist_list h hG q r.y (hG r hr h5 (by rw [hx]; exact ha)) e2
    refine ⟨a :: L, by simp [h1], List.nodup_cons.2 ⟨fun hm => ?_, h2⟩, ?_, ?_⟩
    · obtain ⟨m, hm1, hm2⟩ := h4 a hm
      rw [e] at hm1; cases hm1; omega
    · intro z hz
      rcases List.mem_cons.1 hz with rfl | hz
      · exact ha
      · exact h3 z hz
    · intro z hz
      rcases List.mem_cons.1 hz with rfl | hz
      · exact ⟨_, e, Int.le_refl _⟩
      · obtain ⟨m, hm1, hm2⟩ := h4 z hz
        exact ⟨m, hm1, by omega⟩
theorem dist_bound {l : List Rul} {y a : ByteArray} {g : ByteArray → Option Int} {G : List ByteArray} (h : IsDist l y g) (hG : ∀ r ∈ l, r.kind = 5 → r.x ∈ G → r.y ∈ G) {n : Int} (ha : a ∈ G) (e : g a = some n) : n + 1 ≤ (G.length : Int) := by
  obtain ⟨k, rfl, _⟩ := h.some_ a n e
  obtain ⟨L, h1, h2, h3, _⟩ := dist_list h hG k a ha e
  have := nodup_len L G h2 h3
  omega
theorem grps_closed (d : List Rul) (x : ByteArray) : ∀ r ∈ d, r.kind = 5 → r.x ∈ grps d x → r.y ∈ grps d x := fun r hr h5 hx => (grps_iff d x _).2 (((grps_iff d x _).1 hx).snoc ⟨r, hr, h5, rfl, rfl⟩)
theorem grps_self (d : List Rul) (x : ByteArray) : x ∈ grps d x := (grps_iff d x x).2 (.refl x)
/-- what the list of numbers holds for a name, in round n, behind j rules -/
def dv (g : ByteArray → Option Int) (d : List Rul) (n j : Nat) (a : ByteArray) : Int :=
  match g a with
  | none => -1
  | some k => if k ≤ (n : Int) then k else if k = (n : Int) + 1 ∧ (d.take j).any (chM g n a) = true then (n : Int) + 1 else -1
theorem dv_zero {l : List Rul} {y : ByteArray} {g : ByteArray → Option Int} (h : IsDist l y g) (a : ByteArray) : dv g l 0 0 a = if a = y then 0 else -1 := by
  unfold dv
  by_cases hy : a = y
  · subst hy; rw [h.own, if_pos rfl]; rfl
  · rw [if_neg hy]
    cases e : g a with
    | none => rfl
    | some k =>
      have h0 := h.pos e
      have h1 : ¬ k ≤ ((0 : Nat) : Int) := fun hk => by
        have : k = 0 := by omega
        subst this; exact hy (h.zero e)
      show (if k ≤ ((0 : Nat) : Int) then k else _) = -1
      rw [if_neg h1, if_neg (by simp)]
theorem dv_eq {l : List Rul} {y a : ByteArray} {g : ByteArray → Option Int} {n j : Nat} (h : IsDist l y g) : dv g l n j a = (n : Int) ↔ g a = some (n : Int) := by
  unfold dv
  cases e : g a with
  | none => constructor
            · intro h; dsimp only at h; omega
            · intro h; cases h
  | some k =>
    dsimp only
    constructor
    · intro hh
      split at hh
      · rw [hh]
      · split at hh <;> omega
    · intro hh; cases hh; rw [if_pos (Int.le_refl _)]
theorem any_take_step {α : Type} {l : List α} {p : α → Bool} {k : Nat} (hk : k < l.length) : (l.take (k + 1)).any p = ((l.take k).any p || p l[k]) := by
  rw [← List.take_append_getElem hk, List.any_append]; simp
theorem dv_step {l : List Rul} {y : ByteArray} {g : ByteArray → Option Int} {n j : Nat} (h : IsDist l y g) (hj : j < l.length) (a : ByteArray) :
    dv g l n (j + 1) a = if l[j].kind = 5 ∧ dv g l n j l[j].y = (n : Int) ∧ dv g l n j l[j].x < 0 ∧ a = l[j].x then (n : Int) + 1 else dv g l n j a := by
  have hmem := List.getElem_mem hj
  by_cases hs : l[j].kind = 5 ∧ g l[j].y = some (n : Int) ∧ a = l[j].x
  · obtain ⟨h5, hy, rfl⟩ := hs
    obtain ⟨m, hm, hle⟩ := h.edge hmem h5 hy
    have hp := h.pos hm
    have hc : chM g n l[j].x l[j] = true := by unfold chM; rw [h5, hy]; simp
    have hd : dv g l n j l[j].y = (n : Int) := (dv_eq h).2 hy
    have e1 : dv g l n (j + 1) l[j].x = m := by
      unfold dv
      rw [hm, any_take_step hj, hc]
      dsimp only
      by_cases hmn : m ≤ (n : Int)
      · rw [if_pos hmn]
      · rw [if_neg hmn, if_pos ⟨by omega, by simp⟩]; omega
    rw [e1]
    by_cases hn : dv g l n j l[j].x < 0
    · rw [if_pos ⟨h5, hd, hn, rfl⟩]
      unfold dv at hn
      rw [hm] at hn
      dsimp only at hn
      by_cases hmn : m ≤ (n : Int)
      · rw [if_pos hmn] at hn; omega
      · omega
    · rw [if_neg (fun hh => hn hh.2.2.1)]
      unfold dv at hn ⊢
      rw [hm] at hn ⊢
      dsimp only at hn ⊢
      by_cases hmn : m ≤ (n : Int)
      · rw [if_pos hmn]
      · rw [if_neg hmn] at hn ⊢
        split
        · omega
        · rename_i hq; rw [if_neg hq] at hn; omega
  · have hc : chM g n a l[j] = false := by
      cases hq : chM g n a l[j] with
      | false => rfl
      | true =>
        unfold chM at hq
        simp at hq
        exact absurd ⟨hq.1.1, hq.2, hq.1.2.symm⟩ hs
    rw [if_neg (fun hh => hs ⟨hh.1, (dv_eq h).1 hh.2.1, hh.2.2.2⟩)]
    unfold dv
    rw [any_take_step hj, hc, Bool.or_false]
theorem dv_round {l : List Rul} {y : ByteArray} {g : ByteArray → Option Int} {n : Nat} (h : IsDist l y g) (a : ByteArray) : dv g l n l.length a = dv g l (n + 1) 0 a := by
  unfold dv
  cases e : g a with
  | none => rfl
  | some k =>
    dsimp only
    by_cases h1 : k ≤ (n : Int)
    · rw [if_pos h1, if_pos (by omega)]
    · rw [if_neg h1]
      by_cases h2 : k = (n : Int) + 1
      · subst h2
        obtain ⟨r, hr, h5, hx, hy⟩ := h.pred (q := n) (a := a) (by rw [e]; rfl)
        rw [if_pos ⟨rfl, by rw [List.take_length]; exact List.any_eq_true.2 ⟨r, hr, by unfold chM; rw [h5, hx, hy]; simp⟩⟩, if_pos (by omega)]
      · rw [if_neg (fun hh => h2 hh.1), if_neg (by omega), if_neg (by simp)]
/-- what it holds at the end -/
def fv (g : ByteArray → Option Int) (a : ByteArray) : Int := (g a).getD (-1)
theorem dv_end {l : List Rul} {y a : ByteArray} {g : ByteArray → Option Int} {G : List ByteArray} (h : IsDist l y g) (hG : ∀ r ∈ l, r.kind = 5 → r.x ∈ G → r.y ∈ G) (ha : a ∈ G) : dv g l G.length 0 a = fv g a := by
  unfold dv fv
  cases e : g a with
  | none => rfl
  | some k =>
    have := dist_bound h hG ha e
    dsimp only
    rw [if_pos (by omega)]; rfl
end Go.Proofs.YtkfeagokmcakgaaGreatDoor

namespace Go.Proofs.YtkfeagokmcakgaaGreatDoor
open Go.RowKit Go.Maps

def byB (s : ByteArray) : List UInt8 := s.data.toList
theorem byB_inj {a b : ByteArray} (h : byB a = byB b) : a = b := bytes_inj h
def srtB (l : List ByteArray) : List ByteArray := l.mergeSort fun x y => decide (byB x ≤ byB y)
theorem enc_by (s : ByteArray) : Go.Proofs.encStr (byB s) = Value.string s := by
  show Value.string ⟨s.data.toList.toArray⟩ = _
  rw [Array.toArray_toList]
theorem strsC_enc (l : List ByteArray) : (l.map byB).map Go.Proofs.encStr = strsC l := by
  unfold strsC
  rw [List.map_map]
  exact List.map_congr_left fun s _ => enc_by s
theorem srt_map (l : List ByteArray) : (l.map byB).mergeSort (fun x y => decide (x ≤ y)) = (srtB l).map byB := by
  unfold srtB
  exact (List.map_mergeSort (f := byB) (r := fun x y => decide (byB x ≤ byB y)) (s := fun x y => decide (x ≤ y)) (fun a _ b _ => rfl)).symm
/-- the list of a set of names, in ascending order -/
structure SrtOf (R : List ByteArray) (p : ByteArray → Bool) : Prop where
  srt : R.Pairwise fun a b => byB a ≤ byB b
  nd : R.Nodup
  mem : ∀ s, s ∈ R ↔ (s.size ≤ maxLen ∧ p s = true)
theorem SrtOf.uniq {R R' : List ByteArray} {p : ByteArray → Bool} (h : SrtOf R p) (k : SrtOf R' p) : R = R' :=
  List.Perm.eq_of_pairwise (fun _ _ _ _ h1 h2 => byB_inj (List.le_antisymm h1 h2)) h.srt k.srt ((List.perm_ext_iff_of_nodup h.nd k.nd).2 fun s => (h.mem s).trans (k.mem s).symm)
theorem srtB_of {l : List ByteArray} {p : ByteArray → Bool} (hn : l.Nodup) (hm : ∀ s, s ∈ l ↔ (s.size ≤ maxLen ∧ p s = true)) : SrtOf (srtB l) p := by
  refine ⟨?_, (List.mergeSort_perm l _).nodup_iff.2 hn, fun s => ((List.mergeSort_perm l _).mem_iff).trans (hm s)⟩
  have h := List.pairwise_mergeSort (le := fun x y => decide (byB x ≤ byB y)) (fun a b c h1 h2 => by simp at h1 h2 ⊢; exact List.le_trans h1 h2) (fun a b => by simp; exact List.le_total _ _) l
  exact h.imp (by simp)
theorem srtB_len (l : List ByteArray) : (srtB l).length = l.length := List.length_mergeSort _
/-- what has come so far of a range over a map -/
structure Cm (g : ByteArray → Option Bool) (left : Lit → Bool) (acc : List ByteArray) : Prop where
  nd : acc.Nodup
  mem : ∀ s, s ∈ acc ↔ (s.size ≤ maxLen ∧ g s = some true ∧ left (.string (byB s)) = false)
  sub : ∀ s, s.size ≤ maxLen → left (.string (byB s)) = true → (g s).isSome = true
theorem Cm.start {g : ByteArray → Option Bool} {D : DataW Unit} (h : Reads mSB D g) : Cm g (Maps.has D) [] := by
  have h2 : ∀ s : ByteArray, s.size ≤ maxLen → Maps.has D (.string (byB s)) = (g s).isSome := fun s hs => (h s hs).2
  refine ⟨List.nodup_nil, fun s => ⟨fun hm => (by cases hm), ?_⟩, fun s hs hl => by rw [← h2 s hs]; exact hl⟩
  rintro ⟨hs, hg, hl⟩
  rw [h2 s hs, hg] at hl
  cases hl
theorem key_same {x s : ByteArray} : (Lit.string (byB s)).sameKey (.string (byB x)) = decide (s = x) := by
  by_cases h : s = x
  · subst h
    rw [decide_eq_true rfl]
    exact WideAt.sameKey_self trivial
  · rw [decide_eq_false h]
    cases hk : (Lit.string (byB s)).sameKey (.string (byB x))
    · rfl
    · have := WideAt.sameKey_eq hk
      injection this with h1
      exact absurd (byB_inj h1) h
theorem Cm.step {g : ByteArray → Option Bool} {left : Lit → Bool} {acc : List ByteArray} (h : Cm g left acc) {D : DataW Unit} (hr : Reads mSB D g) {x : ByteArray} {c : Bool} (hx : x.size ≤ maxLen) (hl : left (.string (byB x)) = true) (ha : ∀ zd, D.atKey (.string (byB x)) zd = .lit (.bool c)) :
    Cm g (fun z => left z && !z.sameKey (.string (byB x))) (if c = true then acc ++ [x] else acc) := by
  have h1 := (hr x hx).1
  have h2 : (DataW.lit (.bool c) : DataW Unit) = .lit (.bool ((g x).getD false)) := (ha _).symm.trans h1
  have h3 : c = (g x).getD false := by injection h2 with h2; injection h2
  have h4 := h.sub x hx hl
  have hg : g x = some c := by
    cases hgx : g x with
    | none => rw [hgx] at h4; cases h4
    | some d => rw [hgx] at h3; rw [h3]; rfl
  have hna : x ∉ acc := fun hm => by have := ((h.mem x).1 hm).2.2; rw [hl] at this; cases this
  refine ⟨?_, fun s => ?_, fun s hs hls => ?_⟩
  · split
    · rw [List.nodup_append]
      exact ⟨h.nd, by simp, fun a hin b hb => by simp at hb; subst hb; exact fun e => hna (e ▸ hin)⟩
    · exact h.nd
  · have e : (left (.string (byB s)) && !(Lit.string (byB s)).sameKey (.string (byB x))) = (left (.string (byB s)) && !decide (s = x)) := by rw [key_same]
    show _ ↔ _ ∧ _ ∧ (left (.string (byB s)) && !(Lit.string (byB s)).sameKey (.string (byB x))) = false
    rw [e]
    by_cases hsx : s = x
    · subst hsx
      rw [decide_eq_true rfl]
      cases c
      · simp only [Bool.false_eq_true, if_false]
        constructor
        · intro hm; exact absurd hm hna
        · rintro ⟨_, h6, _⟩; rw [hg] at h6; cases h6
      · simp only [if_true, List.mem_append, List.mem_singleton, or_true, true_iff]
        exact ⟨hx, hg, by simp⟩
    · rw [decide_eq_false hsx]
      have : (s ∈ if c = true then acc ++ [x] else acc) ↔ s ∈ acc := by
        split
        · simp [hsx]
        · rfl
      rw [this, h.mem s]
      simp
  · have h5 : left (.string (byB s)) = true := by
      simp only [Bool.and_eq_true] at hls; exact hls.1
    exact h.sub s hs h5
theorem Cm.done {g : ByteArray → Option Bool} {left : Lit → Bool} {acc : List ByteArray} (h : Cm g left acc) (hl : ∀ kl, left kl = false) : ∀ s, s ∈ acc ↔ (s.size ≤ maxLen ∧ decide (g s = some true) = true) := fun s => by
  rw [h.mem s, hl, decide_eq_true_eq]
  simp
theorem own_iter {w w' : World} {base r : Nat} {e : TypeId} {size n : Nat} {v : Value} {xs : List Value} (h : w.ownsRow base e size v n xs) (hg : w.grownBy w' (some r)) (hr : r < base) : w'.ownsRow base e size v n xs := by
  refine ⟨h.1, ?_⟩
  rcases h.2 with h2 | ⟨g, cap, cur, h1, h2, h3, h4⟩
  · exact .inl h2
  · have hgl : g < w.heap.size := (Array.getElem?_eq_some_iff.1 h3).1
    exact .inr ⟨g, cap, cur, h1, h2, (hg.block g hgl (by intro e; cases e; omega)).trans h3, h4⟩
theorem sortS_own {w : World} {base n c : Nat} {A : Option Addr} {L : List ByteArray} (h : w.ownsRow base 9 1 (.slice A n c) n (strsC L)) (hn : n = L.length) (hm : n ≤ 100000) (hb : base ≤ w.heap.size) :
    Calls Tryz.prog 128 #[.slice A n c] w fun e w' => e = .returned (.tuple #[]) ∧ w'.ownsRow base 9 1 (.slice A n c) n (strsC (srtB L)) ∧ Below base w w' := by
  subst hn
  rcases h.2 with ⟨h1, h2⟩ | ⟨g, cap, cur, h1, hbg, hg, h2, h3, h4, h5⟩
  · have hL : L = [] := List.eq_nil_of_length_eq_zero h2
    subst hL
    refine (Tryz.slices_Sort_string_none A c w).mono ?_
    rintro e w' ⟨rfl, rfl⟩
    exact ⟨rfl, by simpa [srtB] using h, Below.refl _ _⟩
  · cases h1
    have hlen : (L.map byB).length = L.length := by simp
    have hH : Go.Sort.Holds Go.Proofs.encStr w g 0 (L.map byB).toArray := holds_of_block hg (by rw [hlen, strsC_enc]; rw [Nat.mul_one] at h5; exact h5)
    have hs := Tryz.slices_Sort_string g 0 c (L.map byB) w hH (Array.getElem?_eq_some_iff.1 hg).1 (by rw [hlen]; omega)
    rw [hlen] at hs
    refine hs.mono ?_
    rintro e w' ⟨rfl, m, os, rfl⟩
    rw [srt_map]
    refine ⟨rfl, ?_, below_grown (grownBy_sorted _) (fun k e => by cases e; exact hbg) hb⟩
    have := ownsRow_sorted (n := m) (os := os) (ss := L.map byB) (ts := (srtB L).map byB) (by simp [srtB_len]) hbg hg (by rw [hlen]; exact h2) h3 h4
    rw [hlen, strsC_enc] at this
    exact this
/-- a list of names in new memory, in ascending order -/
def GpE (p : ByteArray → Bool) (w : World) (e : Ending) (w' : World) : Prop := ∃ R A c, SrtOf R p ∧ R.length ≤ 10000 ∧ e = .returned (.slice A R.length c) ∧ Lies w' w'.heap.size A (strsC R) ∧ (R.length ≤ c ∧ c ≤ maxLen) ∧ Below w.heap.size w w'

theorem next_sb {w : World} {ops : Array Oper} {rest : List Oper} {o : Oper} {a : Act} {Q : Exit → Act → World → Prop} (hg : o.guard = none) (it : Operand) (hop : o.op = Op.next it false) (b r n : Nat) (D : DataW Unit) (left : Lit → Bool) (cnt : Nat)
    (hit : a.eval it = .pointer (some ⟨r, 0, none⟩)) (h : w.ranges Tryz.prog 9 (plainElem Tryz.prog 4) b r n D left cnt)
    (hDone : (∀ kl, left kl = false) → wpList Tryz.prog ops Q rest (a.put o.dst (.tuple #[.bool false])) w)
    (hMoreF : ∀ (x : ByteArray) (w' : World) (cnt' : Nat), x.size ≤ maxLen → left (.string (byB x)) = true → (∀ zd, D.atKey (.string (byB x)) zd = .lit (.bool false)) → w'.ranges Tryz.prog 9 (plainElem Tryz.prog 4) b r n D (fun z => left z && !z.sameKey (.string (byB x))) cnt' → cnt' < cnt →
      w.grownBy w' (some r) → w'.heap.size = w.heap.size → (Instr.entry (.pointer (some ⟨r, 0, none⟩))).run Tryz.prog w' = .ok (.tuple #[.string x, .bool false]) w' → wpList Tryz.prog ops Q rest (a.put o.dst (.tuple #[.bool true, .string x, .bool false])) w')
    (hMoreT : ∀ (x : ByteArray) (w' : World) (cnt' : Nat), x.size ≤ maxLen → left (.string (byB x)) = true → (∀ zd, D.atKey (.string (byB x)) zd = .lit (.bool true)) → w'.ranges Tryz.prog 9 (plainElem Tryz.prog 4) b r n D (fun z => left z && !z.sameKey (.string (byB x))) cnt' → cnt' < cnt →
      w.grownBy w' (some r) → w'.heap.size = w.heap.size → (Instr.entry (.pointer (some ⟨r, 0, none⟩))).run Tryz.prog w' = .ok (.tuple #[.string x, .bool true]) w' → wpList Tryz.prog ops Q rest (a.put o.dst (.tuple #[.bool true, .string x, .bool true])) w') :
    wpList Tryz.prog ops Q (o :: rest) a w := by
  refine wpList_next_ranges w hg it hop 9 (string_keyed Tryz.underlying9) (plainElem Tryz.prog 4) Value.string Value.bool (fun key kl hk => by obtain ⟨x, h1, h2, h3⟩ := WideMaps.string_of_keyOf Tryz.underlying9 hk; exact ⟨x, h1⟩) (fun v y hv => by obtain ⟨c, _, h2, _⟩ := inv_bool Tryz.underlying4 hv; exact ⟨c, h2⟩)
    b r n D left cnt hit h (fun _ => hDone) (fun x c kl y w' cnt' hkey hlk hv hat hrg hlt hgr hsz hen => ?_)
  obtain ⟨x', ex, rfl, hx⟩ := WideMaps.string_of_keyOf Tryz.underlying9 hkey
  cases ex
  obtain ⟨c', _, ec, rfl⟩ := inv_bool Tryz.underlying4 hv
  cases ec
  cases c
  · exact hMoreF x w' cnt' hx hlk hat hrg hlt hgr hsz hen
  · exact hMoreT x w' cnt' hx hlk hat hrg hlt hgr hsz hen
set_option maxHeartbeats 1000000 in
set_option maxRecDepth 100000 in
theorem sorted_any (g : ByteArray → Option Bool) (b n : Nat) (w : World) (hm : MapG mSB w b n g) (hn : n ≤ 10000) : Calls Tryz.prog 89 #[.map (some b)] w (GpE (fun s => decide (g s = some true)) w) := by
  obtain ⟨D, hown, hrd⟩ := hm.out
  have HRD := Lib.hid hrd
  have hbl := hown.lt
  have hcs0 := hown.size_le
  clear hm hrd
  have hown : w.ownsMap Tryz.prog 9 (plainElem Tryz.prog 4) b n D := hown
  go_enter Tryz.func89, Tryz.ntmps89
  go_wp2_with (first
    | (at_range; refine wpList_range_own _ rfl _ 114 rfl 9 4 (string_keyed Tryz.underlying9) Tryz.underlying114 _ b n _ rfl hown ?_; intro w0 hrg0 hg0 hs0)
    | go_in)
  go_frame
  have hb0 : Below w.heap.size w w0 := (Below.refl _ _).grown hg0 (Nat.le_refl _) (fun j hj => by cases hj)
  go_loopw [3, 4, 5] (fun v _ _ wr => ∃ (left : Lit → Bool) (cnt : Nat) (acc : List ByteArray) (A : Option Addr) (c : Nat), Hid (wr.ranges Tryz.prog 9 (plainElem Tryz.prog 4) b w.heap.size n D left cnt) ∧ acc.length + cnt ≤ 10000 ∧ v = .slice A acc.length c ∧ Hid (Cm g left acc) ∧ Hid (wr.ownsRow (w.heap.size + 1) 9 1 (.slice A acc.length c) acc.length (strsC acc)) ∧ Below w.heap.size w wr)
    (fun _ _ _ wr => wr.rangeLeft b w.heap.size)
  case atStart => exact ⟨_, _, [], none, 0, hrg0, by simp; omega, rfl, Cm.start HRD.out, World.ownsRow_nil _ _ _ _, hb0⟩
  case round =>
    obtain ⟨left, cnt, acc, A, c, hrg, hcs, rfl, hC, ho, hbw⟩ := hrel
    go_wp2_with (first
      | (at_next; refine next_sb rfl _ rfl b w.heap.size n _ _ _ rfl hrg.out ?_ ?_ ?_)
      | go_in)
    · intro hl0
      have hS := Lib.hid (sortS_own ho.out rfl (by omega) (by have := hrg.out.lt; omega))
      have hR := Lib.hid (srtB_of hC.out.nd (hC.out.done hl0))
      have hbase : w.heap.size + 1 ≤ wr.heap.size := by have := hrg.out.lt; omega
      clear hrg hC ho HRD hown
      go_wp2_with (first | (go_at_call 128; refine hS.out.mono ?_; rintro e w5 ⟨rfl, ho5, hb5⟩))
      have hBE : Below w.heap.size w w5 := hbw.trans (hb5.mono (by omega))
      have hLI := Lib.hid (ownsRow_lies ho5)
      have hcap := ownsSlice ho5
      clear ho5 hb5 hbw hS
      go_ret
      obtain ⟨A7, c7, e7, h1, h2⟩ := hcap
      cases e7
      exact ⟨srtB acc, A, c, hR.out, by rw [srtB_len]; omega, by rw [srtB_len]; rfl, hLI.out, by rw [srtB_len]; exact ⟨h1, h2⟩, hBE⟩
    · intro x w1 cnt1 hx hlx hat hrg1 hlt hg1 hs1 hen
      have hC1 := Lib.hid (hC.out.step HRD.out hx hlx hat)
      have ho1 := Lib.hid (own_iter ho.out hg1 (Nat.lt_succ_self _))
      have hbw1 : Below w.heap.size w w1 := hbw.grown hg1 hbw.size (fun j hj => by cases hj; exact Nat.le_refl _)
      have hbase : w.heap.size + 1 ≤ w1.heap.size := by have := hrg1.lt; omega
      have HRG := Lib.hid hrg1
      have HME := Lib.hid (show wr.rangeLeft b w.heap.size = cnt from hrg.out.left_eq)
      clear hg1 hs1 hlx hat hrg1 hC ho hrg hbw hown HRD
      rw [if_neg (by simp)] at hC1
      go_wp2
      go_roundw
      case rel => exact ⟨_, cnt1, acc, A, c, HRG, by omega, rfl, hC1, ho1, hbw1⟩
      case measure => rw [HRG.out.left_eq, HME.out]; exact hlt
    · intro x w1 cnt1 hx hlx hat hrg1 hlt hg1 hs1 hen
      have hC1 := Lib.hid (hC.out.step HRD.out hx hlx hat)
      have ho1 := Lib.hid (own_iter ho.out hg1 (Nat.lt_succ_self _))
      have hbw1 : Below w.heap.size w w1 := hbw.grown hg1 hbw.size (fun j hj => by cases hj; exact Nat.le_refl _)
      have hbase : w.heap.size + 1 ≤ w1.heap.size := by have := hrg1.lt; omega
      have HRG := Lib.hid hrg1
      have HME := Lib.hid (show wr.rangeLeft b w.heap.size = cnt from hrg.out.left_eq)
      clear hg1 hs1 hlx hat hrg1 hC ho hrg hbw hown HRD
      rw [if_pos rfl] at hC1
      go_wp2_with (at_builtin; refine wpList_append1g (P := Tryz.prog) rfl (.tmp 14) (.tmp 16) 34 rfl (w.heap.size + 1) 9 (.string ByteArray.empty) 1 16 Tryz.underlying34 info9 (by decide) (by decide) (.slice A acc.length c) acc.length (strsC acc) rfl (ho1.out.alloc _) w1.heap.size #[.string x] 9 rfl (Bk.new _ _ _) rfl ?c1 ?c2 (by decide) ?c3 ?_)
      case c1 => rfl
      case c2 => omega
      case c3 => simp; omega
      intro v' w4 ho4 hg4
      have hgr : ∀ k, (Value.slice A acc.length c).ownBlock = some k → w.heap.size + 1 ≤ k := fun k hk => (ho1.out.lt k hk).1
      have HRG4 := Lib.hid ((HRG.out.alloc (.cells #[.string x] 9)).kept hg4 (fun e => by have := hgr b e.symm; omega) (fun e => by have := hgr w.heap.size e.symm; omega))
      have hbw4 : Below w.heap.size w w4 := (hbw1.alloc hbw1.size _).grown hg4 (by have := hbw1.size; simp; omega) (fun j hj => by have := hgr j hj; omega)
      have hsn : strsC acc ++ (#[Value.string x] : Array Value).toList = strsC (acc ++ [x]) := by simp [strsC]
      rw [hsn] at ho4
      obtain ⟨A4, c4, rfl, _, _⟩ := ownsSlice ho4
      have ho5 : Hid (w4.ownsRow (w.heap.size + 1) 9 1 (.slice A4 (acc ++ [x]).length c4) (acc ++ [x]).length (strsC (acc ++ [x]))) := by rw [List.length_append]; exact Lib.hid ho4
      have hll : (acc ++ [x]).length = acc.length + 1 := by simp
      clear ho4 hg4 hgr ho1 hbw1 hsn
      go_wp2
      go_roundw
      case rel => exact ⟨_, cnt1, acc ++ [x], A4, c4, HRG4, by omega, by rw [hll], hC1, ho5, hbw4⟩
      case measure => rw [HRG4.out.left_eq, HME.out]; exact hlt
set_option maxHeartbeats 1000000 in
set_option maxRecDepth 100000 in
theorem Groups_any (l : List Rul) (A : Option Addr) (c : Nat) (known : Int) (x : ByteArray) (w : World) (hl : Lies w w.heap.size A (rulesC l)) (hok : RulOK l) (hm : l.length ≤ 1000) (hxs : x.size ≤ 100) :
    Calls Tryz.prog 41 #[.agg #[.slice A l.length c], .int .i64 known, .string x] w (GpE (inG (cntL l known) x) w) := by
  have HC : Hid (∀ W, Below w.heap.size w W → Calls Tryz.prog 38 #[.agg #[.slice A l.length c], .int .i64 known] W (SlE (cntL l known) W)) := fun W hb => counting_any l A c known W ((hl.below hb (Nat.le_refl _)).more hb.size) hok hm
  have HG := Lib.hid (fun A' c' W hL => groups_any (cntL l known) A' c' x W hL (hok.sub (cnt_sub l known)) (Nat.le_trans (cnt_len l known) hm) hxs)
  have HP : Hid ((fun s => decide (setG (inG (cntL l known) x) s = some true)) = inG (cntL l known) x) := by
    show _ = _
    funext s
    unfold setG
    cases inG (cntL l known) x s <;> simp
  clear hl hok
  go_enter Tryz.func41, Tryz.ntmps41
  go_wp2_with (first | (go_at_call 38; refine (HC.out _ (by repeat (first | with_reducible exact Below.refl _ _ | with_reducible assumption | with_reducible refine Below.drew ?_ | with_reducible refine below_drewN ?_ _ | (with_reducible refine Below.alloc ?_ ?_ _; rotate_left; (try simp) <;> omega) | (with_reducible refine Below.setCell ?_ ?_ _; rotate_left; (try simp) <;> omega)))).mono ?_; rintro e w1 ⟨A1, c1, rfl, hl1, _, hb1⟩; have hB1 : Below w.heap.size w w1 := Below.trans (by repeat (first | with_reducible exact Below.refl _ _ | with_reducible assumption | with_reducible refine Below.drew ?_ | with_reducible refine below_drewN ?_ _ | (with_reducible refine Below.alloc ?_ ?_ _; rotate_left; (try simp) <;> omega) | (with_reducible refine Below.setCell ?_ ?_ _; rotate_left; (try simp) <;> omega))) (hb1.mono (by simp))) | (go_at_call 90; refine (HG.out _ _ _ hl1).mono ?_; rintro e w2 ⟨b, n, rfl, _, hn2, hm2, hb2⟩; have HST := Lib.hid (sorted_any _ b n w2 hm2 hn2); have hB2 : Below w.heap.size w w2 := hB1.trans (hb2.mono hB1.size)) | (go_at_call 89; refine HST.out.mono ?_; rintro e w3 ⟨R, A3, c3, hR, hRl, rfl, hL3, hc3, hb3⟩))
  rw [HP.out] at hR
  have HLI := Lib.hid hL3
  have HR := Lib.hid hR
  go_ret
  exact ⟨R, A3, c3, HR.out, hRl, rfl, HLI.out, hc3, hB2.trans (hb3.mono hB2.size)⟩
end Go.Proofs.YtkfeagokmcakgaaGreatDoor

namespace Go.Proofs.YtkfeagokmcakgaaGreatDoor
open Go.RowKit

/-- what Chain answers, as a list -/
def ChnE (d : List Rul) (x z : ByteArray) (w : World) (e : Ending) (w' : World) : Prop := ∃ C A c, e = .returned (.tuple #[.slice A C.length c, .bool (inG d x z)]) ∧ Lies w' w'.heap.size A (ints C) ∧ Below w.heap.size w w' ∧ (inG d x z = true → chC d x z C)
theorem chnE_of {d : List Rul} {x z : ByteArray} {w w' : World} {e : Ending} (h : ChainE d x z w e w') : ChnE d x z w e w' := by
  obtain ⟨g, hg, hb, hm⟩ := h
  have hi := dist_inG (x := x) hg
  cases e1 : g x with
  | none =>
    rw [e1] at hm hi
    refine ⟨[], none, 0, ?_, fun h => absurd rfl h, hb, fun h => ?_⟩
    · rw [← hi]; exact hm
    · rw [← hi] at h; cases h
  | some n =>
    rw [e1] at hm hi
    obtain ⟨A, c, h1, h2⟩ := hm
    refine ⟨_, A, c, by rw [← hi]; exact h1, h2, hb, fun _ => ?_⟩
    obtain ⟨k, rfl, _, _⟩ := hg.some_ x n e1
    rw [Int.toNat_natCast]
    have hl := chn_length hg k x e1
    refine ⟨by rw [hl]; exact dist_zero hg e1, ?_, fun h3 h4 => chn_leads hg h3 h4 k x e1⟩
    have h3 := dist_bound hg (grps_closed d x) (grps_self d x) e1
    have h4 := grps_len d x
    omega
/-- the name that the first j rules lead to -/
def nxJ (d : List Rul) (id : Int) (a : ByteArray) (j : Nat) : ByteArray := stepN (d.take j) id a
def ruB (id : Int) (a : ByteArray) (r : Rul) : Bool := decide (r.id = id) && decide (r.kind = 5) && decide (r.x = a)
theorem nxJ_zero (d : List Rul) (id : Int) (a : ByteArray) : nxJ d id a 0 = ⟨#[]⟩ := by unfold nxJ stepN; simp
theorem nxJ_full (d : List Rul) (id : Int) (a : ByteArray) : nxJ d id a d.length = stepN d id a := by unfold nxJ; rw [List.take_length]
theorem nxJ_step {d : List Rul} {id : Int} {a : ByteArray} {j : Nat} (hj : j < d.length) (hn : ∀ r ∈ d, r.kind = 5 → r.y.size ≠ 0) : nxJ d id a (j + 1) = if ruB id a d[j] = true ∧ (nxJ d id a j).size = 0 then d[j].y else nxJ d id a j := by
  unfold nxJ stepN
  rw [← List.take_append_getElem hj, List.find?_append]
  cases e : (d.take j).find? (fun r => decide (r.id = id) && decide (r.kind = 5) && decide (r.x = a)) with
  | some r =>
    have hr := List.mem_of_mem_take (List.mem_of_find?_eq_some e)
    have hp := List.find?_some e
    simp only [Bool.and_eq_true, decide_eq_true_eq] at hp
    simp only [Option.some_or]
    rw [if_neg (fun h => hn r hr hp.1.2 h.2)]
  | none =>
    simp only [Option.none_or, List.find?_cons, List.find?_nil]
    unfold ruB
    cases hb : (decide (d[j].id = id) && decide (d[j].kind = 5) && decide (d[j].x = a)) with
    | true => rw [if_pos ⟨rfl, rfl⟩]
    | false => rw [if_neg (by simp)]
theorem empty_iff (s : ByteArray) : (s.toList == ([] : List UInt8)) = decide (s.size = 0) := by
  rw [ByteArray.toList_eq]
  have e : s.data.toList.length = s.size := by rw [Array.length_toList]; rfl
  cases hl : s.data.toList with
  | nil => rw [hl] at e; rw [decide_eq_true (by rw [← e]; rfl)]; rfl
  | cons a b =>
    rw [hl] at e
    rw [decide_eq_false (by rw [← e]; simp)]; rfl
theorem leads_open {d : List Rul} {C : List Int} {a z : ByteArray} {k : Nat} (hk : k < C.length) (h : Leads d (C.drop k) a z) : (stepN d C[k] a).size ≠ 0 ∧ Leads d (C.drop (k + 1)) (stepN d C[k] a) z := by
  rw [List.drop_eq_getElem_cons hk] at h
  cases h with
  | cons h1 h2 => exact ⟨h1, h2⟩
theorem leads_end {d : List Rul} {C : List Int} {a z : ByteArray} (h : Leads d (C.drop C.length) a z) : a = z := by
  rw [List.drop_length] at h
  cases h; rfl
/-- names of rules that count are names -/
theorem cnt_names {l : List Rul} {known : Int} : ∀ r ∈ cntL l known, r.kind = 5 → r.y.size ≠ 0 := fun r hr h5 => by
  have hc := (List.mem_filter.1 hr).2
  unfold cntB at hc
  simp only [Bool.and_eq_true] at hc
  have hf := hc.1.1.1
  have hs : shpB r = true := by unfold frm at hf; simp only [Bool.and_eq_true] at hf; exact hf.2
  unfold shpB at hs
  rw [if_neg (by omega), if_neg (by omega), if_pos h5] at hs
  simp only [Bool.and_eq_true] at hs
  have := ((nameB_iff r.y).1 hs.1.1.2).1
  omega
theorem cnt_ids {l : List Rul} {known : Int} (h : Fine l) : ∀ r ∈ cntL l known, ∀ s ∈ cntL l known, r.id = s.id → r = s := fun r hr s hs e => fine_ids h (cnt_sub l known r hr) (cnt_sub l known s hs) e
theorem inG_size {d : List Rul} {x z : ByteArray} (hok : RulOK d) (hx : x.size ≤ 100) (h : inG d x z = true) : z.size ≤ 100 := by
  unfold inG at h
  rw [decide_eq_true_eq] at h
  rcases grpN_in d _ _ z h with g | ⟨r, hr, rfl⟩
  · simp at g; subst g; exact hx
  · exact (hok r hr).2.1
end Go.Proofs.YtkfeagokmcakgaaGreatDoor
