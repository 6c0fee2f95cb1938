/- Close at the yard of the examples makes the objects that the closed run says; the closed check 'works' is true. -/
import Derived.Test.YtjgnikmnadmheaaK5
namespace Go.Proofs.Ytjgnikmnadmheaa
open Go.RowKit

theorem closedY : ({ exY false with cl := insL (exY false).cl (cntLt (exY false).cl 2) 2 } : Yd) = exY true := by
  have : insL [3] (cntLt [3] 2) 2 = [2, 3] := by decide
  show ({ exY false with cl := insL [3] (cntLt [3] 2) 2 } : Yd) = exY true
  rw [this]; rfl
/-- cells known of a block as an object of the closed run -/
theorem or_cells {g : Nat → Option (Nat × Nat)} {c b : Nat} {t : TypeId} {R : Array Value} {w : World} (hb : Bk w b t R) {l : List Value} (hl : ∀ j u, l[j]? = some u → w.cell? ⟨b, j, none⟩ = some u) (hg : ∀ u ∈ l, ground 2 u = true) :
    OR g c (.cells l.toArray t none) (.cells R t (0, 0)) := by
  have at_ : ∀ j u, l[j]? = some u → R[j]? = some u := fun j u hu => by
    have := hl j u hu
    unfold World.cell? at this
    unfold Bk at hb
    dsimp only at this
    rw [hb] at this
    exact this
  refine ⟨rfl, rfl, ?_, fun s hs => (by cases hs), fun i hi => .inr ?_⟩
  · by_cases h0 : l = []
    · subst h0; simp
    · have h1 : l.length - 1 < l.length := by have := List.length_pos_iff.2 h0; omega
      have h2 := at_ _ _ (List.getElem?_eq_getElem h1)
      have := (Array.getElem?_eq_some_iff.1 h2).1
      simp; omega
  · have hi' : i < l.length := by simpa using hi
    have h2 := at_ _ _ (List.getElem?_eq_getElem hi')
    have e1 : l.toArray.getD i undef = l[i] := by simp [Array.getD_eq_getD_getElem?, hi']
    have e2 : R.getD i undef = l[i] := by rw [Array.getD_eq_getD_getElem?, h2]; rfl
    rw [e1, e2]
    exact VR.of_ground g 2 _ (hg _ (List.getElem_mem hi'))
theorem lies_block {w : World} {B b : Nat} {l : List Value} (h : Lies w B (some ⟨b, 0, none⟩) l) : ∀ j u, l[j]? = some u → w.cell? ⟨b, j, none⟩ = some u := fun j u hu => by
  obtain ⟨ad, e, _, h3⟩ := h (by intro e; rw [e] at hu; cases hu)
  cases e
  have := h3 j u hu
  have e : (⟨b, 0, none⟩ : Addr).add j = ⟨b, j, none⟩ := by unfold Addr.add; split <;> simp_all
  rw [e] at this; exact this

theorem fitsC {f : Nat} {args args' : Array Value} {H : Tr AO} {m : Nat} {v : Value} {l : List AO} (h : extC f args H m = some (v, l)) {q : Nat → Option (Nat × Nat)} {w : World} (hn : ∀ i, m ≤ i → i < m + l.length → q i = none) (hob : HoB H q w) (har : AR q args args') :
    Calls Try.prog f args' w fun e w' => ∃ v' g, e = .returned v' ∧ VR g v v' ∧ MadeL q g m l w w' := by
  obtain ⟨y, hg, ha, hy, hv⟩ := (extC_inv h).ex
  cases hv
  subst hg
  obtain ⟨t, d, rfl, g1, g2⟩ := two_args har ha
  obtain ⟨C, rfl, g3⟩ := VR.agg_inv g1
  rw [VR.int_inv g2]
  have hY : YardAt w w.heap.size C (exY false) := yard_of hy rfl (by simp) g3 hob
  have hO := exY_ok false
  refine (close_ok C (exY false) 2 w hY (exY_small false) hO (by decide) (by decide) (by decide)).mono fun e w' ⟨C', h1, h2, h3, h4⟩ => ?_
  rw [closedY] at h2 h4
  obtain ⟨a, b, c, ca, cb, cc, R4, R6, R7, k1, k2, k3, e4, e6, e7, b4, b6, b7, l4, l6, l7⟩ := (h4 (by intro e; cases e) (by intro e; cases e)).out
  obtain ⟨A1, c1, x1, L1⟩ := h2.cl
  obtain ⟨A2, c2, x2, L2⟩ := h2.pi
  obtain ⟨A3, c3, x3, L3⟩ := h2.ma
  rw [e4] at x1; cases x1
  rw [e6] at x2; cases x2
  rw [e7] at x3; cases x3
  have hq0 := hn m (Nat.le_refl _) (by show m < m + 3; omega)
  have hq1 := hn (m + 1) (by omega) (by show m + 1 < m + 3; omega)
  have hq2 := hn (m + 2) (by omega) (by show m + 2 < m + 3; omega)
  obtain ⟨g, hgd⟩ : ∃ g : Nat → Option (Nat × Nat), g = fun i => if i = m then some (a, ca) else if i = m + 1 then some (b, cb) else if i = m + 2 then some (c, cc) else q i := ⟨_, rfl⟩
  have gm : g m = some (a, ca) := by rw [hgd]; simp
  have gm1 : g (m + 1) = some (b, cb) := by rw [hgd]; simp
  have gm2 : g (m + 2) = some (c, cc) := by rw [hgd]; simp
  refine ⟨_, g, h1, ?_, ?_⟩
  · refine .tuple rfl fun i hi => ?_
    match i, hi with
    | 0, _ =>
      refine .agg ?_ fun i => ?_
      · rw [h2.size]; rfl
      · by_cases h24 : i < 24
        · have k1 := h2.se i h24
          have k2 : (((seas.map int1 ++ [.slice (some ⟨m, 0, none⟩) 2 unk, .slice (some ⟨m + 1, 0, none⟩) 2 unk, .slice (some ⟨m + 2, 0, none⟩) 1 unk, int1 1]).toArray)).getD i undef = int1 (seas.getD i 0) := by
            have hs : i < seas.length := h24
            rw [Array.getD_eq_getD_getElem?, List.getElem?_toArray, List.getElem?_append_left (by simpa using hs), List.getElem?_map, List.getElem?_eq_getElem hs, List.getD_eq_getElem?_getD, List.getElem?_eq_getElem hs]; rfl
          rw [k2, Array.getD_eq_getD_getElem?, k1]
          exact .int _ _
        · by_cases e0 : i = 24
          · subst e0
            rw [Array.getD_eq_getD_getElem? (xs := C'), e4]
            exact .slice gm (.inr ⟨rfl, l4, fun _ => rfl⟩)
          by_cases e1 : i = 25
          · subst e1
            rw [Array.getD_eq_getD_getElem? (xs := C'), e6]
            exact .slice gm1 (.inr ⟨rfl, l6, fun _ => rfl⟩)
          by_cases e2 : i = 26
          · subst e2
            rw [Array.getD_eq_getD_getElem? (xs := C'), e7]
            exact .slice gm2 (.inr ⟨rfl, l7, fun _ => rfl⟩)
          by_cases e3 : i = 27
          · subst e3
            rw [Array.getD_eq_getD_getElem? (xs := C'), h2.dry]
            exact .int _ _
          · have n1 : C'.getD i undef = undef := by
              rw [Array.getD_eq_getD_getElem?, Array.getElem?_eq_none (by rw [h2.size]; omega)]; rfl
            rw [n1, Array.getD_eq_getD_getElem?, Array.getElem?_eq_none (by simp [seas]; omega)]
            exact VR.und _
    | 1, _ => exact .int _ _
    | i + 2, h => exact absurd h (by show ¬ i + 2 < 2; omega)
  · refine ⟨fun i b hb => ?_, fun i hi => ?_, fun k o ho => ?_, fun i j b' c' d' hi1 hi2 hj1 hj2 hgi hgj => ?_, h3⟩
    · have n0 : i ≠ m := fun e => by subst e; rw [hq0] at hb; cases hb
      have n1 : i ≠ m + 1 := fun e => by subst e; rw [hq1] at hb; cases hb
      have n2 : i ≠ m + 2 := fun e => by subst e; rw [hq2] at hb; cases hb
      rw [hgd]; simp only [n0, n1, n2, if_false]; exact hb
    · have hl : closedRows.length = 3 := rfl
      rw [hl] at hi
      have n0 : i ≠ m := by omega
      have n1 : i ≠ m + 1 := by omega
      have n2 : i ≠ m + 2 := by omega
      rw [hgd]; simp only [n0, n1, n2, if_false]
    · match k, ho with
      | 0, rfl => exact ⟨a, ca, _, gm, k1, b4, or_cells b4 (l := [int1 2, int1 3]) (lies_block L1) (by decide)⟩
      | 1, rfl => exact ⟨b, cb, _, gm1, by omega, b6, or_cells b6 (l := [int1 0, int1 2, int1 2, int1 0, int1 5, int1 9]) (lies_block L2) (by decide)⟩
      | 2, rfl => exact ⟨c, cc, _, gm2, by omega, b7, or_cells b7 (l := [.string ⟨#[97, 110, 110]⟩, int1 0, int1 100, int1 4]) (lies_block L3) (by intro u hu; simp only [List.mem_cons, List.not_mem_nil, or_false] at hu; rcases hu with rfl | rfl | rfl | rfl <;> rfl)⟩
      | k + 3, h => cases h
    · have hl : closedRows.length = 3 := rfl
      rw [hl] at hi2 hj2
      have ci : i = m ∨ i = m + 1 ∨ i = m + 2 := by omega
      have cj : j = m ∨ j = m + 1 ∨ j = m + 2 := by omega
      rcases ci with rfl | rfl | rfl <;> rcases cj with rfl | rfl | rfl <;> first | rfl | (exfalso; simp only [gm, gm1, gm2, Option.some.injEq, Prod.mk.injEq] at hgi hgj; omega)

theorem E2_fits (w : World) : Fits E2 w.heap.size w fun _ => none := fun q _ j args args' H v w' _ hob har =>
  ⟨fun he => (by cases he), fun he => callsIn_wide.2 (fitsF he hob har), fun m l hn he => callsIn_wide.2 (fitsC he hn hob har)⟩

/-- a call without arguments, reckoned out -/
theorem closed_call {E : Env} (hE : EnvOk E) {k g : Nat} {v : Value} {H : Tr AO} {n : Nat} (h : callF E (exec E k) 0 g #[] .e 0 = some (v, H, n)) (hg : ground 2 v = true) (w : World) (hF : Fits E w.heap.size w fun _ => none) :
    Calls E.P g #[] w fun e w' => e = .returned v ∧ Below w.heap.size w w' := by
  obtain ⟨_, hc⟩ := callF_ok hE (exec_sound hE k) h (Nat.le_refl _) (fun i _ => Tr.get_e i)
  have := hc (B := ⟨w.heap.size, 0, Nat.le_refl _⟩) (w0 := w) (p := fun _ => none) (h := fun _ => none) (w := w) (args' := #[]) (R := fun e w' => e = .returned v ∧ Below w.heap.size w w') (ro := none)
    (fun i o hi => by rw [Tr.get_e] at hi; cases hi) (fun i _ _ => rfl) ⟨Nat.le_refl _, Below.refl _ _, hF, fun i o hi => (by cases hi), fun i j b k k' hi => (by cases hi)⟩ (AR.empty _)
    (fun v' w' q hv _ hr => ⟨by rw [VR.eq_of_ground 2 hg hv], hr.low⟩)
  exact callsIn_wide.1 this

set_option maxRecDepth 100000 in
theorem works_run : isTrueR (callF E2 (exec E2 100000) 0 15 #[] .e 0) = true := by decide +kernel
theorem works_any (w : World) : Calls Try.prog 15 #[] w fun e w' => e = .returned (.bool true) ∧ Below w.heap.size w w' := by
  have h := works_run
  unfold isTrueR at h
  split at h
  · rename_i b H n hc
    subst h
    exact closed_call E2_ok hc rfl w (E2_fits w)
  · cases h
end Go.Proofs.Ytjgnikmnadmheaa
