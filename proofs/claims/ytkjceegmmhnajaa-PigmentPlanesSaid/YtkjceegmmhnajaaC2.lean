/- Reach finds nothing where no choice of tints gives the shade. -/
import Derived.Test.YtkjceegmmhnajaaC1
import Derived.Test.YtkjceegmmhnajaaA2e
namespace Go.Proofs.Ytkjceegmmhnajaa
open Go.RowKit

theorem allQ_mem {α : Type} {f : α → Bool} {l : List α} (h : allQ f l = true) {x : α} (hx : x ∈ l) : f x = true := by
  rw [allQ_eq] at h
  exact List.all_eq_true.1 h x hx
theorem okI_int {n : Nat} {v : Value} (h : okI n v = true) : ∃ k : Int, v = .int .i64 k ∧ 0 ≤ k ∧ k < n := by
  unfold okI at h
  split at h
  · rename_i k
    cases k with
    | ofNat m =>
      have : m < n := Nat.blt_eq ▸ h
      exact ⟨_, rfl, by simp, by simpa using this⟩
    | negSucc m => cases h
  · cases h
theorem ints_of {n : Nat} : ∀ (l : List Value), (∀ v ∈ l, okI n v = true) → ∃ L : List Int, l = ints L ∧ ∀ i ∈ L, 0 ≤ i ∧ i < n
  | [], _ => ⟨[], rfl, fun i hi => by cases hi⟩
  | v :: l, h => by
    obtain ⟨k, rfl, hk⟩ := okI_int (h v (by simp))
    obtain ⟨L, rfl, hL⟩ := ints_of l (fun u hu => h u (by simp [hu]))
    exact ⟨k :: L, rfl, fun i hi => by rcases List.mem_cons.1 hi with rfl | hi; exact hk; exact hL i hi⟩

theorem okArg_lies {n : Nat} {v v' : Value} {H : Tr AO} {q : Nat → Option (Nat × Nat)} {w : World} (h : okArg n v H = true) (hv : VR q v v')
    (hob : ∀ i o, H.get i = some o → ∃ b k o', q i = some (b, k) ∧ w.heap[b]? = some o' ∧ OR q k o o') :
    ∃ (A : Addr) (c : Nat) (L : List Int), v' = .slice (some A) L.length c ∧ Lies w w.heap.size (some A) (ints L) ∧ (1 ≤ L.length ∧ L.length ≤ 4) ∧ ∀ i ∈ L, 0 ≤ i ∧ i < n := by
  unfold okArg at h
  split at h
  case h_2 => cases h
  rename_i b o m cp
  split at h
  case h_2 => cases h
  rename_i row e sz hb
  cases h1 : Nat.beq e 3 with
  | false => rw [h1] at h; cases h
  | true =>
  rw [h1] at h
  cases h2 : Nat.ble 1 m with
  | false => rw [h2] at h; cases h
  | true =>
  rw [h2] at h
  cases h4 : Nat.ble m 4 with
  | false => rw [h4] at h; cases h
  | true =>
  rw [h4] at h
  cases h3 : Nat.ble (o + m) (lenQ row.toList) with
  | false => rw [h3] at h; cases h
  | true =>
  rw [h3] at h
  dsimp only at h
  have h2' := Nat.le_of_ble_eq_true h2
  have h4' := Nat.le_of_ble_eq_true h4
  have h3' : o + m ≤ row.size := by have := Nat.le_of_ble_eq_true h3; rw [lenQ_eq] at this; simpa using this
  rw [allQ_eq, takeQ_eq, dropQ_eq, List.all_eq_true] at h
  obtain ⟨L, hL, hall⟩ := ints_of _ h
  have hlen : L.length = m := by
    have := congrArg List.length hL
    simp [ints] at this
    omega
  subst hlen
  obtain ⟨b', k, o', g1, g2, g3⟩ := hob b _ hb
  cases hv with
  | @slice _ b2 _ _ _ c' _ hp hc =>
    rw [g1] at hp; cases hp
    cases o' with
    | cells cs e' fr =>
      obtain ⟨_, _, g4, _, g5⟩ := g3
      refine ⟨⟨b', o, none⟩, c', L, rfl, fun _ => ⟨_, rfl, (Array.getElem?_eq_some_iff.1 g2).1, fun j u hu => ?_⟩, ⟨h2', h4'⟩, hall⟩
      have hj : j < L.length := by have := (List.getElem?_eq_some_iff.1 hu).1; simpa [ints] using this
      have e1 : (⟨b', o, none⟩ : Addr).add j = ⟨b', o + j, none⟩ := by unfold Addr.add; split <;> simp_all
      have hu2 : row.toList[o + j]? = some u := by
        have := hu
        rw [← hL, List.getElem?_take, if_pos hj, List.getElem?_drop] at this
        exact this
      have hlt : o + j < row.size := by omega
      have h5 := g5 (o + j) hlt
      have hru : row.getD (o + j) undef = u := by
        rw [Array.getD_eq_getD_getElem?]
        have : row[o + j]? = some u := by simpa using hu2
        rw [this]; rfl
      rw [hru] at h5
      obtain ⟨i, rfl⟩ : ∃ i, u = .int .i64 i := by
        have := List.mem_of_getElem? hu
        simp [ints] at this
        obtain ⟨i, _, rfl⟩ := this
        exact ⟨i, rfl⟩
      have h6 := VR.int_inv h5
      rw [e1]
      have hcs : o + j < cs.size := by omega
      have h7 : cs[o + j]? = some (.int .i64 i) := by
        rw [Array.getD_eq_getD_getElem?, Array.getElem?_eq_getElem hcs] at h6
        rw [Array.getElem?_eq_getElem hcs]
        exact congrArg some h6
      unfold World.cell?
      dsimp only
      rw [g2]
      exact h7
    | _ => exact g3.elim

theorem isT_eq {n : Nat} {v : Value} (h : isT n v = true) : v = tA n := by
  unfold isT at h
  split at h
  · rename_i m
    obtain rfl := Nat.eq_of_beq_eq_true h
    rfl
  · cases h
theorem isW_eq {v : Value} (h : isW v = true) : v = wA := by
  unfold isW at h
  split at h
  · rename_i c
    split at h
    · rename_i hc
      obtain ⟨cl⟩ := c
      dsimp only at hc
      subst hc
      rfl
    · cases h
  · cases h

theorem ER_ok (n : Nat) : EnvOk (ER n) := ⟨E0_ok.tv, E0_ok.mixed, E0_ok.fns, fun f args H v h => by
  have h' : extR n f args H = some v := h
  have h36 : f = 36 → ∃ fn c, Try.prog.funcs[f]? = some fn ∧ fn.body = some c ∧ (fn.name == "runtime.NumGoroutine") = false := fun e => by
    subst e; exact ⟨_, _, Try.func36, rfl, by kernel_rfl⟩
  have h69 : f = 69 → ∃ fn c, Try.prog.funcs[f]? = some fn ∧ fn.body = some c ∧ (fn.name == "runtime.NumGoroutine") = false := fun e => by
    subst e; exact ⟨_, _, Try.func69, rfl, by kernel_rfl⟩
  unfold extR at h'
  split at h'
  · cases h1 : Nat.beq f 36 with
    | false => rw [h1] at h'; cases h'
    | true => exact h36 (Nat.eq_of_beq_eq_true h1)
  · cases h1 : Nat.beq f 69 with
    | false => rw [h1] at h'; cases h'
    | true => exact h69 (Nat.eq_of_beq_eq_true h1)
  · cases h'⟩

theorem noReach_eq {x : Option (Value × Tr AO × Nat)} (h : noReach x = true) : ∃ H k, x = some (.tuple #[.agg #[.slice none 0 0], .bool false, .int .i64 0], H, k) := by
  unfold noReach at h
  split at h
  · rename_i a H k
    split at h
    · rename_i c ha
      split at h
      · rename_i hc
        obtain ⟨al⟩ := a
        obtain ⟨cl⟩ := c
        dsimp only at ha hc
        subst hc
        subst ha
        exact ⟨H, k, rfl⟩
      · cases h
    · cases h
  · cases h

theorem spot_none {w : World} {a : Addr} {v : Value} (h : w.cell? a = some v) : a.spot = none := by
  unfold World.cell? at h
  split at h
  · split at h
    · cases h
    · rename_i hs
      cases hx : a.spot with
      | none => rfl
      | some y => simp [hx] at hs
  · cases h

theorem far_inv {q : Nat → Option (Nat × Nat)} {n b o c : Nat} {v : Value} (h : VR q (tA n) v) (h0 : q 0 = some (b, o)) (h1 : q 1 = some (c, 0)) : v = .slice (some ⟨b, o, none⟩) n c := by
  unfold tA at h
  cases h with
  | far g g2 =>
    rw [h0] at g; cases g
    rw [h1] at g2; cases g2
    rfl
theorem alias_inv {q : Nat → Option (Nat × Nat)} {j b : Nat} {v : Value} (h : VR q (.chan (some j)) v) (h0 : q j = some (b, 0)) : v = .int .i64 b := by
  cases h with
  | alias g =>
    rw [h0] at g; cases g
    simp
theorem want_inv {q : Nat → Option (Nat × Nat)} {x y z : Nat} {v : Value} (h : VR q wA v) (h2 : q 2 = some (x, 0)) (h3 : q 3 = some (y, 0)) (h4 : q 4 = some (z, 0)) : v = .agg #[.int .i64 x, .int .i64 y, .int .i64 z] := by
  obtain ⟨a, rfl, har⟩ := VR.agg_inv h
  obtain ⟨u0, e0, g0⟩ := har.get 0 _ rfl
  obtain ⟨u1, e1, g1⟩ := har.get 1 _ rfl
  obtain ⟨u2, e2, g2⟩ := har.get 2 _ rfl
  have hs : a.size = 3 := har.1.symm
  have k0 := alias_inv g0 h2
  have k1 := alias_inv g1 h3
  have k2 := alias_inv g2 h4
  subst k0; subst k1; subst k2
  congr 1
  apply Array.ext_getElem?
  intro i
  match i with
  | 0 => exact e0
  | 1 => exact e1
  | 2 => exact e2
  | i + 3 => rw [Array.getElem?_eq_none (by omega), Array.getElem?_eq_none (by simp)]

theorem two_args {p : Nat → Option (Nat × Nat)} {args args' : Array Value} (h : AR p args args') {t w : Value} (he : args.toList = [t, w]) : ∃ t' w', args' = #[t', w'] ∧ VR p t t' ∧ VR p w w' := by
  obtain ⟨al⟩ := args
  dsimp only at he
  subst he
  obtain ⟨u0, e0, g0⟩ := h.get 0 _ rfl
  obtain ⟨u1, e1, g1⟩ := h.get 1 _ rfl
  have hs : args'.size = 2 := h.1.symm
  refine ⟨u0, u1, ?_, g0, g1⟩
  apply Array.ext_getElem?
  intro i
  match i with
  | 0 => exact e0
  | 1 => exact e1
  | i + 2 => rw [Array.getElem?_eq_none (by omega), Array.getElem?_eq_none (by simp)]
theorem three_args {p : Nat → Option (Nat × Nat)} {args args' : Array Value} (h : AR p args args') {t l w : Value} (he : args.toList = [t, l, w]) : ∃ t' l' w', args' = #[t', l', w'] ∧ VR p t t' ∧ VR p l l' ∧ VR p w w' := by
  obtain ⟨al⟩ := args
  dsimp only at he
  subst he
  obtain ⟨u0, e0, g0⟩ := h.get 0 _ rfl
  obtain ⟨u1, e1, g1⟩ := h.get 1 _ rfl
  obtain ⟨u2, e2, g2⟩ := h.get 2 _ rfl
  have hs : args'.size = 3 := h.1.symm
  refine ⟨u0, u1, u2, ?_, g0, g1, g2⟩
  apply Array.ext_getElem?
  intro i
  match i with
  | 0 => exact e0
  | 1 => exact e1
  | 2 => exact e2
  | i + 3 => rw [Array.getElem?_eq_none (by omega), Array.getElem?_eq_none (by simp)]

theorem reach_none (l : List Tn) (x y z : Int) (At : Option Addr) (ct : Nat) (w : World) (hlt : Lies w w.heap.size At (tintsC l)) (hn : l.length ∈ [1, 2, 3, 4, 5, 6, 7]) (hx : 0 ≤ x) (hy : 0 ≤ y) (hz : 0 ≤ z)
    (hW : ∀ W, Below w.heap.size w W → Calls Try.prog 36 #[.slice At l.length ct, .agg #[.int .i64 x, .int .i64 y, .int .i64 z]] W (IntEnd 0 W))
    (hR : ∀ W, Below w.heap.size w W → ∀ (A : Addr) (c : Nat) (L : List Int), Lies W W.heap.size (some A) (ints L) → (1 ≤ L.length ∧ L.length ≤ 4) → (∀ i ∈ L, 0 ≤ i ∧ i < l.length) →
      Calls Try.prog 69 #[.slice At l.length ct, .slice (some A) L.length c, .agg #[.int .i64 x, .int .i64 y, .int .i64 z]] W (fun e W' => e = .returned (.tuple #[.agg #[.slice none 0 0], .bool false]) ∧ Below W.heap.size W W')) :
    Calls Try.prog 15 #[.slice At l.length ct, .agg #[.int .i64 x, .int .i64 y, .int .i64 z]] w (fun e w' => e = .returned (.tuple #[.agg #[.slice none 0 0], .bool false, .int .i64 0]) ∧ Below w.heap.size w w') := by
  obtain ⟨H', k, hrun⟩ := noReach_eq (allQ_mem runs_R hn)
  obtain ⟨ad, rfl, hab, hcell⟩ : ∃ ad, At = some ad ∧ ad.spot = none ∧ True := by
    have hne : tintsC l ≠ [] := by
      intro e
      have h5 : 0 = l.length * 5 := by rw [← tintsC_length l, e]; rfl
      have h6 : l.length = 0 := by omega
      rw [h6] at hn
      simp at hn
    obtain ⟨ad, e, _, hc⟩ := hlt hne
    obtain ⟨u, hu⟩ : ∃ u, (tintsC l)[0]? = some u := by
      cases hl : tintsC l with
      | nil => exact absurd hl hne
      | cons x r => exact ⟨x, rfl⟩
    have := spot_none (hc 0 u hu)
    have e0 : ad.add 0 = ad := by unfold Addr.add; simp
    rw [e0] at this
    exact ⟨ad, e, this, trivial⟩
  obtain ⟨b, o, sp⟩ := ad
  dsimp only at hab
  subst hab
  obtain ⟨x', rfl⟩ : ∃ x' : Nat, x = x' := ⟨x.toNat, by omega⟩
  obtain ⟨y', rfl⟩ : ∃ y' : Nat, y = y' := ⟨y.toNat, by omega⟩
  obtain ⟨z', rfl⟩ : ∃ z' : Nat, z = z' := ⟨z.toNat, by omega⟩
  obtain ⟨_, hc⟩ := callF_ok (ER_ok l.length) (exec_sound (ER_ok l.length) 100000) hrun (Nat.le_refl _) (fun i _ => Tr.get_e i)
  let p : Nat → Option (Nat × Nat) := fun i => if i = 0 then some (b, o) else if i = 1 then some (ct, 0) else if i = 2 then some (x', 0) else if i = 3 then some (y', 0) else if i = 4 then some (z', 0) else none
  have hgr : ground 3 (.tuple #[.agg #[.slice none 0 0], .bool false, .int .i64 0]) = true := rfl
  refine callsIn_wide.1 (hc (B := ⟨w.heap.size, 0, Nat.zero_le _⟩) (w0 := w) (p := p) (h := fun _ => none) (w := w) (ro := none) (fun i o hi => by rw [Tr.get_e] at hi; cases hi) (fun i h1 h2 => ?_) ⟨Nat.le_refl _, Below.refl _ _, ?_, fun i o hi => (by cases hi), fun i j b k k' hi => (by cases hi)⟩ ?_
    (fun v' w' q hv _ hr => ⟨by rw [VR.eq_of_ground 3 hgr hv], hr.low⟩))
  · show (if i = 0 then _ else if i = 1 then _ else if i = 2 then _ else if i = 3 then _ else if i = 4 then _ else _) = _
    rw [if_neg (by omega), if_neg (by omega), if_neg (by omega), if_neg (by omega), if_neg (by omega)]
  · intro q hq j args args' H v W hb hob har
    refine ⟨(fun he => nomatch he), fun he => ?_⟩
    have he' : extR l.length j args H = some v := he
    have q0 := hq 0 (b, o) rfl
    have q1 := hq 1 (ct, 0) rfl
    have q2 := hq 2 (x', 0) rfl
    have q3 := hq 3 (y', 0) rfl
    have q4 := hq 4 (z', 0) rfl
    unfold extR at he'
    split at he'
    · rename_i t wv hargs
      cases h1 : Nat.beq j 36 with
      | false => rw [h1] at he'; cases he'
      | true =>
      rw [h1] at he'
      cases h2 : isT l.length t with
      | false => rw [h2] at he'; cases he'
      | true =>
      rw [h2] at he'
      cases h3 : isW wv with
      | false => rw [h3] at he'; cases he'
      | true =>
      rw [h3] at he'
      cases he'
      obtain rfl := Nat.eq_of_beq_eq_true h1
      obtain rfl := isT_eq h2
      obtain rfl := isW_eq h3
      obtain ⟨t', w', rfl, g1, g2⟩ := two_args har hargs
      rw [far_inv g1 q0 q1, want_inv g2 q2 q3 q4]
      exact callsIn_wide.2 ((hW W hb).mono fun e w1 ⟨h4, h5⟩ => ⟨_, h4, .int _ _, h5⟩)
    · rename_i t lv wv hargs
      cases h1 : Nat.beq j 69 with
      | false => rw [h1] at he'; cases he'
      | true =>
      rw [h1] at he'
      cases h2 : isT l.length t with
      | false => rw [h2] at he'; cases he'
      | true =>
      rw [h2] at he'
      cases h3 : isW wv with
      | false => rw [h3] at he'; cases he'
      | true =>
      rw [h3] at he'
      cases h4 : okArg l.length lv H with
      | false => rw [h4] at he'; cases he'
      | true =>
      rw [h4] at he'
      cases he'
      obtain rfl := Nat.eq_of_beq_eq_true h1
      obtain rfl := isT_eq h2
      obtain rfl := isW_eq h3
      obtain ⟨t', l', w', rfl, g1, g3, g2⟩ := three_args har hargs
      obtain ⟨A, c, L, rfl, k1, k2, k3⟩ := okArg_lies h4 g3 hob
      rw [far_inv g1 q0 q1, want_inv g2 q2 q3 q4]
      exact callsIn_wide.2 ((hR W hb A c L k1 k2 k3).mono fun e w1 ⟨h5, h6⟩ => ⟨_, h5, VR.of_ground q 2 _ rfl, h6⟩)
    · cases he'
  · refine AR.of_get rfl fun i v v' h1 h2 => ?_
    match i with
    | 0 => cases h1; cases h2; exact .far rfl rfl
    | 1 =>
      cases h1; cases h2
      refine .agg rfl fun i => ?_
      match i with
      | 0 => exact (show VR p (.chan (some 2)) (.int .i64 ((x' : Int) - ((0 : Nat) : Int))) from .alias rfl)
      | 1 => exact (show VR p (.chan (some 3)) (.int .i64 ((y' : Int) - ((0 : Nat) : Int))) from .alias rfl)
      | 2 => exact (show VR p (.chan (some 4)) (.int .i64 ((z' : Int) - ((0 : Nat) : Int))) from .alias rfl)
      | i + 3 => exact .und p
    | i + 2 => simp at h1
end Go.Proofs.Ytkjceegmmhnajaa
