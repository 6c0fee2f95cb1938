/- What Arrange's walk asks of lists of indices: slices.Contains (133), slices.ContainsFunc (134) with the closure about what is barred (135). -/
import Derived.RangeFuncWrites
import Derived.Test.YtkfeagokmcakgaaGreatDoorG08

set_option linter.unusedVariables false
set_option linter.unusedSimpArgs false

namespace Go.Proofs.YtkfeagokmcakgaaGreatDoor
open Go.RowKit

def nats (L : List Nat) : List Value := L.map fun i : Nat => Value.int .i64 (i : Int)
theorem nats_len (L : List Nat) : (nats L).length = L.length := by simp [nats]
theorem nat_at {w : World} {B : Nat} {A : Option Addr} {l : List Nat} (h : Lies w B A (nats l)) {k : Nat} (hk : k < l.length) : ∃ ad, A = some ad ∧ ad.block < B ∧ w.cell? (ad.add k) = some (.int .i64 (l[k] : Int)) := by
  obtain ⟨ad, u, h1, h2, h3, h4⟩ := h.at_ (k := k) (by simpa [nats] using hk)
  obtain rfl : u = .int .i64 (l[k] : Int) := by simp [nats, List.getElem?_eq_getElem hk] at h3; exact h3.symm
  exact ⟨ad, h1, h2, h4⟩
set_option maxHeartbeats 400000 in
theorem idx167_any (l : List Nat) (A : Option Addr) (c : Nat) (x : Nat) (w : World) (hl : Lies w w.heap.size A (nats l)) (hm : l.length ≤ 1000) :
    Calls Tryz.prog 167 #[.slice A l.length c, .int .i64 x] w fun e w' => e = .returned (.int .i64 (idxL (fun y => decide (y = x)) l)) ∧ w = w' := by
  go_enter Tryz.func167, Tryz.ntmps167
  go_wp2
  go_loop [8] (fun y => ∃ k : Nat, k ≤ l.length ∧ y = .int .i64 k ∧ Hid (∀ j (hj : j < k) (h' : j < l.length), decide (l[j] = x) = false)) (fun y => l.length - (intOf y).toNat)
  case atStart => exact ⟨0, by omega, rfl, fun j hj => absurd hj (by omega)⟩
  case round =>
    obtain ⟨k, hk, rfl, hg⟩ := hrel
    by_cases hlt : k < l.length
    · obtain ⟨ad, rfl, _, hcell⟩ := nat_at hl hlt
      clear hl
      by_cases h0 : l[k] = x
      · have H : Hid (idxL (fun y => decide (y = x)) l = (k : Int)) := by
          have := idxL_drop (fun y => decide (y = x)) l k hk hg.out (.inr ⟨hlt, decide_eq_true h0⟩)
          rw [if_pos hlt] at this; exact this
        have he : ((x : Int) == (l[k] : Int)) = true := by rw [beq_iff_eq]; omega
        clear h0
        go_wp2
        go_ret
        exact ⟨ret_int H.out.symm, rfl⟩
      · have H : Hid (∀ j (hj : j < k + 1) (h' : j < l.length), decide (l[j] = x) = false) := fun j hj h' => by
          by_cases e : j = k
          · subst e; exact decide_eq_false h0
          · exact hg.out j (by omega) h'
        have he : ((x : Int) == (l[k] : Int)) = false := by rw [beq_eq_false_iff_ne]; omega
        clear h0
        go_wp2
        go_round
        case rel => exact ⟨k + 1, by omega, by go_num, H⟩
        case measure => simp [intOf]; omega
    · obtain rfl : k = l.length := by omega
      have H : Hid (idxL (fun y => decide (y = x)) l = -1) := by
        have := idxL_drop (fun y => decide (y = x)) l _ hk hg.out (.inl rfl)
        rw [if_neg (by omega)] at this; exact this
      go_wp2
      go_ret
      exact ⟨ret_int H.out.symm, rfl⟩
set_option maxHeartbeats 400000 in
theorem contains133_any (l : List Nat) (A : Option Addr) (c : Nat) (x : Nat) (w : World) (hl : Lies w w.heap.size A (nats l)) (hm : l.length ≤ 1000) :
    Calls Tryz.prog 133 #[.slice A l.length c, .int .i64 x] w (BoolEnd (l.any fun y => decide (y = x)) w) := by
  have HX := Lib.hid (idx167_any l A c x w hl hm)
  clear hl
  go_enter Tryz.func133, Tryz.ntmps133
  go_wp2_with (go_at_call 167; refine HX.out.mono ?_; rintro e w' ⟨rfl, rfl⟩)
  go_ret
  exact ⟨congrArg (fun b => Ending.returned (.bool b)) (idxL_dec _ _), rfl⟩
/-- what lies in a stack: its colours, and what is barred -/
structure StkW (bs : Nat) (A : Option Addr) (n c : Nat) (bar : Nat → Nat → Bool) (w : World) : Prop where
  col : w.cell? ⟨bs, 0, none⟩ = some (.slice A n c)
  bar : ∀ i k, i < 8 → k < 8 → w.cell? ⟨bs, 1 + (i * 8 + k), none⟩ = some (.bool (bar i k))
set_option maxHeartbeats 400000 in
theorem clo135_any (bs b1 b2 : Nat) (A : Option Addr) (n c : Nat) (bar : Nat → Nat → Bool) (i k : Nat) (w : World) (h1 : w.cell? ⟨b1, 0, none⟩ = some (.pointer (some ⟨bs, 0, none⟩))) (h2 : w.cell? ⟨b2, 0, none⟩ = some (.int .i64 i)) (hw : StkW bs A n c bar w) (hi : i < 8) (hk : k < 8) :
    Calls Tryz.prog 135 #[.int .i64 k, .pointer (some ⟨b1, 0, none⟩), .pointer (some ⟨b2, 0, none⟩)] w (ShEnd (bar i k) w) := by
  have hc : w.cell? ⟨bs, 1 + i * 8 + k, none⟩ = some (.bool (bar i k)) := by rw [Nat.add_assoc]; exact hw.bar i k hi hk
  have hiI : (i : Int) < 8 := by omega
  have hkI : (k : Int) < 8 := by omega
  have q0 := hw.col
  clear hw
  go_enter Tryz.func135, Tryz.ntmps135
  go_wp2
  go_region
  all_goals
    go_wp2
    go_ret
    exact sh_ret rfl (by repeat (first | with_reducible exact Below.refl _ _ | with_reducible assumption | with_reducible refine Below.drew ?_ | with_reducible refine below_drewN ?_ _ | (with_reducible refine Below.alloc ?_ ?_ _; rotate_left; (try simp) <;> omega) | (with_reducible refine Below.setCell ?_ ?_ _; rotate_left; (try simp) <;> omega)))
theorem StkW.below {bs n c : Nat} {A : Option Addr} {bar : Nat → Nat → Bool} {w w' : World} (h : StkW bs A n c bar w) (hb : Below w.heap.size w w') (hlt : bs < w.heap.size) : StkW bs A n c bar w' := ⟨(hb.cell hlt).trans h.col, fun i k hi hk => (hb.cell hlt).trans (h.bar i k hi hk)⟩
theorem cell_lt {W : World} {p : Addr} {v : Value} (h : W.cell? p = some v) : p.block < W.heap.size := World.block_lt_of_cell? W p h
set_option maxHeartbeats 400000 in
theorem idx168_any (bs b1 b2 : Nat) (A : Option Addr) (n c : Nat) (bar : Nat → Nat → Bool) (i : Nat) (l : List Nat) (A' : Option Addr) (c' : Nat) (w : World) (hl : Lies w w.heap.size A' (nats l)) (hm : l.length ≤ 1000) (h8 : ∀ k ∈ l, k < 8)
    (h1 : w.cell? ⟨b1, 0, none⟩ = some (.pointer (some ⟨bs, 0, none⟩))) (h2 : w.cell? ⟨b2, 0, none⟩ = some (.int .i64 i)) (hw : StkW bs A n c bar w) (hi : i < 8) :
    Calls Tryz.prog 168 #[.slice A' l.length c', .func (.func 135) #[] #[.pointer (some ⟨b1, 0, none⟩), .pointer (some ⟨b2, 0, none⟩)]] w fun e w' => e = .returned (.int .i64 (idxL (bar i) l)) ∧ Below w.heap.size w w' := by
  have HP : Hid (∀ k : Nat, k < 8 → ∀ W : World, Below w.heap.size w W → Calls Tryz.prog 135 #[.int .i64 k, .pointer (some ⟨b1, 0, none⟩), .pointer (some ⟨b2, 0, none⟩)] W (ShEnd (bar i k) W)) := fun k hk W hb => clo135_any bs b1 b2 A n c bar i k W ((hb.cell (cell_lt h1)).trans h1) ((hb.cell (cell_lt h2)).trans h2) (hw.below hb (cell_lt hw.col)) hi hk
  have HL := Lib.hid hl
  clear h1 h2 hw hl
  go_enter Tryz.func168, Tryz.ntmps168
  go_wp2
  go_loopw [8] (fun y wr => ∃ k : Nat, k ≤ l.length ∧ y = .int .i64 k ∧ Hid (∀ j (hj : j < k) (h' : j < l.length), bar i l[j] = false) ∧ Below w.heap.size w wr) (fun y _ => l.length - (intOf y).toNat)
  case atStart => exact ⟨0, by omega, rfl, fun j hj => absurd hj (by omega), Below.refl _ _⟩
  case round =>
    obtain ⟨k, hk, rfl, hg, hbw⟩ := hrel
    have hbs := hbw.size
    by_cases hlt : k < l.length
    · obtain ⟨ad, rfl, _, c0⟩ := nat_at (HL.out.below hbw (Nat.le_refl _)) hlt
      have HC := Lib.hid (HP.out l[k] (h8 _ (List.getElem_mem hlt)))
      by_cases h0 : bar i l[k] = true
      · have H : Hid (idxL (bar i) l = (k : Int)) := by
          have := idxL_drop (bar i) l k hk hg.out (.inr ⟨hlt, h0⟩)
          rw [if_pos hlt] at this; exact this
        have H0 := Lib.hid h0; clear h0
        go_wp2_with (go_at_call 135; refine (HC.out _ hbw).mono ?_; rintro e w1 ⟨rfl, hb⟩; rw [H0.out])
        go_ret
        exact ⟨ret_int H.out.symm, hbw.trans (hb.mono (by omega))⟩
      · have h0' : bar i l[k] = false := by simpa using h0
        have H : Hid (∀ j (hj : j < k + 1) (h' : j < l.length), bar i l[j] = false) := fun j hj h' => by
          by_cases e : j = k
          · subst e; exact h0'
          · exact hg.out j (by omega) h'
        have H0 := Lib.hid h0'; clear h0 h0'
        go_wp2_with (go_at_call 135; refine (HC.out _ hbw).mono ?_; rintro e w1 ⟨rfl, hb⟩; rw [H0.out])
        go_roundw
        case rel => exact ⟨k + 1, by omega, by go_num, H, hbw.trans (hb.mono (by omega))⟩
        case measure => simp [intOf]; omega
    · obtain rfl : k = l.length := by omega
      have H : Hid (idxL (bar i) l = -1) := by
        have := idxL_drop (bar i) l _ hk hg.out (.inl rfl)
        rw [if_neg (by omega)] at this; exact this
      go_wp2
      go_ret
      exact ⟨ret_int H.out.symm, hbw⟩
set_option maxHeartbeats 400000 in
theorem any134_any (bs b1 b2 : Nat) (A : Option Addr) (n c : Nat) (bar : Nat → Nat → Bool) (i : Nat) (l : List Nat) (A' : Option Addr) (c' : Nat) (w : World) (hl : Lies w w.heap.size A' (nats l)) (hm : l.length ≤ 1000) (h8 : ∀ k ∈ l, k < 8)
    (h1 : w.cell? ⟨b1, 0, none⟩ = some (.pointer (some ⟨bs, 0, none⟩))) (h2 : w.cell? ⟨b2, 0, none⟩ = some (.int .i64 i)) (hw : StkW bs A n c bar w) (hi : i < 8) :
    Calls Tryz.prog 134 #[.slice A' l.length c', .func (.func 135) #[] #[.pointer (some ⟨b1, 0, none⟩), .pointer (some ⟨b2, 0, none⟩)]] w (ShEnd (l.any (bar i)) w) := by
  have HX := Lib.hid (idx168_any bs b1 b2 A n c bar i l A' c' w hl hm h8 h1 h2 hw hi)
  have HE := Lib.hid (idxL_dec (bar i) l)
  clear hl h1 h2 hw
  go_enter Tryz.func134, Tryz.ntmps134
  go_wp2_with (go_at_call 168; refine HX.out.mono ?_; rintro e w1 ⟨rfl, hb⟩)
  go_ret
  exact sh_ret HE.out hb
end Go.Proofs.YtkfeagokmcakgaaGreatDoor

namespace Go.Proofs.YtkfeagokmcakgaaGreatDoor
open Go.RowKit

/-- stays true whatever is turned from B on -/
def OwnC (B : Nat) (J : World → Prop) : Prop := ∀ W W' row, J W → W.grownBy W' row → (∀ r, row = some r → B ≤ r) → J W'
theorem OwnC.putObj {B : Nat} {J : World → Prop} (h : OwnC B J) {W : World} {l : Nat} (o' : Obj) (hs : J W) (hB : B ≤ l) : J (W.putObj l o') := h W _ (some l) hs (grownBy_putObj' W l o') (fun r e => by cases e; exact hB)
theorem OwnC.alloc {B : Nat} {J : World → Prop} (h : OwnC B J) {W : World} (o : Obj) (hs : J W) : J (W.alloc o) := h W _ none hs (World.grownBy_alloc W o none) (fun r e => by cases e)
section
variable {F : Fence} {n : Nat} {P : Program} {α : Type}
/-- the iterator's word: it hands over no element, or one of which Pre holds; then the loop stops -/
def SeqO (F : Fence) (n : Nat) (P : Program) (g : Nat) (fa lb : Array Value) (encs : α → Array Value) (Pre : α → World → Prop) (S : Prop) (Sp : α → Prop) (w : World) : Prop :=
  ∀ (l : Nat) (J : World → Prop) (Jx : α → World → Prop) (W : World), l < W.heap.size → Below w.heap.size w W → OwnC W.heap.size J →
    (∀ x W1, J W1 → Pre x W1 → YieldAt F (n - 1) P l (encs x) W1 fun e W' => e = .returned (.bool false) ∧ Jx x W') →
    J W → CallsIn F n P g (fa ++ #[.func (.yield l) #[] #[]] ++ lb) W fun e W' => (∃ v, e = .returned v) ∧ ((S ∧ J W') ∨ (∃ x, Sp x ∧ Jx x W'))
abbrev recAt (fn : FuncId) (a : Act) (ps : Array Tmp) (assign body : Code) (d : Nat) (st : LoopState) (pe : Option Code) : Loop := { state := st, pending := pe, fn, tmps := a.tmps, params := ps, assign, body, defers := d }
theorem rangeFunc_once {g : Operand} {ps : Array Tmp} {assign body : Code} {Q : Exit → Act → World → Prop} {a : Act} {w w0 : World} (hro : F.round = none) (h1 : 1 ≤ n) {gf : Nat} {fa lb : Array Value} (hg : a.eval g = .func (.func gf) fa lb) (hFg : F.fn gf)
    (eg : ∀ args w, (callFunc gf args).run P w = .ok (.enter gf args) w) {encs : α → Array Value} {Pre : α → World → Prop} {S : Prop} {Sp : α → Prop} (hseq : SeqO F (n - 1) P gf fa lb encs Pre S Sp w0)
    (hb0 : Below w0.heap.size w0 w) (hps : ∀ x, (encs x).size = ps.size)
    (I : World → Prop) (Ix : α → World → Prop) (hI : OwnC w.heap.size I) (hIx : ∀ x (W : World) l o o', Ix x W → w.heap.size ≤ l → W.heap[l]? = some o → o.isCells = false → Ix x (W.putObj l o')) (hPre : ∀ x (W : World) l o o', Pre x W → W.heap[l]? = some o → o.isCells = false → Pre x (W.putObj l o')) (h0 : I w) (a₁ : α → Act)
    (hassign : ∀ (l : Nat) (x : α) (W : World) (K : Act → World → Prop), K (a₁ x) W → assign.wpIn (F.inRound l) (n - 1 - 1) P (Exit.then K (fun _ _ _ => False)) { tmps := (ps.zip (encs x)).foldl (fun t (p, v) => t.setIfInBounds p v) a.tmps, defers := [] } W)
    (hbody : ∀ (l : Nat) (x : α) (W : World), I W → Pre x W → body.wpIn (F.inRound l) (n - 1 - 1) P (fun e _ W' => e = .ret ∧ KeepsFrom w.heap.size W W' ∧ Ix x W') (a₁ x) W)
    (hdone : ∀ (D : Nat) (W : World), w.heap.size ≤ D → S → I W → W.heap[D]? = some (.deferred (some [])) → Q .normal { a with defers := { target := .collected D, args := #[] } :: a.defers } W)
    (hstop : ∀ (D : Nat) (x : α) (W : World), w.heap.size ≤ D → Sp x → Ix x W → W.heap[D]? = some (.deferred (some [])) → Code.ret.wpIn F n P Q { a with defers := { target := .collected D, args := #[] } :: a.defers } W) :
    (Code.rangeFunc g ps assign body).wpIn F n P Q a w := by
  refine wpIn_rangeFunc fun fn hfn => ?_
  rw [hro]
  let R := recAt fn a ps assign body w.heap.size
  let D := w.heap.size
  let l := w.heap.size + 1
  have hW : ∃ W1, (w.alloc (.deferred (some []))).alloc (.loop (R .ready none)) = W1 := ⟨_, rfl⟩
  obtain ⟨W1, hW1⟩ := hW
  have z1 : W1.heap.size = w.heap.size + 2 := by rw [← hW1]; simp
  have q1 : W1.heap[l]? = some (.loop (R .ready none)) := by
    have := World.alloc_heap_new (w.alloc (.deferred (some []))) (.loop (R .ready none))
    rw [World.size_alloc, hW1] at this
    exact this
  have q2 : W1.heap[D]? = some (.deferred (some [])) := by rw [← hW1]; exact (Below.heap_alloc _ _ _ (by simp [D])).trans (World.alloc_heap_new w _)
  have q3 : Below w0.heap.size w0 W1 := by rw [← hW1]; exact hb0.trans ((((Below.refl _ w).alloc (Nat.le_refl _) _).alloc (by simp) _).mono hb0.size)
  have q4 : I W1 := by rw [← hW1]; exact hI.alloc _ (hI.alloc _ h0)
  refine ⟨l, [{ target := .collected D, args := #[] }], W1, { target := .fn (.func gf) lb, args := fa ++ #[.func (.yield l) #[] #[]] }, W1, gf, fa ++ #[.func (.yield l) #[] #[]] ++ lb, W1, by rw [← hW1]; exact run_enterLoop_outer _ _ _ _ _, by simp only [resolve, hg]; simp [go_sem, l], fun f' hf' => by simp [Target.leads] at hf'; subst hf'; exact hFg, by simp [invoke, go_sem, eg], fun _ => h1, ?_⟩
  have turn : ∀ {row : Option Nat}, (∀ r, row = some r → W1.heap.size ≤ r) → ∀ r, row = some r → w.heap.size ≤ r := fun hr r e => by have := hr r e; omega
  have held : ∀ {A B : World} {row : Option Nat} {k : Nat} {o : Obj}, A.grownBy B row → (∀ r, row = some r → W1.heap.size ≤ r) → k < W1.heap.size → A.heap[k]? = some o → B.heap[k]? = some o := fun hg' hr hlt hk => (hg'.block _ (Array.getElem?_eq_some_iff.1 hk).1 (fun e => by have := hr _ e.symm; omega)).trans hk
  have hl1 : l < W1.heap.size := by simp [l]; omega
  have hD1 : D < W1.heap.size := by simp [D]; omega
  refine CallsIn.mono (hseq l (fun W => I W ∧ W.heap[l]? = some (.loop (R .ready none)) ∧ W.heap[D]? = some (.deferred (some []))) (fun x W => Ix x W ∧ W.heap[l]? = some (.loop (R .done (some .ret))) ∧ W.heap[D]? = some (.deferred (some []))) W1 hl1 q3
    (fun A B row hs hg' hr => ⟨hI A B row hs.1 hg' (turn hr), held hg' hr hl1 hs.2.1, held hg' hr hD1 hs.2.2⟩) ?_ ⟨q4, q1, q2⟩) ?_
  · rintro x W ⟨hi, hl, hk⟩ hpx
    have hlt : l < W.heap.size := (Array.getElem?_eq_some_iff.1 hl).1
    let Wb := W.putObj l (.loop { R .ready none with state := .busy })
    have b1 : Wb.heap[l]? = some (.loop { R .ready none with state := .busy }) := World.putObj_heap_same hlt
    have b2 : Wb.heap[D]? = some (.deferred (some [])) := (World.putObj_heap_other (by simp [l, D])).trans hk
    refine ⟨fn, _, assign, body, run_yield (P := P) (args := encs x) hl (hps x), roundIn_of_wpIn hfn (hassign _ x W _ ⟨_, run_beginRound hl rfl, ?_⟩)⟩
    refine wpIn_mono (hbody _ x Wb (hI.putObj _ hi (by simp [l])) (hPre x W l _ _ hpx hl rfl)) ?_
    rintro e a3 W3 ⟨rfl, hk3, hi3⟩
    have c1 := hk3.same _ _ (by simp [l]) b1 rfl
    exact ⟨_, _, run_endRound (P := P) (some .ret) c1, rfl, hIx x _ _ _ _ hi3 (by simp [l]) c1 rfl, World.putObj_heap_same (Array.getElem?_eq_some_iff.1 c1).1, (World.putObj_heap_other (by simp [l, D])).trans (hk3.same _ _ (by simp [D]) b2 rfl)⟩
  · rintro e W2 ⟨⟨v, rfl⟩, (⟨hS, hi, hl, hk⟩ | ⟨x, hSp, hi, hl, hk⟩)⟩
    · exact ⟨none, _, run_endLoop (P := P) hl (by simp [R, recAt]), hdone _ _ (Nat.le_refl _) hS (hI.putObj _ hi (by simp [l])) ((World.putObj_heap_other (by simp [l, D])).trans hk)⟩
    · exact ⟨some .ret, _, run_endLoop (P := P) hl (by simp [R, recAt]), hstop _ x _ (Nat.le_refl _) hSp (hIx x _ _ _ _ hi (by simp [l]) hl rfl) ((World.putObj_heap_other (by simp [l, D])).trans hk)⟩
end
end Go.Proofs.YtkfeagokmcakgaaGreatDoor
