/- The second machine's append: it is sound. -/
import Derived.Test.YtkjceegmmhnajaaM5c
namespace Go.Proofs.Ytkjceegmmhnajaa
open Go.RowKit

section
variable {P : Program} {tv : Nat → Option TV} {p : Nat → Option (Nat × Nat)} {r r' : Operand → Value}

theorem drew_heap (w : World) : w.drew.heap = w.heap := rfl

theorem zeroCells_size (z : Array Value) (n : Nat) : (Builtin.zeroCells z n).size = n * z.size := by simp [Builtin.zeroCells]

theorem HR.new_cells {B : Nat} {w0 w : World} {h : Hp} (hr : HR B w0 p h w) {n k s e : Nat} (hn : p n = none) {c c' : Array Value} (hc : PreR p c c') (hk : k * s ≤ c'.size) :
    HR B w0 (newp p n w.heap.size k) (upd h [(n, some (.cells c e (some s)))]) (w.drew.alloc (.cells c' e)) := by
  refine (HR.drew hr).new hn ⟨rfl, rfl, hc.1, fun s' hs => ?_, fun i hi => (hc.2 i hi).mono (ext_new hn _ _).ext⟩
  cases hs; exact hk

theorem aAppend_keys {lo n n' : Nat} {args : Array Operand} {argTypes : Array TypeId} {H : Tr AO} {v : Value} {d : Dl} (ha : aAppend tv lo args argTypes r H n = some (v, d, n')) : ∀ e ∈ d, (n ≤ e.1 ∧ e.1 < n') ∨ ∃ x ∈ args, ∃ o l c, r x = .slice (some ⟨e.1, o, none⟩) l c := by
  have dl1 : ∀ x : AO, ∀ e ∈ ([(n, some x)] : Dl), (n ≤ e.1 ∧ e.1 < n + 1) ∨ ∃ x ∈ args, ∃ o l c, r x = .slice (some ⟨e.1, o, none⟩) l c := fun x e he => by simp at he; subst he; exact .inl ⟨by simp, by simp⟩
  have nil : ∀ m, ∀ e ∈ ([] : Dl), (n ≤ e.1 ∧ e.1 < m) ∨ ∃ x ∈ args, ∃ o l c, r x = .slice (some ⟨e.1, o, none⟩) l c := fun m e he => by simp at he
  unfold aAppend at ha
  split at ha
  case h_2 => cases ha
  rename_i a0 a1 t tx hargs _
  have ha0 : a0 ∈ args := by rw [← Array.mem_toList_iff, hargs]; simp
  split at ha
  case h_2 => cases ha
  split at ha
  case h_2 => cases ha
  split at ha
  case h_2 => cases ha
  split at ha
  case isFalse => cases ha
  split at ha
  case h_2 => cases ha
  split at ha
  case isTrue => cases ha
  split at ha
  · split at ha
    case isFalse => cases ha
    split at ha
    · cases ha; exact nil _
    · split at ha
      case isFalse => cases ha
      cases ha; exact dl1 _
  · rename_i b o l c hr0
    split at ha
    · split at ha
      case isFalse => cases ha
      cases ha; exact nil _
    · split at ha
      case h_2 => cases ha
      split at ha
      case isFalse => cases ha
      split at ha
      · split at ha
        · split at ha
          case isFalse => cases ha
          cases ha
          intro e he; simp at he; subst he; exact .inr ⟨a0, ha0, o, l, c, hr0⟩
        · split at ha
          case isFalse => cases ha
          cases ha; exact dl1 _
      · split at ha
        case isFalse => cases ha
        cases ha
        intro e he
        simp at he
        rcases he with rfl | rfl
        · exact .inl ⟨by simp, by simp⟩
        · exact .inr ⟨a0, ha0, o, l, c, hr0⟩
  · cases ha

theorem aAppend_dl {lo n n' : Nat} {args : Array Operand} {argTypes : Array TypeId} {H : Tr AO} {v : Value} {d : Dl} (hlo : lo ≤ n) (ha : aAppend tv lo args argTypes r H n = some (v, d, n')) : DlOk lo H d n n' := by
  have dl1 : ∀ x : AO, DlOk lo H [(n, some x)] n (n + 1) := fun x => ⟨by omega, fun e he => by simp at he; subst he; exact ⟨hlo, .inr ⟨by simp, by simp⟩⟩, fun i h1 h2 => ⟨_, List.mem_singleton.2 rfl, by simp; omega⟩⟩
  unfold aAppend at ha
  split at ha
  case h_2 => cases ha
  split at ha
  case h_2 => cases ha
  split at ha
  case h_2 => cases ha
  split at ha
  case h_2 => cases ha
  split at ha
  case isFalse => cases ha
  split at ha
  case h_2 => cases ha
  split at ha
  case isTrue => cases ha
  split at ha
  · split at ha
    case isFalse => cases ha
    split at ha
    · cases ha; exact .nil _ _ _
    · split at ha
      case isFalse => cases ha
      cases ha; exact dl1 _
  · split at ha
    · split at ha
      case isFalse => cases ha
      cases ha; exact .nil _ _ _
    · split at ha
      case h_2 => cases ha
      rename_i b _ _ _ _ _ _ _ _ hcs
      split at ha
      case isFalse => cases ha
      split at ha
      · split at ha
        · split at ha
          case isFalse => cases ha
          rename_i hcond
          cases ha
          exact ⟨Nat.le_refl _, fun e he => by simp at he; subst he; exact ⟨hcond.1, .inl (by simp [hcs])⟩, fun i h1 h2 => by omega⟩
        · split at ha
          case isFalse => cases ha
          cases ha; exact dl1 _
      · split at ha
        case isFalse => cases ha
        rename_i hcond
        cases ha
        refine ⟨by omega, fun e he => ?_, fun i h1 h2 => ⟨(n, _), List.mem_cons_self .., by simp; omega⟩⟩
        simp at he
        rcases he with rfl | rfl
        · exact ⟨hlo, .inr ⟨by simp, by simp⟩⟩
        · exact ⟨hcond.2.2.1, .inl (by simp [hcs])⟩
  · cases ha

theorem aAppend_ok (hT : TvOk P tv) {B : Nat} {w0 w : World} {h : Hp} (hr : HR B w0 p h w) {lo n n' : Nat} {args : Array Operand} {argTypes : Array TypeId} {type : Nat} {H : Tr AO} {v : Value} {d : Dl}
    (hn : ∀ i, n ≤ i → i < n' → p i = none) (hlo : lo ≤ n) (hS : ∀ x ∈ args, ∀ b o l c, r x = .slice (some ⟨b, o, none⟩) l c → ∀ y, H.get b = some y → h b = some y) (hv : ∀ x ∈ args, VR p (r x) (r' x))
    (ha : aAppend tv lo args argTypes r H n = some (v, d, n')) :
    DlOk lo H d n n' ∧ ∃ v' w' q, (Builtin.append_ argTypes type (args.map r')).run P w = .ok v' w' ∧ VR q v v' ∧ Ext p q n n' ∧ HR B w0 q (upd h d) w' := by
  obtain ⟨argsL⟩ := args
  obtain ⟨atL⟩ := argTypes
  unfold aAppend at ha
  simp only [sizeQ_eq, allOne_eq, catQ_eq, extQ_eq] at ha
  split at ha
  case h_2 => cases ha
  rename_i a0 a1 t tx
  split at ha
  case h_2 => cases ha
  rename_i T X hTt hXt
  split at ha
  case h_2 => cases ha
  rename_i e hund
  split at ha
  case h_2 => cases ha
  rename_i E hE
  split at ha
  case isFalse => cases ha
  rename_i hXu
  have hXi : X.und = .string ∨ ∃ q, X.und = .slice q := by
    cases hh : X.und <;> simp [hh, appendable] at hXu
    · exact .inl rfl
    · exact .inr ⟨_, rfl⟩
  split at ha
  case h_2 => cases ha
  rename_i m nw hnews
  split at ha
  case isTrue => cases ha
  rename_i hnw
  have hnw : nw.size = m * E.size := by simpa using hnw
  have hv0 := hv a0 (by simp)
  have hv1 := hv a1 (by simp)
  obtain ⟨nw', hnw', hnar⟩ := aNews_ok (P := P) hr (fun b o m c hx => hS a1 (by simp) b o m c hx) hv1 hnews
  have hnws : nw'.size = m * E.size := by rw [← hnar.1]; exact hnw
  have uT := fun w => run_und hT hTt w
  have uX := fun w => run_und hT hXt w
  have uE := fun w => run_sizeOf' hT hE w
  have uZ := fun w => run_zero' hT hE w
  obtain ⟨⟨inf, hinf, _, hby, _⟩, _⟩ := hT.ok e E hE
  have uB : ∀ w, (typeInfo e).run P w = .ok inf w := fun w => by simp [typeInfo, hinf]
  have hzs := zeroSize hT hE
  have room := fun {s : Value} {l cap : Nat} {base : Option Addr} (hs : s = .slice base l cap) (hroom : l + m ≤ cap) =>
    run_append_room (P := P) (w := w) (type := type) uT hund uX hXi uE hs (hnw' w rfl).1 (hnw' w rfl).2 hroom
  have fresh := fun {s : Value} {l cap : Nat} {base : Option Addr} {old : Array Value} (hs : s = .slice base l cap) (hfo : (Builtin.firstCells E.size l s).run P w.drew = .ok old w.drew) (hroom : ¬ l + m ≤ cap) (hbig : bigOk (l + m) E.bytes = true) =>
    run_append_new (P := P) (w := w) (type := type) (E := E) uT hund uX hXi uE uB hby uZ hs (hnw' w rfl).1 (hnw' w.drew rfl).2 hfo hroom (by simp [bigOk] at hbig; exact hbig.1) (by simp [bigOk] at hbig; omega)
  have dl1 : ∀ x : AO, DlOk lo H [(n, some x)] n (n + 1) := fun x => ⟨by omega, fun e he => by simp at he; subst he; exact ⟨hlo, .inr ⟨by simp, by simp⟩⟩, fun i h1 h2 => ⟨_, List.mem_singleton.2 rfl, by simp; omega⟩⟩
  rw [show Array.map r' ({ toList := [a0, a1] } : Array Operand) = #[r' a0, r' a1] from by simp]
  split at ha
  · -- nil
    rename_i l c hr0
    rw [hr0] at hv0
    have e0 : r' a0 = .slice none l c := by generalize r' a0 = z at hv0; cases hv0; rfl
    split at ha
    case isFalse => cases ha
    rename_i hlc
    obtain ⟨rfl, rfl⟩ := hlc
    split at ha
    · rename_i hm
      cases ha
      refine ⟨.nil _ _ _, .slice none 0 0, w, p, ?_, .nilslice _ _, Ext.refl _ _, hr⟩
      rw [room e0 (by omega)]
      subst hm
      simp
    · rename_i hm
      split at ha
      case isFalse => cases ha
      rename_i hbig
      cases ha
      obtain ⟨cap', hcap, hrun⟩ := fresh e0 (old := #[]) (by rw [e0]; rfl) (by omega) (by simpa using hbig)
      have hn0 := hn n (Nat.le_refl _) (by omega)
      refine ⟨dl1 _, _, _, newp p n w.heap.size cap', hrun, ?_, ext_new hn0 _ _, ?_⟩
      · rw [Nat.zero_add]
        exact .slice (by simp [newp]) (.inr ⟨rfl, by omega, fun _ => rfl⟩)
      · refine HR.new_cells hr hn0 (PreR.of_get (by simp [hnar.1]) fun i x x' hx hx' => ?_) ?_
        · obtain ⟨u, hu, hvr⟩ := hnar.get i x hx
          have hi : i < nw'.size := (Array.getElem?_eq_some_iff.1 hu).1
          simp [Array.getElem?_append, hi] at hx'
          have h6 : nw'[i]? = some x' := by rw [Array.getElem?_eq_getElem hi, hx']
          rw [h6] at hu; cases hu; exact hvr
        · simp only [Array.size_append, zeroCells_size, hzs, hnws]
          have : cap' * E.size = m * E.size + (cap' - m) * E.size := by rw [← Nat.add_mul]; congr 1; omega
          simp; omega
  · -- a row
    rename_i b o l c hr0
    rw [hr0] at hv0
    obtain ⟨b', c', k, e0, hb, hcap⟩ := hv0.slice_inv
    have hSb := hS a0 (by simp) b o l c hr0
    split at ha
    · rename_i hm
      split at ha
      case isFalse => cases ha
      rename_i hlc
      cases ha
      subst hm
      refine ⟨.nil _ _ _, .slice (some ⟨b', o, none⟩) l c', w, p, ?_, .slice hb hcap, Ext.refl _ _, hr⟩
      rw [room e0 (by rcases hcap with ⟨_, rfl⟩ | ⟨_, h1, _⟩ <;> omega)]
      have : nw' = #[] := Array.size_eq_zero_iff.1 (by rw [hnws]; simp)
      subst this
      simp [storeCells]
    · rename_i hm
      split at ha
      case h_2 => cases ha
      rename_i cs e' sz hcs
      obtain ⟨hBb, cs', hblk, hpre, hsz⟩ := hr.cells (hSb _ hcs) hb
      have hb1 : b' < w.heap.size := (Array.getElem?_eq_some_iff.1 hblk).1
      split at ha
      case isFalse => cases ha
      rename_i hext
      have old : (Builtin.firstCells E.size l (r' a0)).run P w.drew = .ok (cs'.extract o (o + l * E.size)) w.drew := by
        rw [e0]; simp only [Builtin.firstCells]
        exact run_loadCells' (by rw [drew_heap]; exact hblk) (Nat.le_trans hext hpre.1)
      have hox := hpre.extract (i := o) hext
      have hosz : (cs'.extract o (o + l * E.size)).size = l * E.size := by have := hpre.1; simp; omega
      -- a new row
      have new : ¬ l + m ≤ c' → bigOk (l + m) E.bytes = true → ∃ v' w' q, (Builtin.append_ #[t, tx] type #[r' a0, r' a1]).run P w = .ok v' w' ∧ VR q (.slice (some ⟨n, 0, none⟩) (l + m) unk) v' ∧
          (p n = none → Ext p q n (n + 1) ∧ HR B w0 q (upd h [(n, some (.cells (cs.extract o (o + l * E.size) ++ nw) e (some E.size)))]) w') := fun h1 h2 => by
        obtain ⟨cap', hcap', hrun⟩ := fresh e0 old h1 h2
        refine ⟨_, _, newp p n w.heap.size cap', hrun, .slice (by simp [newp]) (.inr ⟨rfl, by omega, fun _ => rfl⟩), fun hn0 => ⟨ext_new hn0 _ _, ?_⟩⟩
        refine HR.new_cells hr hn0 (PreR.join hox hnar (fun i hi => ?_) ?_) ?_
        · rw [hox.1, hnar.1] at hi
          rw [Array.getElem?_append_left (by simpa using hi)]
        · rw [hox.1, hnar.1]; simp only [Array.size_append]; omega
        · simp only [Array.size_append, zeroCells_size, hzs, hnws, hosz]
          have : cap' * E.size = l * E.size + m * E.size + (cap' - (l + m)) * E.size := by rw [← Nat.add_mul, ← Nat.add_mul]; congr 1; omega
          omega
      -- in place
      have place : l + m ≤ c' → o + (l + m) * E.size ≤ cs'.size → nw.toList.all (·.oneCell') = true →
          (Builtin.append_ #[t, tx] type #[r' a0, r' a1]).run P w = .ok (.slice (some ⟨b', o, none⟩) (l + m) c') (w.putObj b' (.cells (setAll (o + l * E.size) nw'.toList 0 cs') e' (0, 0))) := fun h1 h2 h3 => by
        rw [room e0 h1]
        have hmul : (l + m) * E.size = l * E.size + m * E.size := Nat.add_mul _ _ _
        have := run_storeCells' (P := P) (o := o + l * E.size) nw'.toList 0 cs' w hblk (ones hnar h3) (by simp [hnws]; omega)
        simp only [add_eq, this, Result.andThen_ok]
      split at ha
      · -- the capacity is known
        rename_i hlt
        have hcc : c = c' := by rcases hcap with ⟨_, h⟩ | ⟨h, _⟩ <;> omega
        subst hcc
        split at ha
        · rename_i hle
          split at ha
          case isFalse => cases ha
          rename_i hcond
          obtain ⟨g1, g2, g3⟩ := hcond
          rw [setAllQ_eq (by simp [hnw]; rw [Nat.add_mul] at g2; omega)] at ha
          cases ha
          refine ⟨⟨Nat.le_refl _, fun e he => by simp at he; subst he; exact ⟨g1, .inl (by simp [hcs])⟩, fun i h1 h2 => by omega⟩, _, _, p, place hle (Nat.le_trans g2 hpre.1) g3, .slice hb (.inl ⟨hlt, rfl⟩), Ext.refl _ _, ?_⟩
          refine hr.put (hSb _ hcs) hb ?_ (by simp) (fun k hk => World.putObj_heap_other hk) (World.putObj_heap_same hb1) rfl rfl rfl
          have hmul : (l + m) * E.size = l * E.size + m * E.size := Nat.add_mul _ _ _
          have hp := PreR.setAll (p := p) (o := o + l * E.size) nw.toList nw'.toList 0 cs cs' (by simpa using hnar.1) (fun j x x' hx hx' => by
            obtain ⟨u, hu, hvr⟩ := hnar.get j x (by simpa using hx)
            have : u = x' := by simp at hx'; rw [hx'] at hu; cases hu; rfl
            subst this; exact hvr) (by simp [hnw]; omega) hpre
          exact ⟨rfl, rfl, hp.1, fun s hs => by rw [setAll_size]; exact hsz s hs, hp.2⟩
        · rename_i hle
          split at ha
          case isFalse => cases ha
          rename_i hbig
          cases ha
          obtain ⟨v', w', q, h1, h2, h3⟩ := new hle hbig
          have := h3 (hn n (Nat.le_refl _) (by omega))
          exact ⟨dl1 _, v', w', q, h1, h2, this.1, this.2⟩
      · -- it is not
        rename_i hlt
        split at ha
        case isFalse => cases ha
        rename_i hcond
        obtain ⟨g1, g2, g3, g4, g5, g6, g7⟩ := hcond
        subst g1 g2 g4 g5
        cases ha
        have hk : l ≤ c' ∧ c' = k := by rcases hcap with ⟨h, _⟩ | ⟨_, h1, h2⟩; exact absurd h (Nat.lt_irrefl _); exact ⟨h1, h2 rfl⟩
        obtain ⟨hk1, rfl⟩ := hk
        have hn0 := hn n (Nat.le_refl _) (by omega)
        have hbn : b ≠ n := fun e => by subst e; rw [hn0] at hb; cases hb
        refine ⟨⟨by omega, fun e he => ?_, fun i h1 h2 => ⟨(n, _), List.mem_cons_self .., by simp; omega⟩⟩, ?_⟩
        · simp at he
          rcases he with rfl | rfl
          · exact ⟨hlo, .inr ⟨by simp, by simp⟩⟩
          · exact ⟨g3, .inl (by simp [hcs])⟩
        · simp only [Nat.zero_add] at *
          by_cases hroom : l + m ≤ c'
          · have hks := hsz E.size rfl
            have h2 : (l + m) * E.size ≤ cs'.size := Nat.le_trans (Nat.mul_le_mul_right _ hroom) hks
            refine ⟨_, _, newp p n b' c', place hroom h2 g6, .slice (by simp [newp]) (.inr ⟨rfl, by omega, fun _ => rfl⟩), ext_new hn0 _ _, ?_⟩
            refine hr.move (hSb _ hcs) hb hn0 ?_ (by simp) (fun k hk => World.putObj_heap_other hk) (World.putObj_heap_same hb1) rfl rfl rfl
            have hext2 := (ext_new hn0 b' c').ext
            have hmul : (l + m) * E.size = l * E.size + m * E.size := Nat.add_mul _ _ _
            have hj : PreR p (cs.extract 0 (l * E.size) ++ nw) (setAll (l * E.size) nw'.toList 0 cs') := by
              refine PreR.join hox hnar (fun i hi => ?_) ?_
              · rw [setAll_get]
                rw [hox.1, hnar.1] at hi
                by_cases h3 : i < l * E.size
                · rw [if_neg (by omega), Array.getElem?_append_left (by rw [hosz]; exact h3), Array.getElem?_extract]
                  rw [if_pos (by have := hpre.1; omega)]; simp
                · rw [if_pos (by simp; omega), Array.getElem?_append_right (by rw [hosz]; omega), hosz]
                  simp
              · rw [setAll_size, hox.1, hnar.1, hosz, hnws]; omega
            exact ⟨rfl, rfl, hj.1, fun s hs => by cases hs; rw [setAll_size]; exact hks, fun i hi => (hj.2 i hi).mono hext2⟩
          · obtain ⟨v', w', q, h1, h2, h3⟩ := new hroom g7
            have := h3 hn0
            refine ⟨v', w', q, h1, h2, this.1, this.2.sub fun i x hi => ?_⟩
            simp only [upd] at hi ⊢
            by_cases e1 : i = n
            · simpa [e1] using hi
            · rw [if_neg e1] at hi ⊢
              by_cases e2 : i = b
              · simp [e2] at hi
              · rw [if_neg e2] at hi; exact hi
  · cases ha
end
end Go.Proofs.Ytkjceegmmhnajaa
