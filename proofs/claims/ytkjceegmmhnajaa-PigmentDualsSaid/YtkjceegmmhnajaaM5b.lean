/- The second machine's append. -/
import Derived.Test.YtkjceegmmhnajaaM5
namespace Go.Proofs.Ytkjceegmmhnajaa
open Go.RowKit

section
variable {P : Program} {tv : Nat → Option TV} {p : Nat → Option (Nat × Nat)} {r r' : Operand → Value}

/-- what is appended -/
noncomputable def aNews (size : Nat) (x : Value) (H : Tr AO) : Option (Nat × Array Value) :=
  match x with
  | .slice none m _ => if m = 0 then some (0, #[]) else none
  | .slice (some ⟨b, o, none⟩) m _ => match H.get b with
    | some (.cells c _ _) => Bool.rec none (some (m, extQ c o (Nat.mul m size))) (Nat.ble (Nat.add o (Nat.mul m size)) (sizeQ c))
    | _ => none
  | .string s => some (s.size, (s.extract 0 s.size).data.map fun b => .int .u8 b.toNat)
  | _ => none

theorem aNews_ok {B : Nat} {w0 w : World} {h : Hp} (hr : HR B w0 p h w) {H : Tr AO} {size : Nat} {x x' : Value} (hS : ∀ b o m c, x = .slice (some ⟨b, o, none⟩) m c → ∀ y, H.get b = some y → h b = some y) (hx : VR p x x') {m : Nat} {nw : Array Value}
    (ha : aNews size x H = some (m, nw)) : ∃ nw', (∀ w', w'.heap = w.heap → (Builtin.lenOf x').run P w' = .ok m w' ∧ (Builtin.firstCells size m x').run P w' = .ok nw' w') ∧ AR p nw nw' := by
  unfold aNews at ha
  split at ha
  · rename_i m' c
    split at ha
    · rename_i h0
      cases ha; subst h0
      have : x' = .slice none 0 c := by cases hx; rfl
      subst this
      exact ⟨#[], fun w' _ => ⟨rfl, rfl⟩, AR.empty p⟩
    · cases ha
  · rename_i b o m' c
    obtain ⟨b', c', k, rfl, hb, _⟩ := hx.slice_inv
    split at ha
    · rename_i cs e sz hcs
      obtain ⟨_, cs', hblk, hpre, _⟩ := hr.cells (hS b o m' c rfl _ hcs) hb
      rw [sizeQ_eq, extQ_eq] at ha
      cases hle : Nat.ble (Nat.add o (Nat.mul m' size)) cs.size with
      | true =>
        rw [hle] at ha
        have hle : o + m' * size ≤ cs.size := Nat.le_of_ble_eq_true hle
        cases ha
        refine ⟨cs'.extract o (o + m * size), fun w' hw' => ⟨rfl, ?_⟩, hpre.extract hle⟩
        simp only [Builtin.firstCells]
        exact run_loadCells' (by rw [hw']; exact hblk) (Nat.le_trans hle hpre.1)
      | false => rw [hle] at ha; cases ha
    · cases ha
  · rename_i s
    cases ha
    have : x' = .string s := by cases hx; rfl
    subst this
    refine ⟨_, fun w' _ => ⟨rfl, rfl⟩, AR.of_get rfl fun i v v' hv hv' => ?_⟩
    rw [hv] at hv'; cases hv'
    rw [Array.getElem?_map] at hv
    obtain ⟨u, _, rfl⟩ := Option.map_eq_some_iff.1 hv
    exact .int _ _
  · cases ha

theorem growBy_le (need : Nat) : ∀ (rounds c : Nat), c ≤ 2 * need + 400 → Builtin.growBy need rounds c ≤ 2 * need + 400
  | 0, c, h => h
  | rounds + 1, c, h => by
    unfold Builtin.growBy
    split
    · exact h
    · exact growBy_le need rounds _ (by omega)

theorem nextslicecap_le {need cap : Nat} (h : cap < need) : Builtin.nextslicecap need cap ≤ 2 * need + 400 := by
  unfold Builtin.nextslicecap
  split
  · omega
  · split
    · omega
    · exact growBy_le need 4 cap (by omega)

/-- append, where there is room -/
theorem run_append_room {t tx e size : Nat} {s x : Value} {T X : TypeDesc} {w : World} {m l cap : Nat} {base : Option Addr} {nw : Array Value} {type : Nat}
    (hT : ∀ w, (underlying t).run P w = .ok T w) (hTe : T = .slice e) (hX : ∀ w, (underlying tx).run P w = .ok X w) (hXi : X = .string ∨ ∃ q, X = .slice q) (hE : ∀ w, (sizeOf e).run P w = .ok size w)
    (hs : s = .slice base l cap) (hlen : (Builtin.lenOf x).run P w = .ok m w) (hfc : (Builtin.firstCells size m x).run P w = .ok nw w) (hroom : l + m ≤ cap) :
    (Builtin.append_ #[t, tx] type #[s, x]).run P w = ((match base with | some a => storeCells (a.add (l * size)) nw.toList | none => pure ()).run P w).andThen fun _ w' => .ok (Value.slice base (l + m) cap) w' := by
  subst hTe hs
  unfold Builtin.append_
  rcases hXi with rfl | ⟨q, rfl⟩ <;> cases base <;> simp [hT w, hX w, hE w, hlen, hroom, hfc]

/-- append, where there is none -/
theorem run_append_new {t tx e size : Nat} {s x : Value} {T X : TypeDesc} {w : World} {m l cap : Nat} {base : Option Addr} {nw old : Array Value} {type : Nat} {E : TV} {i : TypeInfo}
    (hT : ∀ w, (underlying t).run P w = .ok T w) (hTe : T = .slice e) (hX : ∀ w, (underlying tx).run P w = .ok X w) (hXi : X = .string ∨ ∃ q, X = .slice q) (hE : ∀ w, (sizeOf e).run P w = .ok size w)
    (hB : ∀ w, (typeInfo e).run P w = .ok i w) (hib : i.bytes = E.bytes) (hZ : ∀ w, (zeroValue e).run P w = .ok E.zero w)
    (hs : s = .slice base l cap) (hlen : (Builtin.lenOf x).run P w = .ok m w) (hfc : (Builtin.firstCells size m x).run P w.drew = .ok nw w.drew) (hfo : (Builtin.firstCells size l s).run P w.drew = .ok old w.drew)
    (hroom : ¬ l + m ≤ cap) (hbig : (2 * (l + m) + 400) * E.bytes ≤ 2 ^ 48) (hmax : l + m < 2 ^ 62) :
    ∃ cap', l + m ≤ cap' ∧ (Builtin.append_ #[t, tx] type #[s, x]).run P w = .ok (.slice (some ⟨w.heap.size, 0, none⟩) (l + m) cap') (w.drew.alloc (.cells (old ++ nw ++ Builtin.zeroCells E.zero.cells (cap' - (l + m))) e)) := by
  subst hTe hs
  have h1 : ¬ (281474976710656 < Builtin.nextslicecap (l + m) cap * E.bytes) := by
    have := nextslicecap_le (show cap < l + m by omega)
    have := Nat.mul_le_mul_right E.bytes this
    omega
  have h2 : ¬ (9223372036854775807 < (l : Int) + (m : Int)) := by omega
  have h3 : IntKind.i64.max = 9223372036854775807 := rfl
  refine ⟨l + m + w.tape w.drawn (.appendCap (l + m) cap e) % (2 ^ 63 - (l + m)), by omega, ?_⟩
  unfold Builtin.append_
  rcases hXi with rfl | ⟨q, rfl⟩ <;>
    simp [hT w, hX w, hE w, hlen, hroom, hB, hib, h1, h2, h3, hfc, hfo, hZ, Question.forced, Question.cut, newRow]
end
end Go.Proofs.Ytkjceegmmhnajaa
