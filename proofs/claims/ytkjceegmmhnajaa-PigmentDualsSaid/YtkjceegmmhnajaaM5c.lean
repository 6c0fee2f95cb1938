/- The second machine's append does what the model's does, whether there was room or not. -/
import Derived.Test.YtkjceegmmhnajaaM5b
namespace Go.Proofs.Ytkjceegmmhnajaa
open Go.RowKit

section
variable {P : Program} {tv : Nat → Option TV} {p : Nat → Option (Nat × Nat)} {r r' : Operand → Value}

def bigOk (need bytes : Nat) : Bool := decide ((2 * need + 400) * bytes ≤ 2 ^ 48) && decide (need < 2 ^ 61)

def appendable : TypeDesc → Bool
  | .slice _ => true
  | .string => true
  | _ => false

/-- two rows, one behind the other -/
noncomputable def catQ (a b : Array Value) : Array Value := ⟨appQ a.toList b.toList⟩
theorem catQ_eq (a b : Array Value) : catQ a b = a ++ b := by apply Array.toList_inj.1; simp [catQ, appQ_eq]

noncomputable def aAppend (tv : Nat → Option TV) (lo : Nat) (args : Array Operand) (argTypes : Array TypeId) (r : Operand → Value) (H : Tr AO) (n : Nat) : Option (Value × Dl × Nat) :=
  match args.toList, argTypes.toList with
  | [a0, a1], [t, tx] => match tv t, tv tx with
    | some T, some X => match T.und with
      | .slice e => match tv e with
        | some E =>
          if appendable X.und = true then
            match aNews E.size (r a1) H with
            | some (m, nw) => if sizeQ nw ≠ m * E.size then none else
              match r a0 with
              | .slice none l c => if l = 0 ∧ c = 0 then
                  if m = 0 then some (.slice none 0 0, [], n)
                  else if bigOk m E.bytes then some (.slice (some ⟨n, 0, none⟩) m unk, [(n, some (.cells nw e (some E.size)))], n + 1) else none
                else none
              | .slice (some ⟨b, o, none⟩) l c =>
                if m = 0 then (if l ≤ c then some (.slice (some ⟨b, o, none⟩) l c, [], n) else none)
                else match H.get b with
                  | some (.cells cs e' sz) =>
                    if o + l * E.size ≤ sizeQ cs then
                      if c < unk then
                        if l + m ≤ c then
                          if lo ≤ b ∧ o + (l + m) * E.size ≤ sizeQ cs ∧ allOne nw = true then
                            some (.slice (some ⟨b, o, none⟩) (l + m) c, [(b, some (.cells (setAllQ (o + l * E.size) nw.toList cs) e' sz))], n)
                          else none
                        else if bigOk (l + m) E.bytes then some (.slice (some ⟨n, 0, none⟩) (l + m) unk, [(n, some (.cells (catQ (extQ cs o (l * E.size)) nw) e (some E.size)))], n + 1)
                        else none
                      else if c = unk ∧ o = 0 ∧ lo ≤ b ∧ sz = some E.size ∧ e' = e ∧ allOne nw = true ∧ bigOk (l + m) E.bytes = true then
                        some (.slice (some ⟨n, 0, none⟩) (l + m) unk, [(n, some (.cells (catQ (extQ cs 0 (l * E.size)) nw) e (some E.size))), (b, none)], n + 1)
                      else none
                    else none
                  | _ => none
              | _ => none
            | none => none
          else none
        | none => none
      | _ => none
    | _, _ => none
  | _, _ => none

/-- a block that is named gets another name, and becomes another -/
theorem HR.move {B : Nat} {w0 : World} {h : Hp} {w w' : World} (hr : HR B w0 p h w) {i b k n : Nat} {x o : AO} {o' : Obj} (hi : h i = some x) (hb : p i = some (b, k)) (hn : p n = none) (ho : OR (newp p n b k) k o o')
    (hs : w'.heap.size = w.heap.size) (hsame : ∀ k, k ≠ b → w'.heap[k]? = w.heap[k]?) (hnew : w'.heap[b]? = some o') (h1 : w'.os = w.os) (h2 : w'.tape = w.tape) (h3 : w'.output = w.output) :
    HR B w0 (newp p n b k) (fun j => if j = n then some o else if j = i then none else h j) w' := by
  obtain ⟨b', kk, x', k1, k2, _, _⟩ := hr.ob i x hi
  rw [hb] at k1; cases k1
  have hext := (ext_new hn b k).ext
  have hin : i ≠ n := fun e => by subst e; rw [hn] at hb; cases hb
  have hne : ∀ j, (h j).isSome = true → j ≠ n := fun j hj e => by
    subst e
    cases hh : h j with
    | none => simp [hh] at hj
    | some y => obtain ⟨c, m, _, hc, _⟩ := hr.ob j y hh; rw [hn] at hc; cases hc
  have other : ∀ j c m, (h j).isSome = true → j ≠ i → p j = some (c, m) → c ≠ b := fun j c m hj hji hc e => by
    subst e; exact hji (hr.inj j i c m k hj (by simp [hi]) hc hb)
  refine ⟨hr.hB, hr.low.trans ⟨h1, h2, h3, by omega, fun k hk => hsame k (by omega)⟩, fun j y hj => ?_, fun j l c m m' hj hl e1 e2 => ?_⟩
  · by_cases e : j = n
    · subst e; simp at hj; subst hj
      exact ⟨b, k, o', by simp [newp], k2, hnew, ho⟩
    · by_cases e2 : j = i
      · subst e2; simp [e] at hj
      · simp only [if_neg e, if_neg e2] at hj
        obtain ⟨c, m, y', g1, g2, g3, g4⟩ := hr.ob j y hj
        exact ⟨c, m, y', hext j _ g1, g2, by rw [hsame c (other j c m (by simp [hj]) e2 g1)]; exact g3, g4.mono hext⟩
  · have cases3 : ∀ j c m, ((fun j => if j = n then some o else if j = i then none else h j) j).isSome = true → newp p n b k j = some (c, m) → (j = n ∧ c = b) ∨ (j ≠ n ∧ j ≠ i ∧ (h j).isSome = true ∧ p j = some (c, m)) := fun j c m hj e => by
      by_cases e1 : j = n
      · subst e1; simp [newp] at e; exact .inl ⟨rfl, e.1.symm⟩
      · by_cases e2 : j = i
        · subst e2; simp [e1] at hj
        · exact .inr ⟨e1, e2, by simpa [e1, e2] using hj, by simpa [newp, e1] using e⟩
    rcases cases3 j c m hj e1 with ⟨rfl, rfl⟩ | ⟨q1, q2, q3, q4⟩
    · rcases cases3 l c m' hl e2 with ⟨rfl, _⟩ | ⟨q1, q2, q3, q4⟩
      · rfl
      · exact absurd rfl (other l c m' q3 q2 q4)
    · rcases cases3 l c m' hl e2 with ⟨rfl, rfl⟩ | ⟨q1', q2', q3', q4'⟩
      · exact absurd rfl (other j c m q3 q2 q4)
      · exact hr.inj j l c m m' q3 q3' q4 q4'

theorem setAll_get (o : Nat) : ∀ (l : List Value) (i : Nat) (c : Array Value) (j : Nat), (setAll o l i c)[j]? = if o + i ≤ j ∧ j < o + i + l.length ∧ j < c.size then l[j - (o + i)]? else c[j]?
  | [], i, c, j => by simp [setAll]; intro h1 h2; omega
  | v :: l, i, c, j => by
    rw [setAll, setAll_get o l (i + 1), Array.size_setIfInBounds, Array.getElem?_setIfInBounds]
    by_cases hj : o + i = j
    · subst hj
      rw [if_neg (by omega)]
      by_cases hc : o + i < c.size
      · simp [hc]
      · simp [hc]
    · rw [if_neg hj]
      by_cases h2 : o + (i + 1) ≤ j ∧ j < o + (i + 1) + l.length ∧ j < c.size
      · rw [if_pos h2, if_pos (by simp; omega)]
        obtain ⟨d, rfl⟩ : ∃ d, j = o + i + d + 1 := ⟨j - (o + i) - 1, by omega⟩
        rw [show o + i + d + 1 - (o + (i + 1)) = d from by omega, show o + i + d + 1 - (o + i) = d + 1 from by omega]; simp
      · rw [if_neg h2, if_neg (by simp; omega)]

theorem PreR.join {a a' b b' c' : Array Value} (h : AR p a a') (k : AR p b b') (hc : ∀ i, i < a.size + b.size → c'[i]? = (a' ++ b')[i]?) (hs : a.size + b.size ≤ c'.size) : PreR p (a ++ b) c' :=
  PreR.of_get (by simpa using hs) fun i v v' hv hv' => by
    have hi : i < (a ++ b).size := (Array.getElem?_eq_some_iff.1 hv).1
    obtain ⟨u, hu, hr⟩ := (h.append k).get i v hv
    rw [hc i (by simpa using hi), hu] at hv'; cases hv'; exact hr

theorem ones {a a' : Array Value} (h : AR p a a') (ho : a.toList.all (·.oneCell') = true) : ∀ v ∈ a'.toList, v.oneCell' = true := fun v' hv' => by
  obtain ⟨i, hi, e1⟩ := List.mem_iff_getElem.1 hv'
  have hi' : i < a.size := by rw [h.1]; simpa using hi
  obtain ⟨u, hu, hvr⟩ := h.get i _ (Array.getElem?_eq_getElem hi')
  have : u = v' := by
    have h5 : a'[i]? = some v' := by rw [← e1]; simp
    rw [h5] at hu; cases hu; rfl
  subst this
  rw [hvr.oneCell]
  exact List.all_eq_true.1 ho _ (by simp)

end
end Go.Proofs.Ytkjceegmmhnajaa
