/- slices.Clone at integers, pits, masters. Printed by wip/gen_s12.py. -/
import Derived.Test.YtjgnikmnadmheaaS11
import Derived.Lib.SliceRun
import Derived.WalkSpells
namespace Go.Proofs.Ytjgnikmnadmheaa
open Go.RowKit Go.Shelf Go.Lib

theorem info87 : (Try.prog.info? 87).map (fun i => (i.zero, i.size, i.bytes)) = some (some (.agg #[.int .i64 0, .int .i64 0, .int .i64 0]), 3, 24) := by kernel_rfl
theorem info78 : (Try.prog.info? 78).map (fun i => (i.zero, i.size, i.bytes)) = some (some (.agg #[.string ByteArray.empty, .int .i64 0, .int .i64 0, .int .i64 0]), 4, 40) := by kernel_rfl
/-- a row that a call made -/
def RowEnd (E s n : Nat) (cs : List Value) (w : World) (e : Ending) (w' : World) : Prop := ∃ v : Value, e = .returned v ∧ w'.ownsRow w.heap.size E s v n cs ∧ Below w.heap.size w w'
theorem one_ints (l : List Int) : ∀ u ∈ ints l, u.oneCell' = true := fun u hu => by unfold ints at hu; obtain ⟨k, _, rfl⟩ := List.mem_map.1 hu; rfl
theorem one_pits (l : List Pit) : ∀ u ∈ pitsC l, u.oneCell' = true := fun u hu => by
  unfold pitsC at hu; obtain ⟨p, _, hp⟩ := List.mem_flatMap.1 hu
  simp at hp; rcases hp with rfl | rfl | rfl <;> rfl
theorem one_mass (l : List Mas) : ∀ u ∈ massC l, u.oneCell' = true := fun u hu => by
  unfold massC at hu; obtain ⟨p, _, hp⟩ := List.mem_flatMap.1 hu
  simp at hp; rcases hp with rfl | rfl | rfl | rfl <;> rfl
theorem pits_len (l : List Pit) : (pitsC l).length = l.length * 3 := flat_length Pit.cells 3 (fun _ => rfl) l
theorem mass_len (l : List Mas) : (massC l).length = l.length * 4 := flat_length Mas.cells 4 (fun _ => rfl) l

set_option maxHeartbeats 400000 in
theorem clone_ints (l : List Int) (A : Option Addr) (c : Nat) (w : World) (hl : Lies w w.heap.size A (ints l)) (hm : l.length ≤ 1000) : Calls Try.prog 78 #[.slice A l.length c] w (RowEnd 3 1 l.length (ints l) w) := by
  have hln : (ints l).length = l.length * 1 := by rw [ints_len]; omega
  have q22 : ∀ (w : World) (a : Option Addr) (n c n' c' : Nat), (binOp .eql 25 (.slice a n c) (.slice none n' c')).run Try.prog w = .ok (.bool a.isNone) w := fun w a n c n' c' => Lib.run_eql_slice_nil w _ _ a n c n' c' Try.underlying25
  have u22 : ∀ w, Sem.run Try.prog (underlying 25) w = .ok (TypeDesc.slice 3) w := run_underlying Try.underlying25
  obtain ⟨i0, hi, hz0, hz1, hz2⟩ := info_parts info3
  have I := Lib.hid (And.intro hi (And.intro hz0 (And.intro hz1 hz2))); clear hi hz0 hz1 hz2
  cases A with
  | none =>
    have h0 : l = [] := Classical.byContradiction fun hne => by
      have : ints l ≠ [] := fun e => by rw [e] at hln; simp at hln; exact hne (List.length_eq_zero_iff.1 (by omega))
      obtain ⟨ad, e, _⟩ := hl this
      cases e
    subst h0
    clear hl hln
    go_enter Try.func78, Try.ntmps78
    go_wp2
    go_ret
    exact ⟨_, rfl, World.ownsRow_nil _ _ _ _, Below.refl _ _⟩
  | some ad =>
    have hcell : Hid (∀ j u, (ints l)[j]? = some u → w.cell? (ad.add j) = some u) := fun j u hu => by
      obtain ⟨ad2, e, _, hc⟩ := hl (by intro e; rw [e] at hu; simp at hu)
      cases e
      exact hc j u hu
    have HL := Lib.hid hln
    clear hl hln
    go_enter Try.func78, Try.ntmps78
    go_wp2_with (at_builtin; refine wpList_append_own _ rfl _ _ 25 rfl w.heap.size 3 i0 (.int .i64 0) 1 8 Try.underlying25 I.out.1 I.out.2.1 I.out.2.2.1 I.out.2.2.2 rfl (by decide) _ _ _ rfl (World.ownsRow_made w #[] 0 (Nat.le_refl _) (Nat.zero_le _) rfl) ad l.length c (ints l) rfl ?qc1 ?qc2 ?qc3 ?qc4 ?qc5 ?qc6 ?_)
    case qc1 => exact HL.out
    case qc2 => exact fun j u hj => Lib.cell?_alloc_some _ (hcell.out j u hj)
    case qc3 => exact one_ints l
    case qc4 => unfold maxLen; omega
    case qc5 => omega
    case qc6 => simp
    intro v' w1 hown hgrow hnil
    go_wp2
    go_ret
    exact ⟨v', rfl, by simpa using hown, ((Below.refl _ w).alloc (Nat.le_refl _) _).grown hgrow (by simp) (by intro k hk; simp [Value.ownBlock] at hk; omega)⟩

set_option maxHeartbeats 400000 in
theorem clone_pits (l : List Pit) (A : Option Addr) (c : Nat) (w : World) (hl : Lies w w.heap.size A (pitsC l)) (hm : l.length ≤ 1000) : Calls Try.prog 79 #[.slice A l.length c] w (RowEnd 87 3 l.length (pitsC l) w) := by
  have hln : (pitsC l).length = l.length * 3 := pits_len l
  have q22 : ∀ (w : World) (a : Option Addr) (n c n' c' : Nat), (binOp .eql 26 (.slice a n c) (.slice none n' c')).run Try.prog w = .ok (.bool a.isNone) w := fun w a n c n' c' => Lib.run_eql_slice_nil w _ _ a n c n' c' Try.underlying26
  have u22 : ∀ w, Sem.run Try.prog (underlying 26) w = .ok (TypeDesc.slice 87) w := run_underlying Try.underlying26
  obtain ⟨i0, hi, hz0, hz1, hz2⟩ := info_parts info87
  have I := Lib.hid (And.intro hi (And.intro hz0 (And.intro hz1 hz2))); clear hi hz0 hz1 hz2
  cases A with
  | none =>
    have h0 : l = [] := Classical.byContradiction fun hne => by
      have : pitsC l ≠ [] := fun e => by rw [e] at hln; simp at hln; exact hne (List.length_eq_zero_iff.1 (by omega))
      obtain ⟨ad, e, _⟩ := hl this
      cases e
    subst h0
    clear hl hln
    go_enter Try.func79, Try.ntmps79
    go_wp2
    go_ret
    exact ⟨_, rfl, World.ownsRow_nil _ _ _ _, Below.refl _ _⟩
  | some ad =>
    have hcell : Hid (∀ j u, (pitsC l)[j]? = some u → w.cell? (ad.add j) = some u) := fun j u hu => by
      obtain ⟨ad2, e, _, hc⟩ := hl (by intro e; rw [e] at hu; simp at hu)
      cases e
      exact hc j u hu
    have HL := Lib.hid hln
    clear hl hln
    go_enter Try.func79, Try.ntmps79
    go_wp2_with (at_builtin; refine wpList_append_own _ rfl _ _ 26 rfl w.heap.size 87 i0 (.agg #[.int .i64 0, .int .i64 0, .int .i64 0]) 3 24 Try.underlying26 I.out.1 I.out.2.1 I.out.2.2.1 I.out.2.2.2 rfl (by decide) _ _ _ rfl (World.ownsRow_made w #[] 0 (Nat.le_refl _) (Nat.zero_le _) rfl) ad l.length c (pitsC l) rfl ?qc1 ?qc2 ?qc3 ?qc4 ?qc5 ?qc6 ?_)
    case qc1 => exact HL.out
    case qc2 => exact fun j u hj => Lib.cell?_alloc_some _ (hcell.out j u hj)
    case qc3 => exact one_pits l
    case qc4 => unfold maxLen; omega
    case qc5 => omega
    case qc6 => simp
    intro v' w1 hown hgrow hnil
    go_wp2
    go_ret
    exact ⟨v', rfl, by simpa using hown, ((Below.refl _ w).alloc (Nat.le_refl _) _).grown hgrow (by simp) (by intro k hk; simp [Value.ownBlock] at hk; omega)⟩

set_option maxHeartbeats 400000 in
theorem clone_mass (l : List Mas) (A : Option Addr) (c : Nat) (w : World) (hl : Lies w w.heap.size A (massC l)) (hm : l.length ≤ 1000) : Calls Try.prog 80 #[.slice A l.length c] w (RowEnd 78 4 l.length (massC l) w) := by
  have hln : (massC l).length = l.length * 4 := mass_len l
  have q22 : ∀ (w : World) (a : Option Addr) (n c n' c' : Nat), (binOp .eql 27 (.slice a n c) (.slice none n' c')).run Try.prog w = .ok (.bool a.isNone) w := fun w a n c n' c' => Lib.run_eql_slice_nil w _ _ a n c n' c' Try.underlying27
  have u22 : ∀ w, Sem.run Try.prog (underlying 27) w = .ok (TypeDesc.slice 78) w := run_underlying Try.underlying27
  obtain ⟨i0, hi, hz0, hz1, hz2⟩ := info_parts info78
  have I := Lib.hid (And.intro hi (And.intro hz0 (And.intro hz1 hz2))); clear hi hz0 hz1 hz2
  cases A with
  | none =>
    have h0 : l = [] := Classical.byContradiction fun hne => by
      have : massC l ≠ [] := fun e => by rw [e] at hln; simp at hln; exact hne (List.length_eq_zero_iff.1 (by omega))
      obtain ⟨ad, e, _⟩ := hl this
      cases e
    subst h0
    clear hl hln
    go_enter Try.func80, Try.ntmps80
    go_wp2
    go_ret
    exact ⟨_, rfl, World.ownsRow_nil _ _ _ _, Below.refl _ _⟩
  | some ad =>
    have hcell : Hid (∀ j u, (massC l)[j]? = some u → w.cell? (ad.add j) = some u) := fun j u hu => by
      obtain ⟨ad2, e, _, hc⟩ := hl (by intro e; rw [e] at hu; simp at hu)
      cases e
      exact hc j u hu
    have HL := Lib.hid hln
    clear hl hln
    go_enter Try.func80, Try.ntmps80
    go_wp2_with (at_builtin; refine wpList_append_own _ rfl _ _ 27 rfl w.heap.size 78 i0 (.agg #[.string ByteArray.empty, .int .i64 0, .int .i64 0, .int .i64 0]) 4 40 Try.underlying27 I.out.1 I.out.2.1 I.out.2.2.1 I.out.2.2.2 rfl (by decide) _ _ _ rfl (World.ownsRow_made w #[] 0 (Nat.le_refl _) (Nat.zero_le _) rfl) ad l.length c (massC l) rfl ?qc1 ?qc2 ?qc3 ?qc4 ?qc5 ?qc6 ?_)
    case qc1 => exact HL.out
    case qc2 => exact fun j u hj => Lib.cell?_alloc_some _ (hcell.out j u hj)
    case qc3 => exact one_mass l
    case qc4 => unfold maxLen; omega
    case qc5 => omega
    case qc6 => simp
    intro v' w1 hown hgrow hnil
    go_wp2
    go_ret
    exact ⟨v', rfl, by simpa using hown, ((Below.refl _ w).alloc (Nat.le_refl _) _).grown hgrow (by simp) (by intro k hk; simp [Value.ownBlock] at hk; omega)⟩

end Go.Proofs.Ytjgnikmnadmheaa