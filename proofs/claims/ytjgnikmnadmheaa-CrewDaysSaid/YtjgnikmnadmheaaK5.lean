/- The closed check 'works' is true. -/
import Derived.Test.YtjgnikmnadmheaaK4
import Derived.Test.YtjgnikmnadmheaaS9
namespace Go.Proofs.Ytjgnikmnadmheaa
open Go.RowKit

set_option maxRecDepth 100000 in
theorem E2_tv : TvOk Try.prog (tree (mkTv Try.prog) 157 .e).get := tvOk_of Try.prog 157
theorem body16 : ∃ fn c, Try.prog.funcs[16]? = some fn ∧ fn.body = some c ∧ (fn.name == "runtime.NumGoroutine") = false := ⟨_, _, Try.func16, rfl, by kernel_rfl⟩
theorem body18 : ∃ fn c, Try.prog.funcs[18]? = some fn ∧ fn.body = some c ∧ (fn.name == "runtime.NumGoroutine") = false := ⟨_, _, Try.func18, rfl, by kernel_rfl⟩
theorem body97 : ∃ fn c, Try.prog.funcs[97]? = some fn ∧ fn.body = some c ∧ (fn.name == "runtime.NumGoroutine") = false := ⟨_, _, Try.func97, rfl, by kernel_rfl⟩
theorem body20 : ∃ fn c, Try.prog.funcs[20]? = some fn ∧ fn.body = some c ∧ (fn.name == "runtime.NumGoroutine") = false := ⟨_, _, Try.func20, rfl, by kernel_rfl⟩

/-- what extF knows -/
inductive ExtF (g : Nat) (args : Array Value) (H : Tr AO) (v : Value) : Prop
  | yard (y : Array Value) (two : Bool) (hg : g = 16) (ha : args.toList = [.agg y]) (hy : yardNo y.toList H = some two) (hv : v = int1 0)
  | tasks (l : Value) (hg : g = 18) (ha : args.toList = [l]) (hl : isTasks l H = true) (hv : v = int1 0)
  | suits (y : Array Value) (l : Value) (two : Bool) (i : Nat) (d : Int) (hg : g = 97) (ha : args.toList = [.agg y, l, .int .i64 i, .int .i64 d]) (hi : i < 3) (hy : yardNo y.toList H = some two) (hl : isTasks l H = true) (hv : v = .bool (suitC2 two i d))
theorem task3_eq {v : Value} {i : Nat} (h : task3 v = some i) : v = .int .i64 i ∧ i < 3 := by
  unfold task3 at h
  split at h
  · rename_i k
    cases h1 : Nat.blt k 3 with
    | false => rw [h1] at h; cases h
    | true => rw [h1] at h; cases h; exact ⟨rfl, by rw [nblt] at h1; exact of_decide_eq_true h1⟩
  · cases h
theorem intOf_eq {v : Value} {i : Int} (h : intOf v = some i) : v = .int .i64 i := by
  unfold intOf at h
  split at h
  · cases h; rfl
  · cases h
theorem extF_inv {g : Nat} {args : Array Value} {H : Tr AO} {v : Value} (h : extF g args H = some v) : ExtF g args H v := by
  unfold extF at h
  split at h
  · rename_i y ha
    split at h
    · rename_i y
      cases h1 : Nat.beq g 16 with
      | false => rw [h1] at h; cases h
      | true =>
        rw [h1] at h; dsimp only at h
        split at h
        · rename_i two hy
          cases h
          exact .yard y two (Nat.eq_of_beq_eq_true h1) ha hy rfl
        · cases h
    · cases h1 : Nat.beq g 18 with
      | false => rw [h1] at h; cases h
      | true =>
        rw [h1] at h; dsimp only at h
        cases h2 : isTasks y H with
        | false => rw [h2] at h; cases h
        | true => rw [h2] at h; cases h; exact .tasks y (Nat.eq_of_beq_eq_true h1) ha h2 rfl
  · rename_i y l i d ha
    split at h
    · rename_i y
      cases h1 : Nat.beq g 97 with
      | false => rw [h1] at h; cases h
      | true =>
        rw [h1] at h; dsimp only at h
        cases h2 : isTasks l H with
        | false => rw [h2] at h; cases h
        | true =>
          rw [h2] at h; dsimp only at h
          split at h
          · rename_i two hy
            split at h
            · rename_i k hk
              split at h
              · rename_i d hd
                cases h
                obtain ⟨rfl, h3⟩ := task3_eq hk
                rw [intOf_eq hd] at ha
                exact .suits y l two k d (Nat.eq_of_beq_eq_true h1) ha h3 hy h2 rfl
              · cases h
            · cases h
          · cases h
    · cases h
  · cases h
structure ExtC (g : Nat) (args : Array Value) (H : Tr AO) (n : Nat) (r : Value × List AO) : Prop where
  ex : ∃ y, g = 20 ∧ args.toList = [.agg y, .int .i64 2] ∧ isYardC y.toList H 1 [3] = true ∧ r = (closedYard n, closedRows)
theorem extC_inv {g : Nat} {args : Array Value} {H : Tr AO} {n : Nat} {r : Value × List AO} (h : extC g args H n = some r) : ExtC g args H n r := by
  unfold extC at h
  split at h
  · rename_i y d ha
    cases h1 : Nat.beq g 20 with
    | false => rw [h1] at h; cases h
    | true =>
      rw [h1] at h; dsimp only at h
      cases h2 : isInt d 2 with
      | false => rw [h2] at h; cases h
      | true =>
        rw [h2] at h; dsimp only at h
        cases h3 : isYard y.toList H with
        | false => rw [h3] at h; cases h
        | true =>
          rw [h3] at h; cases h
          rw [isInt_eq h2] at ha
          exact ⟨y, Nat.eq_of_beq_eq_true h1, ha, h3, rfl⟩
  · cases h

set_option maxRecDepth 100000 in
theorem E2_ok : EnvOk E2 where
  tv := E2_tv
  mixed := show Try.prog.follows .mixedOrders = true by kernel_rfl
  fns := fun f fi h => fnsOk_of Try.prog [87, 104, 122] 133 fns_ok f fi h
  ext := fun f args H v h => by
    cases extF_inv (show extF f args H = some v from h) with
    | yard _ _ hg => subst hg; exact body16
    | tasks _ hg => subst hg; exact body18
    | suits _ _ _ _ _ hg => subst hg; exact body97
  extn := fun f args H n r h => by
    obtain ⟨_, hg, _⟩ := (extC_inv (show extC f args H n = some r from h)).ex
    subst hg; exact body20

theorem one_arg {p : Nat → Option (Nat × Nat)} {args args' : Array Value} (h : AR p args args') {t : Value} (he : args.toList = [t]) : ∃ t', args' = #[t'] ∧ VR p t t' := by
  obtain ⟨al⟩ := args
  dsimp only at he
  subst he
  obtain ⟨u0, e0, g0⟩ := h.get 0 _ rfl
  have hs : args'.size = 1 := h.1.symm
  refine ⟨u0, ?_, g0⟩
  apply Array.ext_getElem?
  intro i
  match i with
  | 0 => exact e0
  | i + 1 => rw [Array.getElem?_eq_none (by omega), Array.getElem?_eq_none (by simp)]
theorem two_args {p : Nat → Option (Nat × Nat)} {args args' : Array Value} (h : AR p args args') {t w : Value} (he : args.toList = [t, w]) : ∃ t' w', args' = #[t', w'] ∧ VR p t t' ∧ VR p w w' := by
  obtain ⟨al⟩ := args
  dsimp only at he
  subst he
  obtain ⟨u0, e0, g0⟩ := h.get 0 _ rfl
  obtain ⟨u1, e1, g1⟩ := h.get 1 _ rfl
  have hs : args'.size = 2 := h.1.symm
  refine ⟨u0, u1, ?_, g0, g1⟩
  apply Array.ext_getElem?
  intro i
  match i with
  | 0 => exact e0
  | 1 => exact e1
  | i + 2 => rw [Array.getElem?_eq_none (by omega), Array.getElem?_eq_none (by simp)]
theorem four_args {p : Nat → Option (Nat × Nat)} {args args' : Array Value} (h : AR p args args') {t l w z : Value} (he : args.toList = [t, l, w, z]) : ∃ t' l' w' z', args' = #[t', l', w', z'] ∧ VR p t t' ∧ VR p l l' ∧ VR p w w' ∧ VR p z z' := by
  obtain ⟨al⟩ := args
  dsimp only at he
  subst he
  obtain ⟨u0, e0, g0⟩ := h.get 0 _ rfl
  obtain ⟨u1, e1, g1⟩ := h.get 1 _ rfl
  obtain ⟨u2, e2, g2⟩ := h.get 2 _ rfl
  obtain ⟨u3, e3, g3⟩ := h.get 3 _ rfl
  have hs : args'.size = 4 := h.1.symm
  refine ⟨u0, u1, u2, u3, ?_, g0, g1, g2, g3⟩
  apply Array.ext_getElem?
  intro i
  match i with
  | 0 => exact e0
  | 1 => exact e1
  | 2 => exact e2
  | 3 => exact e3
  | i + 4 => rw [Array.getElem?_eq_none (by omega), Array.getElem?_eq_none (by simp)]

theorem fitsF {g : Nat} {args args' : Array Value} {H : Tr AO} {v : Value} (h : extF g args H = some v) {q : Nat → Option (Nat × Nat)} {w : World} (hob : HoB H q w) (har : AR q args args') :
    Calls Try.prog g args' w fun e w' => ∃ v', e = .returned v' ∧ VR q v v' ∧ Below w.heap.size w w' := by
  cases extF_inv h with
  | yard y two hg ha hy hv =>
    subst hg; subst hv
    obtain ⟨t, rfl, g1⟩ := one_arg har ha
    obtain ⟨C, rfl, g2⟩ := VR.agg_inv g1
    have hs := exY_small two
    refine (checkYard_any C (exY two) w (yardNo_of hy g2 hob) hs.cl hs.pi hs.ma hs.nm).mono fun e w' ⟨h1, h2⟩ => ⟨_, h1, ?_, h2⟩
    rw [exY_chk]; exact .int _ _
  | tasks l hg ha hl hv =>
    subst hg; subst hv
    obtain ⟨t, rfl, g1⟩ := one_arg har ha
    obtain ⟨A, c, a, k, rfl, hT⟩ := tasks_of hl g1 hob
    refine (checkTasks_any (exT a k) (some A) c w hT (exT_tame a k)).mono fun e w' ⟨h1, h2⟩ => ⟨_, h1, ?_, h2⟩
    rw [exT_chk]; exact .int _ _
  | suits y l two i d hg ha hi hy hl hv =>
    subst hg; subst hv
    obtain ⟨t, l', i', d', rfl, g1, g2, g3, g4⟩ := four_args har ha
    obtain ⟨C, rfl, g5⟩ := VR.agg_inv g1
    obtain ⟨A, c, a, k, rfl, hT⟩ := tasks_of hl g2 hob
    rw [VR.int_inv g3, VR.int_inv g4]
    have hi' : i < (exT a k).length := hi
    refine (suits_any C (exY two) (exT a k) (some A) c i d w (yardNo_of hy g5 hob) (okY_valid (exY_ok two)) hT (by show 3 ≤ 1000; omega) hi').mono fun e w' ⟨h1, h2⟩ => ⟨_, h1, ?_, h2⟩
    rw [suitC2_eq two _ i d (exT_at a k i hi').1 (exT_at a k i hi').2]; exact .bool _
end Go.Proofs.Ytjgnikmnadmheaa
