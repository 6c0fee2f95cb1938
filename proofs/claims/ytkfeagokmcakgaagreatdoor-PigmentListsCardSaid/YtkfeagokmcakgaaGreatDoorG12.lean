/- slices.Clone of rules (fn 99), pigment.Append (fn 51). Printed by wip/gen_f21.py. -/
import Derived.RangeFuncNested
import Derived.Test.YtkfeagokmcakgaaGreatDoorG02
import Derived.Test.YtkfeagokmcakgaaGreatDoorG07
import Derived.Test.YtkfeagokmcakgaaGreatDoorG09
import Derived.Test.YtkfeagokmcakgaaGreatDoorG11

set_option linter.unusedVariables false
set_option linter.unusedSimpArgs false

namespace Go.Proofs.YtkfeagokmcakgaaGreatDoor
open Go.RowKit

theorem own_weak {w : World} {base base' : Nat} {e : TypeId} {size n : Nat} {v : Value} {xs : List Value} (h : w.ownsRow base e size v n xs) (hb : base' ≤ base) : w.ownsRow base' e size v n xs := by
  refine ⟨h.1, ?_⟩
  rcases h.2 with h2 | ⟨g, cap, cur, h1, h2, h3⟩
  · exact .inl h2
  · exact .inr ⟨g, cap, cur, h1, by omega, h3⟩
theorem own_ne {w : World} {base n : Nat} {e t : TypeId} {size g : Nat} {v : Value} {xs : List Value} {C : Array Value} (h : w.ownsRow base e size v n xs) (hk : Bk w g t C) (ht : t ≠ e) : some g ≠ v.ownBlock := by
  rcases h.2 with ⟨rfl, _⟩ | ⟨k, cap, cur, rfl, _, h3, _⟩
  · simp [Value.ownBlock]
  · intro e1
    have e2 : g = k := by simpa [Value.ownBlock] using e1
    subst e2
    have := hk.symm.trans h3
    simp at this
    exact ht this.2
theorem rulesC_one (l : List Rul) : ∀ u ∈ rulesC l, u.oneCell' = true := by
  intro u hu
  obtain ⟨r, _, h⟩ := List.mem_flatMap.1 hu
  simp [Rul.cells] at h
  rcases h with rfl | rfl | rfl | rfl | rfl | rfl <;> rfl
set_option maxHeartbeats 400000 in
theorem clone_any (l : List Rul) (A : Option Addr) (c : Nat) (w : World) (hl : Lies w w.heap.size A (rulesC l)) (hm : l.length ≤ 1000) :
    Calls Tryz.prog 99 #[.slice A l.length c] w (fun e w' => ∃ v', e = .returned v' ∧ w'.ownsRow w.heap.size 50 6 v' l.length (rulesC l) ∧ Below w.heap.size w w') := by
  obtain ⟨i0, hi0, hz0, hz1, hz2⟩ := info_parts info50
  have HI := Lib.hid hi0
  clear hi0
  cases A with
  | none =>
    have hn : rulesC l = [] := Classical.byContradiction fun hne => by
      obtain ⟨ad, e, _⟩ := hl hne
      cases e
    have h0 : l.length = 0 := by have := rulesC_length l; rw [hn] at this; simp at this; omega
    have HN := Lib.hid hn
    have H0 := Lib.hid h0
    clear hl hz0 hz1 hz2 hn h0
    have q22 : ∀ (w : World) (a : Option Addr) (n c n' c' : Nat), (binOp .eql 23 (.slice a n c) (.slice none n' c')).run Tryz.prog w = .ok (.bool a.isNone) w := fun w a n c n' c' => Lib.run_eql_slice_nil w _ _ a n c n' c' Tryz.underlying23
    go_enter Tryz.func99, Tryz.ntmps99
    go_wp2
    go_ret
    exact ⟨_, rfl, by rw [H0.out, HN.out]; exact World.ownsRow_nil _ _ _ _, Below.refl _ _⟩
  | some ad =>
    obtain ⟨g, off, pt⟩ := ad
    have HL := Lib.hid hl
    have q22 : ∀ (w : World) (a : Option Addr) (n c n' c' : Nat), (binOp .eql 23 (.slice a n c) (.slice none n' c')).run Tryz.prog w = .ok (.bool a.isNone) w := fun w a n c n' c' => Lib.run_eql_slice_nil w _ _ a n c n' c' Tryz.underlying23
    have HZ := Lib.hid hz0
    have HZ1 := Lib.hid hz1
    have HZ2 := Lib.hid hz2
    clear hl hz0 hz1 hz2
    go_enter Tryz.func99, Tryz.ntmps99
    go_wp2_with (at_builtin; refine wpList_append_own _ rfl _ _ 23 rfl w.heap.size 50 i0 zeroRul 6 64 Tryz.underlying23 HI.out HZ.out HZ1.out HZ2.out (by decide) (by decide) _ _ _ rfl (World.ownsRow_made w #[] 0 (Nat.le_refl _) (Nat.zero_le _) (by simp)) ⟨g, off, pt⟩ l.length c (rulesC l) rfl ?qc1 ?qc2 ?qc3 ?qc4 ?qc5 ?qc6 ?_)
    case qc1 => exact rulesC_length l
    case qc2 =>
      intro j u hj
      obtain ⟨ad2, e2, _, hc⟩ := HL.out (by intro e; rw [e] at hj; simp at hj)
      cases e2
      exact Lib.cell?_alloc_some _ (hc j u hj)
    case qc3 => exact rulesC_one l
    case qc4 => rw [Nat.zero_add]; unfold maxLen; omega
    case qc5 => rw [Nat.zero_add]; omega
    case qc6 => simp
    intro v' w1 hown hgrow hnil
    go_wp2
    go_ret
    refine ⟨v', rfl, by simpa using hown, ?_⟩
    exact ((Below.refl _ w).alloc (Nat.le_refl _) _).grown hgrow (by simp) (by intro k hk; simp [Value.ownBlock] at hk; omega)

theorem wp_append1 {P : Program} (w : World) {o : Oper} {a : Act} {K : Act → World → Prop} {Q : Exit → Act → World → Prop} (s x : Operand) (t : TypeId) (ho : o.op = .call { callee := .builtin .append, args := #[s, x], argTypes := #[t, t] })
    (base : Nat) (e : TypeId) (z : Value) (size bytes : Nat) (ht : P.underlying t = some (.slice e)) (hi : (P.info? e).map (fun i => (i.zero, i.size, i.bytes)) = some (some z, size, bytes)) (hzs : z.cells.size = size) (hsz : 0 < size)
    (v : Value) (n : Nat) (xs : List Value) (hs : a.eval s = v) (hown : w.ownsRow base e size v n xs)
    (b : Nat) (C : Array Value) (tt : TypeId) (hx : a.eval x = .slice (some ⟨b, 0, none⟩) 1 1) (hbk : Bk w b tt C) (hl : C.size = size) (h1 : ∀ u ∈ C.toList, u.oneCell' = true)
    (h63 : n < 100000) (hbytes : bytes ≤ 1000) (hbase : base ≤ w.heap.size) (a0 : World) (hB : Below base a0 w)
    (h : ∀ v' w', w'.ownsRow base e size v' (n + 1) (xs ++ C.toList) → Below base a0 w' → w.grownBy w' v.ownBlock → K (a.put o.dst v') w') : o.wp P a w K Q := by
  obtain ⟨i0, hi0, hz0, hz1, hz2⟩ := info_parts hi
  obtain ⟨v', w', hrun, r1, r2, _⟩ := run_append_own (P := P) w base t o.type e i0 z size bytes ht hi0 hz0 hz1 hz2 hzs hsz v n xs hown ⟨b, 0, none⟩ 1 1 C.toList (by simpa using hl) (bk_cells hbk) h1 (by unfold maxLen; omega)
    (by calc (n + 1) * bytes ≤ 100000 * 1000 := Nat.mul_le_mul (by omega) hbytes
          _ ≤ 140737488355328 := by decide) hbase
  unfold Oper.wp
  simp [execOp, ho, resolve, invoke, builtin, hs, hx, hrun, Result.andThen]
  exact h v' w' r1 (Below.grown hB r2 hbase fun k hk => (hown.lt k hk).1) r2
theorem held_three {P : Program} {ops : Array Oper} {Q : Exit → Act → World → Prop} {S : World → Prop} {fuel : Nat} {listed : Array Bool} {a : Act} {w : World} (i j k : Nat) (o p q : Oper) (ho : ops[i]? = some o) (hp : ops[j]? = some p) (hq : ops[k]? = some q) (hr : Region.ready .any ops listed = [i, j, k])
    (hw : Region.wanted o (yielded ops a.tmps) = true) (hv : Region.wanted p (yielded ops a.tmps) = true) (hu : Region.wanted q (yielded ops a.tmps) = true) (h : o.wp P a w (fun a' w' => S w' ∧ wpAnyH P .any ops Q S fuel (listed.setIfInBounds i true) a' w') Q) (h2 : p.wp P a w (fun a' w' => S w' ∧ wpAnyH P .any ops Q S fuel (listed.setIfInBounds j true) a' w') Q) (h3 : q.wp P a w (fun a' w' => S w' ∧ wpAnyH P .any ops Q S fuel (listed.setIfInBounds k true) a' w') Q) : wpAnyH P .any ops Q S (fuel + 1) listed a w := by
  refine wpAnyH_all hr (by simp) fun m hm => ?_
  have hm' : m = i ∨ m = j ∨ m = k := by simpa using hm
  rcases hm' with rfl | rfl | rfl
  · unfold wpOp
    rw [ho]
    dsimp only
    rw [if_pos hw]
    exact .inl h
  · unfold wpOp
    rw [hp]
    dsimp only
    rw [if_pos hv]
    exact .inl h2
  · unfold wpOp
    rw [hq]
    dsimp only
    rw [if_pos hu]
    exact .inl h3

theorem fin_app {V u : World} {base g c n : Nat} {A : Option Addr} {X : Array Value} {C LR : List Value} {l : List Rul} (own : V.ownsRow base 50 6 (.slice A n c) n (rulesC l ++ C)) (he : rulesC l ++ C = LR) (box : Bk V g 25 X) (f : Far V u g) : Lies u u.heap.size A LR := by
  have h1 := f.lies (ownsRow_lies own) (fun ad e h => own_ne own box (by decide) (by subst e; simp [Value.ownBlock, h]))
  rw [he] at h1
  exact h1.more (by rw [f.size]; exact Nat.le_refl _)
theorem info25 : (Tryz.prog.info? 25).map (·.size) = some 1 := by kernel_rfl
theorem set_lies {W : World} {b : Nat} {A : Option Addr} {cs : List Value} {v : Value} (h : Lies W W.heap.size A cs) (hA : ∀ ad, A = some ad → ad.block ≠ b) : Lies (W.setCell ⟨b, 0, none⟩ v) (W.setCell ⟨b, 0, none⟩ v).heap.size A cs :=
  ((far_setCells b [v] 0 W).lies h hA).more (by rw [show (W.setCell ⟨b, 0, none⟩ v).heap.size = W.heap.size from (far_setCells b [v] 0 W).size]; exact Nat.le_refl _)
def apdE (l : List Rul) (r : Rul) : Int := if (chkL l).2 = 0 then refE l r else (chkL l).2
def apdL (l : List Rul) (r : Rul) : List Rul := if apdE l r = 0 then l ++ [r] else []
def AppEnd (l : List Rul) (r : Rul) (w : World) (e : Ending) (w' : World) : Prop := ∃ A c, e = .returned (.tuple #[.agg #[.slice A (apdL l r).length c], .int .i64 (apdE l r)]) ∧ Lies w' w'.heap.size A (rulesC (apdL l r)) ∧ ((apdL l r).length ≤ c ∧ c ≤ maxLen) ∧ Below w.heap.size w w'
theorem app_bad {l : List Rul} {r : Rul} {w w' : World} {k : Int} (h : apdE l r = k) (hk : k ≠ 0) (hb : Below w.heap.size w w') : AppEnd l r w (.returned (.tuple #[.agg #[.slice none 0 0], .int .i64 k])) w' := by
  have h1 : apdL l r = [] := by unfold apdL; rw [if_neg (by omega)]
  refine ⟨none, 0, ?_, ?_, ?_, hb⟩
  · rw [h1, h]; rfl
  · rw [h1]; intro hn; exact absurd rfl hn
  · rw [h1]; exact ⟨Nat.le_refl _, Nat.zero_le _⟩
theorem app_good {l : List Rul} {r : Rul} {w w' : World} {A : Option Addr} {c : Nat} (h : apdE l r = 0) (hl : Lies w' w'.heap.size A (rulesC (l ++ [r]))) (hc : l.length + 1 ≤ c ∧ c ≤ maxLen) (hb : Below w.heap.size w w') : AppEnd l r w (.returned (.tuple #[.agg #[.slice A ((l.length : Nat) + 1 : Nat) c], .int .i64 0])) w' := by
  have h1 : apdL l r = l ++ [r] := by unfold apdL; rw [if_pos h]
  refine ⟨A, c, ?_, ?_, ?_, hb⟩
  · rw [h1, h]; simp
  · rw [h1]; exact hl
  · rw [h1]; simpa using hc
set_option maxHeartbeats 1000000 in
set_option maxRecDepth 100000 in
theorem append_any (l : List Rul) (r : Rul) (A : Option Addr) (c : Nat) (w : World) (hl : Lies w w.heap.size A (rulesC l)) (hok : RulOK (l ++ [r])) (hm : l.length ≤ 999) (hc : l.length ≤ c) (hc2 : c ≤ maxLen) :
    Calls Tryz.prog 51 #[.agg #[.slice A l.length c], r.agg] w (AppEnd l r w) := by
  have HCH := Lib.hid (fun W hb hs => check_any l A c W ((hl.below (hb : Below w.heap.size w W) (Nat.le_refl _)).more hs) (fun x hx => hok x (by simp [hx])) (by omega) hc hc2)
  have HLL : Hid (∀ W, Below w.heap.size w W → Lies W W.heap.size A (rulesC l)) := fun W hb => (hl.below hb (Nat.le_refl _)).more hb.size
  have HRF : Hid (∀ (W : World) A' c', Lies W W.heap.size A' (rulesC (l ++ [r])) → l.length + 1 ≤ c' → c' ≤ maxLen → Calls Tryz.prog 66 #[.slice A' (l.length + 1 : Nat) c', .int .i64 l.length] W (IntEnd (refE l r) W)) := fun W A' c' h1 h2 h3 => by
    have h4 := refused_any (l ++ [r]) A' c' l.length W h1 hok (by simp) (by simp; omega) (by simpa using h2) h3
    rw [List.take_left, List.getElem_append_right (by omega)] at h4
    simpa using h4
  have HM : Hid (l.length ≤ 1000) := by show l.length ≤ 1000; omega
  have HE0 : Hid ((chkL l).2 = 0 → apdE l r = refE l r) := fun h => by unfold apdE; rw [if_pos h]
  have HE1 : Hid ((chkL l).2 ≠ 0 → apdE l r = (chkL l).2) := fun h => by unfold apdE; rw [if_neg h]
  have HG : Hid (∀ {w' : World} {A : Option Addr} {c : Nat}, apdE l r = 0 → Lies w' w'.heap.size A (rulesC (l ++ [r])) → (l.length + 1 ≤ c ∧ c ≤ maxLen) → Below w.heap.size w w' → AppEnd l r w (.returned (.tuple #[.agg #[.slice A ((l.length : Nat) + 1 : Nat) c], .int .i64 0])) w') := app_good
  have HBD : Hid (∀ {w' : World} {k : Int}, apdE l r = k → k ≠ 0 → Below w.heap.size w w' → AppEnd l r w (.returned (.tuple #[.agg #[.slice none 0 0], .int .i64 k])) w') := app_bad
  have HSN := Lib.hid (rulesC_snoc l r)
  clear hl hok
  generalize chkL l = R at *
  generalize refE l r = E at *
  generalize AppEnd l r w = AE at *
  generalize apdE l r = AP at *
  generalize rulesC (l ++ [r]) = LR at *
  obtain ⟨id, kn, kd, x, y, of⟩ := r
  obtain ⟨i0, e0⟩ := R
  dsimp only at *
  have HO : Hid (∀ u ∈ (#[.int .i64 id, .int .i64 kn, .int .u8 kd, .string x, .string y, .int .i64 of] : Array Value).toList, u.oneCell' = true) := by intro u hu; simp at hu; rcases hu with rfl | rfl | rfl | rfl | rfl | rfl <;> rfl
  have hbe : Below w.heap.size w (((w.alloc (.cells #[.slice A l.length c] 25)).alloc (.cells #[.int .i64 id, .int .i64 kn, .int .u8 kd, .string x, .string y, .int .i64 of] 50)).alloc (.cells #[.slice none 0 0] 25)) := (((Below.refl _ _).alloc (Nat.le_refl _) _).alloc (by simp) _).alloc (by simp; omega) _
  have hb20 : Bk (((w.alloc (.cells #[.slice A l.length c] 25)).alloc (.cells #[.int .i64 id, .int .i64 kn, .int .u8 kd, .string x, .string y, .int .i64 of] 50)).alloc (.cells #[.slice none 0 0] 25)) w.heap.size 25 #[.slice A l.length c] := ((Bk.new w 25 #[.slice A l.length c]).alloc _).alloc _
  have hb30 : Bk (((w.alloc (.cells #[.slice A l.length c] 25)).alloc (.cells #[.int .i64 id, .int .i64 kn, .int .u8 kd, .string x, .string y, .int .i64 of] 50)).alloc (.cells #[.slice none 0 0] 25)) (w.heap.size + 1) 50 #[.int .i64 id, .int .i64 kn, .int .u8 kd, .string x, .string y, .int .i64 of] := by
    have := (Bk.new (w.alloc (.cells #[.slice A l.length c] 25)) 50 #[.int .i64 id, .int .i64 kn, .int .u8 kd, .string x, .string y, .int .i64 of]).alloc (.cells #[.slice none 0 0] 25)
    simpa using this
  have hb40 : Bk (((w.alloc (.cells #[.slice A l.length c] 25)).alloc (.cells #[.int .i64 id, .int .i64 kn, .int .u8 kd, .string x, .string y, .int .i64 of] 50)).alloc (.cells #[.slice none 0 0] 25)) (w.heap.size + 2) 25 #[.slice none 0 0] := by
    have := Bk.new ((w.alloc (.cells #[.slice A l.length c] 25)).alloc (.cells #[.int .i64 id, .int .i64 kn, .int .u8 kd, .string x, .string y, .int .i64 of] 50)) 25 #[.slice none 0 0]
    simpa using this
  have HC := Lib.hid (HCH.out _ hbe hbe.size)
  have HB := Lib.hid hbe
  have H2 := Lib.hid hb20
  have H3 := Lib.hid hb30
  have H4 := Lib.hid hb40
  clear hbe hb20 hb30 hb40 HCH
  go_enter Tryz.func51, Tryz.ntmps51
  go_upto_region 2 with (first | (go_at_call 46; refine HC.out.mono ?_; rintro e w1 ⟨rfl, hb1⟩))
  have hB1 : Below w.heap.size w w1 := HB.out.trans (hb1.mono (by simp; omega))
  have hs1 : w.heap.size + 3 ≤ w1.heap.size := by have := hb1.size; simpa using this
  have k2 := H2.out.below hb1 H2.out.lt
  have k3 := H3.out.below hb1 H3.out.lt
  have k4 := H4.out.below hb1 H4.out.lt
  clear hb1 H2 H3 H4 HB HC
  have c40 := k4.cell 0 rfl
  have f40 := k4.fro 0
  have c20 := k2.cell 0 rfl
  by_cases hE : e0 = 0
  · subst hE
    have HA := HE0.out rfl
    clear HE0 HE1 c40 f40 c20
    go_upto_region 4 with fail
    have HL : Hid (∀ V, Below w1.heap.size w1 V → Lies V V.heap.size A (rulesC l)) := fun V hb => HLL.out V (hB1.trans (hb.mono hB1.size))
    have HS : Hid (∀ V, Below w1.heap.size w1 V → V.cell? ⟨w.heap.size, 0, none⟩ = some (.slice A l.length c) ∧ V.cell? ⟨w.heap.size + 1, 0, none⟩ = some (.int .i64 id) ∧ V.cell? ⟨w.heap.size + 1, 1, none⟩ = some (.int .i64 kn) ∧ V.cell? ⟨w.heap.size + 1, 2, none⟩ = some (.int .u8 kd) ∧ V.cell? ⟨w.heap.size + 1, 3, none⟩ = some (.string x) ∧ V.cell? ⟨w.heap.size + 1, 4, none⟩ = some (.string y) ∧ V.cell? ⟨w.heap.size + 1, 5, none⟩ = some (.int .i64 of)) := fun V hb => ⟨(k2.below hb k2.lt).cell 0 rfl, (k3.below hb k3.lt).cell 0 rfl, (k3.below hb k3.lt).cell 1 rfl, (k3.below hb k3.lt).cell 2 rfl, (k3.below hb k3.lt).cell 3 rfl, (k3.below hb k3.lt).cell 4 rfl, (k3.below hb k3.lt).cell 5 rfl⟩
    go_cut [8] (fun s8 wx => ∃ g A c, s8 = .pointer (some ⟨g, 0, none⟩) ∧ Hid (Bk wx g 25 #[.slice A (l.length + 1) c]) ∧ (Hid (Lies wx wx.heap.size A LR) ∧ Hid (∀ ad, A = some ad → w1.heap.size ≤ ad.block)) ∧ (l.length + 1 ≤ c ∧ c ≤ maxLen) ∧ Hid (Below w1.heap.size w1 wx))
    case first =>
      refine wp_region_held_drew (S := fun V => V.cell? ⟨w.heap.size, 0, none⟩ = some (.slice A l.length c) ∧ V.cell? ⟨w.heap.size + 1, 0, none⟩ = some (.int .i64 id) ∧ V.cell? ⟨w.heap.size + 1, 1, none⟩ = some (.int .i64 kn) ∧ V.cell? ⟨w.heap.size + 1, 2, none⟩ = some (.int .u8 kd) ∧ V.cell? ⟨w.heap.size + 1, 3, none⟩ = some (.string x) ∧ V.cell? ⟨w.heap.size + 1, 4, none⟩ = some (.string y) ∧ V.cell? ⟨w.heap.size + 1, 5, none⟩ = some (.int .i64 of)) (by kernel_rfl) ?_ (fun hHeld => ?_)
      · exact HS.out _ (Below.refl _ _).drew
      refine tk 0 19 ?_
      refine tk 1 20 ?_
      refine tk 3 22 ?_
      have hB_w3 : Below w1.heap.size w1 w1.drew := (Below.refl _ _).drew
      generalize w1.drew = w3 at *
      refine held_three 2 4 7 ⟨some 21, .call { callee := .value (.func 99), args := #[.tmp 20], argTypes := #[23] }, 23, _, _, none⟩ ⟨some 23, .buildSlice 23 1 #[(0, .tmp 22)], 23, _, _, none⟩ ⟨some 8, .alloc 25, 0, _, _, none⟩ rfl rfl rfl (by kernel_rfl) (by rfl) (by rfl) (by rfl) ?_ ?_ ?_
      · refine wp_call (f := 99) (args := #[.slice A l.length c]) (by go_simp) (clone_any l A c _ (HL.out _ hB_w3) HM.out) ?_
        rintro e v1 ⟨r1, rfl, own_v1, hb_v1⟩
        have hB_v1 : Below w1.heap.size w1 v1 := hB_w3.trans (hb_v1.mono hB_w3.size)
        replace own_v1 := own_weak own_v1 hB_w3.size
        refine ⟨_, rfl, HS.out _ hB_v1, ?_⟩
        (try simp only [Act.put, List.setIfInBounds_toArray, List.set_cons_zero, List.set_cons_succ])
        refine held_two 4 7 ⟨some 23, .buildSlice 23 1 #[(0, .tmp 22)], 23, _, _, none⟩ ⟨some 8, .alloc 25, 0, _, _, none⟩ rfl rfl (by kernel_rfl) (by rfl) (by rfl) ?_ ?_
        · unfold Oper.wp
          go_simp
          have hB_v2 : Below w1.heap.size w1 (v1.alloc (.cells #[.int .i64 id, .int .i64 kn, .int .u8 kd, .string x, .string y, .int .i64 of] 50)) := hB_v1.alloc hB_v1.size _
          have row_v2 : Bk (v1.alloc (.cells #[.int .i64 id, .int .i64 kn, .int .u8 kd, .string x, .string y, .int .i64 of] 50)) v1.heap.size 50 #[.int .i64 id, .int .i64 kn, .int .u8 kd, .string x, .string y, .int .i64 of] := Bk.new _ _ _
          have own_v2 := ownsRow_below own_v1 ((Below.refl v1.heap.size v1).alloc (Nat.le_refl _) (.cells #[.int .i64 id, .int .i64 kn, .int .u8 kd, .string x, .string y, .int .i64 of] 50)) (Nat.le_refl _)
          refine ⟨HS.out _ hB_v2, ?_⟩
          (try simp only [Act.put, List.setIfInBounds_toArray, List.set_cons_zero, List.set_cons_succ])
          generalize hv_v2 : v1.alloc (.cells #[.int .i64 id, .int .i64 kn, .int .u8 kd, .string x, .string y, .int .i64 of] 50) = v2 at *
          refine held_two 5 7 ⟨some 24, .call { callee := .builtin .append, args := #[.tmp 21, .tmp 23], argTypes := #[23, 23] }, 23, _, _, none⟩ ⟨some 8, .alloc 25, 0, _, _, none⟩ rfl rfl (by kernel_rfl) (by rfl) (by rfl) ?_ ?_
          · refine wp_append1 _ (.tmp 21) (.tmp 23) 23 rfl w1.heap.size 50 zeroRul 6 64 Tryz.underlying23 info50 (by decide) (by decide) r1 l.length (rulesC l) rfl own_v2 v1.heap.size #[.int .i64 id, .int .i64 kn, .int .u8 kd, .string x, .string y, .int .i64 of] 50 rfl row_v2 (by simp) HO.out (by have := HM.out; omega) (by omega) hB_v2.size w1 hB_v2 ?_
            intro r3 v3 own_v3 hB_v3 hg_v3
            have hS_v3 := HS.out _ hB_v3
            refine ⟨hS_v3, ?_⟩
            (try simp only [Act.put, List.setIfInBounds_toArray, List.set_cons_zero, List.set_cons_succ])
            obtain ⟨A3, c3, rfl, hc3⟩ := ownsSlice own_v3
            refine tk 6 25 ?_
            clear hS_v3
            refine held_one 7 ⟨some 8, .alloc 25, 0, _, _, none⟩ rfl (by kernel_rfl) (by rfl) ?_
            unfold Oper.wp
            go_simp
            have hB_v4 : Below w1.heap.size w1 (v3.alloc (.cells #[.slice none 0 0] 25)) := hB_v3.alloc hB_v3.size _
            have box_v4 : Bk (v3.alloc (.cells #[.slice none 0 0] 25)) v3.heap.size 25 #[.slice none 0 0] := Bk.new _ _ _
            have own_v4 := ownsRow_below own_v3 ((Below.refl v3.heap.size v3).alloc (Nat.le_refl _) (.cells #[.slice none 0 0] 25)) (Nat.le_refl _)
            refine ⟨HS.out _ hB_v4, ?_⟩
            (try simp only [Act.put, List.setIfInBounds_toArray, List.set_cons_zero, List.set_cons_succ])
            generalize hv_v4 : v3.alloc (.cells #[.slice none 0 0] 25) = v4 at *
            refine held_one 8 ⟨none, .store 25 (.tmp 8) (.tmp 25), _, _, _, none⟩ rfl (by kernel_rfl) (by rfl) ?_
            refine wp_store_blk 25 (.tmp 8) (.tmp 25) rfl (v3.heap.size) #[.slice none 0 0] #[.slice A3 (l.length + 1) c3] rfl rfl box_v4 rfl info25 (by intro v hv; simp at hv; subst hv; rfl) ?_
            intro u_v4 k_v4 f_v4
            have hB_u := f_v4.bel _ _ hB_v3.size hB_v4
            refine ⟨HS.out _ hB_u, ?_⟩
            (try simp only [Act.put, List.setIfInBounds_toArray, List.set_cons_zero, List.set_cons_succ])
            refine wpAnyH_done (by kernel_rfl) ?_ _
            clear hHeld
            go_wp2_with fail
            go_meet
            exact ⟨_, _, _, rfl, Lib.hid k_v4, ⟨Lib.hid (fin_app own_v4 HSN.out box_v4 f_v4), Lib.hid (own_ge own_v4)⟩, hc3, Lib.hid hB_u⟩
          · unfold Oper.wp
            go_simp
            have hB_v5 : Below w1.heap.size w1 (v2.alloc (.cells #[.slice none 0 0] 25)) := hB_v2.alloc hB_v2.size _
            have box_v5 : Bk (v2.alloc (.cells #[.slice none 0 0] 25)) v2.heap.size 25 #[.slice none 0 0] := Bk.new _ _ _
            have own_v5 := ownsRow_below own_v2 ((Below.refl v2.heap.size v2).alloc (Nat.le_refl _) (.cells #[.slice none 0 0] 25)) (Nat.le_refl _)
            have row_v5 := row_v2.alloc (.cells #[.slice none 0 0] 25)
            refine ⟨HS.out _ hB_v5, ?_⟩
            (try simp only [Act.put, List.setIfInBounds_toArray, List.set_cons_zero, List.set_cons_succ])
            generalize hv_v5 : v2.alloc (.cells #[.slice none 0 0] 25) = v5 at *
            refine held_one 5 ⟨some 24, .call { callee := .builtin .append, args := #[.tmp 21, .tmp 23], argTypes := #[23, 23] }, 23, _, _, none⟩ rfl (by kernel_rfl) (by rfl) ?_
            refine wp_append1 _ (.tmp 21) (.tmp 23) 23 rfl w1.heap.size 50 zeroRul 6 64 Tryz.underlying23 info50 (by decide) (by decide) r1 l.length (rulesC l) rfl own_v5 v1.heap.size #[.int .i64 id, .int .i64 kn, .int .u8 kd, .string x, .string y, .int .i64 of] 50 rfl row_v5 (by simp) HO.out (by have := HM.out; omega) (by omega) hB_v5.size w1 hB_v5 ?_
            intro r6 v6 own_v6 hB_v6 hg_v6
            have box_v6 := box_v5.grown hg_v6 (own_ne own_v5 box_v5 (by decide))
            have hS_v6 := HS.out _ hB_v6
            refine ⟨hS_v6, ?_⟩
            (try simp only [Act.put, List.setIfInBounds_toArray, List.set_cons_zero, List.set_cons_succ])
            obtain ⟨A6, c6, rfl, hc6⟩ := ownsSlice own_v6
            refine tk 6 25 ?_
            clear hS_v6
            refine held_one 8 ⟨none, .store 25 (.tmp 8) (.tmp 25), _, _, _, none⟩ rfl (by kernel_rfl) (by rfl) ?_
            refine wp_store_blk 25 (.tmp 8) (.tmp 25) rfl (v2.heap.size) #[.slice none 0 0] #[.slice A6 (l.length + 1) c6] rfl rfl box_v6 rfl info25 (by intro v hv; simp at hv; subst hv; rfl) ?_
            intro u_v6 k_v6 f_v6
            have hB_u := f_v6.bel _ _ hB_v2.size hB_v6
            refine ⟨HS.out _ hB_u, ?_⟩
            (try simp only [Act.put, List.setIfInBounds_toArray, List.set_cons_zero, List.set_cons_succ])
            refine wpAnyH_done (by kernel_rfl) ?_ _
            clear hHeld
            go_wp2_with fail
            go_meet
            exact ⟨_, _, _, rfl, Lib.hid k_v6, ⟨Lib.hid (fin_app own_v6 HSN.out box_v6 f_v6), Lib.hid (own_ge own_v6)⟩, hc6, Lib.hid hB_u⟩
        · unfold Oper.wp
          go_simp
          have hB_v7 : Below w1.heap.size w1 (v1.alloc (.cells #[.slice none 0 0] 25)) := hB_v1.alloc hB_v1.size _
          have box_v7 : Bk (v1.alloc (.cells #[.slice none 0 0] 25)) v1.heap.size 25 #[.slice none 0 0] := Bk.new _ _ _
          have own_v7 := ownsRow_below own_v1 ((Below.refl v1.heap.size v1).alloc (Nat.le_refl _) (.cells #[.slice none 0 0] 25)) (Nat.le_refl _)
          refine ⟨HS.out _ hB_v7, ?_⟩
          (try simp only [Act.put, List.setIfInBounds_toArray, List.set_cons_zero, List.set_cons_succ])
          generalize hv_v7 : v1.alloc (.cells #[.slice none 0 0] 25) = v7 at *
          refine held_one 4 ⟨some 23, .buildSlice 23 1 #[(0, .tmp 22)], 23, _, _, none⟩ rfl (by kernel_rfl) (by rfl) ?_
          unfold Oper.wp
          go_simp
          have hB_v8 : Below w1.heap.size w1 (v7.alloc (.cells #[.int .i64 id, .int .i64 kn, .int .u8 kd, .string x, .string y, .int .i64 of] 50)) := hB_v7.alloc hB_v7.size _
          have row_v8 : Bk (v7.alloc (.cells #[.int .i64 id, .int .i64 kn, .int .u8 kd, .string x, .string y, .int .i64 of] 50)) v7.heap.size 50 #[.int .i64 id, .int .i64 kn, .int .u8 kd, .string x, .string y, .int .i64 of] := Bk.new _ _ _
          have own_v8 := ownsRow_below own_v7 ((Below.refl v7.heap.size v7).alloc (Nat.le_refl _) (.cells #[.int .i64 id, .int .i64 kn, .int .u8 kd, .string x, .string y, .int .i64 of] 50)) (Nat.le_refl _)
          have box_v8 := box_v7.alloc (.cells #[.int .i64 id, .int .i64 kn, .int .u8 kd, .string x, .string y, .int .i64 of] 50)
          refine ⟨HS.out _ hB_v8, ?_⟩
          (try simp only [Act.put, List.setIfInBounds_toArray, List.set_cons_zero, List.set_cons_succ])
          generalize hv_v8 : v7.alloc (.cells #[.int .i64 id, .int .i64 kn, .int .u8 kd, .string x, .string y, .int .i64 of] 50) = v8 at *
          refine held_one 5 ⟨some 24, .call { callee := .builtin .append, args := #[.tmp 21, .tmp 23], argTypes := #[23, 23] }, 23, _, _, none⟩ rfl (by kernel_rfl) (by rfl) ?_
          refine wp_append1 _ (.tmp 21) (.tmp 23) 23 rfl w1.heap.size 50 zeroRul 6 64 Tryz.underlying23 info50 (by decide) (by decide) r1 l.length (rulesC l) rfl own_v8 v7.heap.size #[.int .i64 id, .int .i64 kn, .int .u8 kd, .string x, .string y, .int .i64 of] 50 rfl row_v8 (by simp) HO.out (by have := HM.out; omega) (by omega) hB_v8.size w1 hB_v8 ?_
          intro r9 v9 own_v9 hB_v9 hg_v9
          have box_v9 := box_v8.grown hg_v9 (own_ne own_v8 box_v8 (by decide))
          have hS_v9 := HS.out _ hB_v9
          refine ⟨hS_v9, ?_⟩
          (try simp only [Act.put, List.setIfInBounds_toArray, List.set_cons_zero, List.set_cons_succ])
          obtain ⟨A9, c9, rfl, hc9⟩ := ownsSlice own_v9
          refine tk 6 25 ?_
          clear hS_v9
          refine held_one 8 ⟨none, .store 25 (.tmp 8) (.tmp 25), _, _, _, none⟩ rfl (by kernel_rfl) (by rfl) ?_
          refine wp_store_blk 25 (.tmp 8) (.tmp 25) rfl (v1.heap.size) #[.slice none 0 0] #[.slice A9 (l.length + 1) c9] rfl rfl box_v9 rfl info25 (by intro v hv; simp at hv; subst hv; rfl) ?_
          intro u_v9 k_v9 f_v9
          have hB_u := f_v9.bel _ _ hB_v1.size hB_v9
          refine ⟨HS.out _ hB_u, ?_⟩
          (try simp only [Act.put, List.setIfInBounds_toArray, List.set_cons_zero, List.set_cons_succ])
          refine wpAnyH_done (by kernel_rfl) ?_ _
          clear hHeld
          go_wp2_with fail
          go_meet
          exact ⟨_, _, _, rfl, Lib.hid k_v9, ⟨Lib.hid (fin_app own_v9 HSN.out box_v9 f_v9), Lib.hid (own_ge own_v9)⟩, hc9, Lib.hid hB_u⟩
      · unfold Oper.wp
        go_simp
        have hB_v10 : Below w1.heap.size w1 (w3.alloc (.cells #[.int .i64 id, .int .i64 kn, .int .u8 kd, .string x, .string y, .int .i64 of] 50)) := hB_w3.alloc hB_w3.size _
        have row_v10 : Bk (w3.alloc (.cells #[.int .i64 id, .int .i64 kn, .int .u8 kd, .string x, .string y, .int .i64 of] 50)) w3.heap.size 50 #[.int .i64 id, .int .i64 kn, .int .u8 kd, .string x, .string y, .int .i64 of] := Bk.new _ _ _
        refine ⟨HS.out _ hB_v10, ?_⟩
        (try simp only [Act.put, List.setIfInBounds_toArray, List.set_cons_zero, List.set_cons_succ])
        generalize hv_v10 : w3.alloc (.cells #[.int .i64 id, .int .i64 kn, .int .u8 kd, .string x, .string y, .int .i64 of] 50) = v10 at *
        refine held_two 2 7 ⟨some 21, .call { callee := .value (.func 99), args := #[.tmp 20], argTypes := #[23] }, 23, _, _, none⟩ ⟨some 8, .alloc 25, 0, _, _, none⟩ rfl rfl (by kernel_rfl) (by rfl) (by rfl) ?_ ?_
        · refine wp_call (f := 99) (args := #[.slice A l.length c]) (by go_simp) (clone_any l A c _ (HL.out _ hB_v10) HM.out) ?_
          rintro e v11 ⟨r11, rfl, own_v11, hb_v11⟩
          have hB_v11 : Below w1.heap.size w1 v11 := hB_v10.trans (hb_v11.mono hB_v10.size)
          replace own_v11 := own_weak own_v11 hB_v10.size
          have row_v11 := row_v10.below hb_v11 row_v10.lt
          refine ⟨_, rfl, HS.out _ hB_v11, ?_⟩
          (try simp only [Act.put, List.setIfInBounds_toArray, List.set_cons_zero, List.set_cons_succ])
          refine held_two 5 7 ⟨some 24, .call { callee := .builtin .append, args := #[.tmp 21, .tmp 23], argTypes := #[23, 23] }, 23, _, _, none⟩ ⟨some 8, .alloc 25, 0, _, _, none⟩ rfl rfl (by kernel_rfl) (by rfl) (by rfl) ?_ ?_
          · refine wp_append1 _ (.tmp 21) (.tmp 23) 23 rfl w1.heap.size 50 zeroRul 6 64 Tryz.underlying23 info50 (by decide) (by decide) r11 l.length (rulesC l) rfl own_v11 w3.heap.size #[.int .i64 id, .int .i64 kn, .int .u8 kd, .string x, .string y, .int .i64 of] 50 rfl row_v11 (by simp) HO.out (by have := HM.out; omega) (by omega) hB_v11.size w1 hB_v11 ?_
            intro r12 v12 own_v12 hB_v12 hg_v12
            have hS_v12 := HS.out _ hB_v12
            refine ⟨hS_v12, ?_⟩
            (try simp only [Act.put, List.setIfInBounds_toArray, List.set_cons_zero, List.set_cons_succ])
            obtain ⟨A12, c12, rfl, hc12⟩ := ownsSlice own_v12
            refine tk 6 25 ?_
            clear hS_v12
            refine held_one 7 ⟨some 8, .alloc 25, 0, _, _, none⟩ rfl (by kernel_rfl) (by rfl) ?_
            unfold Oper.wp
            go_simp
            have hB_v13 : Below w1.heap.size w1 (v12.alloc (.cells #[.slice none 0 0] 25)) := hB_v12.alloc hB_v12.size _
            have box_v13 : Bk (v12.alloc (.cells #[.slice none 0 0] 25)) v12.heap.size 25 #[.slice none 0 0] := Bk.new _ _ _
            have own_v13 := ownsRow_below own_v12 ((Below.refl v12.heap.size v12).alloc (Nat.le_refl _) (.cells #[.slice none 0 0] 25)) (Nat.le_refl _)
            refine ⟨HS.out _ hB_v13, ?_⟩
            (try simp only [Act.put, List.setIfInBounds_toArray, List.set_cons_zero, List.set_cons_succ])
            generalize hv_v13 : v12.alloc (.cells #[.slice none 0 0] 25) = v13 at *
            refine held_one 8 ⟨none, .store 25 (.tmp 8) (.tmp 25), _, _, _, none⟩ rfl (by kernel_rfl) (by rfl) ?_
            refine wp_store_blk 25 (.tmp 8) (.tmp 25) rfl (v12.heap.size) #[.slice none 0 0] #[.slice A12 (l.length + 1) c12] rfl rfl box_v13 rfl info25 (by intro v hv; simp at hv; subst hv; rfl) ?_
            intro u_v13 k_v13 f_v13
            have hB_u := f_v13.bel _ _ hB_v12.size hB_v13
            refine ⟨HS.out _ hB_u, ?_⟩
            (try simp only [Act.put, List.setIfInBounds_toArray, List.set_cons_zero, List.set_cons_succ])
            refine wpAnyH_done (by kernel_rfl) ?_ _
            clear hHeld
            go_wp2_with fail
            go_meet
            exact ⟨_, _, _, rfl, Lib.hid k_v13, ⟨Lib.hid (fin_app own_v13 HSN.out box_v13 f_v13), Lib.hid (own_ge own_v13)⟩, hc12, Lib.hid hB_u⟩
          · unfold Oper.wp
            go_simp
            have hB_v14 : Below w1.heap.size w1 (v11.alloc (.cells #[.slice none 0 0] 25)) := hB_v11.alloc hB_v11.size _
            have box_v14 : Bk (v11.alloc (.cells #[.slice none 0 0] 25)) v11.heap.size 25 #[.slice none 0 0] := Bk.new _ _ _
            have own_v14 := ownsRow_below own_v11 ((Below.refl v11.heap.size v11).alloc (Nat.le_refl _) (.cells #[.slice none 0 0] 25)) (Nat.le_refl _)
            have row_v14 := row_v11.alloc (.cells #[.slice none 0 0] 25)
            refine ⟨HS.out _ hB_v14, ?_⟩
            (try simp only [Act.put, List.setIfInBounds_toArray, List.set_cons_zero, List.set_cons_succ])
            generalize hv_v14 : v11.alloc (.cells #[.slice none 0 0] 25) = v14 at *
            refine held_one 5 ⟨some 24, .call { callee := .builtin .append, args := #[.tmp 21, .tmp 23], argTypes := #[23, 23] }, 23, _, _, none⟩ rfl (by kernel_rfl) (by rfl) ?_
            refine wp_append1 _ (.tmp 21) (.tmp 23) 23 rfl w1.heap.size 50 zeroRul 6 64 Tryz.underlying23 info50 (by decide) (by decide) r11 l.length (rulesC l) rfl own_v14 w3.heap.size #[.int .i64 id, .int .i64 kn, .int .u8 kd, .string x, .string y, .int .i64 of] 50 rfl row_v14 (by simp) HO.out (by have := HM.out; omega) (by omega) hB_v14.size w1 hB_v14 ?_
            intro r15 v15 own_v15 hB_v15 hg_v15
            have box_v15 := box_v14.grown hg_v15 (own_ne own_v14 box_v14 (by decide))
            have hS_v15 := HS.out _ hB_v15
            refine ⟨hS_v15, ?_⟩
            (try simp only [Act.put, List.setIfInBounds_toArray, List.set_cons_zero, List.set_cons_succ])
            obtain ⟨A15, c15, rfl, hc15⟩ := ownsSlice own_v15
            refine tk 6 25 ?_
            clear hS_v15
            refine held_one 8 ⟨none, .store 25 (.tmp 8) (.tmp 25), _, _, _, none⟩ rfl (by kernel_rfl) (by rfl) ?_
            refine wp_store_blk 25 (.tmp 8) (.tmp 25) rfl (v11.heap.size) #[.slice none 0 0] #[.slice A15 (l.length + 1) c15] rfl rfl box_v15 rfl info25 (by intro v hv; simp at hv; subst hv; rfl) ?_
            intro u_v15 k_v15 f_v15
            have hB_u := f_v15.bel _ _ hB_v11.size hB_v15
            refine ⟨HS.out _ hB_u, ?_⟩
            (try simp only [Act.put, List.setIfInBounds_toArray, List.set_cons_zero, List.set_cons_succ])
            refine wpAnyH_done (by kernel_rfl) ?_ _
            clear hHeld
            go_wp2_with fail
            go_meet
            exact ⟨_, _, _, rfl, Lib.hid k_v15, ⟨Lib.hid (fin_app own_v15 HSN.out box_v15 f_v15), Lib.hid (own_ge own_v15)⟩, hc15, Lib.hid hB_u⟩
        · unfold Oper.wp
          go_simp
          have hB_v16 : Below w1.heap.size w1 (v10.alloc (.cells #[.slice none 0 0] 25)) := hB_v10.alloc hB_v10.size _
          have box_v16 : Bk (v10.alloc (.cells #[.slice none 0 0] 25)) v10.heap.size 25 #[.slice none 0 0] := Bk.new _ _ _
          have row_v16 := row_v10.alloc (.cells #[.slice none 0 0] 25)
          refine ⟨HS.out _ hB_v16, ?_⟩
          (try simp only [Act.put, List.setIfInBounds_toArray, List.set_cons_zero, List.set_cons_succ])
          generalize hv_v16 : v10.alloc (.cells #[.slice none 0 0] 25) = v16 at *
          refine held_one 2 ⟨some 21, .call { callee := .value (.func 99), args := #[.tmp 20], argTypes := #[23] }, 23, _, _, none⟩ rfl (by kernel_rfl) (by rfl) ?_
          refine wp_call (f := 99) (args := #[.slice A l.length c]) (by go_simp) (clone_any l A c _ (HL.out _ hB_v16) HM.out) ?_
          rintro e v17 ⟨r17, rfl, own_v17, hb_v17⟩
          have hB_v17 : Below w1.heap.size w1 v17 := hB_v16.trans (hb_v17.mono hB_v16.size)
          replace own_v17 := own_weak own_v17 hB_v16.size
          have row_v17 := row_v16.below hb_v17 row_v16.lt
          have box_v17 := box_v16.below hb_v17 box_v16.lt
          refine ⟨_, rfl, HS.out _ hB_v17, ?_⟩
          (try simp only [Act.put, List.setIfInBounds_toArray, List.set_cons_zero, List.set_cons_succ])
          refine held_one 5 ⟨some 24, .call { callee := .builtin .append, args := #[.tmp 21, .tmp 23], argTypes := #[23, 23] }, 23, _, _, none⟩ rfl (by kernel_rfl) (by rfl) ?_
          refine wp_append1 _ (.tmp 21) (.tmp 23) 23 rfl w1.heap.size 50 zeroRul 6 64 Tryz.underlying23 info50 (by decide) (by decide) r17 l.length (rulesC l) rfl own_v17 w3.heap.size #[.int .i64 id, .int .i64 kn, .int .u8 kd, .string x, .string y, .int .i64 of] 50 rfl row_v17 (by simp) HO.out (by have := HM.out; omega) (by omega) hB_v17.size w1 hB_v17 ?_
          intro r18 v18 own_v18 hB_v18 hg_v18
          have box_v18 := box_v17.grown hg_v18 (own_ne own_v17 box_v17 (by decide))
          have hS_v18 := HS.out _ hB_v18
          refine ⟨hS_v18, ?_⟩
          (try simp only [Act.put, List.setIfInBounds_toArray, List.set_cons_zero, List.set_cons_succ])
          obtain ⟨A18, c18, rfl, hc18⟩ := ownsSlice own_v18
          refine tk 6 25 ?_
          clear hS_v18
          refine held_one 8 ⟨none, .store 25 (.tmp 8) (.tmp 25), _, _, _, none⟩ rfl (by kernel_rfl) (by rfl) ?_
          refine wp_store_blk 25 (.tmp 8) (.tmp 25) rfl (v10.heap.size) #[.slice none 0 0] #[.slice A18 (l.length + 1) c18] rfl rfl box_v18 rfl info25 (by intro v hv; simp at hv; subst hv; rfl) ?_
          intro u_v18 k_v18 f_v18
          have hB_u := f_v18.bel _ _ hB_v10.size hB_v18
          refine ⟨HS.out _ hB_u, ?_⟩
          (try simp only [Act.put, List.setIfInBounds_toArray, List.set_cons_zero, List.set_cons_succ])
          refine wpAnyH_done (by kernel_rfl) ?_ _
          clear hHeld
          go_wp2_with fail
          go_meet
          exact ⟨_, _, _, rfl, Lib.hid k_v18, ⟨Lib.hid (fin_app own_v18 HSN.out box_v18 f_v18), Lib.hid (own_ge own_v18)⟩, hc18, Lib.hid hB_u⟩
      · unfold Oper.wp
        go_simp
        have hB_v19 : Below w1.heap.size w1 (w3.alloc (.cells #[.slice none 0 0] 25)) := hB_w3.alloc hB_w3.size _
        have box_v19 : Bk (w3.alloc (.cells #[.slice none 0 0] 25)) w3.heap.size 25 #[.slice none 0 0] := Bk.new _ _ _
        refine ⟨HS.out _ hB_v19, ?_⟩
        (try simp only [Act.put, List.setIfInBounds_toArray, List.set_cons_zero, List.set_cons_succ])
        generalize hv_v19 : w3.alloc (.cells #[.slice none 0 0] 25) = v19 at *
        refine held_two 2 4 ⟨some 21, .call { callee := .value (.func 99), args := #[.tmp 20], argTypes := #[23] }, 23, _, _, none⟩ ⟨some 23, .buildSlice 23 1 #[(0, .tmp 22)], 23, _, _, none⟩ rfl rfl (by kernel_rfl) (by rfl) (by rfl) ?_ ?_
        · refine wp_call (f := 99) (args := #[.slice A l.length c]) (by go_simp) (clone_any l A c _ (HL.out _ hB_v19) HM.out) ?_
          rintro e v20 ⟨r20, rfl, own_v20, hb_v20⟩
          have hB_v20 : Below w1.heap.size w1 v20 := hB_v19.trans (hb_v20.mono hB_v19.size)
          replace own_v20 := own_weak own_v20 hB_v19.size
          have box_v20 := box_v19.below hb_v20 box_v19.lt
          refine ⟨_, rfl, HS.out _ hB_v20, ?_⟩
          (try simp only [Act.put, List.setIfInBounds_toArray, List.set_cons_zero, List.set_cons_succ])
          refine held_one 4 ⟨some 23, .buildSlice 23 1 #[(0, .tmp 22)], 23, _, _, none⟩ rfl (by kernel_rfl) (by rfl) ?_
          unfold Oper.wp
          go_simp
          have hB_v21 : Below w1.heap.size w1 (v20.alloc (.cells #[.int .i64 id, .int .i64 kn, .int .u8 kd, .string x, .string y, .int .i64 of] 50)) := hB_v20.alloc hB_v20.size _
          have row_v21 : Bk (v20.alloc (.cells #[.int .i64 id, .int .i64 kn, .int .u8 kd, .string x, .string y, .int .i64 of] 50)) v20.heap.size 50 #[.int .i64 id, .int .i64 kn, .int .u8 kd, .string x, .string y, .int .i64 of] := Bk.new _ _ _
          have own_v21 := ownsRow_below own_v20 ((Below.refl v20.heap.size v20).alloc (Nat.le_refl _) (.cells #[.int .i64 id, .int .i64 kn, .int .u8 kd, .string x, .string y, .int .i64 of] 50)) (Nat.le_refl _)
          have box_v21 := box_v20.alloc (.cells #[.int .i64 id, .int .i64 kn, .int .u8 kd, .string x, .string y, .int .i64 of] 50)
          refine ⟨HS.out _ hB_v21, ?_⟩
          (try simp only [Act.put, List.setIfInBounds_toArray, List.set_cons_zero, List.set_cons_succ])
          generalize hv_v21 : v20.alloc (.cells #[.int .i64 id, .int .i64 kn, .int .u8 kd, .string x, .string y, .int .i64 of] 50) = v21 at *
          refine held_one 5 ⟨some 24, .call { callee := .builtin .append, args := #[.tmp 21, .tmp 23], argTypes := #[23, 23] }, 23, _, _, none⟩ rfl (by kernel_rfl) (by rfl) ?_
          refine wp_append1 _ (.tmp 21) (.tmp 23) 23 rfl w1.heap.size 50 zeroRul 6 64 Tryz.underlying23 info50 (by decide) (by decide) r20 l.length (rulesC l) rfl own_v21 v20.heap.size #[.int .i64 id, .int .i64 kn, .int .u8 kd, .string x, .string y, .int .i64 of] 50 rfl row_v21 (by simp) HO.out (by have := HM.out; omega) (by omega) hB_v21.size w1 hB_v21 ?_
          intro r22 v22 own_v22 hB_v22 hg_v22
          have box_v22 := box_v21.grown hg_v22 (own_ne own_v21 box_v21 (by decide))
          have hS_v22 := HS.out _ hB_v22
          refine ⟨hS_v22, ?_⟩
          (try simp only [Act.put, List.setIfInBounds_toArray, List.set_cons_zero, List.set_cons_succ])
          obtain ⟨A22, c22, rfl, hc22⟩ := ownsSlice own_v22
          refine tk 6 25 ?_
          clear hS_v22
          refine held_one 8 ⟨none, .store 25 (.tmp 8) (.tmp 25), _, _, _, none⟩ rfl (by kernel_rfl) (by rfl) ?_
          refine wp_store_blk 25 (.tmp 8) (.tmp 25) rfl (w3.heap.size) #[.slice none 0 0] #[.slice A22 (l.length + 1) c22] rfl rfl box_v22 rfl info25 (by intro v hv; simp at hv; subst hv; rfl) ?_
          intro u_v22 k_v22 f_v22
          have hB_u := f_v22.bel _ _ hB_w3.size hB_v22
          refine ⟨HS.out _ hB_u, ?_⟩
          (try simp only [Act.put, List.setIfInBounds_toArray, List.set_cons_zero, List.set_cons_succ])
          refine wpAnyH_done (by kernel_rfl) ?_ _
          clear hHeld
          go_wp2_with fail
          go_meet
          exact ⟨_, _, _, rfl, Lib.hid k_v22, ⟨Lib.hid (fin_app own_v22 HSN.out box_v22 f_v22), Lib.hid (own_ge own_v22)⟩, hc22, Lib.hid hB_u⟩
        · unfold Oper.wp
          go_simp
          have hB_v23 : Below w1.heap.size w1 (v19.alloc (.cells #[.int .i64 id, .int .i64 kn, .int .u8 kd, .string x, .string y, .int .i64 of] 50)) := hB_v19.alloc hB_v19.size _
          have row_v23 : Bk (v19.alloc (.cells #[.int .i64 id, .int .i64 kn, .int .u8 kd, .string x, .string y, .int .i64 of] 50)) v19.heap.size 50 #[.int .i64 id, .int .i64 kn, .int .u8 kd, .string x, .string y, .int .i64 of] := Bk.new _ _ _
          have box_v23 := box_v19.alloc (.cells #[.int .i64 id, .int .i64 kn, .int .u8 kd, .string x, .string y, .int .i64 of] 50)
          refine ⟨HS.out _ hB_v23, ?_⟩
          (try simp only [Act.put, List.setIfInBounds_toArray, List.set_cons_zero, List.set_cons_succ])
          generalize hv_v23 : v19.alloc (.cells #[.int .i64 id, .int .i64 kn, .int .u8 kd, .string x, .string y, .int .i64 of] 50) = v23 at *
          refine held_one 2 ⟨some 21, .call { callee := .value (.func 99), args := #[.tmp 20], argTypes := #[23] }, 23, _, _, none⟩ rfl (by kernel_rfl) (by rfl) ?_
          refine wp_call (f := 99) (args := #[.slice A l.length c]) (by go_simp) (clone_any l A c _ (HL.out _ hB_v23) HM.out) ?_
          rintro e v24 ⟨r24, rfl, own_v24, hb_v24⟩
          have hB_v24 : Below w1.heap.size w1 v24 := hB_v23.trans (hb_v24.mono hB_v23.size)
          replace own_v24 := own_weak own_v24 hB_v23.size
          have row_v24 := row_v23.below hb_v24 row_v23.lt
          have box_v24 := box_v23.below hb_v24 box_v23.lt
          refine ⟨_, rfl, HS.out _ hB_v24, ?_⟩
          (try simp only [Act.put, List.setIfInBounds_toArray, List.set_cons_zero, List.set_cons_succ])
          refine held_one 5 ⟨some 24, .call { callee := .builtin .append, args := #[.tmp 21, .tmp 23], argTypes := #[23, 23] }, 23, _, _, none⟩ rfl (by kernel_rfl) (by rfl) ?_
          refine wp_append1 _ (.tmp 21) (.tmp 23) 23 rfl w1.heap.size 50 zeroRul 6 64 Tryz.underlying23 info50 (by decide) (by decide) r24 l.length (rulesC l) rfl own_v24 v19.heap.size #[.int .i64 id, .int .i64 kn, .int .u8 kd, .string x, .string y, .int .i64 of] 50 rfl row_v24 (by simp) HO.out (by have := HM.out; omega) (by omega) hB_v24.size w1 hB_v24 ?_
          intro r25 v25 own_v25 hB_v25 hg_v25
          have box_v25 := box_v24.grown hg_v25 (own_ne own_v24 box_v24 (by decide))
          have hS_v25 := HS.out _ hB_v25
          refine ⟨hS_v25, ?_⟩
          (try simp only [Act.put, List.setIfInBounds_toArray, List.set_cons_zero, List.set_cons_succ])
          obtain ⟨A25, c25, rfl, hc25⟩ := ownsSlice own_v25
          refine tk 6 25 ?_
          clear hS_v25
          refine held_one 8 ⟨none, .store 25 (.tmp 8) (.tmp 25), _, _, _, none⟩ rfl (by kernel_rfl) (by rfl) ?_
          refine wp_store_blk 25 (.tmp 8) (.tmp 25) rfl (w3.heap.size) #[.slice none 0 0] #[.slice A25 (l.length + 1) c25] rfl rfl box_v25 rfl info25 (by intro v hv; simp at hv; subst hv; rfl) ?_
          intro u_v25 k_v25 f_v25
          have hB_u := f_v25.bel _ _ hB_w3.size hB_v25
          refine ⟨HS.out _ hB_u, ?_⟩
          (try simp only [Act.put, List.setIfInBounds_toArray, List.set_cons_zero, List.set_cons_succ])
          refine wpAnyH_done (by kernel_rfl) ?_ _
          clear hHeld
          go_wp2_with fail
          go_meet
          exact ⟨_, _, _, rfl, Lib.hid k_v25, ⟨Lib.hid (fin_app own_v25 HSN.out box_v25 f_v25), Lib.hid (own_ge own_v25)⟩, hc25, Lib.hid hB_u⟩
    case rest =>
      obtain ⟨g, A8, c8, rfl, k8, ⟨l8, g8⟩, hc8, hb8⟩ := hcut
      have hB8 : Below w.heap.size w wc := hB1.trans (hb8.out.mono hB1.size)
      have k82 := k2.below hb8.out k2.lt
      have k84 := k4.below hb8.out k4.lt
      have HRC := Lib.hid (HRF.out wc A8 c8 l8.out hc8.1 hc8.2)
      have c20 := k82.cell 0 rfl
      have c80 := k8.out.cell 0 rfl
      have HHA := Lib.hid HA
      clear HRF HA
      go_upto_region 6 with (first | (go_at_call 66; refine HRC.out.mono ?_; rintro e w2 ⟨rfl, hb2⟩))
      have hB2 : Below w.heap.size w w2 := hB8.trans (hb2.mono hB8.size)
      have k92 := k84.below hb2 k84.lt
      have k98 := k8.out.below hb2 k8.out.lt
      have l9 := Lib.hid ((l8.out.below hb2 (Nat.le_refl _)).more hb2.size)
      have c98 := k98.cell 0 rfl
      have c92 := k92.cell 0 rfl
      have f92 := k92.fro 0
      clear hb2 HRC c20 c80 l8
      by_cases hZ : E = 0
      · have HZ := Lib.hid hZ
        have hR' : (E == 0) = true := by rw [hZ]; rfl
        have hR2 : (E != 0) = false := by rw [bne, hR']; rfl
        clear hZ
        go_wp2_with fail
        refine bodyPost_ret (results_row rfl _ _ (w.heap.size + 2) [.slice A8 (l.length + 1) c8] _ rfl (k92.set 0 _).range Tryz.underlying25 rfl info25) rfl ?_
        exact HG.out (HHA.out.trans HZ.out) (set_lies l9.out fun ad e h => by have := g8.out ad e; omega) hc8 (hB2.setCell (p := ⟨w.heap.size + 2, 0, none⟩) (by simp) _)
      · have HZ := Lib.hid hZ
        have hR' : (E == 0) = false := by simpa using hZ
        have hR2 : (E != 0) = true := by rw [bne, hR']; rfl
        clear hZ
        go_wp2_with fail
        refine bodyPost_ret (results_row rfl _ _ (w.heap.size + 2) [.slice none 0 0] _ rfl (k92.set 0 _).range Tryz.underlying25 rfl info25) rfl ?_
        exact HBD.out HHA.out HZ.out (hB2.setCell (p := ⟨w.heap.size + 2, 0, none⟩) (by simp) _)
  · have HA := Lib.hid (HE1.out hE)
    have hR' : (e0 == 0) = false := by simpa using hE
    have hR2 : (e0 != 0) = true := by rw [bne, hR']; rfl
    have HE := Lib.hid hE
    clear hE HE0 HE1 HG HLL HRF
    go_wp2_with fail
    refine bodyPost_ret (results_row rfl _ _ (w.heap.size + 2) [.slice none 0 0] _ rfl (k4.set 0 _).range Tryz.underlying25 rfl info25) rfl ?_
    exact HBD.out HA.out HE.out (hB1.setCell (p := ⟨w.heap.size + 2, 0, none⟩) (by simp) _)
end Go.Proofs.YtkfeagokmcakgaaGreatDoor

namespace Go.Proofs.YtkfeagokmcakgaaGreatDoor
open Go.RowKit

def firstF (f : Nat → Option (List Nat)) : Nat → Nat → Option (List Nat)
  | _, 0 => none
  | i, k + 1 => match f i with
    | some v => some v
    | none => firstF f (i + 1) k
def ordOK (bar : Nat → Nat → Bool) (l : List Nat) (i : Nat) : Bool := !((l.any fun y => decide (y = i)) || l.any (bar i))
/-- the first order that goes on from l with r colours more -/
def ordsF (bar : Nat → Nat → Bool) (n : Nat) : Nat → List Nat → Option (List Nat)
  | 0, l => some l
  | r + 1, l => firstF (fun i => if ordOK bar l i = true then ordsF bar n r (l ++ [i]) else none) 0 n
theorem firstF_at {f : Nat → Option (List Nat)} {i n : Nat} (h : i < n) : firstF f i (n - i) = match f i with
    | some v => some v
    | none => firstF f (i + 1) (n - (i + 1)) := by
  rw [show n - i = (n - (i + 1)) + 1 by omega]; rfl

/-- blocks that are no one's but the walk's -/
structure KOk (bl bsx by_ bw bs rb base : Nat) : Prop where
  h1 : base ≤ bl
  h2 : bl < rb
  h3 : bsx < rb
  h4 : by_ < rb
  h5 : bw < rb
  h6 : bs < rb
  hb : base ≤ rb
  n1 : bsx ≠ bl
  n2 : by_ ≠ bl
  n3 : bw ≠ bl
  n4 : bs ≠ bl
section
variable {bl bsx by_ bw lb bs rb base n c : Nat} {A : Option Addr} {bar : Nat → Nat → Bool} {J : World → Prop} {W W' : World}
/-- what the walk reads -/
structure WC (bl bsx by_ bw lb bs : Nat) (A : Option Addr) (n c : Nat) (bar : Nat → Nat → Bool) (J : World → Prop) (W : World) : Prop where
  sx : W.cell? ⟨bsx, 0, none⟩ = some (.pointer (some ⟨bs, 0, none⟩))
  yl : W.cell? ⟨by_, 0, none⟩ = some (.func (.yield lb) #[] #[])
  wk : W.cell? ⟨bw, 0, none⟩ = some (.func (.func 132) #[] #[.pointer (some ⟨bl, 0, none⟩), .pointer (some ⟨bsx, 0, none⟩), .pointer (some ⟨by_, 0, none⟩), .pointer (some ⟨bw, 0, none⟩)])
  stk : StkW bs A n c bar W
  j : J W
theorem WC.low (k : KOk bl bsx by_ bw bs rb base) (h : WC bl bsx by_ bw lb bs A n c bar J W) (hb : Below rb W W') (hj : J W') : WC bl bsx by_ bw lb bs A n c bar J W' :=
  ⟨(hb.cell k.h3).trans h.sx, (hb.cell k.h4).trans h.yl, (hb.cell k.h5).trans h.wk, ⟨(hb.cell k.h6).trans h.stk.col, fun i j hi hj => (hb.cell k.h6).trans (h.stk.bar i j hi hj)⟩, hj⟩
theorem WC.step (k : KOk bl bsx by_ bw bs rb base) (hJ : OwnC base J) (h : WC bl bsx by_ bw lb bs A n c bar J W) (hrb : rb ≤ W.heap.size) (hb : Below W.heap.size W W') : WC bl bsx by_ bw lb bs A n c bar J W' :=
  h.low k (hb.mono hrb) (hJ _ _ none h.j ⟨hb.os, hb.tape, hb.output, hb.size, fun g hg _ => hb.block g hg⟩ (fun r e => by cases e))
theorem WC.set (k : KOk bl bsx by_ bw bs rb base) (hJ : OwnC base J) (h : WC bl bsx by_ bw lb bs A n c bar J W) (v : Value) : WC bl bsx by_ bw lb bs A n c bar J (W.setCell ⟨bl, 0, none⟩ v) := by
  have hg := grownBy_setCell' W bl v
  have hc : ∀ (p : Addr) (u : Value), p.block ≠ bl → W.cell? p = some u → (W.setCell ⟨bl, 0, none⟩ v).cell? p = some u := fun p u hp hu => by
    have hlt := cell_lt hu
    exact (World.cell?_of_block (hg.block _ hlt (fun e => hp (by cases e; rfl)))).trans hu
  exact ⟨hc _ _ k.n1 h.sx, hc _ _ k.n2 h.yl, hc _ _ k.n3 h.wk, ⟨hc _ _ k.n4 h.stk.col, fun i j hi hj => hc _ _ k.n4 (h.stk.bar i j hi hj)⟩, hJ _ _ _ h.j hg (fun r e => by cases e; exact k.h1)⟩
/-- the walk's list -/
structure WL (bl rb : Nat) (l : List Nat) (A' : Option Addr) (c' : Nat) (W : World) : Prop where
  lst : Bk W bl 42 #[.slice A' l.length c']
  own : W.ownsRow rb 3 1 (.slice A' l.length c') l.length (nats l)
theorem WL.step {l : List Nat} {A' : Option Addr} {c' : Nat} (h : WL bl rb l A' c' W) (hb : Below W.heap.size W W') : WL bl rb l A' c' W' := ⟨h.lst.below hb h.lst.lt, ownsRow_below h.own hb (Nat.le_refl _)⟩
theorem own_set {v u : Value} {m : Nat} {xs : List Value} (h : W.ownsRow rb 3 1 v m xs) (hbl : bl < rb) : (W.setCell ⟨bl, 0, none⟩ u).ownsRow rb 3 1 v m xs := (far_setCells bl [u] 0 W).own h hbl
theorem own_pop {m c' : Nat} {A' : Option Addr} {xs : List Value} {x : Value} (h : W.ownsRow rb 3 1 (.slice A' (m + 1) c') (m + 1) (xs ++ [x])) : W.ownsRow rb 3 1 (.slice A' m c') m xs := by
  have hl : xs.length = m := by have := h.1; simp at this; omega
  refine ⟨by omega, ?_⟩
  rcases h.2 with ⟨_, h2⟩ | ⟨g, cap, cur, h1, h2, h3, h4, h5, h6, h7⟩
  · omega
  · cases h1
    refine .inr ⟨g, c', cur, rfl, h2, h3, by omega, h5, h6, ?_⟩
    rw [Nat.mul_one] at h7 ⊢
    have := congrArg (List.take m) h7
    rw [List.take_take, Nat.min_eq_left (by omega)] at this
    rw [this, ← hl, List.take_left]
end
theorem nats_snoc (L : List Nat) (i : Nat) : nats L ++ [Value.int .i64 (i : Int)] = nats (L ++ [i]) := by simp [nats]
/-- a list that is handed over -/
structure El where
  L : List Nat
  A : Option Addr
  c : Nat
def El.v (x : El) : Value := .slice x.A x.L.length x.c
def El.At (x : El) (W : World) : Prop := Lies W W.heap.size x.A (nats x.L)
end Go.Proofs.YtkfeagokmcakgaaGreatDoor
