/- The reference's Append (fn 52). Printed by wip/gen_n20.py. -/
import Derived.Test.YtkfeagokmcakgaaGreatDoorG02
import Derived.Test.YtkfeagokmcakgaaGreatDoorG12
import Derived.Test.YtkfeagokmcakgaaGreatDoorG57

set_option linter.unusedVariables false
set_option linter.unusedSimpArgs false

namespace Go.Proofs.YtkfeagokmcakgaaGreatDoor
open Go.RowKit

theorem blk_ne {a b : Nat} (h : a ≠ b) : some a ≠ Value.ownBlock (.slice (some ⟨b, 0, none⟩) 0 0) := by
  intro e
  exact h (by simpa [Value.ownBlock] using e)
theorem wp_append_lies {P : Program} (w : World) {o : Oper} {a : Act} {K : Act → World → Prop} {Q : Exit → Act → World → Prop} (s x : Operand) (t : TypeId) (ho : o.op = .call { callee := .builtin .append, args := #[s, x], argTypes := #[t, t] })
    (base : Nat) (e : TypeId) (z : Value) (size bytes : Nat) (ht : P.underlying t = some (.slice e)) (hi : (P.info? e).map (fun i => (i.zero, i.size, i.bytes)) = some (some z, size, bytes)) (hzs : z.cells.size = size) (hsz : 0 < size)
    (v : Value) (n : Nat) (xs : List Value) (hs : a.eval s = v) (hown : w.ownsRow base e size v n xs)
    (B : Nat) (A : Option Addr) (m c : Nat) (news : List Value) (hx : a.eval x = .slice A m c) (hl : news.length = m * size) (hr : Lies w B A news) (h1 : ∀ u ∈ news, u.oneCell' = true)
    (h63 : n + m ≤ 100000) (hbytes : bytes ≤ 1000) (hbase : base ≤ w.heap.size) (a0 : World) (hB : Below base a0 w)
    (h : ∀ v' w', w'.ownsRow base e size v' (n + m) (xs ++ news) → Below base a0 w' → w.grownBy w' v.ownBlock → K (a.put o.dst v') w') : o.wp P a w K Q := by
  obtain ⟨i0, hi0, hz0, hz1, hz2⟩ := info_parts hi
  cases A with
  | some ad =>
    obtain ⟨v', w', hrun, r1, r2, _⟩ := run_append_own (P := P) w base t o.type e i0 z size bytes ht hi0 hz0 hz1 hz2 hzs hsz v n xs hown ad m c news hl (fun j u hj => by
        obtain ⟨ad2, e2, _, hc⟩ := hr (by intro e; rw [e] at hj; simp at hj)
        cases e2; exact hc j u hj) h1 (by unfold maxLen; omega)
      (by calc (n + m) * bytes ≤ 100000 * 1000 := Nat.mul_le_mul h63 hbytes
            _ ≤ 140737488355328 := by decide) hbase
    unfold Oper.wp
    simp [execOp, ho, resolve, invoke, builtin, hs, hx, hrun, Result.andThen]
    exact h v' w' r1 (Below.grown hB r2 hbase fun k hk => (hown.lt k hk).1) r2
  | none =>
    have hn : news = [] := Classical.byContradiction fun hne => by
      obtain ⟨ad, e, _⟩ := hr hne
      cases e
    subst hn
    have hm : m = 0 := by
      rcases Nat.eq_zero_or_pos m with h0 | h0
      · exact h0
      · have := Nat.mul_pos h0 hsz; simp at hl; omega
    subst hm
    have hrun : (Builtin.append_ #[t, t] o.type #[v, .slice none 0 c]).run P w = .ok v w := by
      rcases hown.2 with ⟨rfl, rfl⟩ | ⟨g, cap, cur, rfl, _, _, hnc, _⟩
      · simp [Builtin.append_, run_underlying ht, sizeOf, typeInfo, hi0, Builtin.lenOf, Builtin.firstCells]
      · simp [Builtin.append_, run_underlying ht, sizeOf, typeInfo, hi0, Builtin.lenOf, Builtin.firstCells, hnc, storeCells]
    unfold Oper.wp
    simp [execOp, ho, resolve, invoke, builtin, hs, hx, hrun, Result.andThen]
    exact h v w (by simpa using hown) hB (World.grownBy.refl w _)
set_option maxHeartbeats 1000000 in
set_option maxRecDepth 100000 in
theorem rappend_any (l : List Rul) (r : Rul) (A : Option Addr) (c : Nat) (w : World) (hl : Lies w w.heap.size A (rulesC l)) (hok : RulOK (l ++ [r])) (hm : l.length ≤ 999) (hc : l.length ≤ c) (hc2 : c ≤ maxLen) :
    Calls Tryz.prog 52 #[.agg #[.slice A l.length c], r.agg] w (AppEnd l r w) := by
  have HCH := Lib.hid (fun W hb hs => rcheck_any l A c W ((hl.below (hb : Below w.heap.size w W) (Nat.le_refl _)).more hs) (fun x hx => hok x (by simp [hx])) (by omega) hc hc2)
  have HLL : Hid (∀ W, Below w.heap.size w W → Lies W W.heap.size A (rulesC l)) := fun W hb => (hl.below hb (Nat.le_refl _)).more hb.size
  have HRF : Hid ((chkL l).2 = 0 → ∀ (W : World) A' c', Lies W W.heap.size A' (rulesC (l ++ [r])) → l.length + 1 ≤ c' → c' ≤ maxLen → Calls Tryz.prog 68 #[.slice A' (l.length + 1 : Nat) c'] W (IntEnd (refE l r) W)) := fun hz W A' c' h1 h2 h3 => by
    have hr := hok r (by simp)
    have h4 := rrefused_any l r A' c' W h1 hr.1 hr.2.1 (by omega) h2 h3
    rwa [← refE_eq l r (chkL_fine hz).nocirc] at h4
  have HM : Hid (l.length ≤ 1000) := by show l.length ≤ 1000; omega
  have HE0 : Hid ((chkL l).2 = 0 → apdE l r = refE l r) := fun h => by unfold apdE; rw [if_pos h]
  have HE1 : Hid ((chkL l).2 ≠ 0 → apdE l r = (chkL l).2) := fun h => by unfold apdE; rw [if_neg h]
  have HG : Hid (∀ {w' : World} {A : Option Addr} {c : Nat}, apdE l r = 0 → Lies w' w'.heap.size A (rulesC (l ++ [r])) → (l.length + 1 ≤ c ∧ c ≤ maxLen) → Below w.heap.size w w' → AppEnd l r w (.returned (.tuple #[.agg #[.slice A ((l.length : Nat) + 1 : Nat) c], .int .i64 0])) w') := app_good
  have HBD : Hid (∀ {w' : World} {k : Int}, apdE l r = k → k ≠ 0 → Below w.heap.size w w' → AppEnd l r w (.returned (.tuple #[.agg #[.slice none 0 0], .int .i64 k])) w') := app_bad
  have HSN := Lib.hid (rulesC_snoc l r)
  clear hl hok
  generalize chkL l = R at *
  generalize refE l r = E at *
  generalize AppEnd l r w = AE at *
  generalize apdE l r = AP at *
  generalize rulesC (l ++ [r]) = LR at *
  obtain ⟨id, kn, kd, x, y, of⟩ := r
  obtain ⟨i0, e0⟩ := R
  dsimp only at *
  have HO : Hid (∀ u ∈ (#[.int .i64 id, .int .i64 kn, .int .u8 kd, .string x, .string y, .int .i64 of] : Array Value).toList, u.oneCell' = true) := by intro u hu; simp at hu; rcases hu with rfl | rfl | rfl | rfl | rfl | rfl <;> rfl
  have hbe : Below w.heap.size w (((w.alloc (.cells #[.slice A l.length c] 25)).alloc (.cells #[.int .i64 id, .int .i64 kn, .int .u8 kd, .string x, .string y, .int .i64 of] 50)).alloc (.cells #[.slice none 0 0] 25)) := (((Below.refl _ _).alloc (Nat.le_refl _) _).alloc (by simp) _).alloc (by simp; omega) _
  have hb20 : Bk (((w.alloc (.cells #[.slice A l.length c] 25)).alloc (.cells #[.int .i64 id, .int .i64 kn, .int .u8 kd, .string x, .string y, .int .i64 of] 50)).alloc (.cells #[.slice none 0 0] 25)) w.heap.size 25 #[.slice A l.length c] := ((Bk.new w 25 #[.slice A l.length c]).alloc _).alloc _
  have hb30 : Bk (((w.alloc (.cells #[.slice A l.length c] 25)).alloc (.cells #[.int .i64 id, .int .i64 kn, .int .u8 kd, .string x, .string y, .int .i64 of] 50)).alloc (.cells #[.slice none 0 0] 25)) (w.heap.size + 1) 50 #[.int .i64 id, .int .i64 kn, .int .u8 kd, .string x, .string y, .int .i64 of] := by
    have := (Bk.new (w.alloc (.cells #[.slice A l.length c] 25)) 50 #[.int .i64 id, .int .i64 kn, .int .u8 kd, .string x, .string y, .int .i64 of]).alloc (.cells #[.slice none 0 0] 25)
    simpa using this
  have hb40 : Bk (((w.alloc (.cells #[.slice A l.length c] 25)).alloc (.cells #[.int .i64 id, .int .i64 kn, .int .u8 kd, .string x, .string y, .int .i64 of] 50)).alloc (.cells #[.slice none 0 0] 25)) (w.heap.size + 2) 25 #[.slice none 0 0] := by
    have := Bk.new ((w.alloc (.cells #[.slice A l.length c] 25)).alloc (.cells #[.int .i64 id, .int .i64 kn, .int .u8 kd, .string x, .string y, .int .i64 of] 50)) 25 #[.slice none 0 0]
    simpa using this
  have HC := Lib.hid (HCH.out _ hbe hbe.size)
  have HB := Lib.hid hbe
  have H2 := Lib.hid hb20
  have H3 := Lib.hid hb30
  have H4 := Lib.hid hb40
  clear hbe hb20 hb30 hb40 HCH
  go_enter Tryz.func52, Tryz.ntmps52
  go_upto_region 2 with (first | (go_at_call 50; refine HC.out.mono ?_; rintro e w1 ⟨rfl, hb1⟩))
  have hB1 : Below w.heap.size w w1 := HB.out.trans (hb1.mono (by simp; omega))
  have hs1 : w.heap.size + 3 ≤ w1.heap.size := by have := hb1.size; simpa using this
  have k2 := H2.out.below hb1 H2.out.lt
  have k3 := H3.out.below hb1 H3.out.lt
  have k4 := H4.out.below hb1 H4.out.lt
  clear hb1 H2 H3 H4 HB HC
  have c40 := k4.cell 0 rfl
  have f40 := k4.fro 0
  have c20 := k2.cell 0 rfl
  by_cases hE : e0 = 0
  · subst hE
    have HA := HE0.out rfl
    have HRF := Lib.hid (HRF.out rfl)
    clear HE0 HE1 c40 f40 c20
    go_upto_region 4 with fail
    have HL : Hid (∀ V, Below w1.heap.size w1 V → Lies V V.heap.size A (rulesC l)) := fun V hb => HLL.out V (hB1.trans (hb.mono hB1.size))
    have HS : Hid (∀ V, Below w1.heap.size w1 V → V.cell? ⟨w.heap.size, 0, none⟩ = some (.slice A l.length c) ∧ V.cell? ⟨w.heap.size + 1, 0, none⟩ = some (.int .i64 id) ∧ V.cell? ⟨w.heap.size + 1, 1, none⟩ = some (.int .i64 kn) ∧ V.cell? ⟨w.heap.size + 1, 2, none⟩ = some (.int .u8 kd) ∧ V.cell? ⟨w.heap.size + 1, 3, none⟩ = some (.string x) ∧ V.cell? ⟨w.heap.size + 1, 4, none⟩ = some (.string y) ∧ V.cell? ⟨w.heap.size + 1, 5, none⟩ = some (.int .i64 of)) := fun V hb => ⟨(k2.below hb k2.lt).cell 0 rfl, (k3.below hb k3.lt).cell 0 rfl, (k3.below hb k3.lt).cell 1 rfl, (k3.below hb k3.lt).cell 2 rfl, (k3.below hb k3.lt).cell 3 rfl, (k3.below hb k3.lt).cell 4 rfl, (k3.below hb k3.lt).cell 5 rfl⟩
    go_cut [8] (fun s8 wx => ∃ g A c, s8 = .pointer (some ⟨g, 0, none⟩) ∧ Hid (Bk wx g 25 #[.slice A (l.length + 1) c]) ∧ (Hid (Lies wx wx.heap.size A LR) ∧ Hid (∀ ad, A = some ad → w1.heap.size ≤ ad.block)) ∧ (l.length + 1 ≤ c ∧ c ≤ maxLen) ∧ Hid (Below w1.heap.size w1 wx))
    case first =>
      refine wp_region_held_drew (S := fun V => V.cell? ⟨w.heap.size, 0, none⟩ = some (.slice A l.length c) ∧ V.cell? ⟨w.heap.size + 1, 0, none⟩ = some (.int .i64 id) ∧ V.cell? ⟨w.heap.size + 1, 1, none⟩ = some (.int .i64 kn) ∧ V.cell? ⟨w.heap.size + 1, 2, none⟩ = some (.int .u8 kd) ∧ V.cell? ⟨w.heap.size + 1, 3, none⟩ = some (.string x) ∧ V.cell? ⟨w.heap.size + 1, 4, none⟩ = some (.string y) ∧ V.cell? ⟨w.heap.size + 1, 5, none⟩ = some (.int .i64 of)) (by kernel_rfl) ?_ (fun hHeld => ?_)
      · exact HS.out _ (Below.refl _ _).drew
      refine tk 1 20 ?_
      refine tk 2 21 ?_
      refine tk 4 23 ?_
      have hB_w3 : Below w1.heap.size w1 w1.drew := (Below.refl _ _).drew
      generalize w1.drew = w3 at *
      refine held_three 0 5 8 ⟨some 19, .buildSlice 23 0 #[], 23, _, _, none⟩ ⟨some 24, .buildSlice 23 1 #[(0, .tmp 23)], 23, _, _, none⟩ ⟨some 8, .alloc 25, 0, _, _, none⟩ rfl rfl rfl (by kernel_rfl) (by rfl) (by rfl) (by rfl) ?_ ?_ ?_
      · unfold Oper.wp
        go_simp
        have hB_v1 : Below w1.heap.size w1 (w3.alloc (.cells #[] 50)) := hB_w3.alloc hB_w3.size _
        have own_v1 : (w3.alloc (.cells #[] 50)).ownsRow w1.heap.size 50 6 (.slice (some ⟨w3.heap.size, 0, none⟩) 0 0) 0 [] := World.ownsRow_made w3 #[] 0 hB_w3.size (Nat.zero_le _) (by simp)
        refine ⟨HS.out _ hB_v1, ?_⟩
        (try simp only [Act.put, List.setIfInBounds_toArray, List.set_cons_zero, List.set_cons_succ])
        generalize hv_v1 : w3.alloc (.cells #[] 50) = v1 at *
        refine held_three 3 5 8 ⟨some 22, .call { callee := .builtin .append, args := #[.tmp 19, .tmp 21], argTypes := #[23, 23] }, 23, _, _, none⟩ ⟨some 24, .buildSlice 23 1 #[(0, .tmp 23)], 23, _, _, none⟩ ⟨some 8, .alloc 25, 0, _, _, none⟩ rfl rfl rfl (by kernel_rfl) (by rfl) (by rfl) (by rfl) ?_ ?_ ?_
        · refine wp_append_lies _ (.tmp 19) (.tmp 21) 23 rfl w1.heap.size 50 zeroRul 6 64 Tryz.underlying23 info50 (by decide) (by decide) (.slice (some ⟨w3.heap.size, 0, none⟩) 0 0) 0 [] rfl own_v1 v1.heap.size A l.length c (rulesC l) rfl (rulesC_length l) (HL.out _ hB_v1) (rulesC_one l) (by have := HM.out; omega) (by omega) hB_v1.size w1 hB_v1 ?_
          intro r2 v2 own_v2 hB_v2 hg_v2
          rw [Nat.zero_add, List.nil_append] at own_v2
          refine ⟨HS.out _ hB_v2, ?_⟩
          (try simp only [Act.put, List.setIfInBounds_toArray, List.set_cons_zero, List.set_cons_succ])
          refine held_two 5 8 ⟨some 24, .buildSlice 23 1 #[(0, .tmp 23)], 23, _, _, none⟩ ⟨some 8, .alloc 25, 0, _, _, none⟩ rfl rfl (by kernel_rfl) (by rfl) (by rfl) ?_ ?_
          · unfold Oper.wp
            go_simp
            have hB_v3 : Below w1.heap.size w1 (v2.alloc (.cells #[.int .i64 id, .int .i64 kn, .int .u8 kd, .string x, .string y, .int .i64 of] 50)) := hB_v2.alloc hB_v2.size _
            have row_v3 : Bk (v2.alloc (.cells #[.int .i64 id, .int .i64 kn, .int .u8 kd, .string x, .string y, .int .i64 of] 50)) v2.heap.size 50 #[.int .i64 id, .int .i64 kn, .int .u8 kd, .string x, .string y, .int .i64 of] := Bk.new _ _ _
            have own_v3 := ownsRow_below own_v2 ((Below.refl v2.heap.size v2).alloc (Nat.le_refl _) (.cells #[.int .i64 id, .int .i64 kn, .int .u8 kd, .string x, .string y, .int .i64 of] 50)) (Nat.le_refl _)
            refine ⟨HS.out _ hB_v3, ?_⟩
            (try simp only [Act.put, List.setIfInBounds_toArray, List.set_cons_zero, List.set_cons_succ])
            generalize hv_v3 : v2.alloc (.cells #[.int .i64 id, .int .i64 kn, .int .u8 kd, .string x, .string y, .int .i64 of] 50) = v3 at *
            refine held_two 6 8 ⟨some 25, .call { callee := .builtin .append, args := #[.tmp 22, .tmp 24], argTypes := #[23, 23] }, 23, _, _, none⟩ ⟨some 8, .alloc 25, 0, _, _, none⟩ rfl rfl (by kernel_rfl) (by rfl) (by rfl) ?_ ?_
            · refine wp_append1 _ (.tmp 22) (.tmp 24) 23 rfl w1.heap.size 50 zeroRul 6 64 Tryz.underlying23 info50 (by decide) (by decide) r2 l.length (rulesC l) rfl own_v3 (v2.heap.size) #[.int .i64 id, .int .i64 kn, .int .u8 kd, .string x, .string y, .int .i64 of] 50 rfl row_v3 (by simp) HO.out (by have := HM.out; omega) (by omega) hB_v3.size w1 hB_v3 ?_
              intro r4 v4 own_v4 hB_v4 hg_v4
              have hS_v4 := HS.out _ hB_v4
              refine ⟨hS_v4, ?_⟩
              (try simp only [Act.put, List.setIfInBounds_toArray, List.set_cons_zero, List.set_cons_succ])
              obtain ⟨A4, c4, rfl, hc4⟩ := ownsSlice own_v4
              refine tk 7 26 ?_
              clear hS_v4
              refine held_one 8 ⟨some 8, .alloc 25, 0, _, _, none⟩ rfl (by kernel_rfl) (by rfl) ?_
              unfold Oper.wp
              go_simp
              have hB_v5 : Below w1.heap.size w1 (v4.alloc (.cells #[.slice none 0 0] 25)) := hB_v4.alloc hB_v4.size _
              have box_v5 : Bk (v4.alloc (.cells #[.slice none 0 0] 25)) v4.heap.size 25 #[.slice none 0 0] := Bk.new _ _ _
              have own_v5 := ownsRow_below own_v4 ((Below.refl v4.heap.size v4).alloc (Nat.le_refl _) (.cells #[.slice none 0 0] 25)) (Nat.le_refl _)
              refine ⟨HS.out _ hB_v5, ?_⟩
              (try simp only [Act.put, List.setIfInBounds_toArray, List.set_cons_zero, List.set_cons_succ])
              generalize hv_v5 : v4.alloc (.cells #[.slice none 0 0] 25) = v5 at *
              refine held_one 9 ⟨none, .store 25 (.tmp 8) (.tmp 26), _, _, _, none⟩ rfl (by kernel_rfl) (by rfl) ?_
              refine wp_store_blk 25 (.tmp 8) (.tmp 26) rfl (v4.heap.size) #[.slice none 0 0] #[.slice A4 (l.length + 1) c4] rfl rfl box_v5 rfl info25 (by intro v hv; simp at hv; subst hv; rfl) ?_
              intro u_v5 k_v5 f_v5
              have hB_u := f_v5.bel _ _ hB_v4.size hB_v5
              refine ⟨HS.out _ hB_u, ?_⟩
              (try simp only [Act.put, List.setIfInBounds_toArray, List.set_cons_zero, List.set_cons_succ])
              refine wpAnyH_done (by kernel_rfl) ?_ _
              clear hHeld
              go_wp2_with fail
              go_meet
              exact ⟨_, _, _, rfl, Lib.hid k_v5, ⟨Lib.hid (fin_app own_v5 HSN.out box_v5 f_v5), Lib.hid (own_ge own_v5)⟩, hc4, Lib.hid hB_u⟩
            · unfold Oper.wp
              go_simp
              have hB_v6 : Below w1.heap.size w1 (v3.alloc (.cells #[.slice none 0 0] 25)) := hB_v3.alloc hB_v3.size _
              have box_v6 : Bk (v3.alloc (.cells #[.slice none 0 0] 25)) v3.heap.size 25 #[.slice none 0 0] := Bk.new _ _ _
              have own_v6 := ownsRow_below own_v3 ((Below.refl v3.heap.size v3).alloc (Nat.le_refl _) (.cells #[.slice none 0 0] 25)) (Nat.le_refl _)
              have row_v6 := row_v3.alloc (.cells #[.slice none 0 0] 25)
              refine ⟨HS.out _ hB_v6, ?_⟩
              (try simp only [Act.put, List.setIfInBounds_toArray, List.set_cons_zero, List.set_cons_succ])
              generalize hv_v6 : v3.alloc (.cells #[.slice none 0 0] 25) = v6 at *
              refine held_one 6 ⟨some 25, .call { callee := .builtin .append, args := #[.tmp 22, .tmp 24], argTypes := #[23, 23] }, 23, _, _, none⟩ rfl (by kernel_rfl) (by rfl) ?_
              refine wp_append1 _ (.tmp 22) (.tmp 24) 23 rfl w1.heap.size 50 zeroRul 6 64 Tryz.underlying23 info50 (by decide) (by decide) r2 l.length (rulesC l) rfl own_v6 (v2.heap.size) #[.int .i64 id, .int .i64 kn, .int .u8 kd, .string x, .string y, .int .i64 of] 50 rfl row_v6 (by simp) HO.out (by have := HM.out; omega) (by omega) hB_v6.size w1 hB_v6 ?_
              intro r7 v7 own_v7 hB_v7 hg_v7
              have box_v7 := box_v6.grown hg_v7 (own_ne own_v6 box_v6 (by decide))
              have hS_v7 := HS.out _ hB_v7
              refine ⟨hS_v7, ?_⟩
              (try simp only [Act.put, List.setIfInBounds_toArray, List.set_cons_zero, List.set_cons_succ])
              obtain ⟨A7, c7, rfl, hc7⟩ := ownsSlice own_v7
              refine tk 7 26 ?_
              clear hS_v7
              refine held_one 9 ⟨none, .store 25 (.tmp 8) (.tmp 26), _, _, _, none⟩ rfl (by kernel_rfl) (by rfl) ?_
              refine wp_store_blk 25 (.tmp 8) (.tmp 26) rfl (v3.heap.size) #[.slice none 0 0] #[.slice A7 (l.length + 1) c7] rfl rfl box_v7 rfl info25 (by intro v hv; simp at hv; subst hv; rfl) ?_
              intro u_v7 k_v7 f_v7
              have hB_u := f_v7.bel _ _ hB_v3.size hB_v7
              refine ⟨HS.out _ hB_u, ?_⟩
              (try simp only [Act.put, List.setIfInBounds_toArray, List.set_cons_zero, List.set_cons_succ])
              refine wpAnyH_done (by kernel_rfl) ?_ _
              clear hHeld
              go_wp2_with fail
              go_meet
              exact ⟨_, _, _, rfl, Lib.hid k_v7, ⟨Lib.hid (fin_app own_v7 HSN.out box_v7 f_v7), Lib.hid (own_ge own_v7)⟩, hc7, Lib.hid hB_u⟩
          · unfold Oper.wp
            go_simp
            have hB_v8 : Below w1.heap.size w1 (v2.alloc (.cells #[.slice none 0 0] 25)) := hB_v2.alloc hB_v2.size _
            have box_v8 : Bk (v2.alloc (.cells #[.slice none 0 0] 25)) v2.heap.size 25 #[.slice none 0 0] := Bk.new _ _ _
            have own_v8 := ownsRow_below own_v2 ((Below.refl v2.heap.size v2).alloc (Nat.le_refl _) (.cells #[.slice none 0 0] 25)) (Nat.le_refl _)
            refine ⟨HS.out _ hB_v8, ?_⟩
            (try simp only [Act.put, List.setIfInBounds_toArray, List.set_cons_zero, List.set_cons_succ])
            generalize hv_v8 : v2.alloc (.cells #[.slice none 0 0] 25) = v8 at *
            refine held_one 5 ⟨some 24, .buildSlice 23 1 #[(0, .tmp 23)], 23, _, _, none⟩ rfl (by kernel_rfl) (by rfl) ?_
            unfold Oper.wp
            go_simp
            have hB_v9 : Below w1.heap.size w1 (v8.alloc (.cells #[.int .i64 id, .int .i64 kn, .int .u8 kd, .string x, .string y, .int .i64 of] 50)) := hB_v8.alloc hB_v8.size _
            have row_v9 : Bk (v8.alloc (.cells #[.int .i64 id, .int .i64 kn, .int .u8 kd, .string x, .string y, .int .i64 of] 50)) v8.heap.size 50 #[.int .i64 id, .int .i64 kn, .int .u8 kd, .string x, .string y, .int .i64 of] := Bk.new _ _ _
            have own_v9 := ownsRow_below own_v8 ((Below.refl v8.heap.size v8).alloc (Nat.le_refl _) (.cells #[.int .i64 id, .int .i64 kn, .int .u8 kd, .string x, .string y, .int .i64 of] 50)) (Nat.le_refl _)
            have box_v9 := box_v8.alloc (.cells #[.int .i64 id, .int .i64 kn, .int .u8 kd, .string x, .string y, .int .i64 of] 50)
            refine ⟨HS.out _ hB_v9, ?_⟩
            (try simp only [Act.put, List.setIfInBounds_toArray, List.set_cons_zero, List.set_cons_succ])
            generalize hv_v9 : v8.alloc (.cells #[.int .i64 id, .int .i64 kn, .int .u8 kd, .string x, .string y, .int .i64 of] 50) = v9 at *
            refine held_one 6 ⟨some 25, .call { callee := .builtin .append, args := #[.tmp 22, .tmp 24], argTypes := #[23, 23] }, 23, _, _, none⟩ rfl (by kernel_rfl) (by rfl) ?_
            refine wp_append1 _ (.tmp 22) (.tmp 24) 23 rfl w1.heap.size 50 zeroRul 6 64 Tryz.underlying23 info50 (by decide) (by decide) r2 l.length (rulesC l) rfl own_v9 (v8.heap.size) #[.int .i64 id, .int .i64 kn, .int .u8 kd, .string x, .string y, .int .i64 of] 50 rfl row_v9 (by simp) HO.out (by have := HM.out; omega) (by omega) hB_v9.size w1 hB_v9 ?_
            intro r10 v10 own_v10 hB_v10 hg_v10
            have box_v10 := box_v9.grown hg_v10 (own_ne own_v9 box_v9 (by decide))
            have hS_v10 := HS.out _ hB_v10
            refine ⟨hS_v10, ?_⟩
            (try simp only [Act.put, List.setIfInBounds_toArray, List.set_cons_zero, List.set_cons_succ])
            obtain ⟨A10, c10, rfl, hc10⟩ := ownsSlice own_v10
            refine tk 7 26 ?_
            clear hS_v10
            refine held_one 9 ⟨none, .store 25 (.tmp 8) (.tmp 26), _, _, _, none⟩ rfl (by kernel_rfl) (by rfl) ?_
            refine wp_store_blk 25 (.tmp 8) (.tmp 26) rfl (v2.heap.size) #[.slice none 0 0] #[.slice A10 (l.length + 1) c10] rfl rfl box_v10 rfl info25 (by intro v hv; simp at hv; subst hv; rfl) ?_
            intro u_v10 k_v10 f_v10
            have hB_u := f_v10.bel _ _ hB_v2.size hB_v10
            refine ⟨HS.out _ hB_u, ?_⟩
            (try simp only [Act.put, List.setIfInBounds_toArray, List.set_cons_zero, List.set_cons_succ])
            refine wpAnyH_done (by kernel_rfl) ?_ _
            clear hHeld
            go_wp2_with fail
            go_meet
            exact ⟨_, _, _, rfl, Lib.hid k_v10, ⟨Lib.hid (fin_app own_v10 HSN.out box_v10 f_v10), Lib.hid (own_ge own_v10)⟩, hc10, Lib.hid hB_u⟩
        · unfold Oper.wp
          go_simp
          have hB_v11 : Below w1.heap.size w1 (v1.alloc (.cells #[.int .i64 id, .int .i64 kn, .int .u8 kd, .string x, .string y, .int .i64 of] 50)) := hB_v1.alloc hB_v1.size _
          have row_v11 : Bk (v1.alloc (.cells #[.int .i64 id, .int .i64 kn, .int .u8 kd, .string x, .string y, .int .i64 of] 50)) v1.heap.size 50 #[.int .i64 id, .int .i64 kn, .int .u8 kd, .string x, .string y, .int .i64 of] := Bk.new _ _ _
          have own_v11 := ownsRow_below own_v1 ((Below.refl v1.heap.size v1).alloc (Nat.le_refl _) (.cells #[.int .i64 id, .int .i64 kn, .int .u8 kd, .string x, .string y, .int .i64 of] 50)) (Nat.le_refl _)
          refine ⟨HS.out _ hB_v11, ?_⟩
          (try simp only [Act.put, List.setIfInBounds_toArray, List.set_cons_zero, List.set_cons_succ])
          have ne_v11 := blk_ne (show v1.heap.size ≠ w3.heap.size from by have h := (own_v1.lt (w3.heap.size) rfl).2; omega)
          generalize hv_v11 : v1.alloc (.cells #[.int .i64 id, .int .i64 kn, .int .u8 kd, .string x, .string y, .int .i64 of] 50) = v11 at *
          refine held_two 3 8 ⟨some 22, .call { callee := .builtin .append, args := #[.tmp 19, .tmp 21], argTypes := #[23, 23] }, 23, _, _, none⟩ ⟨some 8, .alloc 25, 0, _, _, none⟩ rfl rfl (by kernel_rfl) (by rfl) (by rfl) ?_ ?_
          · refine wp_append_lies _ (.tmp 19) (.tmp 21) 23 rfl w1.heap.size 50 zeroRul 6 64 Tryz.underlying23 info50 (by decide) (by decide) (.slice (some ⟨w3.heap.size, 0, none⟩) 0 0) 0 [] rfl own_v11 v11.heap.size A l.length c (rulesC l) rfl (rulesC_length l) (HL.out _ hB_v11) (rulesC_one l) (by have := HM.out; omega) (by omega) hB_v11.size w1 hB_v11 ?_
            intro r12 v12 own_v12 hB_v12 hg_v12
            rw [Nat.zero_add, List.nil_append] at own_v12
            have row_v12 := row_v11.grown hg_v12 ne_v11
            refine ⟨HS.out _ hB_v12, ?_⟩
            (try simp only [Act.put, List.setIfInBounds_toArray, List.set_cons_zero, List.set_cons_succ])
            refine held_two 6 8 ⟨some 25, .call { callee := .builtin .append, args := #[.tmp 22, .tmp 24], argTypes := #[23, 23] }, 23, _, _, none⟩ ⟨some 8, .alloc 25, 0, _, _, none⟩ rfl rfl (by kernel_rfl) (by rfl) (by rfl) ?_ ?_
            · refine wp_append1 _ (.tmp 22) (.tmp 24) 23 rfl w1.heap.size 50 zeroRul 6 64 Tryz.underlying23 info50 (by decide) (by decide) r12 l.length (rulesC l) rfl own_v12 (v1.heap.size) #[.int .i64 id, .int .i64 kn, .int .u8 kd, .string x, .string y, .int .i64 of] 50 rfl row_v12 (by simp) HO.out (by have := HM.out; omega) (by omega) hB_v12.size w1 hB_v12 ?_
              intro r13 v13 own_v13 hB_v13 hg_v13
              have hS_v13 := HS.out _ hB_v13
              refine ⟨hS_v13, ?_⟩
              (try simp only [Act.put, List.setIfInBounds_toArray, List.set_cons_zero, List.set_cons_succ])
              obtain ⟨A13, c13, rfl, hc13⟩ := ownsSlice own_v13
              refine tk 7 26 ?_
              clear hS_v13
              refine held_one 8 ⟨some 8, .alloc 25, 0, _, _, none⟩ rfl (by kernel_rfl) (by rfl) ?_
              unfold Oper.wp
              go_simp
              have hB_v14 : Below w1.heap.size w1 (v13.alloc (.cells #[.slice none 0 0] 25)) := hB_v13.alloc hB_v13.size _
              have box_v14 : Bk (v13.alloc (.cells #[.slice none 0 0] 25)) v13.heap.size 25 #[.slice none 0 0] := Bk.new _ _ _
              have own_v14 := ownsRow_below own_v13 ((Below.refl v13.heap.size v13).alloc (Nat.le_refl _) (.cells #[.slice none 0 0] 25)) (Nat.le_refl _)
              refine ⟨HS.out _ hB_v14, ?_⟩
              (try simp only [Act.put, List.setIfInBounds_toArray, List.set_cons_zero, List.set_cons_succ])
              generalize hv_v14 : v13.alloc (.cells #[.slice none 0 0] 25) = v14 at *
              refine held_one 9 ⟨none, .store 25 (.tmp 8) (.tmp 26), _, _, _, none⟩ rfl (by kernel_rfl) (by rfl) ?_
              refine wp_store_blk 25 (.tmp 8) (.tmp 26) rfl (v13.heap.size) #[.slice none 0 0] #[.slice A13 (l.length + 1) c13] rfl rfl box_v14 rfl info25 (by intro v hv; simp at hv; subst hv; rfl) ?_
              intro u_v14 k_v14 f_v14
              have hB_u := f_v14.bel _ _ hB_v13.size hB_v14
              refine ⟨HS.out _ hB_u, ?_⟩
              (try simp only [Act.put, List.setIfInBounds_toArray, List.set_cons_zero, List.set_cons_succ])
              refine wpAnyH_done (by kernel_rfl) ?_ _
              clear hHeld
              go_wp2_with fail
              go_meet
              exact ⟨_, _, _, rfl, Lib.hid k_v14, ⟨Lib.hid (fin_app own_v14 HSN.out box_v14 f_v14), Lib.hid (own_ge own_v14)⟩, hc13, Lib.hid hB_u⟩
            · unfold Oper.wp
              go_simp
              have hB_v15 : Below w1.heap.size w1 (v12.alloc (.cells #[.slice none 0 0] 25)) := hB_v12.alloc hB_v12.size _
              have box_v15 : Bk (v12.alloc (.cells #[.slice none 0 0] 25)) v12.heap.size 25 #[.slice none 0 0] := Bk.new _ _ _
              have own_v15 := ownsRow_below own_v12 ((Below.refl v12.heap.size v12).alloc (Nat.le_refl _) (.cells #[.slice none 0 0] 25)) (Nat.le_refl _)
              have row_v15 := row_v12.alloc (.cells #[.slice none 0 0] 25)
              refine ⟨HS.out _ hB_v15, ?_⟩
              (try simp only [Act.put, List.setIfInBounds_toArray, List.set_cons_zero, List.set_cons_succ])
              generalize hv_v15 : v12.alloc (.cells #[.slice none 0 0] 25) = v15 at *
              refine held_one 6 ⟨some 25, .call { callee := .builtin .append, args := #[.tmp 22, .tmp 24], argTypes := #[23, 23] }, 23, _, _, none⟩ rfl (by kernel_rfl) (by rfl) ?_
              refine wp_append1 _ (.tmp 22) (.tmp 24) 23 rfl w1.heap.size 50 zeroRul 6 64 Tryz.underlying23 info50 (by decide) (by decide) r12 l.length (rulesC l) rfl own_v15 (v1.heap.size) #[.int .i64 id, .int .i64 kn, .int .u8 kd, .string x, .string y, .int .i64 of] 50 rfl row_v15 (by simp) HO.out (by have := HM.out; omega) (by omega) hB_v15.size w1 hB_v15 ?_
              intro r16 v16 own_v16 hB_v16 hg_v16
              have box_v16 := box_v15.grown hg_v16 (own_ne own_v15 box_v15 (by decide))
              have hS_v16 := HS.out _ hB_v16
              refine ⟨hS_v16, ?_⟩
              (try simp only [Act.put, List.setIfInBounds_toArray, List.set_cons_zero, List.set_cons_succ])
              obtain ⟨A16, c16, rfl, hc16⟩ := ownsSlice own_v16
              refine tk 7 26 ?_
              clear hS_v16
              refine held_one 9 ⟨none, .store 25 (.tmp 8) (.tmp 26), _, _, _, none⟩ rfl (by kernel_rfl) (by rfl) ?_
              refine wp_store_blk 25 (.tmp 8) (.tmp 26) rfl (v12.heap.size) #[.slice none 0 0] #[.slice A16 (l.length + 1) c16] rfl rfl box_v16 rfl info25 (by intro v hv; simp at hv; subst hv; rfl) ?_
              intro u_v16 k_v16 f_v16
              have hB_u := f_v16.bel _ _ hB_v12.size hB_v16
              refine ⟨HS.out _ hB_u, ?_⟩
              (try simp only [Act.put, List.setIfInBounds_toArray, List.set_cons_zero, List.set_cons_succ])
              refine wpAnyH_done (by kernel_rfl) ?_ _
              clear hHeld
              go_wp2_with fail
              go_meet
              exact ⟨_, _, _, rfl, Lib.hid k_v16, ⟨Lib.hid (fin_app own_v16 HSN.out box_v16 f_v16), Lib.hid (own_ge own_v16)⟩, hc16, Lib.hid hB_u⟩
          · unfold Oper.wp
            go_simp
            have hB_v17 : Below w1.heap.size w1 (v11.alloc (.cells #[.slice none 0 0] 25)) := hB_v11.alloc hB_v11.size _
            have box_v17 : Bk (v11.alloc (.cells #[.slice none 0 0] 25)) v11.heap.size 25 #[.slice none 0 0] := Bk.new _ _ _
            have own_v17 := ownsRow_below own_v11 ((Below.refl v11.heap.size v11).alloc (Nat.le_refl _) (.cells #[.slice none 0 0] 25)) (Nat.le_refl _)
            have row_v17 := row_v11.alloc (.cells #[.slice none 0 0] 25)
            refine ⟨HS.out _ hB_v17, ?_⟩
            (try simp only [Act.put, List.setIfInBounds_toArray, List.set_cons_zero, List.set_cons_succ])
            have ne_v17 := ne_v11
            generalize hv_v17 : v11.alloc (.cells #[.slice none 0 0] 25) = v17 at *
            refine held_one 3 ⟨some 22, .call { callee := .builtin .append, args := #[.tmp 19, .tmp 21], argTypes := #[23, 23] }, 23, _, _, none⟩ rfl (by kernel_rfl) (by rfl) ?_
            refine wp_append_lies _ (.tmp 19) (.tmp 21) 23 rfl w1.heap.size 50 zeroRul 6 64 Tryz.underlying23 info50 (by decide) (by decide) (.slice (some ⟨w3.heap.size, 0, none⟩) 0 0) 0 [] rfl own_v17 v17.heap.size A l.length c (rulesC l) rfl (rulesC_length l) (HL.out _ hB_v17) (rulesC_one l) (by have := HM.out; omega) (by omega) hB_v17.size w1 hB_v17 ?_
            intro r18 v18 own_v18 hB_v18 hg_v18
            rw [Nat.zero_add, List.nil_append] at own_v18
            have row_v18 := row_v17.grown hg_v18 ne_v17
            have box_v18 := box_v17.grown hg_v18 (own_ne own_v17 box_v17 (by decide))
            refine ⟨HS.out _ hB_v18, ?_⟩
            (try simp only [Act.put, List.setIfInBounds_toArray, List.set_cons_zero, List.set_cons_succ])
            refine held_one 6 ⟨some 25, .call { callee := .builtin .append, args := #[.tmp 22, .tmp 24], argTypes := #[23, 23] }, 23, _, _, none⟩ rfl (by kernel_rfl) (by rfl) ?_
            refine wp_append1 _ (.tmp 22) (.tmp 24) 23 rfl w1.heap.size 50 zeroRul 6 64 Tryz.underlying23 info50 (by decide) (by decide) r18 l.length (rulesC l) rfl own_v18 (v1.heap.size) #[.int .i64 id, .int .i64 kn, .int .u8 kd, .string x, .string y, .int .i64 of] 50 rfl row_v18 (by simp) HO.out (by have := HM.out; omega) (by omega) hB_v18.size w1 hB_v18 ?_
            intro r19 v19 own_v19 hB_v19 hg_v19
            have box_v19 := box_v18.grown hg_v19 (own_ne own_v18 box_v18 (by decide))
            have hS_v19 := HS.out _ hB_v19
            refine ⟨hS_v19, ?_⟩
            (try simp only [Act.put, List.setIfInBounds_toArray, List.set_cons_zero, List.set_cons_succ])
            obtain ⟨A19, c19, rfl, hc19⟩ := ownsSlice own_v19
            refine tk 7 26 ?_
            clear hS_v19
            refine held_one 9 ⟨none, .store 25 (.tmp 8) (.tmp 26), _, _, _, none⟩ rfl (by kernel_rfl) (by rfl) ?_
            refine wp_store_blk 25 (.tmp 8) (.tmp 26) rfl (v11.heap.size) #[.slice none 0 0] #[.slice A19 (l.length + 1) c19] rfl rfl box_v19 rfl info25 (by intro v hv; simp at hv; subst hv; rfl) ?_
            intro u_v19 k_v19 f_v19
            have hB_u := f_v19.bel _ _ hB_v11.size hB_v19
            refine ⟨HS.out _ hB_u, ?_⟩
            (try simp only [Act.put, List.setIfInBounds_toArray, List.set_cons_zero, List.set_cons_succ])
            refine wpAnyH_done (by kernel_rfl) ?_ _
            clear hHeld
            go_wp2_with fail
            go_meet
            exact ⟨_, _, _, rfl, Lib.hid k_v19, ⟨Lib.hid (fin_app own_v19 HSN.out box_v19 f_v19), Lib.hid (own_ge own_v19)⟩, hc19, Lib.hid hB_u⟩
        · unfold Oper.wp
          go_simp
          have hB_v20 : Below w1.heap.size w1 (v1.alloc (.cells #[.slice none 0 0] 25)) := hB_v1.alloc hB_v1.size _
          have box_v20 : Bk (v1.alloc (.cells #[.slice none 0 0] 25)) v1.heap.size 25 #[.slice none 0 0] := Bk.new _ _ _
          have own_v20 := ownsRow_below own_v1 ((Below.refl v1.heap.size v1).alloc (Nat.le_refl _) (.cells #[.slice none 0 0] 25)) (Nat.le_refl _)
          refine ⟨HS.out _ hB_v20, ?_⟩
          (try simp only [Act.put, List.setIfInBounds_toArray, List.set_cons_zero, List.set_cons_succ])
          generalize hv_v20 : v1.alloc (.cells #[.slice none 0 0] 25) = v20 at *
          refine held_two 3 5 ⟨some 22, .call { callee := .builtin .append, args := #[.tmp 19, .tmp 21], argTypes := #[23, 23] }, 23, _, _, none⟩ ⟨some 24, .buildSlice 23 1 #[(0, .tmp 23)], 23, _, _, none⟩ rfl rfl (by kernel_rfl) (by rfl) (by rfl) ?_ ?_
          · refine wp_append_lies _ (.tmp 19) (.tmp 21) 23 rfl w1.heap.size 50 zeroRul 6 64 Tryz.underlying23 info50 (by decide) (by decide) (.slice (some ⟨w3.heap.size, 0, none⟩) 0 0) 0 [] rfl own_v20 v20.heap.size A l.length c (rulesC l) rfl (rulesC_length l) (HL.out _ hB_v20) (rulesC_one l) (by have := HM.out; omega) (by omega) hB_v20.size w1 hB_v20 ?_
            intro r21 v21 own_v21 hB_v21 hg_v21
            rw [Nat.zero_add, List.nil_append] at own_v21
            have box_v21 := box_v20.grown hg_v21 (own_ne own_v20 box_v20 (by decide))
            refine ⟨HS.out _ hB_v21, ?_⟩
            (try simp only [Act.put, List.setIfInBounds_toArray, List.set_cons_zero, List.set_cons_succ])
            refine held_one 5 ⟨some 24, .buildSlice 23 1 #[(0, .tmp 23)], 23, _, _, none⟩ rfl (by kernel_rfl) (by rfl) ?_
            unfold Oper.wp
            go_simp
            have hB_v22 : Below w1.heap.size w1 (v21.alloc (.cells #[.int .i64 id, .int .i64 kn, .int .u8 kd, .string x, .string y, .int .i64 of] 50)) := hB_v21.alloc hB_v21.size _
            have row_v22 : Bk (v21.alloc (.cells #[.int .i64 id, .int .i64 kn, .int .u8 kd, .string x, .string y, .int .i64 of] 50)) v21.heap.size 50 #[.int .i64 id, .int .i64 kn, .int .u8 kd, .string x, .string y, .int .i64 of] := Bk.new _ _ _
            have own_v22 := ownsRow_below own_v21 ((Below.refl v21.heap.size v21).alloc (Nat.le_refl _) (.cells #[.int .i64 id, .int .i64 kn, .int .u8 kd, .string x, .string y, .int .i64 of] 50)) (Nat.le_refl _)
            have box_v22 := box_v21.alloc (.cells #[.int .i64 id, .int .i64 kn, .int .u8 kd, .string x, .string y, .int .i64 of] 50)
            refine ⟨HS.out _ hB_v22, ?_⟩
            (try simp only [Act.put, List.setIfInBounds_toArray, List.set_cons_zero, List.set_cons_succ])
            generalize hv_v22 : v21.alloc (.cells #[.int .i64 id, .int .i64 kn, .int .u8 kd, .string x, .string y, .int .i64 of] 50) = v22 at *
            refine held_one 6 ⟨some 25, .call { callee := .builtin .append, args := #[.tmp 22, .tmp 24], argTypes := #[23, 23] }, 23, _, _, none⟩ rfl (by kernel_rfl) (by rfl) ?_
            refine wp_append1 _ (.tmp 22) (.tmp 24) 23 rfl w1.heap.size 50 zeroRul 6 64 Tryz.underlying23 info50 (by decide) (by decide) r21 l.length (rulesC l) rfl own_v22 (v21.heap.size) #[.int .i64 id, .int .i64 kn, .int .u8 kd, .string x, .string y, .int .i64 of] 50 rfl row_v22 (by simp) HO.out (by have := HM.out; omega) (by omega) hB_v22.size w1 hB_v22 ?_
            intro r23 v23 own_v23 hB_v23 hg_v23
            have box_v23 := box_v22.grown hg_v23 (own_ne own_v22 box_v22 (by decide))
            have hS_v23 := HS.out _ hB_v23
            refine ⟨hS_v23, ?_⟩
            (try simp only [Act.put, List.setIfInBounds_toArray, List.set_cons_zero, List.set_cons_succ])
            obtain ⟨A23, c23, rfl, hc23⟩ := ownsSlice own_v23
            refine tk 7 26 ?_
            clear hS_v23
            refine held_one 9 ⟨none, .store 25 (.tmp 8) (.tmp 26), _, _, _, none⟩ rfl (by kernel_rfl) (by rfl) ?_
            refine wp_store_blk 25 (.tmp 8) (.tmp 26) rfl (v1.heap.size) #[.slice none 0 0] #[.slice A23 (l.length + 1) c23] rfl rfl box_v23 rfl info25 (by intro v hv; simp at hv; subst hv; rfl) ?_
            intro u_v23 k_v23 f_v23
            have hB_u := f_v23.bel _ _ hB_v1.size hB_v23
            refine ⟨HS.out _ hB_u, ?_⟩
            (try simp only [Act.put, List.setIfInBounds_toArray, List.set_cons_zero, List.set_cons_succ])
            refine wpAnyH_done (by kernel_rfl) ?_ _
            clear hHeld
            go_wp2_with fail
            go_meet
            exact ⟨_, _, _, rfl, Lib.hid k_v23, ⟨Lib.hid (fin_app own_v23 HSN.out box_v23 f_v23), Lib.hid (own_ge own_v23)⟩, hc23, Lib.hid hB_u⟩
          · unfold Oper.wp
            go_simp
            have hB_v24 : Below w1.heap.size w1 (v20.alloc (.cells #[.int .i64 id, .int .i64 kn, .int .u8 kd, .string x, .string y, .int .i64 of] 50)) := hB_v20.alloc hB_v20.size _
            have row_v24 : Bk (v20.alloc (.cells #[.int .i64 id, .int .i64 kn, .int .u8 kd, .string x, .string y, .int .i64 of] 50)) v20.heap.size 50 #[.int .i64 id, .int .i64 kn, .int .u8 kd, .string x, .string y, .int .i64 of] := Bk.new _ _ _
            have own_v24 := ownsRow_below own_v20 ((Below.refl v20.heap.size v20).alloc (Nat.le_refl _) (.cells #[.int .i64 id, .int .i64 kn, .int .u8 kd, .string x, .string y, .int .i64 of] 50)) (Nat.le_refl _)
            have box_v24 := box_v20.alloc (.cells #[.int .i64 id, .int .i64 kn, .int .u8 kd, .string x, .string y, .int .i64 of] 50)
            refine ⟨HS.out _ hB_v24, ?_⟩
            (try simp only [Act.put, List.setIfInBounds_toArray, List.set_cons_zero, List.set_cons_succ])
            have ne_v24 := blk_ne (show v20.heap.size ≠ w3.heap.size from by have h := (own_v20.lt (w3.heap.size) rfl).2; omega)
            generalize hv_v24 : v20.alloc (.cells #[.int .i64 id, .int .i64 kn, .int .u8 kd, .string x, .string y, .int .i64 of] 50) = v24 at *
            refine held_one 3 ⟨some 22, .call { callee := .builtin .append, args := #[.tmp 19, .tmp 21], argTypes := #[23, 23] }, 23, _, _, none⟩ rfl (by kernel_rfl) (by rfl) ?_
            refine wp_append_lies _ (.tmp 19) (.tmp 21) 23 rfl w1.heap.size 50 zeroRul 6 64 Tryz.underlying23 info50 (by decide) (by decide) (.slice (some ⟨w3.heap.size, 0, none⟩) 0 0) 0 [] rfl own_v24 v24.heap.size A l.length c (rulesC l) rfl (rulesC_length l) (HL.out _ hB_v24) (rulesC_one l) (by have := HM.out; omega) (by omega) hB_v24.size w1 hB_v24 ?_
            intro r25 v25 own_v25 hB_v25 hg_v25
            rw [Nat.zero_add, List.nil_append] at own_v25
            have row_v25 := row_v24.grown hg_v25 ne_v24
            have box_v25 := box_v24.grown hg_v25 (own_ne own_v24 box_v24 (by decide))
            refine ⟨HS.out _ hB_v25, ?_⟩
            (try simp only [Act.put, List.setIfInBounds_toArray, List.set_cons_zero, List.set_cons_succ])
            refine held_one 6 ⟨some 25, .call { callee := .builtin .append, args := #[.tmp 22, .tmp 24], argTypes := #[23, 23] }, 23, _, _, none⟩ rfl (by kernel_rfl) (by rfl) ?_
            refine wp_append1 _ (.tmp 22) (.tmp 24) 23 rfl w1.heap.size 50 zeroRul 6 64 Tryz.underlying23 info50 (by decide) (by decide) r25 l.length (rulesC l) rfl own_v25 (v20.heap.size) #[.int .i64 id, .int .i64 kn, .int .u8 kd, .string x, .string y, .int .i64 of] 50 rfl row_v25 (by simp) HO.out (by have := HM.out; omega) (by omega) hB_v25.size w1 hB_v25 ?_
            intro r26 v26 own_v26 hB_v26 hg_v26
            have box_v26 := box_v25.grown hg_v26 (own_ne own_v25 box_v25 (by decide))
            have hS_v26 := HS.out _ hB_v26
            refine ⟨hS_v26, ?_⟩
            (try simp only [Act.put, List.setIfInBounds_toArray, List.set_cons_zero, List.set_cons_succ])
            obtain ⟨A26, c26, rfl, hc26⟩ := ownsSlice own_v26
            refine tk 7 26 ?_
            clear hS_v26
            refine held_one 9 ⟨none, .store 25 (.tmp 8) (.tmp 26), _, _, _, none⟩ rfl (by kernel_rfl) (by rfl) ?_
            refine wp_store_blk 25 (.tmp 8) (.tmp 26) rfl (v1.heap.size) #[.slice none 0 0] #[.slice A26 (l.length + 1) c26] rfl rfl box_v26 rfl info25 (by intro v hv; simp at hv; subst hv; rfl) ?_
            intro u_v26 k_v26 f_v26
            have hB_u := f_v26.bel _ _ hB_v1.size hB_v26
            refine ⟨HS.out _ hB_u, ?_⟩
            (try simp only [Act.put, List.setIfInBounds_toArray, List.set_cons_zero, List.set_cons_succ])
            refine wpAnyH_done (by kernel_rfl) ?_ _
            clear hHeld
            go_wp2_with fail
            go_meet
            exact ⟨_, _, _, rfl, Lib.hid k_v26, ⟨Lib.hid (fin_app own_v26 HSN.out box_v26 f_v26), Lib.hid (own_ge own_v26)⟩, hc26, Lib.hid hB_u⟩
      · unfold Oper.wp
        go_simp
        have hB_v27 : Below w1.heap.size w1 (w3.alloc (.cells #[.int .i64 id, .int .i64 kn, .int .u8 kd, .string x, .string y, .int .i64 of] 50)) := hB_w3.alloc hB_w3.size _
        have row_v27 : Bk (w3.alloc (.cells #[.int .i64 id, .int .i64 kn, .int .u8 kd, .string x, .string y, .int .i64 of] 50)) w3.heap.size 50 #[.int .i64 id, .int .i64 kn, .int .u8 kd, .string x, .string y, .int .i64 of] := Bk.new _ _ _
        refine ⟨HS.out _ hB_v27, ?_⟩
        (try simp only [Act.put, List.setIfInBounds_toArray, List.set_cons_zero, List.set_cons_succ])
        generalize hv_v27 : w3.alloc (.cells #[.int .i64 id, .int .i64 kn, .int .u8 kd, .string x, .string y, .int .i64 of] 50) = v27 at *
        refine held_two 0 8 ⟨some 19, .buildSlice 23 0 #[], 23, _, _, none⟩ ⟨some 8, .alloc 25, 0, _, _, none⟩ rfl rfl (by kernel_rfl) (by rfl) (by rfl) ?_ ?_
        · unfold Oper.wp
          go_simp
          have hB_v28 : Below w1.heap.size w1 (v27.alloc (.cells #[] 50)) := hB_v27.alloc hB_v27.size _
          have own_v28 : (v27.alloc (.cells #[] 50)).ownsRow w1.heap.size 50 6 (.slice (some ⟨v27.heap.size, 0, none⟩) 0 0) 0 [] := World.ownsRow_made v27 #[] 0 hB_v27.size (Nat.zero_le _) (by simp)
          have row_v28 := row_v27.alloc (.cells #[] 50)
          refine ⟨HS.out _ hB_v28, ?_⟩
          (try simp only [Act.put, List.setIfInBounds_toArray, List.set_cons_zero, List.set_cons_succ])
          have ne_v28 := blk_ne (show w3.heap.size ≠ v27.heap.size from by have h := row_v27.lt; omega)
          generalize hv_v28 : v27.alloc (.cells #[] 50) = v28 at *
          refine held_two 3 8 ⟨some 22, .call { callee := .builtin .append, args := #[.tmp 19, .tmp 21], argTypes := #[23, 23] }, 23, _, _, none⟩ ⟨some 8, .alloc 25, 0, _, _, none⟩ rfl rfl (by kernel_rfl) (by rfl) (by rfl) ?_ ?_
          · refine wp_append_lies _ (.tmp 19) (.tmp 21) 23 rfl w1.heap.size 50 zeroRul 6 64 Tryz.underlying23 info50 (by decide) (by decide) (.slice (some ⟨v27.heap.size, 0, none⟩) 0 0) 0 [] rfl own_v28 v28.heap.size A l.length c (rulesC l) rfl (rulesC_length l) (HL.out _ hB_v28) (rulesC_one l) (by have := HM.out; omega) (by omega) hB_v28.size w1 hB_v28 ?_
            intro r29 v29 own_v29 hB_v29 hg_v29
            rw [Nat.zero_add, List.nil_append] at own_v29
            have row_v29 := row_v28.grown hg_v29 ne_v28
            refine ⟨HS.out _ hB_v29, ?_⟩
            (try simp only [Act.put, List.setIfInBounds_toArray, List.set_cons_zero, List.set_cons_succ])
            refine held_two 6 8 ⟨some 25, .call { callee := .builtin .append, args := #[.tmp 22, .tmp 24], argTypes := #[23, 23] }, 23, _, _, none⟩ ⟨some 8, .alloc 25, 0, _, _, none⟩ rfl rfl (by kernel_rfl) (by rfl) (by rfl) ?_ ?_
            · refine wp_append1 _ (.tmp 22) (.tmp 24) 23 rfl w1.heap.size 50 zeroRul 6 64 Tryz.underlying23 info50 (by decide) (by decide) r29 l.length (rulesC l) rfl own_v29 (w3.heap.size) #[.int .i64 id, .int .i64 kn, .int .u8 kd, .string x, .string y, .int .i64 of] 50 rfl row_v29 (by simp) HO.out (by have := HM.out; omega) (by omega) hB_v29.size w1 hB_v29 ?_
              intro r30 v30 own_v30 hB_v30 hg_v30
              have hS_v30 := HS.out _ hB_v30
              refine ⟨hS_v30, ?_⟩
              (try simp only [Act.put, List.setIfInBounds_toArray, List.set_cons_zero, List.set_cons_succ])
              obtain ⟨A30, c30, rfl, hc30⟩ := ownsSlice own_v30
              refine tk 7 26 ?_
              clear hS_v30
              refine held_one 8 ⟨some 8, .alloc 25, 0, _, _, none⟩ rfl (by kernel_rfl) (by rfl) ?_
              unfold Oper.wp
              go_simp
              have hB_v31 : Below w1.heap.size w1 (v30.alloc (.cells #[.slice none 0 0] 25)) := hB_v30.alloc hB_v30.size _
              have box_v31 : Bk (v30.alloc (.cells #[.slice none 0 0] 25)) v30.heap.size 25 #[.slice none 0 0] := Bk.new _ _ _
              have own_v31 := ownsRow_below own_v30 ((Below.refl v30.heap.size v30).alloc (Nat.le_refl _) (.cells #[.slice none 0 0] 25)) (Nat.le_refl _)
              refine ⟨HS.out _ hB_v31, ?_⟩
              (try simp only [Act.put, List.setIfInBounds_toArray, List.set_cons_zero, List.set_cons_succ])
              generalize hv_v31 : v30.alloc (.cells #[.slice none 0 0] 25) = v31 at *
              refine held_one 9 ⟨none, .store 25 (.tmp 8) (.tmp 26), _, _, _, none⟩ rfl (by kernel_rfl) (by rfl) ?_
              refine wp_store_blk 25 (.tmp 8) (.tmp 26) rfl (v30.heap.size) #[.slice none 0 0] #[.slice A30 (l.length + 1) c30] rfl rfl box_v31 rfl info25 (by intro v hv; simp at hv; subst hv; rfl) ?_
              intro u_v31 k_v31 f_v31
              have hB_u := f_v31.bel _ _ hB_v30.size hB_v31
              refine ⟨HS.out _ hB_u, ?_⟩
              (try simp only [Act.put, List.setIfInBounds_toArray, List.set_cons_zero, List.set_cons_succ])
              refine wpAnyH_done (by kernel_rfl) ?_ _
              clear hHeld
              go_wp2_with fail
              go_meet
              exact ⟨_, _, _, rfl, Lib.hid k_v31, ⟨Lib.hid (fin_app own_v31 HSN.out box_v31 f_v31), Lib.hid (own_ge own_v31)⟩, hc30, Lib.hid hB_u⟩
            · unfold Oper.wp
              go_simp
              have hB_v32 : Below w1.heap.size w1 (v29.alloc (.cells #[.slice none 0 0] 25)) := hB_v29.alloc hB_v29.size _
              have box_v32 : Bk (v29.alloc (.cells #[.slice none 0 0] 25)) v29.heap.size 25 #[.slice none 0 0] := Bk.new _ _ _
              have own_v32 := ownsRow_below own_v29 ((Below.refl v29.heap.size v29).alloc (Nat.le_refl _) (.cells #[.slice none 0 0] 25)) (Nat.le_refl _)
              have row_v32 := row_v29.alloc (.cells #[.slice none 0 0] 25)
              refine ⟨HS.out _ hB_v32, ?_⟩
              (try simp only [Act.put, List.setIfInBounds_toArray, List.set_cons_zero, List.set_cons_succ])
              generalize hv_v32 : v29.alloc (.cells #[.slice none 0 0] 25) = v32 at *
              refine held_one 6 ⟨some 25, .call { callee := .builtin .append, args := #[.tmp 22, .tmp 24], argTypes := #[23, 23] }, 23, _, _, none⟩ rfl (by kernel_rfl) (by rfl) ?_
              refine wp_append1 _ (.tmp 22) (.tmp 24) 23 rfl w1.heap.size 50 zeroRul 6 64 Tryz.underlying23 info50 (by decide) (by decide) r29 l.length (rulesC l) rfl own_v32 (w3.heap.size) #[.int .i64 id, .int .i64 kn, .int .u8 kd, .string x, .string y, .int .i64 of] 50 rfl row_v32 (by simp) HO.out (by have := HM.out; omega) (by omega) hB_v32.size w1 hB_v32 ?_
              intro r33 v33 own_v33 hB_v33 hg_v33
              have box_v33 := box_v32.grown hg_v33 (own_ne own_v32 box_v32 (by decide))
              have hS_v33 := HS.out _ hB_v33
              refine ⟨hS_v33, ?_⟩
              (try simp only [Act.put, List.setIfInBounds_toArray, List.set_cons_zero, List.set_cons_succ])
              obtain ⟨A33, c33, rfl, hc33⟩ := ownsSlice own_v33
              refine tk 7 26 ?_
              clear hS_v33
              refine held_one 9 ⟨none, .store 25 (.tmp 8) (.tmp 26), _, _, _, none⟩ rfl (by kernel_rfl) (by rfl) ?_
              refine wp_store_blk 25 (.tmp 8) (.tmp 26) rfl (v29.heap.size) #[.slice none 0 0] #[.slice A33 (l.length + 1) c33] rfl rfl box_v33 rfl info25 (by intro v hv; simp at hv; subst hv; rfl) ?_
              intro u_v33 k_v33 f_v33
              have hB_u := f_v33.bel _ _ hB_v29.size hB_v33
              refine ⟨HS.out _ hB_u, ?_⟩
              (try simp only [Act.put, List.setIfInBounds_toArray, List.set_cons_zero, List.set_cons_succ])
              refine wpAnyH_done (by kernel_rfl) ?_ _
              clear hHeld
              go_wp2_with fail
              go_meet
              exact ⟨_, _, _, rfl, Lib.hid k_v33, ⟨Lib.hid (fin_app own_v33 HSN.out box_v33 f_v33), Lib.hid (own_ge own_v33)⟩, hc33, Lib.hid hB_u⟩
          · unfold Oper.wp
            go_simp
            have hB_v34 : Below w1.heap.size w1 (v28.alloc (.cells #[.slice none 0 0] 25)) := hB_v28.alloc hB_v28.size _
            have box_v34 : Bk (v28.alloc (.cells #[.slice none 0 0] 25)) v28.heap.size 25 #[.slice none 0 0] := Bk.new _ _ _
            have own_v34 := ownsRow_below own_v28 ((Below.refl v28.heap.size v28).alloc (Nat.le_refl _) (.cells #[.slice none 0 0] 25)) (Nat.le_refl _)
            have row_v34 := row_v28.alloc (.cells #[.slice none 0 0] 25)
            refine ⟨HS.out _ hB_v34, ?_⟩
            (try simp only [Act.put, List.setIfInBounds_toArray, List.set_cons_zero, List.set_cons_succ])
            have ne_v34 := ne_v28
            generalize hv_v34 : v28.alloc (.cells #[.slice none 0 0] 25) = v34 at *
            refine held_one 3 ⟨some 22, .call { callee := .builtin .append, args := #[.tmp 19, .tmp 21], argTypes := #[23, 23] }, 23, _, _, none⟩ rfl (by kernel_rfl) (by rfl) ?_
            refine wp_append_lies _ (.tmp 19) (.tmp 21) 23 rfl w1.heap.size 50 zeroRul 6 64 Tryz.underlying23 info50 (by decide) (by decide) (.slice (some ⟨v27.heap.size, 0, none⟩) 0 0) 0 [] rfl own_v34 v34.heap.size A l.length c (rulesC l) rfl (rulesC_length l) (HL.out _ hB_v34) (rulesC_one l) (by have := HM.out; omega) (by omega) hB_v34.size w1 hB_v34 ?_
            intro r35 v35 own_v35 hB_v35 hg_v35
            rw [Nat.zero_add, List.nil_append] at own_v35
            have row_v35 := row_v34.grown hg_v35 ne_v34
            have box_v35 := box_v34.grown hg_v35 (own_ne own_v34 box_v34 (by decide))
            refine ⟨HS.out _ hB_v35, ?_⟩
            (try simp only [Act.put, List.setIfInBounds_toArray, List.set_cons_zero, List.set_cons_succ])
            refine held_one 6 ⟨some 25, .call { callee := .builtin .append, args := #[.tmp 22, .tmp 24], argTypes := #[23, 23] }, 23, _, _, none⟩ rfl (by kernel_rfl) (by rfl) ?_
            refine wp_append1 _ (.tmp 22) (.tmp 24) 23 rfl w1.heap.size 50 zeroRul 6 64 Tryz.underlying23 info50 (by decide) (by decide) r35 l.length (rulesC l) rfl own_v35 (w3.heap.size) #[.int .i64 id, .int .i64 kn, .int .u8 kd, .string x, .string y, .int .i64 of] 50 rfl row_v35 (by simp) HO.out (by have := HM.out; omega) (by omega) hB_v35.size w1 hB_v35 ?_
            intro r36 v36 own_v36 hB_v36 hg_v36
            have box_v36 := box_v35.grown hg_v36 (own_ne own_v35 box_v35 (by decide))
            have hS_v36 := HS.out _ hB_v36
            refine ⟨hS_v36, ?_⟩
            (try simp only [Act.put, List.setIfInBounds_toArray, List.set_cons_zero, List.set_cons_succ])
            obtain ⟨A36, c36, rfl, hc36⟩ := ownsSlice own_v36
            refine tk 7 26 ?_
            clear hS_v36
            refine held_one 9 ⟨none, .store 25 (.tmp 8) (.tmp 26), _, _, _, none⟩ rfl (by kernel_rfl) (by rfl) ?_
            refine wp_store_blk 25 (.tmp 8) (.tmp 26) rfl (v28.heap.size) #[.slice none 0 0] #[.slice A36 (l.length + 1) c36] rfl rfl box_v36 rfl info25 (by intro v hv; simp at hv; subst hv; rfl) ?_
            intro u_v36 k_v36 f_v36
            have hB_u := f_v36.bel _ _ hB_v28.size hB_v36
            refine ⟨HS.out _ hB_u, ?_⟩
            (try simp only [Act.put, List.setIfInBounds_toArray, List.set_cons_zero, List.set_cons_succ])
            refine wpAnyH_done (by kernel_rfl) ?_ _
            clear hHeld
            go_wp2_with fail
            go_meet
            exact ⟨_, _, _, rfl, Lib.hid k_v36, ⟨Lib.hid (fin_app own_v36 HSN.out box_v36 f_v36), Lib.hid (own_ge own_v36)⟩, hc36, Lib.hid hB_u⟩
        · unfold Oper.wp
          go_simp
          have hB_v37 : Below w1.heap.size w1 (v27.alloc (.cells #[.slice none 0 0] 25)) := hB_v27.alloc hB_v27.size _
          have box_v37 : Bk (v27.alloc (.cells #[.slice none 0 0] 25)) v27.heap.size 25 #[.slice none 0 0] := Bk.new _ _ _
          have row_v37 := row_v27.alloc (.cells #[.slice none 0 0] 25)
          refine ⟨HS.out _ hB_v37, ?_⟩
          (try simp only [Act.put, List.setIfInBounds_toArray, List.set_cons_zero, List.set_cons_succ])
          generalize hv_v37 : v27.alloc (.cells #[.slice none 0 0] 25) = v37 at *
          refine held_one 0 ⟨some 19, .buildSlice 23 0 #[], 23, _, _, none⟩ rfl (by kernel_rfl) (by rfl) ?_
          unfold Oper.wp
          go_simp
          have hB_v38 : Below w1.heap.size w1 (v37.alloc (.cells #[] 50)) := hB_v37.alloc hB_v37.size _
          have own_v38 : (v37.alloc (.cells #[] 50)).ownsRow w1.heap.size 50 6 (.slice (some ⟨v37.heap.size, 0, none⟩) 0 0) 0 [] := World.ownsRow_made v37 #[] 0 hB_v37.size (Nat.zero_le _) (by simp)
          have row_v38 := row_v37.alloc (.cells #[] 50)
          have box_v38 := box_v37.alloc (.cells #[] 50)
          refine ⟨HS.out _ hB_v38, ?_⟩
          (try simp only [Act.put, List.setIfInBounds_toArray, List.set_cons_zero, List.set_cons_succ])
          have ne_v38 := blk_ne (show w3.heap.size ≠ v37.heap.size from by have h := row_v37.lt; omega)
          generalize hv_v38 : v37.alloc (.cells #[] 50) = v38 at *
          refine held_one 3 ⟨some 22, .call { callee := .builtin .append, args := #[.tmp 19, .tmp 21], argTypes := #[23, 23] }, 23, _, _, none⟩ rfl (by kernel_rfl) (by rfl) ?_
          refine wp_append_lies _ (.tmp 19) (.tmp 21) 23 rfl w1.heap.size 50 zeroRul 6 64 Tryz.underlying23 info50 (by decide) (by decide) (.slice (some ⟨v37.heap.size, 0, none⟩) 0 0) 0 [] rfl own_v38 v38.heap.size A l.length c (rulesC l) rfl (rulesC_length l) (HL.out _ hB_v38) (rulesC_one l) (by have := HM.out; omega) (by omega) hB_v38.size w1 hB_v38 ?_
          intro r39 v39 own_v39 hB_v39 hg_v39
          rw [Nat.zero_add, List.nil_append] at own_v39
          have row_v39 := row_v38.grown hg_v39 ne_v38
          have box_v39 := box_v38.grown hg_v39 (own_ne own_v38 box_v38 (by decide))
          refine ⟨HS.out _ hB_v39, ?_⟩
          (try simp only [Act.put, List.setIfInBounds_toArray, List.set_cons_zero, List.set_cons_succ])
          refine held_one 6 ⟨some 25, .call { callee := .builtin .append, args := #[.tmp 22, .tmp 24], argTypes := #[23, 23] }, 23, _, _, none⟩ rfl (by kernel_rfl) (by rfl) ?_
          refine wp_append1 _ (.tmp 22) (.tmp 24) 23 rfl w1.heap.size 50 zeroRul 6 64 Tryz.underlying23 info50 (by decide) (by decide) r39 l.length (rulesC l) rfl own_v39 (w3.heap.size) #[.int .i64 id, .int .i64 kn, .int .u8 kd, .string x, .string y, .int .i64 of] 50 rfl row_v39 (by simp) HO.out (by have := HM.out; omega) (by omega) hB_v39.size w1 hB_v39 ?_
          intro r40 v40 own_v40 hB_v40 hg_v40
          have box_v40 := box_v39.grown hg_v40 (own_ne own_v39 box_v39 (by decide))
          have hS_v40 := HS.out _ hB_v40
          refine ⟨hS_v40, ?_⟩
          (try simp only [Act.put, List.setIfInBounds_toArray, List.set_cons_zero, List.set_cons_succ])
          obtain ⟨A40, c40, rfl, hc40⟩ := ownsSlice own_v40
          refine tk 7 26 ?_
          clear hS_v40
          refine held_one 9 ⟨none, .store 25 (.tmp 8) (.tmp 26), _, _, _, none⟩ rfl (by kernel_rfl) (by rfl) ?_
          refine wp_store_blk 25 (.tmp 8) (.tmp 26) rfl (v27.heap.size) #[.slice none 0 0] #[.slice A40 (l.length + 1) c40] rfl rfl box_v40 rfl info25 (by intro v hv; simp at hv; subst hv; rfl) ?_
          intro u_v40 k_v40 f_v40
          have hB_u := f_v40.bel _ _ hB_v27.size hB_v40
          refine ⟨HS.out _ hB_u, ?_⟩
          (try simp only [Act.put, List.setIfInBounds_toArray, List.set_cons_zero, List.set_cons_succ])
          refine wpAnyH_done (by kernel_rfl) ?_ _
          clear hHeld
          go_wp2_with fail
          go_meet
          exact ⟨_, _, _, rfl, Lib.hid k_v40, ⟨Lib.hid (fin_app own_v40 HSN.out box_v40 f_v40), Lib.hid (own_ge own_v40)⟩, hc40, Lib.hid hB_u⟩
      · unfold Oper.wp
        go_simp
        have hB_v41 : Below w1.heap.size w1 (w3.alloc (.cells #[.slice none 0 0] 25)) := hB_w3.alloc hB_w3.size _
        have box_v41 : Bk (w3.alloc (.cells #[.slice none 0 0] 25)) w3.heap.size 25 #[.slice none 0 0] := Bk.new _ _ _
        refine ⟨HS.out _ hB_v41, ?_⟩
        (try simp only [Act.put, List.setIfInBounds_toArray, List.set_cons_zero, List.set_cons_succ])
        generalize hv_v41 : w3.alloc (.cells #[.slice none 0 0] 25) = v41 at *
        refine held_two 0 5 ⟨some 19, .buildSlice 23 0 #[], 23, _, _, none⟩ ⟨some 24, .buildSlice 23 1 #[(0, .tmp 23)], 23, _, _, none⟩ rfl rfl (by kernel_rfl) (by rfl) (by rfl) ?_ ?_
        · unfold Oper.wp
          go_simp
          have hB_v42 : Below w1.heap.size w1 (v41.alloc (.cells #[] 50)) := hB_v41.alloc hB_v41.size _
          have own_v42 : (v41.alloc (.cells #[] 50)).ownsRow w1.heap.size 50 6 (.slice (some ⟨v41.heap.size, 0, none⟩) 0 0) 0 [] := World.ownsRow_made v41 #[] 0 hB_v41.size (Nat.zero_le _) (by simp)
          have box_v42 := box_v41.alloc (.cells #[] 50)
          refine ⟨HS.out _ hB_v42, ?_⟩
          (try simp only [Act.put, List.setIfInBounds_toArray, List.set_cons_zero, List.set_cons_succ])
          generalize hv_v42 : v41.alloc (.cells #[] 50) = v42 at *
          refine held_two 3 5 ⟨some 22, .call { callee := .builtin .append, args := #[.tmp 19, .tmp 21], argTypes := #[23, 23] }, 23, _, _, none⟩ ⟨some 24, .buildSlice 23 1 #[(0, .tmp 23)], 23, _, _, none⟩ rfl rfl (by kernel_rfl) (by rfl) (by rfl) ?_ ?_
          · refine wp_append_lies _ (.tmp 19) (.tmp 21) 23 rfl w1.heap.size 50 zeroRul 6 64 Tryz.underlying23 info50 (by decide) (by decide) (.slice (some ⟨v41.heap.size, 0, none⟩) 0 0) 0 [] rfl own_v42 v42.heap.size A l.length c (rulesC l) rfl (rulesC_length l) (HL.out _ hB_v42) (rulesC_one l) (by have := HM.out; omega) (by omega) hB_v42.size w1 hB_v42 ?_
            intro r43 v43 own_v43 hB_v43 hg_v43
            rw [Nat.zero_add, List.nil_append] at own_v43
            have box_v43 := box_v42.grown hg_v43 (own_ne own_v42 box_v42 (by decide))
            refine ⟨HS.out _ hB_v43, ?_⟩
            (try simp only [Act.put, List.setIfInBounds_toArray, List.set_cons_zero, List.set_cons_succ])
            refine held_one 5 ⟨some 24, .buildSlice 23 1 #[(0, .tmp 23)], 23, _, _, none⟩ rfl (by kernel_rfl) (by rfl) ?_
            unfold Oper.wp
            go_simp
            have hB_v44 : Below w1.heap.size w1 (v43.alloc (.cells #[.int .i64 id, .int .i64 kn, .int .u8 kd, .string x, .string y, .int .i64 of] 50)) := hB_v43.alloc hB_v43.size _
            have row_v44 : Bk (v43.alloc (.cells #[.int .i64 id, .int .i64 kn, .int .u8 kd, .string x, .string y, .int .i64 of] 50)) v43.heap.size 50 #[.int .i64 id, .int .i64 kn, .int .u8 kd, .string x, .string y, .int .i64 of] := Bk.new _ _ _
            have own_v44 := ownsRow_below own_v43 ((Below.refl v43.heap.size v43).alloc (Nat.le_refl _) (.cells #[.int .i64 id, .int .i64 kn, .int .u8 kd, .string x, .string y, .int .i64 of] 50)) (Nat.le_refl _)
            have box_v44 := box_v43.alloc (.cells #[.int .i64 id, .int .i64 kn, .int .u8 kd, .string x, .string y, .int .i64 of] 50)
            refine ⟨HS.out _ hB_v44, ?_⟩
            (try simp only [Act.put, List.setIfInBounds_toArray, List.set_cons_zero, List.set_cons_succ])
            generalize hv_v44 : v43.alloc (.cells #[.int .i64 id, .int .i64 kn, .int .u8 kd, .string x, .string y, .int .i64 of] 50) = v44 at *
            refine held_one 6 ⟨some 25, .call { callee := .builtin .append, args := #[.tmp 22, .tmp 24], argTypes := #[23, 23] }, 23, _, _, none⟩ rfl (by kernel_rfl) (by rfl) ?_
            refine wp_append1 _ (.tmp 22) (.tmp 24) 23 rfl w1.heap.size 50 zeroRul 6 64 Tryz.underlying23 info50 (by decide) (by decide) r43 l.length (rulesC l) rfl own_v44 (v43.heap.size) #[.int .i64 id, .int .i64 kn, .int .u8 kd, .string x, .string y, .int .i64 of] 50 rfl row_v44 (by simp) HO.out (by have := HM.out; omega) (by omega) hB_v44.size w1 hB_v44 ?_
            intro r45 v45 own_v45 hB_v45 hg_v45
            have box_v45 := box_v44.grown hg_v45 (own_ne own_v44 box_v44 (by decide))
            have hS_v45 := HS.out _ hB_v45
            refine ⟨hS_v45, ?_⟩
            (try simp only [Act.put, List.setIfInBounds_toArray, List.set_cons_zero, List.set_cons_succ])
            obtain ⟨A45, c45, rfl, hc45⟩ := ownsSlice own_v45
            refine tk 7 26 ?_
            clear hS_v45
            refine held_one 9 ⟨none, .store 25 (.tmp 8) (.tmp 26), _, _, _, none⟩ rfl (by kernel_rfl) (by rfl) ?_
            refine wp_store_blk 25 (.tmp 8) (.tmp 26) rfl (w3.heap.size) #[.slice none 0 0] #[.slice A45 (l.length + 1) c45] rfl rfl box_v45 rfl info25 (by intro v hv; simp at hv; subst hv; rfl) ?_
            intro u_v45 k_v45 f_v45
            have hB_u := f_v45.bel _ _ hB_w3.size hB_v45
            refine ⟨HS.out _ hB_u, ?_⟩
            (try simp only [Act.put, List.setIfInBounds_toArray, List.set_cons_zero, List.set_cons_succ])
            refine wpAnyH_done (by kernel_rfl) ?_ _
            clear hHeld
            go_wp2_with fail
            go_meet
            exact ⟨_, _, _, rfl, Lib.hid k_v45, ⟨Lib.hid (fin_app own_v45 HSN.out box_v45 f_v45), Lib.hid (own_ge own_v45)⟩, hc45, Lib.hid hB_u⟩
          · unfold Oper.wp
            go_simp
            have hB_v46 : Below w1.heap.size w1 (v42.alloc (.cells #[.int .i64 id, .int .i64 kn, .int .u8 kd, .string x, .string y, .int .i64 of] 50)) := hB_v42.alloc hB_v42.size _
            have row_v46 : Bk (v42.alloc (.cells #[.int .i64 id, .int .i64 kn, .int .u8 kd, .string x, .string y, .int .i64 of] 50)) v42.heap.size 50 #[.int .i64 id, .int .i64 kn, .int .u8 kd, .string x, .string y, .int .i64 of] := Bk.new _ _ _
            have own_v46 := ownsRow_below own_v42 ((Below.refl v42.heap.size v42).alloc (Nat.le_refl _) (.cells #[.int .i64 id, .int .i64 kn, .int .u8 kd, .string x, .string y, .int .i64 of] 50)) (Nat.le_refl _)
            have box_v46 := box_v42.alloc (.cells #[.int .i64 id, .int .i64 kn, .int .u8 kd, .string x, .string y, .int .i64 of] 50)
            refine ⟨HS.out _ hB_v46, ?_⟩
            (try simp only [Act.put, List.setIfInBounds_toArray, List.set_cons_zero, List.set_cons_succ])
            have ne_v46 := blk_ne (show v42.heap.size ≠ v41.heap.size from by have h := (own_v42.lt (v41.heap.size) rfl).2; omega)
            generalize hv_v46 : v42.alloc (.cells #[.int .i64 id, .int .i64 kn, .int .u8 kd, .string x, .string y, .int .i64 of] 50) = v46 at *
            refine held_one 3 ⟨some 22, .call { callee := .builtin .append, args := #[.tmp 19, .tmp 21], argTypes := #[23, 23] }, 23, _, _, none⟩ rfl (by kernel_rfl) (by rfl) ?_
            refine wp_append_lies _ (.tmp 19) (.tmp 21) 23 rfl w1.heap.size 50 zeroRul 6 64 Tryz.underlying23 info50 (by decide) (by decide) (.slice (some ⟨v41.heap.size, 0, none⟩) 0 0) 0 [] rfl own_v46 v46.heap.size A l.length c (rulesC l) rfl (rulesC_length l) (HL.out _ hB_v46) (rulesC_one l) (by have := HM.out; omega) (by omega) hB_v46.size w1 hB_v46 ?_
            intro r47 v47 own_v47 hB_v47 hg_v47
            rw [Nat.zero_add, List.nil_append] at own_v47
            have row_v47 := row_v46.grown hg_v47 ne_v46
            have box_v47 := box_v46.grown hg_v47 (own_ne own_v46 box_v46 (by decide))
            refine ⟨HS.out _ hB_v47, ?_⟩
            (try simp only [Act.put, List.setIfInBounds_toArray, List.set_cons_zero, List.set_cons_succ])
            refine held_one 6 ⟨some 25, .call { callee := .builtin .append, args := #[.tmp 22, .tmp 24], argTypes := #[23, 23] }, 23, _, _, none⟩ rfl (by kernel_rfl) (by rfl) ?_
            refine wp_append1 _ (.tmp 22) (.tmp 24) 23 rfl w1.heap.size 50 zeroRul 6 64 Tryz.underlying23 info50 (by decide) (by decide) r47 l.length (rulesC l) rfl own_v47 (v42.heap.size) #[.int .i64 id, .int .i64 kn, .int .u8 kd, .string x, .string y, .int .i64 of] 50 rfl row_v47 (by simp) HO.out (by have := HM.out; omega) (by omega) hB_v47.size w1 hB_v47 ?_
            intro r48 v48 own_v48 hB_v48 hg_v48
            have box_v48 := box_v47.grown hg_v48 (own_ne own_v47 box_v47 (by decide))
            have hS_v48 := HS.out _ hB_v48
            refine ⟨hS_v48, ?_⟩
            (try simp only [Act.put, List.setIfInBounds_toArray, List.set_cons_zero, List.set_cons_succ])
            obtain ⟨A48, c48, rfl, hc48⟩ := ownsSlice own_v48
            refine tk 7 26 ?_
            clear hS_v48
            refine held_one 9 ⟨none, .store 25 (.tmp 8) (.tmp 26), _, _, _, none⟩ rfl (by kernel_rfl) (by rfl) ?_
            refine wp_store_blk 25 (.tmp 8) (.tmp 26) rfl (w3.heap.size) #[.slice none 0 0] #[.slice A48 (l.length + 1) c48] rfl rfl box_v48 rfl info25 (by intro v hv; simp at hv; subst hv; rfl) ?_
            intro u_v48 k_v48 f_v48
            have hB_u := f_v48.bel _ _ hB_w3.size hB_v48
            refine ⟨HS.out _ hB_u, ?_⟩
            (try simp only [Act.put, List.setIfInBounds_toArray, List.set_cons_zero, List.set_cons_succ])
            refine wpAnyH_done (by kernel_rfl) ?_ _
            clear hHeld
            go_wp2_with fail
            go_meet
            exact ⟨_, _, _, rfl, Lib.hid k_v48, ⟨Lib.hid (fin_app own_v48 HSN.out box_v48 f_v48), Lib.hid (own_ge own_v48)⟩, hc48, Lib.hid hB_u⟩
        · unfold Oper.wp
          go_simp
          have hB_v49 : Below w1.heap.size w1 (v41.alloc (.cells #[.int .i64 id, .int .i64 kn, .int .u8 kd, .string x, .string y, .int .i64 of] 50)) := hB_v41.alloc hB_v41.size _
          have row_v49 : Bk (v41.alloc (.cells #[.int .i64 id, .int .i64 kn, .int .u8 kd, .string x, .string y, .int .i64 of] 50)) v41.heap.size 50 #[.int .i64 id, .int .i64 kn, .int .u8 kd, .string x, .string y, .int .i64 of] := Bk.new _ _ _
          have box_v49 := box_v41.alloc (.cells #[.int .i64 id, .int .i64 kn, .int .u8 kd, .string x, .string y, .int .i64 of] 50)
          refine ⟨HS.out _ hB_v49, ?_⟩
          (try simp only [Act.put, List.setIfInBounds_toArray, List.set_cons_zero, List.set_cons_succ])
          generalize hv_v49 : v41.alloc (.cells #[.int .i64 id, .int .i64 kn, .int .u8 kd, .string x, .string y, .int .i64 of] 50) = v49 at *
          refine held_one 0 ⟨some 19, .buildSlice 23 0 #[], 23, _, _, none⟩ rfl (by kernel_rfl) (by rfl) ?_
          unfold Oper.wp
          go_simp
          have hB_v50 : Below w1.heap.size w1 (v49.alloc (.cells #[] 50)) := hB_v49.alloc hB_v49.size _
          have own_v50 : (v49.alloc (.cells #[] 50)).ownsRow w1.heap.size 50 6 (.slice (some ⟨v49.heap.size, 0, none⟩) 0 0) 0 [] := World.ownsRow_made v49 #[] 0 hB_v49.size (Nat.zero_le _) (by simp)
          have row_v50 := row_v49.alloc (.cells #[] 50)
          have box_v50 := box_v49.alloc (.cells #[] 50)
          refine ⟨HS.out _ hB_v50, ?_⟩
          (try simp only [Act.put, List.setIfInBounds_toArray, List.set_cons_zero, List.set_cons_succ])
          have ne_v50 := blk_ne (show v41.heap.size ≠ v49.heap.size from by have h := row_v49.lt; omega)
          generalize hv_v50 : v49.alloc (.cells #[] 50) = v50 at *
          refine held_one 3 ⟨some 22, .call { callee := .builtin .append, args := #[.tmp 19, .tmp 21], argTypes := #[23, 23] }, 23, _, _, none⟩ rfl (by kernel_rfl) (by rfl) ?_
          refine wp_append_lies _ (.tmp 19) (.tmp 21) 23 rfl w1.heap.size 50 zeroRul 6 64 Tryz.underlying23 info50 (by decide) (by decide) (.slice (some ⟨v49.heap.size, 0, none⟩) 0 0) 0 [] rfl own_v50 v50.heap.size A l.length c (rulesC l) rfl (rulesC_length l) (HL.out _ hB_v50) (rulesC_one l) (by have := HM.out; omega) (by omega) hB_v50.size w1 hB_v50 ?_
          intro r51 v51 own_v51 hB_v51 hg_v51
          rw [Nat.zero_add, List.nil_append] at own_v51
          have row_v51 := row_v50.grown hg_v51 ne_v50
          have box_v51 := box_v50.grown hg_v51 (own_ne own_v50 box_v50 (by decide))
          refine ⟨HS.out _ hB_v51, ?_⟩
          (try simp only [Act.put, List.setIfInBounds_toArray, List.set_cons_zero, List.set_cons_succ])
          refine held_one 6 ⟨some 25, .call { callee := .builtin .append, args := #[.tmp 22, .tmp 24], argTypes := #[23, 23] }, 23, _, _, none⟩ rfl (by kernel_rfl) (by rfl) ?_
          refine wp_append1 _ (.tmp 22) (.tmp 24) 23 rfl w1.heap.size 50 zeroRul 6 64 Tryz.underlying23 info50 (by decide) (by decide) r51 l.length (rulesC l) rfl own_v51 (v41.heap.size) #[.int .i64 id, .int .i64 kn, .int .u8 kd, .string x, .string y, .int .i64 of] 50 rfl row_v51 (by simp) HO.out (by have := HM.out; omega) (by omega) hB_v51.size w1 hB_v51 ?_
          intro r52 v52 own_v52 hB_v52 hg_v52
          have box_v52 := box_v51.grown hg_v52 (own_ne own_v51 box_v51 (by decide))
          have hS_v52 := HS.out _ hB_v52
          refine ⟨hS_v52, ?_⟩
          (try simp only [Act.put, List.setIfInBounds_toArray, List.set_cons_zero, List.set_cons_succ])
          obtain ⟨A52, c52, rfl, hc52⟩ := ownsSlice own_v52
          refine tk 7 26 ?_
          clear hS_v52
          refine held_one 9 ⟨none, .store 25 (.tmp 8) (.tmp 26), _, _, _, none⟩ rfl (by kernel_rfl) (by rfl) ?_
          refine wp_store_blk 25 (.tmp 8) (.tmp 26) rfl (w3.heap.size) #[.slice none 0 0] #[.slice A52 (l.length + 1) c52] rfl rfl box_v52 rfl info25 (by intro v hv; simp at hv; subst hv; rfl) ?_
          intro u_v52 k_v52 f_v52
          have hB_u := f_v52.bel _ _ hB_w3.size hB_v52
          refine ⟨HS.out _ hB_u, ?_⟩
          (try simp only [Act.put, List.setIfInBounds_toArray, List.set_cons_zero, List.set_cons_succ])
          refine wpAnyH_done (by kernel_rfl) ?_ _
          clear hHeld
          go_wp2_with fail
          go_meet
          exact ⟨_, _, _, rfl, Lib.hid k_v52, ⟨Lib.hid (fin_app own_v52 HSN.out box_v52 f_v52), Lib.hid (own_ge own_v52)⟩, hc52, Lib.hid hB_u⟩
    case rest =>
      obtain ⟨g, A8, c8, rfl, k8, ⟨l8, g8⟩, hc8, hb8⟩ := hcut
      have hB8 : Below w.heap.size w wc := hB1.trans (hb8.out.mono hB1.size)
      have k82 := k2.below hb8.out k2.lt
      have k84 := k4.below hb8.out k4.lt
      have HRC := Lib.hid (HRF.out wc A8 c8 l8.out hc8.1 hc8.2)
      have c80 := k8.out.cell 0 rfl
      have HHA := Lib.hid HA
      clear HRF HA
      go_upto_region 6 with (first | (go_at_call 68; refine HRC.out.mono ?_; rintro e w2 ⟨rfl, hb2⟩))
      have hB2 : Below w.heap.size w w2 := hB8.trans (hb2.mono hB8.size)
      have k92 := k84.below hb2 k84.lt
      have k98 := k8.out.below hb2 k8.out.lt
      have l9 := Lib.hid ((l8.out.below hb2 (Nat.le_refl _)).more hb2.size)
      have c98 := k98.cell 0 rfl
      have c92 := k92.cell 0 rfl
      have f92 := k92.fro 0
      clear hb2 HRC c80 l8
      by_cases hZ : E = 0
      · have HZ := Lib.hid hZ
        have hR' : (E == 0) = true := by rw [hZ]; rfl
        have hR2 : (E != 0) = false := by rw [bne, hR']; rfl
        clear hZ
        go_wp2_with fail
        refine bodyPost_ret (results_row rfl _ _ (w.heap.size + 2) [.slice A8 (l.length + 1) c8] _ rfl (k92.set 0 _).range Tryz.underlying25 rfl info25) rfl ?_
        exact HG.out (HHA.out.trans HZ.out) (set_lies l9.out fun ad e h => by have := g8.out ad e; omega) hc8 (hB2.setCell (p := ⟨w.heap.size + 2, 0, none⟩) (by simp) _)
      · have HZ := Lib.hid hZ
        have hR' : (E == 0) = false := by simpa using hZ
        have hR2 : (E != 0) = true := by rw [bne, hR']; rfl
        clear hZ
        go_wp2_with fail
        refine bodyPost_ret (results_row rfl _ _ (w.heap.size + 2) [.slice none 0 0] _ rfl (k92.set 0 _).range Tryz.underlying25 rfl info25) rfl ?_
        exact HBD.out HHA.out HZ.out (hB2.setCell (p := ⟨w.heap.size + 2, 0, none⟩) (by simp) _)
  · have HA := Lib.hid (HE1.out hE)
    have hR' : (e0 == 0) = false := by simpa using hE
    have hR2 : (e0 != 0) = true := by rw [bne, hR']; rfl
    have HE := Lib.hid hE
    clear hE HE0 HE1 HG HLL HRF
    go_wp2_with fail
    refine bodyPost_ret (results_row rfl _ _ (w.heap.size + 2) [.slice none 0 0] _ rfl (k4.set 0 _).range Tryz.underlying25 rfl info25) rfl ?_
    exact HBD.out HA.out HE.out (hB1.setCell (p := ⟨w.heap.size + 2, 0, none⟩) (by simp) _)
end Go.Proofs.YtkfeagokmcakgaaGreatDoor
