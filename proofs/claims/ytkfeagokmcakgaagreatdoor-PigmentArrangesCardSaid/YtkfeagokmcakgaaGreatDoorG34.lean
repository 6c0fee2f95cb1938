/- The reference's circle (fn 106). Printed by gen_y14.py. -/
import Derived.Test.YtkfeagokmcakgaaGreatDoorG28
import Derived.Test.YtkfeagokmcakgaaGreatDoorG33

set_option linter.unusedVariables false
set_option linter.unusedSimpArgs false

namespace Go.Proofs.YtkfeagokmcakgaaGreatDoor
open Go.RowKit

theorem blk_ne2 {a b : Nat} (h : a ≠ b) : some a ≠ Value.ownBlock (.slice (some ⟨b, 0, none⟩) 0 0) := by
  intro e
  exact h (by simpa [Value.ownBlock] using e)
theorem wp_append_lies2 {P : Program} (w : World) {o : Oper} {a : Act} {K : Act → World → Prop} {Q : Exit → Act → World → Prop} (s x : Operand) (t : TypeId) (ho : o.op = .call { callee := .builtin .append, args := #[s, x], argTypes := #[t, t] })
    (base : Nat) (e : TypeId) (z : Value) (size bytes : Nat) (ht : P.underlying t = some (.slice e)) (hi : (P.info? e).map (fun i => (i.zero, i.size, i.bytes)) = some (some z, size, bytes)) (hzs : z.cells.size = size) (hsz : 0 < size)
    (v : Value) (n : Nat) (xs : List Value) (hs : a.eval s = v) (hown : w.ownsRow base e size v n xs)
    (B : Nat) (A : Option Addr) (m c : Nat) (news : List Value) (hx : a.eval x = .slice A m c) (hl : news.length = m * size) (hr : Lies w B A news) (h1 : ∀ u ∈ news, u.oneCell' = true)
    (h63 : n + m ≤ 100000) (hbytes : bytes ≤ 1000) (hbase : base ≤ w.heap.size) (a0 : World) (hB : Below base a0 w)
    (h : ∀ v' w', w'.ownsRow base e size v' (n + m) (xs ++ news) → Below base a0 w' → w.grownBy w' v.ownBlock → K (a.put o.dst v') w') : o.wp P a w K Q := by
  obtain ⟨i0, hi0, hz0, hz1, hz2⟩ := info_parts hi
  cases A with
  | some ad =>
    obtain ⟨v', w', hrun, r1, r2, _⟩ := run_append_own (P := P) w base t o.type e i0 z size bytes ht hi0 hz0 hz1 hz2 hzs hsz v n xs hown ad m c news hl (fun j u hj => by
        obtain ⟨ad2, e2, _, hc⟩ := hr (by intro e; rw [e] at hj; simp at hj)
        cases e2; exact hc j u hj) h1 (by unfold maxLen; omega)
      (by calc (n + m) * bytes ≤ 100000 * 1000 := Nat.mul_le_mul h63 hbytes
            _ ≤ 140737488355328 := by decide) hbase
    unfold Oper.wp
    simp [execOp, ho, resolve, invoke, builtin, hs, hx, hrun, Result.andThen]
    exact h v' w' r1 (Below.grown hB r2 hbase fun k hk => (hown.lt k hk).1) r2
  | none =>
    have hn : news = [] := Classical.byContradiction fun hne => by
      obtain ⟨ad, e, _⟩ := hr hne
      cases e
    subst hn
    have hm : m = 0 := by
      rcases Nat.eq_zero_or_pos m with h0 | h0
      · exact h0
      · have := Nat.mul_pos h0 hsz; simp at hl; omega
    subst hm
    have hrun : (Builtin.append_ #[t, t] o.type #[v, .slice none 0 c]).run P w = .ok v w := by
      rcases hown.2 with ⟨rfl, rfl⟩ | ⟨g, cap, cur, rfl, _, _, hnc, _⟩
      · simp [Builtin.append_, run_underlying ht, sizeOf, typeInfo, hi0, Builtin.lenOf, Builtin.firstCells]
      · simp [Builtin.append_, run_underlying ht, sizeOf, typeInfo, hi0, Builtin.lenOf, Builtin.firstCells, hnc, storeCells]
    unfold Oper.wp
    simp [execOp, ho, resolve, invoke, builtin, hs, hx, hrun, Result.andThen]
    exact h v w (by simpa using hown) hB (World.grownBy.refl w _)
theorem crc_len {bar : Nat → Nat → Bool} {n : Nat} : ∀ (r : Nat) (l L : List Nat), crcF bar n r l = some L → l.length ≤ L.length
  | 0, l, L, h => by
    unfold crcF at h
    split at h
    · cases h; exact Nat.le_refl _
    · cases h
  | r + 1, l, L, h => by
    unfold crcF at h
    obtain ⟨i, _, _, h3, _⟩ := firstF_some h
    split at h3
    · have := crc_len r _ L h3
      simp at this; omega
    · cases h3
/-- what a search for a circle answers, as a value -/
def RndV (o : Option (List Nat)) (v : Value) (W : World) : Prop := match o with
  | none => v = .slice none 0 0
  | some L => ∃ ad c, v = .slice (some ad) L.length c ∧ Lies W W.heap.size (some ad) (nats L) ∧ (L.length ≤ c ∧ c ≤ maxLen)
theorem rndE_open {o : Option (List Nat)} {w w' : World} {e : Ending} (h : RndE o w e w') : Below w.heap.size w w' ∧ ∃ v, e = .returned v ∧ RndV o v w' := by
  obtain ⟨h1, h2⟩ := h
  cases o with
  | none => exact ⟨h1, _, h2, rfl⟩
  | some L =>
    obtain ⟨ad, c, h3, h4, h5⟩ := h2
    exact ⟨h1, _, h3, ad, c, rfl, h4, h5⟩
theorem take_mem {l : List Nat} {j : Nat} (hj : j < l.length) (i : Nat) : decide (i ∈ l.take (j + 1)) = (decide (i ∈ l.take j) || decide (l[j] = i)) := by
  rw [← List.take_append_getElem hj, Bool.eq_iff_iff]
  simp only [decide_eq_true_eq, Bool.or_eq_true, List.mem_append, List.mem_singleton]
  exact ⟨fun h => h.imp id Eq.symm, fun h => h.imp id Eq.symm⟩
set_option maxRecDepth 100000 in
set_option maxHeartbeats 4000000 in
theorem circle_step {n : Nat} {C : Array Value} {bar : Nat → Nat → Bool} (hC : OvC bar C) (hn : n ≤ 8) (r : Nat) (q : Int)
    (IH : ∀ (m : Nat) (l : List Nat) (ad : Addr) (cl : Nat) (w : World), l.length = m + 1 → q = (m : Int) + 1 + r → Lies w w.heap.size (some ad) (nats l) → (∀ j ∈ l, j < n) → (m + 1 ≤ cl ∧ cl ≤ maxLen) → m + 1 + r ≤ 1000 → Calls Tryz.prog 106 #[.agg C, .int .i64 n, .slice (some ad) (m + 1) cl, .int .i64 q] w (RndE (crcF bar n r l) w))
    (m : Nat) (l : List Nat) (ad : Addr) (cl : Nat) (w : World) (hm : l.length = m + 1) (hq : q = (m : Int) + 1 + (r + 1 : Nat)) (hl : Lies w w.heap.size (some ad) (nats l)) (hlt : ∀ j ∈ l, j < n) (hcl : m + 1 ≤ cl ∧ cl ≤ maxLen) (h1000 : m + 1 + (r + 1) ≤ 1000) :
    Calls Tryz.prog 106 #[.agg C, .int .i64 n, .slice (some ad) (m + 1) cl, .int .i64 q] w (RndE (crcF bar n (r + 1) l) w) := by
  have HW : Hid (Below w.heap.size w (w.alloc (.cells C 130))) := (Below.refl _ _).alloc (Nat.le_refl _) _
  have HK : Hid (∀ V, Below (w.alloc (.cells C 130)).heap.size (w.alloc (.cells C 130)) V → Bk V w.heap.size 130 C) := fun V hV => (Bk.new w 130 C).below hV (Bk.new w 130 C).lt
  have HL : Hid (∀ V, Below (w.alloc (.cells C 130)).heap.size (w.alloc (.cells C 130)) V → Lies V V.heap.size (some ad) (nats l)) := fun V hV => by
    have hb := HW.out.trans (hV.mono HW.out.size)
    exact (hl.below hb (Nat.le_refl _)).more hb.size
  have HEND : Hid (∀ V, Below (w.alloc (.cells C 130)).heap.size (w.alloc (.cells C 130)) V → Below w.heap.size w V) := fun V hV => HW.out.trans (hV.mono HW.out.size)
  have p0 : 0 < l.length := hm ▸ Nat.succ_pos m
  have pm : m < l.length := hm ▸ Nat.lt_succ_self m
  have hL0 : l[0] < n := hlt _ (List.getElem_mem p0)
  have hLm : l[m] < n := hlt _ (List.getElem_mem pm)
  obtain ⟨F, hF⟩ : ∃ F : Nat → Option (List Nat), F = fun i => if bar l[m] i = true ∧ i ∉ l then crcF bar n r (l ++ [i]) else none := ⟨_, rfl⟩
  have HFD : Hid (∀ i, F i = if bar l[m] i = true ∧ i ∉ l then crcF bar n r (l ++ [i]) else none) := fun i => by rw [hF]
  have HF : Hid (crcF bar n (r + 1) l = firstF F (l[0] + 1) (n - (l[0] + 1))) := by
    show _ = _
    conv => lhs; unfold crcF
    rw [lst_at hm, fst_at hm, hF]
  have HFA : Hid (∀ i, i < n → firstF F i (n - i) = match F i with
    | some v => some v
    | none => firstF F (i + 1) (n - (i + 1))) := fun i hi => firstF_at hi
  have HFN : Hid (firstF F n (n - n) = none) := by show _ = _; rw [Nat.sub_self]; rfl
  clear hF
  have HIH : Hid (∀ (i : Nat), i < n → ∀ (a2 : Addr) (c2 : Nat) V, Lies V V.heap.size (some a2) (nats (l ++ [i])) → (m + 1 + 1 ≤ c2 ∧ c2 ≤ maxLen) → Calls Tryz.prog 106 #[.agg C, .int .i64 n, .slice (some a2) (m + 1 + 1) c2, .int .i64 q] V (RndE (crcF bar n r (l ++ [i])) V)) := fun i hi a2 c2 V h1 h2 => by
    refine IH (m + 1) (l ++ [i]) a2 c2 V (by simp [hm]) (by omega) h1 (fun j hj => ?_) h2 (by omega)
    rcases List.mem_append.1 hj with hj | hj
    · exact hlt j hj
    · simp at hj; omega
  have hne : (((m : Int) + 1) == q) = false := by
    cases h : ((m : Int) + 1) == q with
    | false => rfl
    | true => have := beq_iff_eq.1 h; omega
  have hmI : (m : Int) < (m : Int) + 1 := by omega
  have HNL : Hid ((nats l).length = (m + 1) * 1) := by show _ = _; rw [nats_len, hm]; omega
  have HCC : Hid (∀ a b, a < n → b < n → C[a * 8 + b]? = some (.bool (bar a b))) := fun a b ha hb => hC.2 a b (by omega) (by omega)
  have HC64 : Hid ((Tryz.prog.info? 130).map (·.size) = some C.toList.length) := Lib.hid (by rw [Array.length_toList, hC.1]; exact info130)
  have ez : ad.add 0 = ad := by unfold Addr.add; rfl
  have HL0 : Hid (∀ V, Below (w.alloc (.cells C 130)).heap.size (w.alloc (.cells C 130)) V → V.cell? ad = some (.int .i64 (l[0] : Nat))) := fun V hV => by
    have := lies_get (HL.out V hV) (j := 0) (u := .int .i64 (l[0] : Nat)) (by simp [nats, p0])
    rwa [ez] at this
  have HLm : Hid (∀ V, Below (w.alloc (.cells C 130)).heap.size (w.alloc (.cells C 130)) V → V.cell? (ad.add m) = some (.int .i64 (l[m] : Nat))) := fun V hV => lies_get (HL.out V hV) (by simp [nats, pm])
  have HLj : Hid (∀ V, Below (w.alloc (.cells C 130)).heap.size (w.alloc (.cells C 130)) V → ∀ j (hj : j < l.length), V.cell? (ad.add j) = some (.int .i64 (l[j] : Nat))) := fun V hV j hj => lies_get (HL.out V hV) (by simp [nats, hj])
  have hB0 : Below (w.alloc (.cells C 130)).heap.size (w.alloc (.cells C 130)) (w.alloc (.cells C 130)) := Below.refl _ _
  have c0 := HL0.out _ hB0
  have cm := HLm.out _ hB0
  have HM : Hid (l.length = m + 1) := hm
  have hw1 : wrap64 (m : Int) = (m : Int) := by unfold wrap64; omega
  clear hl hlt hq IH hC ez
  generalize crcF bar n (r + 1) l = R at *
  generalize hx0 : l[0] = x0 at *
  generalize hxm : l[m] = xm at *
  have h0I : (x0 : Int) < 8 := by omega
  have hxI : (xm : Int) < 8 := by omega
  clear hx0 hxm
  go_enter Tryz.func106, Tryz.ntmps106
  go_upto_region 1 with fail
  generalize w.alloc (.cells C 130) = W0 at *
  go_upto_region 7 with fail
  clear c0 cm hw1 hne hmI
  have hm9 : m ≤ 1000 := by omega
  have hm99 : m + 1 ≤ 100000 := by omega
  clear h1000
  go_loopw [10] (fun y wr => ∃ k : Nat, k ≤ n ∧ y = .int .i64 k ∧ Hid (R = firstF F k (n - k)) ∧ Below W0.heap.size W0 wr) (fun y _ => n - (intOf y).toNat)
  case atStart => exact ⟨x0 + 1, by omega, by go_num, HF, hB0⟩
  case round =>
    obtain ⟨k, hk, rfl, HRk, hbw⟩ := hrel
    clear HF hB0
    by_cases hlk : k < n
    · have hkI : (k : Int) < 8 := by omega
      have HFK := Lib.hid (HFA.out k hlk)
      have HFV := Lib.hid (HFD.out k)
      have HTM := Lib.hid (fun j (hj : j < l.length) => take_mem hj k)
      have HT0 : Hid (decide (k ∈ l.take 0) = false) := by show _ = _; simp
      have HTN : Hid (l.take (m + 1) = l) := Lib.hid (by rw [← HM.out]; exact List.take_length)
      clear HFA HFN HFD
      go_upto_region 11 with fail
      go_loopw [11, 12] (fun y z wx => ∃ j : Nat, j ≤ m + 1 ∧ y = .bool (decide (k ∈ l.take j)) ∧ z = .int .i64 j ∧ Below W0.heap.size W0 wx) (fun _ z _ => m + 1 - (intOf z).toNat)
      case atStart => exact ⟨0, by omega, by rw [HT0.out], rfl, hbw⟩
      case round =>
        obtain ⟨j, hj, rfl, rfl, hbx⟩ := hrel
        clear hbw HT0
        by_cases hjl : j < m + 1
        · have hjL : j < l.length := by rw [HM.out]; exact hjl
          have hjI : (j : Int) < (m : Int) + 1 := by omega
          have y1 := HLj.out _ hbx j hjL
          have HS := Lib.hid (HTM.out j hjL)
          clear HTM HTN HFK HFV HRk HIH HL HLm HL0 HLj
          generalize hlj : l[j] = t at *
          cases hd : decide (k ∈ l.take j) with
          | true =>
            have HE : Hid (decide (k ∈ l.take (j + 1)) = true) := by show _ = _; rw [HS.out, hd]; rfl
            clear HS hd hlj
            go_wp2
            go_roundw
            case rel => exact ⟨j + 1, by omega, by rw [HE.out], by go_num, hbx⟩
            case measure => simp [intOf]; omega
          | false =>
            by_cases htk : t = k
            · have HE : Hid (decide (k ∈ l.take (j + 1)) = true) := by show _ = _; rw [HS.out, decide_eq_true htk]; simp
              have he : ((t : Int) == (k : Int)) = true := by rw [htk]; simp
              clear HS hd hlj htk
              go_wp2
              go_roundw
              case rel => exact ⟨j + 1, by omega, by rw [HE.out], by go_num, hbx⟩
              case measure => simp [intOf]; omega
            · have HE : Hid (decide (k ∈ l.take (j + 1)) = false) := by show _ = _; rw [HS.out, decide_eq_false htk, hd]; rfl
              have he : ((t : Int) == (k : Int)) = false := by rw [beq_eq_false_iff_ne]; omega
              clear HS hd hlj htk
              go_wp2
              go_roundw
              case rel => exact ⟨j + 1, by omega, by rw [HE.out], by go_num, hbx⟩
              case measure => simp [intOf]; omega
        · obtain rfl : j = m + 1 := by omega
          rw [HTN.out]
          clear HTM hjl hj
          have y2 : Go.World.cell? _ ⟨w.heap.size, xm * 8 + k, none⟩ = some (.bool (bar xm k)) := (HK.out _ hbx).cell _ (HCC.out xm k hLm hlk)
          by_cases hin : k ∈ l
          · have HN : Hid (R = firstF F (k + 1) (n - (k + 1))) := by
              have e : F k = none := by rw [HFV.out, if_neg (by simp [hin])]
              show _ = _
              rw [HRk.out, HFK.out, e]
            rw [decide_eq_true hin]
            clear HFK HFV HRk HIH hin
            go_wp2
            go_roundw
            case rel => exact ⟨k + 1, by omega, by go_num, HN, hbx⟩
            case measure => simp [intOf]; omega
          · rw [decide_eq_false hin]
            cases hb : bar xm k with
            | false =>
              have HN : Hid (R = firstF F (k + 1) (n - (k + 1))) := by
                have e : F k = none := by rw [HFV.out, if_neg (by simp [hb])]
                show _ = _
                rw [HRk.out, HFK.out, e]
              rw [hb] at y2
              clear HFK HFV HRk HIH hin hb
              go_wp2
              go_roundw
              case rel => exact ⟨k + 1, by omega, by go_num, HN, hbx⟩
              case measure => simp [intOf]; omega
            | true =>
              rw [hb] at y2
              have e : F k = crcF bar n r (l ++ [k]) := by rw [HFV.out, if_pos ⟨hb, hin⟩]
              rw [e] at HFK
              have HIu := Lib.hid (fun a2 c2 V (_ : Below W0.heap.size W0 V) h1 h2 => HIH.out k hlk a2 c2 V h1 h2)
              have HCL : Hid (∀ L, crcF bar n r (l ++ [k]) = some L → 0 < L.length) := fun L h => by have := crc_len r _ L h; simp at this; omega
              have HSN : Hid (nats l ++ (#[Value.int .i64 k] : Array Value).toList = nats (l ++ [k])) := by show _ = _; simp [nats]
              clear HFV HIH hb hin e
              generalize crcF bar n r (l ++ [k]) = O at *
              go_upto_region 15 with fail
              go_cut [13] (fun s13 wx => ∃ v9 : Value, s13 = v9 ∧ Hid (RndV O v9 wx) ∧ Hid (Below W0.heap.size W0 wx))
              case first =>
                refine wp_region_held_drew (S := (fun V => V.rangeAt w.heap.size 0 C.toList)) (by kernel_rfl) ?_ (fun hHeld => ?_)
                · exact (HK.out _ hbx.drew).range
                have hB0 := hbx.drew
                clear hbx y2
                generalize World.drew _ = u0 at *
                have HSu : Hid (∀ V, Below u0.heap.size u0 V → V.rangeAt w.heap.size 0 C.toList) := fun V hV => (HK.out V (hB0.trans (hV.mono hB0.size))).range
                have HLu := Lib.hid (fun V (hV : Below u0.heap.size u0 V) => HL.out V (hB0.trans (hV.mono hB0.size)))
                have HIu := Lib.hid (fun a2 c2 V (hV : Below u0.heap.size u0 V) h1 h2 => HIu.out a2 c2 V (hB0.trans (hV.mono hB0.size)) h1 h2)
                have hB_u0 : Below u0.heap.size u0 u0 := Below.refl _ _
                have hSu0 := HSu.out _ hB_u0
                refine held_row 0 (some 65) 130 (.tmp 4) (w.heap.size) 0 C.toList _ rfl rfl (by kernel_rfl) (by kernel_rfl) (by kernel_rfl) (by rfl) rfl (fun _ _ _ h => h) (by assumption) (fun _ hS => hS) Tryz.underlying130 rfl HC64.out ?_
                (try simp only [Act.put, List.setIfInBounds_toArray, List.set_cons_zero, List.set_cons_succ])
                (refine held_take 1 (some 66) ?_ rfl (by kernel_rfl) (by kernel_rfl) (by kernel_rfl) (by rfl) (fun _ _ _ h => h) (by assumption) (fun w hSw => ?_) ?_; rotate_left; ((try dsimp only at hSw); simp only [List.getElem?_toArray, List.getElem?_cons_zero, List.getElem?_cons_succ, Option.map_some]; refine congrArg some ?_; go_simp; (try with_reducible rfl)); (try simp only [Act.put, List.setIfInBounds_toArray, List.set_cons_zero, List.set_cons_succ]))
                (refine held_take 3 (some 68) ?_ rfl (by kernel_rfl) (by kernel_rfl) (by kernel_rfl) (by rfl) (fun _ _ _ h => h) (by assumption) (fun w hSw => ?_) ?_; rotate_left; ((try dsimp only at hSw); simp only [List.getElem?_toArray, List.getElem?_cons_zero, List.getElem?_cons_succ, Option.map_some]; refine congrArg some ?_; go_simp; (try with_reducible rfl)); (try simp only [Act.put, List.setIfInBounds_toArray, List.set_cons_zero, List.set_cons_succ]))
                (refine held_take 5 (some 70) ?_ rfl (by kernel_rfl) (by kernel_rfl) (by kernel_rfl) (by rfl) (fun _ _ _ h => h) (by assumption) (fun w hSw => ?_) ?_; rotate_left; ((try dsimp only at hSw); simp only [List.getElem?_toArray, List.getElem?_cons_zero, List.getElem?_cons_succ, Option.map_some]; refine congrArg some ?_; go_simp; (try with_reducible rfl)); (try simp only [Act.put, List.setIfInBounds_toArray, List.set_cons_zero, List.set_cons_succ]))
                (refine held_take 8 (some 73) ?_ rfl (by kernel_rfl) (by kernel_rfl) (by kernel_rfl) (by rfl) (fun _ _ _ h => h) (by assumption) (fun w hSw => ?_) ?_; rotate_left; ((try dsimp only at hSw); simp only [List.getElem?_toArray, List.getElem?_cons_zero, List.getElem?_cons_succ, Option.map_some]; refine congrArg some ?_; go_simp; (try with_reducible rfl)); (try simp only [Act.put, List.setIfInBounds_toArray, List.set_cons_zero, List.set_cons_succ]))
                clear hSu0
                refine held_two 2 6 ⟨some 67, .buildSlice 42 0 #[], 42, _, _, none⟩ ⟨some 71, .buildSlice 42 1 #[(0, .tmp 70)], 42, _, _, none⟩ rfl rfl (by kernel_rfl) (by rfl) (by rfl) ?_ ?_
                · unfold Oper.wp
                  go_simp
                  have hB_v1 : Below u0.heap.size u0 (u0.alloc (.cells #[] 3)) := hB_u0.alloc hB_u0.size _
                  have own_v1 : (u0.alloc (.cells #[] 3)).ownsRow u0.heap.size 3 1 (.slice (some ⟨u0.heap.size, 0, none⟩) 0 0) 0 [] := World.ownsRow_made u0 #[] 0 hB_u0.size (Nat.zero_le _) (by simp)
                  refine ⟨HSu.out _ hB_v1, ?_⟩
                  (try simp only [Act.put, List.setIfInBounds_toArray, List.set_cons_zero, List.set_cons_succ])
                  generalize hv_v1 : u0.alloc (.cells #[] 3) = v1 at *
                  refine held_two 4 6 ⟨some 69, .call { callee := .builtin .append, args := #[.tmp 67, .tmp 68], argTypes := #[42, 42] }, 42, _, _, none⟩ ⟨some 71, .buildSlice 42 1 #[(0, .tmp 70)], 42, _, _, none⟩ rfl rfl (by kernel_rfl) (by rfl) (by rfl) ?_ ?_
                  · refine wp_append_lies2 _ (.tmp 67) (.tmp 68) 42 rfl u0.heap.size 3 (.int .i64 0) 1 8 Tryz.underlying42 info3n (by decide) (by decide) (.slice (some ⟨u0.heap.size, 0, none⟩) 0 0) 0 [] rfl own_v1 v1.heap.size (some ad) (m + 1) cl (nats l) rfl HNL.out (HLu.out _ hB_v1) (nats_one l) (by omega) (by decide) hB_v1.size u0 hB_v1 ?_
                    intro r2 v2 own_v2 hB_v2 hg_v2
                    rw [Nat.zero_add, List.nil_append] at own_v2
                    refine ⟨HSu.out _ hB_v2, ?_⟩
                    (try simp only [Act.put, List.setIfInBounds_toArray, List.set_cons_zero, List.set_cons_succ])
                    refine held_one 6 ⟨some 71, .buildSlice 42 1 #[(0, .tmp 70)], 42, _, _, none⟩ rfl (by kernel_rfl) (by rfl) ?_
                    unfold Oper.wp
                    go_simp
                    have hB_v3 : Below u0.heap.size u0 (v2.alloc (.cells #[.int .i64 k] 3)) := hB_v2.alloc hB_v2.size _
                    have row_v3 : Bk (v2.alloc (.cells #[.int .i64 k] 3)) v2.heap.size 3 #[.int .i64 k] := Bk.new _ _ _
                    have own_v3 := ownsRow_below own_v2 ((Below.refl v2.heap.size v2).alloc (Nat.le_refl _) (.cells #[.int .i64 k] 3)) (Nat.le_refl _)
                    refine ⟨HSu.out _ hB_v3, ?_⟩
                    (try simp only [Act.put, List.setIfInBounds_toArray, List.set_cons_zero, List.set_cons_succ])
                    generalize hv_v3 : v2.alloc (.cells #[.int .i64 k] 3) = v3 at *
                    refine held_one 7 ⟨some 72, .call { callee := .builtin .append, args := #[.tmp 69, .tmp 71], argTypes := #[42, 42] }, 42, _, _, none⟩ rfl (by kernel_rfl) (by rfl) ?_
                    refine wp_append1 _ (.tmp 69) (.tmp 71) 42 rfl u0.heap.size 3 (.int .i64 0) 1 8 Tryz.underlying42 info3n (by decide) (by decide) r2 (m + 1) (nats l) rfl own_v3 (v2.heap.size) #[.int .i64 k] 3 rfl row_v3 rfl (by intro u hu; simp at hu; subst hu; rfl) (by omega) (by decide) hB_v3.size u0 hB_v3 ?_
                    intro r4 v4 own_v4 hB_v4 hg_v4
                    refine ⟨HSu.out _ hB_v4, ?_⟩
                    (try simp only [Act.put, List.setIfInBounds_toArray, List.set_cons_zero, List.set_cons_succ])
                    rw [HSN.out] at own_v4
                    obtain ⟨A9, c9, rfl, hc9, hm9⟩ := ownsSlice own_v4
                    obtain ⟨g9, rfl, _⟩ := own_some own_v4 (Nat.succ_pos _)
                    have HC9 := Lib.hid (HIu.out ⟨g9, 0, none⟩ c9 _ hB_v4 (ownsRow_lies own_v4) ⟨hc9, hm9⟩)
                    (refine held_call 9 (some 74) 106 _ rfl (by kernel_rfl) (by rfl) ?_ (HC9.out) ?_; rotate_left; rotate_left; (simp only [List.getElem?_toArray, List.getElem?_cons_zero, List.getElem?_cons_succ, Option.map_some]; refine congrArg some ?_; go_simp))
                    rintro e z9 hz9
                    obtain ⟨hb9, he9⟩ := rndE_open hz9
                    have hB9 := hB_v4.trans (hb9.mono hB_v4.size)
                    obtain ⟨v9, rfl, hv9⟩ := he9
                    refine ⟨_, rfl, HSu.out _ hB9, fun hHeld => ?_⟩
                    (try simp only [Act.put, List.setIfInBounds_toArray, List.set_cons_zero, List.set_cons_succ])
                    (refine held_take 10 (some 13) ?_ rfl (by kernel_rfl) (by kernel_rfl) (by kernel_rfl) (by rfl) (fun _ _ _ h => h) (by assumption) (fun w hSw => ?_) ?_; rotate_left; ((try dsimp only at hSw); simp only [List.getElem?_toArray, List.getElem?_cons_zero, List.getElem?_cons_succ, Option.map_some]; refine congrArg some ?_; go_simp; (try with_reducible rfl)); (try simp only [Act.put, List.setIfInBounds_toArray, List.set_cons_zero, List.set_cons_succ]))
                    refine wpAnyH_done (by kernel_rfl) ?_ _
                    clear hHeld
                    go_wp2_with fail
                    go_meet
                    exact ⟨v9, rfl, Lib.hid hv9, Lib.hid (hB0.trans (hB9.mono hB0.size))⟩
                  · unfold Oper.wp
                    go_simp
                    have hB_v5 : Below u0.heap.size u0 (v1.alloc (.cells #[.int .i64 k] 3)) := hB_v1.alloc hB_v1.size _
                    have row_v5 : Bk (v1.alloc (.cells #[.int .i64 k] 3)) v1.heap.size 3 #[.int .i64 k] := Bk.new _ _ _
                    have own_v5 := ownsRow_below own_v1 ((Below.refl v1.heap.size v1).alloc (Nat.le_refl _) (.cells #[.int .i64 k] 3)) (Nat.le_refl _)
                    refine ⟨HSu.out _ hB_v5, ?_⟩
                    (try simp only [Act.put, List.setIfInBounds_toArray, List.set_cons_zero, List.set_cons_succ])
                    have ne_v5 : some v1.heap.size ≠ Value.ownBlock (.slice (some ⟨u0.heap.size, 0, none⟩) 0 0) := blk_ne2 (by have h := (own_v1.lt (u0.heap.size) rfl).2; omega)
                    generalize hv_v5 : v1.alloc (.cells #[.int .i64 k] 3) = v5 at *
                    refine held_one 4 ⟨some 69, .call { callee := .builtin .append, args := #[.tmp 67, .tmp 68], argTypes := #[42, 42] }, 42, _, _, none⟩ rfl (by kernel_rfl) (by rfl) ?_
                    refine wp_append_lies2 _ (.tmp 67) (.tmp 68) 42 rfl u0.heap.size 3 (.int .i64 0) 1 8 Tryz.underlying42 info3n (by decide) (by decide) (.slice (some ⟨u0.heap.size, 0, none⟩) 0 0) 0 [] rfl own_v5 v5.heap.size (some ad) (m + 1) cl (nats l) rfl HNL.out (HLu.out _ hB_v5) (nats_one l) (by omega) (by decide) hB_v5.size u0 hB_v5 ?_
                    intro r6 v6 own_v6 hB_v6 hg_v6
                    rw [Nat.zero_add, List.nil_append] at own_v6
                    have row_v6 := row_v5.grown hg_v6 ne_v5
                    refine ⟨HSu.out _ hB_v6, ?_⟩
                    (try simp only [Act.put, List.setIfInBounds_toArray, List.set_cons_zero, List.set_cons_succ])
                    refine held_one 7 ⟨some 72, .call { callee := .builtin .append, args := #[.tmp 69, .tmp 71], argTypes := #[42, 42] }, 42, _, _, none⟩ rfl (by kernel_rfl) (by rfl) ?_
                    refine wp_append1 _ (.tmp 69) (.tmp 71) 42 rfl u0.heap.size 3 (.int .i64 0) 1 8 Tryz.underlying42 info3n (by decide) (by decide) r6 (m + 1) (nats l) rfl own_v6 (v1.heap.size) #[.int .i64 k] 3 rfl row_v6 rfl (by intro u hu; simp at hu; subst hu; rfl) (by omega) (by decide) hB_v6.size u0 hB_v6 ?_
                    intro r7 v7 own_v7 hB_v7 hg_v7
                    refine ⟨HSu.out _ hB_v7, ?_⟩
                    (try simp only [Act.put, List.setIfInBounds_toArray, List.set_cons_zero, List.set_cons_succ])
                    rw [HSN.out] at own_v7
                    obtain ⟨A9, c9, rfl, hc9, hm9⟩ := ownsSlice own_v7
                    obtain ⟨g9, rfl, _⟩ := own_some own_v7 (Nat.succ_pos _)
                    have HC9 := Lib.hid (HIu.out ⟨g9, 0, none⟩ c9 _ hB_v7 (ownsRow_lies own_v7) ⟨hc9, hm9⟩)
                    (refine held_call 9 (some 74) 106 _ rfl (by kernel_rfl) (by rfl) ?_ (HC9.out) ?_; rotate_left; rotate_left; (simp only [List.getElem?_toArray, List.getElem?_cons_zero, List.getElem?_cons_succ, Option.map_some]; refine congrArg some ?_; go_simp))
                    rintro e z9 hz9
                    obtain ⟨hb9, he9⟩ := rndE_open hz9
                    have hB9 := hB_v7.trans (hb9.mono hB_v7.size)
                    obtain ⟨v9, rfl, hv9⟩ := he9
                    refine ⟨_, rfl, HSu.out _ hB9, fun hHeld => ?_⟩
                    (try simp only [Act.put, List.setIfInBounds_toArray, List.set_cons_zero, List.set_cons_succ])
                    (refine held_take 10 (some 13) ?_ rfl (by kernel_rfl) (by kernel_rfl) (by kernel_rfl) (by rfl) (fun _ _ _ h => h) (by assumption) (fun w hSw => ?_) ?_; rotate_left; ((try dsimp only at hSw); simp only [List.getElem?_toArray, List.getElem?_cons_zero, List.getElem?_cons_succ, Option.map_some]; refine congrArg some ?_; go_simp; (try with_reducible rfl)); (try simp only [Act.put, List.setIfInBounds_toArray, List.set_cons_zero, List.set_cons_succ]))
                    refine wpAnyH_done (by kernel_rfl) ?_ _
                    clear hHeld
                    go_wp2_with fail
                    go_meet
                    exact ⟨v9, rfl, Lib.hid hv9, Lib.hid (hB0.trans (hB9.mono hB0.size))⟩
                · unfold Oper.wp
                  go_simp
                  have hB_v8 : Below u0.heap.size u0 (u0.alloc (.cells #[.int .i64 k] 3)) := hB_u0.alloc hB_u0.size _
                  have row_v8 : Bk (u0.alloc (.cells #[.int .i64 k] 3)) u0.heap.size 3 #[.int .i64 k] := Bk.new _ _ _
                  refine ⟨HSu.out _ hB_v8, ?_⟩
                  (try simp only [Act.put, List.setIfInBounds_toArray, List.set_cons_zero, List.set_cons_succ])
                  generalize hv_v8 : u0.alloc (.cells #[.int .i64 k] 3) = v8 at *
                  refine held_one 2 ⟨some 67, .buildSlice 42 0 #[], 42, _, _, none⟩ rfl (by kernel_rfl) (by rfl) ?_
                  unfold Oper.wp
                  go_simp
                  have hB_v9 : Below u0.heap.size u0 (v8.alloc (.cells #[] 3)) := hB_v8.alloc hB_v8.size _
                  have own_v9 : (v8.alloc (.cells #[] 3)).ownsRow u0.heap.size 3 1 (.slice (some ⟨v8.heap.size, 0, none⟩) 0 0) 0 [] := World.ownsRow_made v8 #[] 0 hB_v8.size (Nat.zero_le _) (by simp)
                  have row_v9 := row_v8.alloc (.cells #[] 3)
                  refine ⟨HSu.out _ hB_v9, ?_⟩
                  (try simp only [Act.put, List.setIfInBounds_toArray, List.set_cons_zero, List.set_cons_succ])
                  have ne_v9 : some (u0.heap.size) ≠ Value.ownBlock (.slice (some ⟨v8.heap.size, 0, none⟩) 0 0) := blk_ne2 (by have h := row_v8.lt; omega)
                  generalize hv_v9 : v8.alloc (.cells #[] 3) = v9 at *
                  refine held_one 4 ⟨some 69, .call { callee := .builtin .append, args := #[.tmp 67, .tmp 68], argTypes := #[42, 42] }, 42, _, _, none⟩ rfl (by kernel_rfl) (by rfl) ?_
                  refine wp_append_lies2 _ (.tmp 67) (.tmp 68) 42 rfl u0.heap.size 3 (.int .i64 0) 1 8 Tryz.underlying42 info3n (by decide) (by decide) (.slice (some ⟨v8.heap.size, 0, none⟩) 0 0) 0 [] rfl own_v9 v9.heap.size (some ad) (m + 1) cl (nats l) rfl HNL.out (HLu.out _ hB_v9) (nats_one l) (by omega) (by decide) hB_v9.size u0 hB_v9 ?_
                  intro r10 v10 own_v10 hB_v10 hg_v10
                  rw [Nat.zero_add, List.nil_append] at own_v10
                  have row_v10 := row_v9.grown hg_v10 ne_v9
                  refine ⟨HSu.out _ hB_v10, ?_⟩
                  (try simp only [Act.put, List.setIfInBounds_toArray, List.set_cons_zero, List.set_cons_succ])
                  refine held_one 7 ⟨some 72, .call { callee := .builtin .append, args := #[.tmp 69, .tmp 71], argTypes := #[42, 42] }, 42, _, _, none⟩ rfl (by kernel_rfl) (by rfl) ?_
                  refine wp_append1 _ (.tmp 69) (.tmp 71) 42 rfl u0.heap.size 3 (.int .i64 0) 1 8 Tryz.underlying42 info3n (by decide) (by decide) r10 (m + 1) (nats l) rfl own_v10 (u0.heap.size) #[.int .i64 k] 3 rfl row_v10 rfl (by intro u hu; simp at hu; subst hu; rfl) (by omega) (by decide) hB_v10.size u0 hB_v10 ?_
                  intro r11 v11 own_v11 hB_v11 hg_v11
                  refine ⟨HSu.out _ hB_v11, ?_⟩
                  (try simp only [Act.put, List.setIfInBounds_toArray, List.set_cons_zero, List.set_cons_succ])
                  rw [HSN.out] at own_v11
                  obtain ⟨A9, c9, rfl, hc9, hm9⟩ := ownsSlice own_v11
                  obtain ⟨g9, rfl, _⟩ := own_some own_v11 (Nat.succ_pos _)
                  have HC9 := Lib.hid (HIu.out ⟨g9, 0, none⟩ c9 _ hB_v11 (ownsRow_lies own_v11) ⟨hc9, hm9⟩)
                  (refine held_call 9 (some 74) 106 _ rfl (by kernel_rfl) (by rfl) ?_ (HC9.out) ?_; rotate_left; rotate_left; (simp only [List.getElem?_toArray, List.getElem?_cons_zero, List.getElem?_cons_succ, Option.map_some]; refine congrArg some ?_; go_simp))
                  rintro e z9 hz9
                  obtain ⟨hb9, he9⟩ := rndE_open hz9
                  have hB9 := hB_v11.trans (hb9.mono hB_v11.size)
                  obtain ⟨v9, rfl, hv9⟩ := he9
                  refine ⟨_, rfl, HSu.out _ hB9, fun hHeld => ?_⟩
                  (try simp only [Act.put, List.setIfInBounds_toArray, List.set_cons_zero, List.set_cons_succ])
                  (refine held_take 10 (some 13) ?_ rfl (by kernel_rfl) (by kernel_rfl) (by kernel_rfl) (by rfl) (fun _ _ _ h => h) (by assumption) (fun w hSw => ?_) ?_; rotate_left; ((try dsimp only at hSw); simp only [List.getElem?_toArray, List.getElem?_cons_zero, List.getElem?_cons_succ, Option.map_some]; refine congrArg some ?_; go_simp; (try with_reducible rfl)); (try simp only [Act.put, List.setIfInBounds_toArray, List.set_cons_zero, List.set_cons_succ]))
                  refine wpAnyH_done (by kernel_rfl) ?_ _
                  clear hHeld
                  go_wp2_with fail
                  go_meet
                  exact ⟨v9, rfl, Lib.hid hv9, Lib.hid (hB0.trans (hB9.mono hB0.size))⟩
              case rest =>
                obtain ⟨v9, e9, HV, HB⟩ := hcut
                have HBe := HB.out
                cases O with
                | none =>
                  have HN : Hid (R = firstF F (k + 1) (n - (k + 1))) := by show _ = _; rw [HRk.out, HFK.out]
                  have ev : v9 = .slice none 0 0 := HV.out
                  subst ev
                  subst e9
                  clear HFK HRk HV HIu hbx y2
                  go_wp2
                  go_roundw
                  case rel => exact ⟨k + 1, by omega, by go_num, HN, HBe⟩
                  case measure => simp [intOf]; omega
                | some L =>
                  have HN : Hid (R = some L) := by show _ = _; rw [HRk.out, HFK.out]
                  have hLp := HCL.out L rfl
                  obtain ⟨a5, c5, ev, l5, h5⟩ := HV.out
                  subst ev
                  subst e9
                  have hLI : (0 : Int) < (L.length : Int) := by omega
                  have HL5 := Lib.hid l5
                  clear HFK HRk HV HIu HCL l5 hbx y2
                  go_wp2
                  go_ret
                  exact RndE.some_ HN.out rfl HL5.out h5 (HEND.out _ HBe)
    · obtain rfl : k = n := by omega
      have HN : Hid (R = none) := by show _ = _; rw [HRk.out, HFN.out]
      clear HFA HFN HFD HRk HIH
      go_wp2
      go_ret
      exact RndE.none_ HN.out (HEND.out _ hbw)
end Go.Proofs.YtkfeagokmcakgaaGreatDoor

namespace Go.Proofs.YtkfeagokmcakgaaGreatDoor
open Go.RowKit

set_option maxRecDepth 100000 in
set_option maxHeartbeats 1000000 in
theorem circle_zero {n : Nat} {C : Array Value} {bar : Nat → Nat → Bool} (hC : OvC bar C) (hn : n ≤ 8) (q : Int)
    (m : Nat) (l : List Nat) (ad : Addr) (cl : Nat) (w : World) (hm : l.length = m + 1) (hq : q = (m : Int) + 1) (hl : Lies w w.heap.size (some ad) (nats l)) (hlt : ∀ j ∈ l, j < n) (hcl : m + 1 ≤ cl ∧ cl ≤ maxLen) (h1000 : m + 1 ≤ 1000) :
    Calls Tryz.prog 106 #[.agg C, .int .i64 n, .slice (some ad) (m + 1) cl, .int .i64 q] w (RndE (crcF bar n 0 l) w) := by
  subst hq
  have p0 : 0 < l.length := hm ▸ Nat.succ_pos m
  have pm : m < l.length := hm ▸ Nat.lt_succ_self m
  have hL0 : l[0] < n := hlt _ (List.getElem_mem p0)
  have hLm : l[m] < n := hlt _ (List.getElem_mem pm)
  have hbw : Below w.heap.size w (w.alloc (.cells C 130)) := (Below.refl _ _).alloc (Nat.le_refl _) _
  have hl1 : Lies (w.alloc (.cells C 130)) (w.alloc (.cells C 130)).heap.size (some ad) (nats l) := (hl.below hbw (Nat.le_refl _)).more hbw.size
  have ez : ad.add 0 = ad := by unfold Addr.add; rfl
  have c0 : (w.alloc (.cells C 130)).cell? ad = some (.int .i64 (l[0] : Nat)) := by
    have := lies_get hl1 (j := 0) (u := .int .i64 (l[0] : Nat)) (by simp [nats, p0])
    rwa [ez] at this
  have cm : (w.alloc (.cells C 130)).cell? (ad.add m) = some (.int .i64 (l[m] : Nat)) := lies_get hl1 (by simp [nats, pm])
  clear ez
  have HF : Hid (crcF bar n 0 l = if bar l[m] l[0] = true then some l else none) := by
    show _ = _
    unfold crcF
    rw [lst_at hm, fst_at hm]
  have hcell : (w.alloc (.cells C 130)).cell? ⟨w.heap.size, l[m] * 8 + l[0], none⟩ = some (.bool (bar l[m] l[0])) := (Bk.new w 130 C).cell _ (hC.2 _ _ (by omega) (by omega))
  have HM : Hid (l.length = m + 1) := hm
  have HL := Lib.hid hl1
  have HBW := Lib.hid hbw
  have hmI : (m : Int) < (m : Int) + 1 := by omega
  have h0I : ((l[0] : Nat) : Int) < 8 := by omega
  have hmmI : ((l[m] : Nat) : Int) < 8 := by omega
  have hw1 : wrap64 (m : Int) = (m : Int) := by unfold wrap64; omega
  clear hl hlt h1000 hL0 hLm hC hl1 hbw
  generalize hx0 : l[0] = x0 at *
  generalize hxm : l[m] = xm at *
  clear hx0 hxm p0 pm hm
  cases hb : bar xm x0 with
  | true =>
    rw [hb] at hcell HF
    clear hb
    go_enter Tryz.func106, Tryz.ntmps106
    go_upto_region 1 with fail
    generalize w.alloc (.cells C 130) = W0 at *
    go_wp2
    go_region
    all_goals
      go_wp2
      go_ret
      exact RndE.some_ (HF.out.trans (by simp)) HM.out HL.out hcl HBW.out.drew
  | false =>
    rw [hb] at hcell HF
    clear hb
    go_enter Tryz.func106, Tryz.ntmps106
    go_upto_region 1 with fail
    generalize w.alloc (.cells C 130) = W0 at *
    go_wp2
    go_region
    all_goals
      go_wp2
      go_ret
      exact RndE.none_ (HF.out.trans (by simp)) HBW.out.drew
/-- the first circle that goes on from a way -/
theorem circle_any {n : Nat} {C : Array Value} {bar : Nat → Nat → Bool} (hC : OvC bar C) (hn : n ≤ 8) (q : Int) : ∀ (r m : Nat) (l : List Nat) (ad : Addr) (cl : Nat) (w : World), l.length = m + 1 → q = (m : Int) + 1 + r → Lies w w.heap.size (some ad) (nats l) → (∀ j ∈ l, j < n) → (m + 1 ≤ cl ∧ cl ≤ maxLen) → m + 1 + r ≤ 1000 →
    Calls Tryz.prog 106 #[.agg C, .int .i64 n, .slice (some ad) (m + 1) cl, .int .i64 q] w (RndE (crcF bar n r l) w)
  | 0, m, l, ad, cl, w, h1, h2, h3, h4, h5, h6 => circle_zero hC hn q m l ad cl w h1 (by simpa using h2) h3 h4 h5 (by omega)
  | r + 1, m, l, ad, cl, w, h1, h2, h3, h4, h5, h6 => circle_step hC hn r q (fun m l ad cl w => circle_any hC hn q r m l ad cl w) m l ad cl w h1 h2 h3 h4 h5 h6
end Go.Proofs.YtkfeagokmcakgaaGreatDoor

namespace Go.Proofs.YtkfeagokmcakgaaGreatDoor
open Go.RowKit

set_option maxRecDepth 100000 in
set_option maxHeartbeats 2500000 in
theorem rstuck_any (l : List Rul) (A : Option Addr) (c : Nat) (known : Int) (cols : List ByteArray) (Ac : Option Addr) (cc : Nat) (w : World) (hl : Lies w w.heap.size A (rulesC l)) (hok : RulOK l) (hm : l.length ≤ 1000) (hlc : Lies w w.heap.size Ac (strsC cols)) (hcm : cols.length ≤ 1000) (hcc : cols.length ≤ cc ∧ cc ≤ maxLen) :
    Calls Tryz.prog 57 #[.agg #[.slice A l.length c], .int .i64 known, .slice Ac cols.length cc] w (SnE (stk (cntL l known) cols) w) := by
  have HW : Hid (Below w.heap.size w (w.alloc (.cells #[.slice A l.length c] 25))) := (Below.refl _ _).alloc (Nat.le_refl _) _
  have HLC : Hid (∀ V, Below w.heap.size w V → Lies V V.heap.size Ac (strsC cols)) := fun V hV => (hlc.below hV (Nat.le_refl _)).more hV.size
  have HLS : Hid (∀ V, Below w.heap.size w V → Calls Tryz.prog 103 #[.slice Ac cols.length cc] V (IntEnd (stE cols) V)) := fun V hV => listed_any cols Ac cc V (HLC.out V hV) hcm hcc
  have HBX : Hid (∀ V, Below (w.alloc (.cells #[.slice A l.length c] 25)).heap.size (w.alloc (.cells #[.slice A l.length c] 25)) V → V.cell? ⟨w.heap.size, 0, none⟩ = some (.slice A l.length c)) := fun V hV => ((Bk.new w 25 #[.slice A l.length c]).below hV (Bk.new w 25 _).lt).cell 0 rfl
  have hBB : Below (w.alloc (.cells #[.slice A l.length c] 25)).heap.size (w.alloc (.cells #[.slice A l.length c] 25)) (w.alloc (.cells #[.slice A l.length c] 25)) := Below.refl _ _
  go_enter Tryz.func57, Tryz.ntmps57
  go_upto_region 1 with fail
  generalize w.alloc (.cells #[.slice A l.length c] 25) = Wb at *
  by_cases h0 : stE cols = 0
  case neg =>
    have HE := Lib.hid h0
    have HR : Hid (stk (cntL l known) cols = ([], false, stE cols)) := by show _ = _; unfold stk; rw [if_neg h0]
    have hR' : (stE cols == 0) = false := by simpa using h0
    have hR2 : (stE cols != 0) = true := by rw [bne, hR']; rfl
    clear h0
    go_wp2_with (go_at_call 103; refine (HLS.out _ HW.out).mono ?_; rintro e w1 ⟨rfl, hb1⟩)
    refine bodyPost_ret (v := .tuple #[.slice none 0 0, .bool false, .int .i64 (stE cols)]) (by simp [results, Tryz.results57, go_sem]) rfl ?_
    exact SnE.none_ HR.out (HW.out.trans (hb1.mono HW.out.size))
  have h8 := stE_len h0
  have HOV : Hid (∀ V, Below w.heap.size w V → Calls Tryz.prog 104 #[.agg #[.slice A l.length c], .int .i64 known, .slice Ac cols.length cc] V (OvE (barM (cntL l known) cols) V)) := fun V hV => over_any l A c known cols Ac cc V ((hl.below hV (Nat.le_refl _)).more hV.size) hok hm (HLC.out V hV) h8
  have HR0 : Hid (stk (cntL l known) cols = match stkF (barM (cntL l known) cols) cols.length with
      | none => ([], false, 0)
      | some L => (L.map (colAt cols), true, 0)) := by show _ = _; unfold stk; rw [if_pos h0]; rfl
  have HTOP := Lib.hid (stkF_top (barM (cntL l known) cols) cols.length)
  have HSND : Hid (∀ r i L, i < cols.length → crcF (barM (cntL l known) cols) cols.length r [i] = some L → (∀ j ∈ L, j < cols.length) ∧ L.length ≤ 1000 ∧ 0 < L.length) := fun r i L hi h => by
    obtain ⟨h1, t, rfl, ht⟩ := crc_sound r [i] L (by simp) (by simp) (by simp; exact hi) trivial h
    refine ⟨h1.lt, ?_, by simp⟩
    have := nodup_len _ (List.range cols.length) h1.nd fun z hz => by simpa using h1.lt z hz
    rw [List.length_range] at this; omega
  have HRND := Lib.hid (fun C (hC : OvC (barM (cntL l known) cols) C) q r m l ad cl W h1 h2 h3 h4 h5 h6 => circle_any (n := cols.length) hC h8 q r m l ad cl W h1 h2 h3 h4 h5 h6)
  have HCT : Hid (∀ i, i < cols.length → ∃ s, cols[i]? = some s ∧ colAt cols i = s) := fun i hi => ⟨cols[i], List.getElem?_eq_getElem hi, colAt_get hi⟩
  rw [h0] at HLS
  clear hl hlc hok h0 hcm hcc
  generalize cntL l known = d at *
  generalize barM d cols = bar at *
  generalize stk d cols = R at *
  go_upto_region 4 with (go_at_call 103; refine (HLS.out _ HW.out).mono ?_; rintro e w1 ⟨rfl, hb1⟩)
  have hB1 := HW.out.trans (hb1.mono HW.out.size)
  have x1 := HBX.out w1 (hBB.trans (hb1.mono hBB.size))
  clear hb1 hBB HLS
  go_upto_region 5 with (first
    | (go_at_call 104; refine (HOV.out _ hB1).mono ?_; rintro e w2 ⟨C, rfl, HQ0, hb2⟩; have HQ := Lib.hid HQ0; clear HQ0; have HZ := Lib.hid HQ.out.one; have HS64 : Hid ((Tryz.prog.info? 130).map (·.size) = some C.size) := Lib.hid (by rw [HQ.out.1]; exact info130); have HZ64 : Hid (z64.size = C.size) := Lib.hid (by rw [HQ.out.1]; rfl); have HB2 := Lib.hid (hB1.trans (hb2.mono hB1.size)); clear hb2)
    | (refine wpList_store_blk (P := Tryz.prog) rfl 130 (.tmp 10) (.tmp 24) rfl w2.heap.size z64 C rfl rfl (Bk.new w2 130 z64) HZ64.out HS64.out HZ.out ?_; intro W8 k8 f8))
  have hb8 : Below w.heap.size w W8 := f8.bel _ _ HB2.out.size (HB2.out.alloc HB2.out.size _)
  have HB8 : Hid (∀ V, Below W8.heap.size W8 V → Below w.heap.size w V) := fun V hV => hb8.trans (hV.mono hb8.size)
  have HKC : Hid (∀ V, Below W8.heap.size W8 V → Bk V w2.heap.size 130 C) := fun V hV => k8.below hV k8.lt
  have HL64 : Hid ((Tryz.prog.info? 130).map (·.size) = some C.toList.length) := Lib.hid (by rw [Array.length_toList, HQ.out.1]; exact info130)
  have HRN : Hid (∀ (q i : Nat) V, 2 ≤ q → q ≤ 9 → i < cols.length → Below W8.heap.size W8 V → Calls Tryz.prog 106 #[.agg C, .int .i64 cols.length, .slice (some ⟨V.heap.size, 0, none⟩) 1 1, .int .i64 q] (V.alloc (.cells #[.int .i64 i] 3)) (RndE (crcF bar cols.length (q - 1) [i]) (V.alloc (.cells #[.int .i64 i] 3)))) := fun q i V h1 h2 h3 hV =>
    HRND.out C HQ.out q (q - 1) 0 [i] ⟨V.heap.size, 0, none⟩ 1 _ rfl (by omega) ((Bk.new V 3 #[.int .i64 i]).lies (by simp)) (fun j hj => by simp at hj; omega) ⟨by omega, by unfold maxLen; omega⟩ (by omega)
  have hB1' : Below W8.heap.size W8 W8 := Below.refl _ _
  have HLC8 := Lib.hid (fun V (hV : Below W8.heap.size W8 V) => HLC.out V (HB8.out V hV))
  clear f8 k8 hb8 hB1 x1 HOV HBX HB2 HZ HS64 HZ64 HW HRND HLC HQ
  have HFA : Hid (∀ q, q < cols.length + 1 → firstF (fun q => firstF (fun i => crcF bar cols.length (q - 1) [i]) 0 cols.length) q (cols.length + 1 - q) = match firstF (fun i => crcF bar cols.length (q - 1) [i]) 0 cols.length with
    | some v => some v
    | none => firstF (fun q => firstF (fun i => crcF bar cols.length (q - 1) [i]) 0 cols.length) (q + 1) (cols.length + 1 - (q + 1))) := fun q hq => firstF_at (f := fun q => firstF (fun i => crcF bar cols.length (q - 1) [i]) 0 cols.length) hq
  have HFZ : Hid (∀ q, cols.length < q → firstF (fun q => firstF (fun i => crcF bar cols.length (q - 1) [i]) 0 cols.length) q (cols.length + 1 - q) = none) := fun q hq => by
    rw [show cols.length + 1 - q = 0 by omega]; rfl
  generalize (fun q => firstF (fun i => crcF bar cols.length (q - 1) [i]) 0 cols.length) = G at *
  generalize hg10 : w2.heap.size = b10 at *
  clear hg10
  go_wp2
  go_loopw [11] (fun y wr => ∃ q : Nat, 2 ≤ q ∧ q ≤ cols.length + 2 ∧ y = .int .i64 q ∧ Hid (stkF bar cols.length = firstF G q (cols.length + 1 - q)) ∧ Below W8.heap.size W8 wr) (fun y _ => cols.length + 2 - (intOf y).toNat)
  case atStart => exact ⟨2, by omega, by omega, rfl, HTOP, hB1'⟩
  case round =>
    obtain ⟨q, hq2, hqn, rfl, HQ, hbw⟩ := hrel
    clear HTOP hB1'
    by_cases hqq : q ≤ cols.length
    · have HF1 := Lib.hid (HFA.out q (by omega))
      have HIA : Hid (∀ k, k < cols.length → firstF (fun i => crcF bar cols.length (q - 1) [i]) k (cols.length - k) = match crcF bar cols.length (q - 1) [k] with
        | some v => some v
        | none => firstF (fun i => crcF bar cols.length (q - 1) [i]) (k + 1) (cols.length - (k + 1))) := fun k hk => firstF_at (f := fun i => crcF bar cols.length (q - 1) [i]) hk
      have HIZ : Hid (firstF (fun i => crcF bar cols.length (q - 1) [i]) cols.length (cols.length - cols.length) = none) := by show _ = _; rw [Nat.sub_self]; rfl
      have HI0 : Hid (firstF (fun i => crcF bar cols.length (q - 1) [i]) 0 cols.length = firstF (fun i => crcF bar cols.length (q - 1) [i]) 0 (cols.length - 0)) := rfl
      clear HFA HFZ
      generalize (fun i => crcF bar cols.length (q - 1) [i]) = F at *
      go_wp2
      go_loopw [12] (fun y wv => ∃ k : Nat, k ≤ cols.length ∧ y = .int .i64 k ∧ Hid (firstF F 0 cols.length = firstF F k (cols.length - k)) ∧ Below W8.heap.size W8 wv) (fun y _ => cols.length - (intOf y).toNat)
      case atStart => exact ⟨0, by omega, rfl, HI0, hbw⟩
      case round =>
        obtain ⟨k, hk, rfl, HK, hbv⟩ := hrel
        clear HI0
        by_cases hkk : k < cols.length
        · have HK1 := Lib.hid (HIA.out k hkk)
          have HC := Lib.hid (HRN.out q k _ hq2 (by omega) hkk hbv)
          have HSN := Lib.hid (fun L h => HSND.out (q - 1) k L hkk h)
          have KC := Lib.hid (HKC.out _ hbv).range
          clear HIA HIZ HRN HSND
          have hb2 : Below W8.heap.size W8 (Go.World.alloc _ (.cells #[.int .i64 k] 3)) := hbv.alloc hbv.size (.cells #[.int .i64 k] 3)
          cases hO : crcF bar cols.length (q - 1) [k] with
          | none =>
            have HN : Hid (firstF F 0 cols.length = firstF F (k + 1) (cols.length - (k + 1))) := by show _ = _; rw [HK.out, HK1.out, hO]
            rw [hO] at HC
            clear HSN HK HK1 hO HQ HF1
            go_wp2_with (first | (refine wpList_load_guard (P := Tryz.prog) (by rfl) 130 (.tmp 10) rfl b10 0 rfl C.toList _ KC.out Tryz.underlying130 rfl HL64.out ?_) | (go_at_call 106; refine HC.out.mono ?_; rintro e w5 ⟨hb5, rfl⟩))
            go_roundw
            case rel => exact ⟨k + 1, by omega, by go_num, HN, hb2.trans (hb5.mono hb2.size)⟩
            case measure => simp [intOf]; omega
          | some L =>
            have HR : Hid (R = (L.map (colAt cols), true, 0)) := by
              show _ = _
              rw [HR0.out, HQ.out, HF1.out, HK.out, HK1.out, hO]
            obtain ⟨hLn, hL1000, hLp⟩ := HSN.out L hO
            have HLn := Lib.hid hLn
            have hLI : (0 : Int) < (L.length : Int) := by omega
            rw [hO] at HC
            clear HSN HK HK1 hO HQ HF1 HR0 hLn
            go_upto_region 13 with (first | (refine wpList_load_guard (P := Tryz.prog) (by rfl) 130 (.tmp 10) rfl b10 0 rfl C.toList _ KC.out Tryz.underlying130 rfl HL64.out ?_) | (go_at_call 106; refine HC.out.mono ?_; rintro e w5 ⟨hb5, a5, c5, rfl, l5, h5⟩))
            have hb6 := hb2.trans (hb5.mono hb2.size)
            have HL5 : Hid (∀ V, Below w5.heap.size w5 V → Lies V V.heap.size (some a5) (nats L)) := fun V hV => lies_on l5 hV
            have HL6 : Hid (∀ V, Below w5.heap.size w5 V → Lies V V.heap.size Ac (strsC cols)) := fun V hV => HLC8.out V (hb6.trans (hV.mono hb6.size))
            have HB6 : Hid (∀ V, Below w5.heap.size w5 V → Below w.heap.size w V) := fun V hV => HB8.out V (hb6.trans (hV.mono hb6.size))
            have HTK : Hid (∀ j (hj : j < L.length), strsC ((L.take j).map (colAt cols)) ++ [Value.string (colAt cols L[j])] = strsC ((L.take (j + 1)).map (colAt cols))) := fun j hj => by
              rw [← List.take_append_getElem hj, List.map_append]; simp [strsC]
            have HTZ : Hid (strsC ((L.take 0).map (colAt cols)) = []) := by show _ = _; simp [strsC]
            have HTL : Hid (∀ j, j ≤ L.length → (strsC ((L.take j).map (colAt cols))).length = j) := fun j hj => by simp [strsC, hj]
            have hB5 : Below w5.heap.size w5 w5 := Below.refl _ _
            clear l5 hb5 HC KC hb2 hbv hbw HKC
            go_upto_region 15 with fail
            go_loopw [14, 15] (fun y z wx => ∃ (j : Nat) (A' : Option Addr) (c' : Nat), j ≤ L.length ∧ y = .slice A' j c' ∧ z = .int .i64 j ∧ Hid (wx.ownsRow w5.heap.size 9 1 (.slice A' j c') j (strsC ((L.take j).map (colAt cols)))) ∧ Below w5.heap.size w5 wx) (fun _ z _ => L.length - (intOf z).toNat)
            case atStart => exact ⟨0, none, 0, by omega, rfl, rfl, World.ownsRow_nil _ _ _ _, hB5⟩
            case round =>
              obtain ⟨j, A', c', hj, rfl, rfl, HO, hbx⟩ := hrel
              clear hB5
              by_cases hjl : j < L.length
              · have hLj := HLn.out L[j] (List.getElem_mem hjl)
                have y1 := lies_get (HL5.out _ hbx) (j := j) (u := .int .i64 (L[j] : Nat)) (by simp [nats, hjl])
                obtain ⟨ad, e1, _, y2⟩ := str_at (HL6.out _ hbx) hLj
                subst e1
                have HTJ := Lib.hid (HTK.out j hjl)
                rw [colAt_get hLj] at HTJ
                have hjI : (j : Int) < (L.length : Int) := by omega
                have hLjI : ((L[j] : Nat) : Int) < (cols.length : Int) := by omega
                have hj9 : j < 100000 := by omega
                have hbs := hbx.size
                have HBx := Lib.hid hbx
                clear HTK HTL HTZ HLn hbx
                generalize cols[L[j]] = s at *
                generalize L[j] = t at *
                go_wp2_with (at_builtin; refine wpList_append1g (P := Tryz.prog) rfl (.tmp 53) (.tmp 61) 34 rfl w5.heap.size 9 (.string ByteArray.empty) 1 16 Tryz.underlying34 info9 (by decide) (by decide) (.slice A' j c') j (strsC ((L.take j).map (colAt cols))) rfl (HO.out.alloc _) _ #[.string s] 9 rfl (Bk.new _ _ _) rfl ?c1 hj9 (by decide) ?c2 ?_)
                case c1 => rfl
                case c2 => first | omega | (simp; omega)
                intro v4 w4 ho4 hg4
                have hgr : ∀ k, (Value.slice A' j c').ownBlock = some k → w5.heap.size ≤ k := fun k hk => (HO.out.lt k hk).1
                have hb4 : Below w5.heap.size w5 w4 := Below.grown (HBx.out.alloc HBx.out.size _) hg4 (by simp; omega) (fun g e => hgr g e)
                obtain ⟨A4, c4, rfl, _, _⟩ := ownsSlice ho4
                have HO4 : Hid (w4.ownsRow w5.heap.size 9 1 (.slice A4 (j + 1) c4) (j + 1) (strsC ((L.take (j + 1)).map (colAt cols)))) := Lib.hid (by have h := ho4; rw [← List.map_take] at h; rw [← HTJ.out]; exact h)
                clear ho4 hg4 hgr HO HTJ
                go_wp2
                go_roundw
                case rel => exact ⟨j + 1, A4, c4, by omega, rfl, by go_num, HO4, hb4⟩
                case measure => simp [intOf]; omega
              · obtain rfl : j = L.length := by omega
                have hcap := ownsSlice HO.out
                have HLI := Lib.hid (ownsRow_lies HO.out)
                rw [List.take_length] at HLI
                have HLM : Hid ((L.map (colAt cols)).length = L.length) := by show _ = _; simp
                clear HTK HTL HTZ HLn HO
                go_wp2
                refine bodyPost_ret (v := .tuple #[.slice A' L.length c', .bool true, .int .i64 0]) (by simp [results, Tryz.results57, go_sem]) rfl ?_
                obtain ⟨A7, c7, e7, h1, h2⟩ := hcap
                cases e7
                exact ⟨A', c', by rw [HR.out, HLM.out], by rw [HR.out]; exact HLI.out, by rw [HR.out, HLM.out]; exact ⟨h1, h2⟩, HB6.out _ hbx⟩
        · obtain rfl : k = cols.length := by omega
          have HN : Hid (stkF bar cols.length = firstF G (q + 1) (cols.length + 1 - (q + 1))) := by show _ = _; rw [HQ.out, HF1.out, HK.out, HIZ.out]
          clear HIA HIZ HK HQ HF1 HRN HSND
          go_wp2
          go_roundw
          case rel => exact ⟨q + 1, by omega, by omega, by go_num, HN, hbv⟩
          case measure => simp [intOf]; omega
    · have HN : Hid (R = ([], false, 0)) := by show _ = _; rw [HR0.out, HQ.out, HFZ.out q (by omega)]
      clear HFA HFZ HQ HRN HSND HR0
      go_wp2
      refine bodyPost_ret (v := .tuple #[.slice none 0 0, .bool false, .int .i64 0]) (by simp [results, Tryz.results57, go_sem]) rfl ?_
      exact SnE.none_ HN.out (HB8.out _ hbw)
end Go.Proofs.YtkfeagokmcakgaaGreatDoor
