/- Arrange's walk (fn 132). -/
import Derived.ArgAppend
import Derived.Shelf.Abstract
import Derived.RangeFuncBound
import Derived.RangeFuncCalls
import Derived.RangeFuncLeaves
import Derived.OwnWalkIn
import Derived.TacticsInMore
import Derived.LoopNIn
import Derived.LoopIn
import Derived.WalkLawsBesides
import Derived.Test.YtkfeagokmcakgaaGreatDoorG02
import Derived.Test.YtkfeagokmcakgaaGreatDoorG06
import Derived.Test.YtkfeagokmcakgaaGreatDoorG07
import Derived.Test.YtkfeagokmcakgaaGreatDoorG08
import Derived.Test.YtkfeagokmcakgaaGreatDoorG10
import Derived.Test.YtkfeagokmcakgaaGreatDoorG12

set_option linter.unusedVariables false
set_option linter.unusedSimpArgs false

namespace Go.Proofs.YtkfeagokmcakgaaGreatDoor
open Go.RowKit
attribute [local go_sem] Oper.semAt_some

/-- append of one element: the row that grows is named -/
theorem wpList_append1g {P : Program} {ops : Array Oper} {rest : List Oper} {o : Oper} {a : Act} {w : World} {Q : Exit → Act → World → Prop} (hgd : o.guard = none) (s x : Operand) (t : TypeId)
    (ho : o.op = .call { callee := .builtin .append, args := #[s, x], argTypes := #[t, t] })
    (base : Nat) (e : TypeId) (z : Value) (size bytes : Nat) (ht : P.underlying t = some (.slice e)) (hi : (P.info? e).map (fun i => (i.zero, i.size, i.bytes)) = some (some z, size, bytes)) (hzs : z.cells.size = size) (hsz : 0 < size)
    (v : Value) (n : Nat) (xs : List Value) (hs : a.eval s = v) (hown : w.ownsRow base e size v n xs)
    (b : Nat) (C : Array Value) (tt : TypeId) (hx : a.eval x = .slice (some ⟨b, 0, none⟩) 1 1) (hbk : Bk w b tt C) (hl : C.size = size) (h1 : ∀ u ∈ C.toList, u.oneCell' = true)
    (h63 : n < 100000) (hbytes : bytes ≤ 1000) (hbase : base ≤ w.heap.size)
    (h : ∀ v' w', w'.ownsRow base e size v' (n + 1) (xs ++ C.toList) → w.grownBy w' v.ownBlock → wpList P ops Q rest (a.put o.dst v') w') : wpList P ops Q (o :: rest) a w := by
  obtain ⟨i0, hi0, hz0, hz1, hz2⟩ := info_parts hi
  refine wpList_append_own w hgd s x t ho base e i0 z size bytes ht hi0 hz0 hz1 hz2 hzs hsz v n xs hs hown ⟨b, 0, none⟩ 1 1 C.toList hx (by simpa using hl) (bk_cells hbk) h1 (by unfold maxLen; omega) ?_ hbase ?_
  · calc (n + 1) * bytes ≤ 100000 * 1000 := Nat.mul_le_mul (by omega) hbytes
      _ ≤ 140737488355328 := by decide
  · intro v' w' ho' hg _
    exact h v' w' ho' hg
def PreX (n : Nat) (x : El) (W : World) : Prop := x.At W ∧ (∀ j ∈ x.L, j < n) ∧ x.L.length ≤ 8
def WkE (bl bsx by_ bw lb bs rb : Nat) (A : Option Addr) (n c : Nat) (bar : Nat → Nat → Bool) (J : World → Prop) (Jx : El → World → Prop) (l : List Nat) (o : Option (List Nat)) (e : Ending) (W' : World) : Prop :=
  (o = none ∧ e = .returned (.bool true) ∧ ∃ A2 c2, Hid (WC bl bsx by_ bw lb bs A n c bar J W') ∧ Hid (WL bl rb l A2 c2 W') ∧ rb ≤ W'.heap.size) ∨ (∃ x : El, o = some x.L ∧ e = .returned (.bool false) ∧ Jx x W')
set_option maxRecDepth 100000 in
set_option maxHeartbeats 2000000 in
theorem walk132 (m : Nat) {bl bsx by_ bw lb bs rb base n c : Nat} {A : Option Addr} {bar : Nat → Nat → Bool} {J : World → Prop} {Jx : El → World → Prop} (K : KOk bl bsx by_ bw bs rb base) (hn : n ≤ 8) (hJ : OwnC base J)
    (hY : ∀ x W1, J W1 → PreX n x W1 → YieldAt Fence.wide (m - 1) Tryz.prog lb #[x.v] W1 fun e W' => e = .returned (.bool false) ∧ Jx x W') :
    ∀ (r : Nat) (l : List Nat) (A' : Option Addr) (c' : Nat) (W : World), l.length + r = n → (∀ j ∈ l, j < n) → rb ≤ W.heap.size → WC bl bsx by_ bw lb bs A n c bar J W → WL bl rb l A' c' W →
      Calls Tryz.prog 132 #[.pointer (some ⟨bl, 0, none⟩), .pointer (some ⟨bsx, 0, none⟩), .pointer (some ⟨by_, 0, none⟩), .pointer (some ⟨bw, 0, none⟩)] W (WkE bl bsx by_ bw lb bs rb A n c bar J Jx l (ordsF bar n r l))
  | 0, l, A', c', W, hl, hln, hrb, hC, hL => by
    have HC := Lib.hid (hC.step K hJ hrb ((Below.refl _ _).drew))
    have HL := Lib.hid (hL.step (Below.refl W.heap.size W).drew)
    obtain ⟨fn, tmps, assign, body, hy, hR⟩ := hY ⟨l, A', c'⟩ W.drew HC.out.j ⟨ownsRow_lies HL.out.own, hln, by show l.length ≤ 8; omega⟩
    have hy : (Instr.yield lb #[.slice A' l.length c']).run Tryz.prog W.drew = .ok (.round lb fn tmps assign body) W.drew := hy
    have HRR := Lib.hid hR
    have HS : Hid (W.drew.cell? ⟨bl, 0, none⟩ = some (.slice A' l.length c') ∧ W.drew.cell? ⟨bsx, 0, none⟩ = some (.pointer (some ⟨bs, 0, none⟩)) ∧ W.drew.cell? ⟨bs, 0, none⟩ = some (.slice A n c)) := ⟨HL.out.lst.cell 0 rfl, HC.out.sx, HC.out.stk.col⟩
    have hq : ((l.length : Int) == (n : Int)) = true := by rw [beq_iff_eq]; omega
    have c0 := HL.out.lst.cell 0 rfl
    have c1 := HC.out.yl
    clear hR hY hJ hC hL hl hln hrb
    go_enter Tryz.func132, Tryz.ntmps132
    go_wp2
    refine wp_region_held_drew (S := fun V => V.cell? ⟨bl, 0, none⟩ = some (.slice A' l.length c') ∧ V.cell? ⟨bsx, 0, none⟩ = some (.pointer (some ⟨bs, 0, none⟩)) ∧ V.cell? ⟨bs, 0, none⟩ = some (.slice A n c)) (by kernel_rfl) ?_ (fun hHeld => ?_)
    · exact HS.out
    refine tk 0 6 ?_
    refine tk 1 7 ?_
    refine tk 2 8 ?_
    refine tk 3 9 ?_
    refine tk 4 10 ?_
    refine tk 5 11 ?_
    refine tk 6 12 ?_
    refine tk 7 13 ?_
    refine wpAnyH_done (by kernel_rfl) ?_ _
    clear hHeld
    generalize W.drew = V at *
    go_upto_region 2 with fail
    refine (wpIn_wide (n := m)).1 ?_
    gi_wp2
    refine ⟨fun h => (by cases h), HRR.out.mono ?_⟩
    rintro e w6 ⟨rfl, hx6⟩
    gi_wp2
    go_wp2
    go_ret
    exact .inr ⟨⟨l, A', c'⟩, rfl, rfl, hx6⟩
  | r + 1, l, A', c', W, hl, hln, hrb, hC, hL => by
    have IH := walk132 m (lb := lb) (c := c) (A := A) (bar := bar) K hn hJ hY r
    have HC := Lib.hid (hC.step K hJ hrb ((Below.refl _ _).drew))
    have HL := Lib.hid (hL.step (Below.refl W.heap.size W).drew)
    have HS : Hid (W.drew.cell? ⟨bl, 0, none⟩ = some (.slice A' l.length c') ∧ W.drew.cell? ⟨bsx, 0, none⟩ = some (.pointer (some ⟨bs, 0, none⟩)) ∧ W.drew.cell? ⟨bs, 0, none⟩ = some (.slice A n c)) := ⟨HL.out.lst.cell 0 rfl, HC.out.sx, HC.out.stk.col⟩
    have hq : ((l.length : Int) == (n : Int)) = false := by rw [beq_eq_false_iff_ne]; omega
    have c1 := HC.out.sx
    have c2 := HC.out.stk.col
    have HRB : Hid (rb ≤ W.drew.heap.size) := hrb
    have HIH : Hid (∀ (i : Nat) (A8 : Option Addr) (c8 : Nat) (V : World), i < n → rb ≤ V.heap.size → WC bl bsx by_ bw lb bs A n c bar J V → WL bl rb (l ++ [i]) A8 c8 V →
      Calls Tryz.prog 132 #[.pointer (some ⟨bl, 0, none⟩), .pointer (some ⟨bsx, 0, none⟩), .pointer (some ⟨by_, 0, none⟩), .pointer (some ⟨bw, 0, none⟩)] V (WkE bl bsx by_ bw lb bs rb A n c bar J Jx (l ++ [i]) (ordsF bar n r (l ++ [i])))) := fun i A8 c8 V hi hr h1 h2 => IH (l ++ [i]) A8 c8 V (by simp; omega) (fun j hj => by
        rcases List.mem_append.1 hj with h | h
        · exact hln j h
        · simp at h; omega) hr h1 h2
    have HF : Hid (∀ i, i < n → firstF (fun i => if ordOK bar l i = true then ordsF bar n r (l ++ [i]) else none) i (n - i) = match (if ordOK bar l i = true then ordsF bar n r (l ++ [i]) else none) with
        | some v => some v
        | none => firstF (fun i => if ordOK bar l i = true then ordsF bar n r (l ++ [i]) else none) (i + 1) (n - (i + 1))) := fun i hi => firstF_at hi
    have HO : Hid (ordsF bar n (r + 1) l = firstF (fun i => if ordOK bar l i = true then ordsF bar n r (l ++ [i]) else none) 0 n) := rfl
    have HF0 : Hid (∀ i, firstF (fun i => if ordOK bar l i = true then ordsF bar n r (l ++ [i]) else none) i 0 = none) := fun _ => rfl
    generalize firstF (fun i => if ordOK bar l i = true then ordsF bar n r (l ++ [i]) else none) = FF at *
    have HLN := Lib.hid hln
    have HLE : Hid (l.length + (r + 1) = n) := hl
    have hl8 : l.length < 8 := by omega
    have HK := Lib.hid K
    have HJ := Lib.hid hJ
    clear hY hJ hC hL hl hln hrb IH K
    go_enter Tryz.func132, Tryz.ntmps132
    go_wp2
    refine wp_region_held_drew (S := fun V => V.cell? ⟨bl, 0, none⟩ = some (.slice A' l.length c') ∧ V.cell? ⟨bsx, 0, none⟩ = some (.pointer (some ⟨bs, 0, none⟩)) ∧ V.cell? ⟨bs, 0, none⟩ = some (.slice A n c)) (by kernel_rfl) ?_ (fun hHeld => ?_)
    · exact HS.out
    refine tk 0 6 ?_
    refine tk 1 7 ?_
    refine tk 2 8 ?_
    refine tk 3 9 ?_
    refine tk 4 10 ?_
    refine tk 5 11 ?_
    refine tk 6 12 ?_
    refine tk 7 13 ?_
    refine wpAnyH_done (by kernel_rfl) ?_ _
    clear hHeld HS
    generalize W.drew = V at *
    go_wp2
    go_loopw [22] (fun y wr => ∃ (i : Nat) (A1 : Option Addr) (c1 : Nat), i ≤ n ∧ y = .int .i64 i ∧ Hid (FF 0 n = FF i (n - i)) ∧ Hid (WC bl bsx by_ bw lb bs A n c bar J wr) ∧ Hid (WL bl rb l A1 c1 wr) ∧ rb ≤ wr.heap.size) (fun y _ => n - (intOf y).toNat)
    case atStart => exact ⟨0, A', c', by omega, rfl, rfl, HC, HL, HRB.out⟩
    case round =>
      clear c1 c2
      obtain ⟨i, A1, c1, hi, rfl, hf, hC, hL, hrb⟩ := hrel
      by_cases hlt : i < n
      · have hlI : (i : Int) < (n : Int) := by omega
        have HNX : Hid (ordOK bar l i = false → FF 0 n = FF (i + 1) (n - (i + 1))) := fun h => by rw [hf.out, HF.out i hlt, h]; rfl
        have HNY : Hid (ordOK bar l i = true → ordsF bar n r (l ++ [i]) = none → FF 0 n = FF (i + 1) (n - (i + 1))) := fun h h2 => by rw [hf.out, HF.out i hlt, h, h2]; rfl
        have HSX : Hid (∀ v, ordOK bar l i = true → ordsF bar n r (l ++ [i]) = some v → ordsF bar n (r + 1) l = some v) := fun v h h2 => by rw [HO.out, hf.out, HF.out i hlt, h, h2]; rfl
        have hb1 : Below wr.heap.size wr (wr.alloc (.cells #[.int .i64 (i : Int)] 3)) := (Below.refl _ _).alloc (Nat.le_refl _) _
        have HC1 := Lib.hid (hC.out.step HK.out HJ.out hrb hb1)
        have HL1 := Lib.hid (hL.out.step hb1)
        have x0 := HL1.out.lst.cell 0 rfl
        have HI1 : Hid (Bk (wr.alloc (.cells #[.int .i64 (i : Int)] 3)) wr.heap.size 3 #[.int .i64 (i : Int)]) := Bk.new _ _ _
        have x1 := HI1.out.cell 0 rfl
        have HCN := Lib.hid (contains133_any l A1 c1 i (wr.alloc (.cells #[.int .i64 (i : Int)] 3)) (ownsRow_lies HL1.out.own) (by omega))
        have HAN := Lib.hid (any134_any bs bsx wr.heap.size A n c bar i l A1 c1 (wr.alloc (.cells #[.int .i64 (i : Int)] 3)) (ownsRow_lies HL1.out.own) (by omega) (fun k hk => Nat.lt_of_lt_of_le (HLN.out k hk) hn) HC1.out.sx x1 HC1.out.stk (by omega))
        have hmf : ∀ (fn : Fn) (first cap : Array Value) (w : World), (Instr.makeFunc fn first cap).run Tryz.prog w = .ok (.func fn first cap) w := fun _ _ _ _ => rfl
        have hz1 : rb ≤ (wr.alloc (.cells #[.int .i64 (i : Int)] 3)).heap.size := by simp; omega
        have HRB1 := Lib.hid hz1
        have hlo := HK.out.h2
        clear hb1 hf HF HO HF0 hz1 HRB
        cases hp1 : l.any fun y => decide (y = i) with
        | true =>
          have HP1 := Lib.hid hp1
          have HE := Lib.hid (HNX.out (by unfold ordOK; rw [hp1]; rfl))
          clear hp1 HNX HNY HSX HAN
          go_wp2_with (first | (go_at_call 133; refine HCN.out.mono ?_; rintro e w1 ⟨rfl, rfl⟩; rw [HP1.out]))
          go_roundw
          case rel => exact ⟨i + 1, A1, c1, by omega, by go_num, HE, HC1, HL1, HRB1.out⟩
          case measure => simp [intOf]; omega
        | false =>
          have HP1 := Lib.hid hp1
          cases hp2 : l.any (bar i) with
          | true =>
            have HP2 := Lib.hid hp2
            have HE := Lib.hid (HNX.out (by unfold ordOK; rw [hp1, hp2]; rfl))
            clear hp1 hp2 HNX HNY HSX
            go_wp2_with (first | (go_at_call 133; refine HCN.out.mono ?_; rintro e w1 ⟨rfl, rfl⟩; rw [HP1.out]) | (go_at_call 134; refine HAN.out.mono ?_; rintro e w2 ⟨rfl, hb2⟩; rw [HP2.out]))
            go_roundw
            case rel => exact ⟨i + 1, A1, c1, by omega, by go_num, HE, HC1.out.step HK.out HJ.out HRB1.out hb2, HL1.out.step hb2, Nat.le_trans HRB1.out hb2.size⟩
            case measure => simp [intOf]; omega
          | false =>
            have HP2 := Lib.hid hp2
            have HOK : Hid (ordOK bar l i = true) := by show _ = _; unfold ordOK; rw [hp1, hp2]; rfl
            clear hp1 hp2 HNX
            go_upto_region 7 with (first | (go_at_call 133; refine HCN.out.mono ?_; rintro e w1 ⟨rfl, rfl⟩; rw [HP1.out]) | (go_at_call 134; refine HAN.out.mono ?_; rintro e w2 ⟨rfl, hb2⟩; rw [HP2.out]))
            have HC2 := Lib.hid (HC1.out.step HK.out HJ.out HRB1.out hb2)
            have HL2 := Lib.hid (HL1.out.step hb2)
            have HR2 : Hid (rb ≤ w2.heap.size) := Nat.le_trans HRB1.out hb2.size
            have y0 := HL2.out.lst.cell 0 rfl
            have y1 := (HI1.out.below hb2 HI1.out.lt).cell 0 rfl
            have HB3 : Hid (Below w2.heap.size w2 (w2.alloc (.cells #[.int .i64 (i : Int)] 3))) := (Below.refl _ _).alloc (Nat.le_refl _) _
            have HL3 := Lib.hid (HL2.out.step HB3.out)
            have HC3 := Lib.hid (HC2.out.step HK.out HJ.out HR2.out HB3.out)
            have HR3 : Hid (rb ≤ (w2.alloc (.cells #[.int .i64 (i : Int)] 3)).heap.size) := Nat.le_trans HR2.out HB3.out.size
            have HW3 : Hid (Bk (w2.alloc (.cells #[.int .i64 (i : Int)] 3)) w2.heap.size 3 #[.int .i64 (i : Int)]) := Bk.new _ _ _
            clear hb2 HCN HAN x0 x1 HC1 HL1 HI1
            go_upto_region 8 with (first | (at_builtin; refine wpList_append1g (P := Tryz.prog) rfl (.tmp 33) (.tmp 35) 42 rfl rb 3 (.int .i64 0) 1 8 Tryz.underlying42 info3 (by decide) (by decide) (.slice A1 l.length c1) l.length (nats l) rfl HL3.out.own w2.heap.size #[.int .i64 (i : Int)] 3 rfl HW3.out rfl (by intro u hu; simp at hu; subst hu; rfl) (by omega) (by decide) HR3.out ?_; intro v8 V8 own8 gr8; have bel8 : Below rb (w2.alloc (.cells #[.int .i64 (i : Int)] 3)) V8 := Below.grown (Below.refl _ _) gr8 HR3.out (fun g hg => (HL3.out.own.lt g hg).1); have k8 := HL3.out.lst.below bel8 hlo; have z0 := k8.cell 0 rfl; have z1 := k8.fro 0; obtain ⟨A8, c8, rfl, hc8⟩ := ownsSlice own8))
            have HC9 : Hid (WC bl bsx by_ bw lb bs A n c bar J (V8.setCell ⟨bl, 0, none⟩ (.slice A8 (l.length + 1) c8))) := (HC3.out.low HK.out bel8 (HJ.out _ _ _ HC3.out.j gr8 (fun g hg => Nat.le_trans HK.out.hb (HL3.out.own.lt g hg).1))).set HK.out HJ.out _
            have HL9 : Hid (WL bl rb (l ++ [i]) A8 c8 (V8.setCell ⟨bl, 0, none⟩ (.slice A8 (l.length + 1) c8))) := by
              have h1 := own_set (u := .slice A8 (l.length + 1) c8) own8 hlo
              rw [show nats l ++ (#[.int .i64 (i : Int)] : Array Value).toList = nats (l ++ [i]) from nats_snoc l i] at h1
              exact ⟨by rw [List.length_append]; exact k8.set 0 _, by rw [List.length_append]; exact h1⟩
            have HR9 : Hid (rb ≤ (V8.setCell ⟨bl, 0, none⟩ (.slice A8 (l.length + 1) c8)).heap.size) := by
              show rb ≤ _
              have := bel8.size
              have := HR3.out
              simp; omega
            clear own8 gr8 bel8 k8 z0 z1 hc8 HC3 HL3 HR3 HW3 HB3 HC2 HL2 y0 y1
            generalize V8.setCell ⟨bl, 0, none⟩ (.slice A8 (l.length + 1) c8) = W9 at *
            have z2 := HC9.out.wk
            go_wp2_with fail
            refine (HIH.out i A8 c8 W9 hlt HR9.out HC9.out HL9.out).mono ?_
            rintro e w10 (⟨ho, rfl, A2, c2, hC2, hL2, hr2⟩ | ⟨x, ho, rfl, hx⟩)
            · have HE := Lib.hid (HNY.out HOK.out ho)
              have hk10 : Bk w10 bl 42 #[.slice A2 (l.length + 1) c2] := by have := hL2.out.lst; rw [List.length_append] at this; exact this
              have q0 := hk10.cell 0 rfl
              have q1 := hk10.fro 0
              have HK10 := Lib.hid hk10
              have HO10 : Hid (w10.ownsRow rb 3 1 (.slice A2 l.length c2) l.length (nats l)) := by
                have := hL2.out.own
                rw [List.length_append, ← nats_snoc] at this
                exact own_pop this
              have hcc : l.length + 1 ≤ c2 := by
                obtain ⟨a1, a2, e, h1, h2⟩ := ownsSlice hL2.out.own
                cases e; simpa using h1
              clear HIH HC9 HL9 HR9 z2 HNY HSX ho hk10 hL2
              dsimp only
              go_wp2_with fail
              go_roundw
              case rel => exact ⟨i + 1, A2, c2, by omega, by go_num, HE, hC2.out.set HK.out HJ.out _, ⟨HK10.out.set 0 _, own_set HO10.out hlo⟩, by simpa using hr2⟩
              case measure => simp [intOf]; omega
            · have HE := Lib.hid (HSX.out _ HOK.out ho)
              clear HIH HC9 HL9 HR9 z2 HNY HSX ho
              dsimp only
              go_wp2_with fail
              go_ret
              exact .inr ⟨x, HE.out, rfl, hx⟩
      · obtain rfl : i = n := by omega
        have HN : Hid (ordsF bar i (r + 1) l = none) := by
          show _ = _
          rw [HO.out, hf.out, Nat.sub_self, HF0.out]
        go_wp2
        go_ret
        exact .inl ⟨HN.out, rfl, A1, c1, hC, hL, hrb⟩
end Go.Proofs.YtkfeagokmcakgaaGreatDoor

namespace Go.Proofs.YtkfeagokmcakgaaGreatDoor
open Go.RowKit
attribute [local go_sem] Oper.semAt_some

set_option maxRecDepth 100000 in
set_option maxHeartbeats 1000000 in
theorem orders_seq (m : Nat) {bs n c : Nat} {A : Option Addr} {bar : Nat → Nat → Bool} (w : World) (hn : n ≤ 8) (hs : StkW bs A n c bar w) :
    SeqO Fence.wide m Tryz.prog 101 #[.pointer (some ⟨bs, 0, none⟩)] #[] (fun x : El => #[x.v]) (PreX n) (ordsF bar n n [] = none) (fun x => ordsF bar n n [] = some x.L) w := by
  intro lb J Jx W _ hW hJ hY h0
  refine callsIn_wide.2 ?_
  let C : Value := .func (.func 132) #[] #[.pointer (some ⟨W.heap.size + 2, 0, none⟩), .pointer (some ⟨W.heap.size, 0, none⟩), .pointer (some ⟨W.heap.size + 1, 0, none⟩), .pointer (some ⟨W.heap.size + 3, 0, none⟩)]
  let V1 : World := W.alloc (.cells #[.pointer (some ⟨bs, 0, none⟩)] 123)
  let V2 : World := V1.alloc (.cells #[.func (.yield lb) #[] #[]] 154)
  let V3 : World := V2.alloc (.cells #[.slice none 0 0] 42)
  let V4 : World := V3.alloc (.cells #[C] 22)
  have hbs := cell_lt hs.col
  have hz := hW.size
  have hbs2 : bs < w.heap.size := hbs
  have z4 : V4.heap.size = W.heap.size + 4 := by simp [V4, V3, V2, V1]
  have hb : Below W.heap.size W V4 := ((((Below.refl _ W).alloc (Nat.le_refl _) _).alloc (by simp) _).alloc (by simp; omega) _).alloc (by simp; omega) _
  have k0 : Bk V4 W.heap.size 123 #[.pointer (some ⟨bs, 0, none⟩)] := (((Bk.new W 123 _).alloc _).alloc _).alloc _
  have k1 : Bk V4 (W.heap.size + 1) 154 #[.func (.yield lb) #[] #[]] := by have h := ((Bk.new V1 154 #[.func (.yield lb) #[] #[]]).alloc (.cells #[.slice none 0 0] 42)).alloc (.cells #[C] 22); simpa [V1] using h
  have k2 : Bk V4 (W.heap.size + 2) 42 #[.slice none 0 0] := by have h := (Bk.new V2 42 #[.slice none 0 0]).alloc (.cells #[C] 22); simpa [V2, V1] using h
  have k3 : Bk V4 (W.heap.size + 3) 22 #[C] := by have h := Bk.new V3 22 #[C]; simpa [V3, V2, V1] using h
  have hst : StkW bs A n c bar V4 := (hs.below hW hbs).below (hb.mono (Nat.le_refl _)) (by omega)
  have hj4 : J V4 := hJ.alloc _ (hJ.alloc _ (hJ.alloc _ (hJ.alloc _ h0)))
  have hC : WC (W.heap.size + 2) W.heap.size (W.heap.size + 1) (W.heap.size + 3) lb bs A n c bar J V4 := ⟨k0.cell 0 rfl, k1.cell 0 rfl, k3.cell 0 rfl, hst, hj4⟩
  have hL : WL (W.heap.size + 2) (W.heap.size + 4) [] none 0 V4 := ⟨k2, World.ownsRow_nil _ _ _ _⟩
  have HWK := Lib.hid (walk132 m (base := W.heap.size) (rb := W.heap.size + 4) (Jx := Jx) ⟨by omega, by omega, by omega, by omega, by omega, by omega, by omega, by omega, by omega, by omega, by omega⟩ hn hJ hY n [] none 0 V4 (by simp) (by simp) (by omega) hC hL)
  have hrs := fun (a : Addr) (m : Mode) (W : World) (cs : Array Value) => run_store Tryz.prog W a (.func (.func 132) #[] cs) m rfl
  have hmf : ∀ (fn : Fn) (first cap : Array Value) (w : World), (Instr.makeFunc fn first cap).run Tryz.prog w = .ok (.func fn first cap) w := fun _ _ _ _ => rfl
  clear hY hJ h0 hj4 hC hL hst k0 k1 k2 k3 hs hW hb z4 hbs
  go_enter Tryz.func101, Tryz.ntmps101
  go_wp2_with fail
  refine HWK.out.mono ?_
  rintro e w6 (⟨ho, rfl, A2, c2, hC, hL, hr⟩ | ⟨x, ho, rfl, hx⟩)
  · have HO := Lib.hid ho
    have HJ6 := Lib.hid hC.out.j
    clear ho hC hL HWK
    dsimp only
    go_wp2_with fail
    go_end0
    exact ⟨⟨_, rfl⟩, .inl ⟨HO.out, HJ6.out⟩⟩
  · have HO := Lib.hid ho
    have HX6 := Lib.hid hx
    clear ho hx HWK
    dsimp only
    go_wp2_with fail
    go_end0
    exact ⟨⟨_, rfl⟩, .inr ⟨x, HO.out, HX6.out⟩⟩
end Go.Proofs.YtkfeagokmcakgaaGreatDoor

namespace Go.Proofs.YtkfeagokmcakgaaGreatDoor
open Go.RowKit

def NmE (xs : List ByteArray) (w : World) (e : Ending) (w' : World) : Prop := ∃ A c, e = .returned (.slice A xs.length c) ∧ Lies w' w'.heap.size A (strsC xs) ∧ (xs.length ≤ c ∧ c ≤ maxLen) ∧ Below w.heap.size w w' ∧ ∀ ad, A = some ad → w.heap.size ≤ ad.block
theorem str_at {w : World} {B : Nat} {A : Option Addr} {l : List ByteArray} (h : Lies w B A (strsC l)) {k : Nat} (hk : k < l.length) : ∃ ad, A = some ad ∧ ad.block < B ∧ w.cell? (ad.add k) = some (.string l[k]) := by
  obtain ⟨ad, u, h1, h2, h3, h4⟩ := h.at_ (k := k) (by simpa [strsC] using hk)
  obtain rfl : u = .string l[k] := by simp [strsC, List.getElem?_eq_getElem hk] at h3; exact h3.symm
  exact ⟨ad, h1, h2, h4⟩
def colAt (cols : List ByteArray) (i : Nat) : ByteArray := cols.getD i ⟨#[]⟩
set_option maxHeartbeats 1000000 in
theorem colNamed_any {bs c : Nat} {A : Option Addr} {cols : List ByteArray} (l : List Nat) (A' : Option Addr) (c' : Nat) (w : World) (hs : w.cell? ⟨bs, 0, none⟩ = some (.slice A cols.length c)) (hcol : Lies w w.heap.size A (strsC cols)) (hl : Lies w w.heap.size A' (nats l)) (hln : ∀ j ∈ l, j < cols.length) (hm : l.length ≤ 1000) (hm2 : cols.length ≤ 1000) :
    Calls Tryz.prog 102 #[.pointer (some ⟨bs, 0, none⟩), .slice A' l.length c'] w (NmE (l.map (colAt cols)) w) := by
  have hbs := cell_lt hs
  have hbs2 : bs < w.heap.size := hbs
  have HS : Hid (∀ V, Below w.heap.size w V → V.cell? ⟨bs, 0, none⟩ = some (.slice A cols.length c)) := fun V hV => (hV.cell hbs).trans hs
  have HC := Lib.hid hcol
  have HL := Lib.hid hl
  have HLN := Lib.hid hln
  have HT : Hid (strsC ((l.map (colAt cols)).take 0) = []) := by show strsC _ = _; simp [strsC]
  have HALL : Hid ((l.map (colAt cols)).take l.length = l.map (colAt cols)) := by show _ = _; rw [List.take_of_length_le (by simp)]
  have HLEN : Hid ((l.map (colAt cols)).length = l.length) := by show _ = _; simp
  clear hs hcol hl hln hbs
  go_enter Tryz.func102, Tryz.ntmps102
  go_wp2
  go_loopw [5, 10] (fun yo y wr => ∃ (k : Nat) (A2 : Option Addr) (c2 : Nat), k ≤ l.length ∧ y = .int .i64 k ∧ yo = .slice A2 k c2 ∧ Hid (wr.ownsRow w.heap.size 9 1 (.slice A2 k c2) k (strsC ((l.map (colAt cols)).take k))) ∧ Below w.heap.size w wr) (fun _ y _ => l.length - (intOf y).toNat)
  case atStart => exact ⟨0, none, 0, by omega, rfl, rfl, by rw [HT.out]; exact World.ownsRow_nil _ _ _ _, Below.refl _ _⟩
  case round =>
    obtain ⟨k, A2, c2, hk, rfl, rfl, ho, hbw⟩ := hrel
    have hbz := hbw.size
    by_cases hlt : k < l.length
    · obtain ⟨ad, rfl, hadb, x0⟩ := nat_at (HL.out.below hbw (Nat.le_refl _)) hlt
      have hj := HLN.out l[k] (List.getElem_mem hlt)
      obtain ⟨ad2, rfl, hadb2, x1⟩ := str_at (HC.out.below hbw (Nat.le_refl _)) hj
      have x2 := HS.out wr hbw
      have hkI : (k : Int) < (l.length : Int) := by omega
      have hjI : (l[k] : Int) < (cols.length : Int) := by omega
      have HNX : Hid (strsC ((l.map (colAt cols)).take k) ++ [Value.string cols[l[k]]] = strsC ((l.map (colAt cols)).take (k + 1))) := by
        show _ = _
        rw [← List.take_append_getElem (by simpa using hlt : k < (l.map (colAt cols)).length)]
        simp [strsC, colAt, hj]
      have HO3 : Hid ((wr.alloc (.cells #[.string cols[l[k]]] 9)).ownsRow w.heap.size 9 1 (.slice A2 k c2) k (strsC ((l.map (colAt cols)).take k))) := ownsRow_below ho.out ((Below.refl wr.heap.size wr).alloc (Nat.le_refl _) _) (Nat.le_refl _)
      have HB3 : Hid (Below w.heap.size w (wr.alloc (.cells #[.string cols[l[k]]] 9))) := hbw.alloc hbz _
      have HR3 : Hid (Bk (wr.alloc (.cells #[.string cols[l[k]]] 9)) wr.heap.size 9 #[.string cols[l[k]]]) := Bk.new _ _ _
      generalize cols[l[k]] = s at *
      generalize l[k] = jj at *
      clear ho
      go_wp2_with (first | (at_builtin; refine wpList_append1 (P := Tryz.prog) rfl (.tmp 14) (.tmp 22) 34 rfl w.heap.size 9 (.string ByteArray.empty) 1 16 Tryz.underlying34 info9 (by decide) (by decide) (.slice A2 k c2) k (strsC ((l.map (colAt cols)).take k)) rfl HO3.out wr.heap.size #[.string s] 9 rfl HR3.out rfl (by intro u hu; simp at hu; subst hu; rfl) (by omega) (by decide) HB3.out.size w.heap.size w HB3.out (Nat.le_refl _) ?_; intro v8 V8 own8 bel8 _; obtain ⟨A8, c8, rfl, hc8⟩ := ownsSlice own8))
      have HO8 : Hid (V8.ownsRow w.heap.size 9 1 (.slice A8 (k + 1) c8) (k + 1) (strsC ((l.map (colAt cols)).take (k + 1)))) := by
        show World.ownsRow _ _ _ _ _ _ _
        rw [← HNX.out]; exact own8
      go_roundw
      case rel => exact ⟨k + 1, A8, c8, by omega, by go_num, rfl, HO8, bel8⟩
      case measure => simp [intOf]; omega
    · obtain rfl : k = l.length := by omega
      have hc2 : l.length ≤ c2 ∧ c2 ≤ maxLen := by
        obtain ⟨a1, a2, e, h⟩ := ownsSlice ho.out
        cases e; exact h
      have HLI := Lib.hid (ownsRow_lies ho.out)
      have HGE := Lib.hid (own_ge ho.out)
      clear ho
      go_wp2_with fail
      go_ret
      refine ⟨A2, c2, by rw [HLEN.out]; rfl, ?_, by rw [HLEN.out]; exact hc2, hbw, HGE.out⟩
      have := HLI.out
      rwa [HALL.out] at this
end Go.Proofs.YtkfeagokmcakgaaGreatDoor

namespace Go.Proofs.YtkfeagokmcakgaaGreatDoor
open Go.RowKit

def smlB (r : Rul) : Bool := decide (r.x.size ≤ 60) && decide (r.y.size ≤ 60)
def smallB (l : List Rul) : Bool := decide (l.length ≤ 25) && l.all smlB
def shortB (s : ByteArray) : Bool := decide (s.size ≤ 60)
def briefB (l : List ByteArray) (n : Int) : Bool := decide ((l.length : Int) ≤ n) && l.all shortB
theorem allT {α : Type} {l : List α} {p : α → Bool} {k : Nat} (hk : k < l.length) (h : (l.take k).all p = true) (hp : p l[k] = true) : (l.take (k + 1)).all p = true := by
  rw [← List.take_append_getElem hk, List.all_append, h]; simp [hp]
theorem allF {α : Type} {l : List α} {p : α → Bool} {k : Nat} (hk : k < l.length) (hp : p l[k] = false) : l.all p = false := by
  rw [List.all_eq_false]; exact ⟨l[k], List.getElem_mem hk, by simp [hp]⟩
theorem anyT {α : Type} {l : List α} {p : α → Bool} {k : Nat} (hk : k < l.length) (hp : p l[k] = true) : l.any p = true := by
  rw [List.any_eq_true]; exact ⟨l[k], List.getElem_mem hk, hp⟩
theorem anyF {α : Type} {l : List α} {p : α → Bool} {k : Nat} (hk : k < l.length) (h : (l.take k).any p = false) (hp : p l[k] = false) : (l.take (k + 1)).any p = false := by
  rw [← List.take_append_getElem hk, List.any_append, h]; simp [hp]

set_option maxHeartbeats 400000 in
set_option maxRecDepth 100000 in
theorem small_any (l : List Rul) (A : Option Addr) (c : Nat) (w : World) (hl : Lies w w.heap.size A (rulesC l)) (hm : ∀ r ∈ l, r.x.size ≤ maxLen ∧ r.y.size ≤ maxLen) (hn : l.length ≤ maxLen) :
    Calls Tryz.prog 22 #[.agg #[.slice A l.length c]] w (ShEnd (smallB l) w) := by
  have HS0 : Hid (¬ l.length ≤ 25 → smallB l = false) := fun h => by unfold smallB; rw [decide_eq_false h]; rfl
  have HS1 : Hid (∀ k (hk : k < l.length), smlB l[k] = false → smallB l = false) := fun k hk h => by unfold smallB; rw [allF hk h, Bool.and_false]
  have HS2 : Hid (l.length ≤ 25 → (l.take l.length).all smlB = true → smallB l = true) := fun h h2 => by rw [List.take_length] at h2; unfold smallB; rw [decide_eq_true h, h2]; rfl
  have HST : Hid (∀ k (hk : k < l.length), (l.take k).all smlB = true → smlB l[k] = true → (l.take (k + 1)).all smlB = true) := fun k hk h h2 => allT hk h h2
  have HM := Lib.hid hm
  have hn2 : (l.length : Int) ≤ 9223372036854775807 := by unfold maxLen at hn; omega
  clear hm hn
  go_enter Tryz.func22, Tryz.ntmps22
  by_cases h25 : l.length ≤ 25
  · have h251 : ¬ (25 : Int) < (l.length : Int) := by omega
    have HS3 := Lib.hid (HS2.out h25)
    clear HS0 HS2
    go_wp2
    go_loopw [3] (fun y wr => ∃ k : Nat, k ≤ l.length ∧ y = .int .i64 k ∧ Hid ((l.take k).all smlB = true) ∧ Below w.heap.size w wr ∧ Bk wr w.heap.size 25 #[.slice A l.length c]) (fun y _ => l.length - (intOf y).toNat)
    case atStart => exact ⟨0, by omega, rfl, rfl, (by repeat (first | with_reducible exact Below.refl _ _ | with_reducible assumption | with_reducible refine Below.drew ?_ | with_reducible refine below_drewN ?_ _ | (with_reducible refine Below.alloc ?_ ?_ _; rotate_left; (try simp) <;> omega) | (with_reducible refine Below.setCell ?_ ?_ _; rotate_left; (try simp) <;> omega))), Bk.new _ _ _⟩
    case round =>
      obtain ⟨k, hk, rfl, hf, hbw, hbk⟩ := hrel
      have x0 := hbk.cell 0 rfl
      have hbl := hbk.lt
      by_cases hlt : k < l.length
      · have HB := Lib.hid (HS1.out k hlt)
        have HT := Lib.hid (HST.out k hlt hf.out)
        obtain ⟨ad, rfl, hadb, c0, c1, c2, c3, c4, c5⟩ := rule_at ((hl.below hbw (Nat.le_refl _)).more hbw.size) hlt
        have hrm := HM.out _ (List.getElem_mem hlt)
        clear hf hl HM HS1 HST HS3
        generalize l[k] = r at *
        have HD : Hid (smlB r = (decide (r.x.size ≤ 60) && decide (r.y.size ≤ 60))) := rfl
        obtain ⟨id, kn, kd, x, y, of⟩ := r
        dsimp only at *
        clear c0 c1 c2 c5
        have hx9 : (x.size : Int) ≤ 9223372036854775807 := by have := hrm.1; unfold maxLen at this; omega
        have hy9 : (y.size : Int) ≤ 9223372036854775807 := by have := hrm.2; unfold maxLen at this; omega
        clear hrm
        by_cases hx : x.size ≤ 60
        · have hx1 : ¬ (60 : Int) < (x.size : Int) := by omega
          by_cases hy : y.size ≤ 60
          · have hy1 : ¬ (60 : Int) < (y.size : Int) := by omega
            have H := Lib.hid (HT.out (by rw [HD.out, decide_eq_true hx, decide_eq_true hy]; rfl))
            clear HB HT HD
            go_wp2
            go_roundw
            case rel => exact ⟨k + 1, by omega, by go_num, H, hbw, hbk⟩
            case measure => simp [intOf]; omega
          · have hy1 : (60 : Int) < (y.size : Int) := by omega
            have H := Lib.hid (HB.out (by rw [HD.out, decide_eq_false hy, Bool.and_false]))
            clear HB HT HD
            go_wp2
            go_ret
            exact sh_ret H.out.symm hbw
        · have hx1 : (60 : Int) < (x.size : Int) := by omega
          have H := Lib.hid (HB.out (by rw [HD.out, decide_eq_false hx]; rfl))
          clear HB HT HD
          go_wp2
          go_ret
          exact sh_ret H.out.symm hbw
      · obtain rfl : k = l.length := by omega
        have H := Lib.hid (HS3.out hf.out)
        clear hf hl HM HS1 HST HS3
        go_wp2
        go_ret
        exact sh_ret H.out.symm hbw
  · have h251 : (25 : Int) < (l.length : Int) := by omega
    have H := Lib.hid (HS0.out h25)
    clear HS0 HS1 HS2 HST HM hl
    go_wp2
    go_ret
    exact sh_ret H.out.symm (by exact (by repeat (first | with_reducible exact Below.refl _ _ | with_reducible assumption | with_reducible refine Below.drew ?_ | with_reducible refine below_drewN ?_ _ | (with_reducible refine Below.alloc ?_ ?_ _; rotate_left; (try simp) <;> omega) | (with_reducible refine Below.setCell ?_ ?_ _; rotate_left; (try simp) <;> omega))))

set_option maxHeartbeats 400000 in
set_option maxRecDepth 100000 in
theorem brief_any (l : List ByteArray) (A : Option Addr) (c : Nat) (n : Int) (w : World) (hl : Lies w w.heap.size A (strsC l)) (hm : ∀ s ∈ l, s.size ≤ maxLen) (hn : l.length ≤ maxLen) :
    Calls Tryz.prog 23 #[.slice A l.length c, .int .i64 n] w (ShEnd (briefB l n) w) := by
  have HS0 : Hid (¬ (l.length : Int) ≤ n → briefB l n = false) := fun h => by unfold briefB; rw [decide_eq_false h]; rfl
  have HS1 : Hid (∀ k (hk : k < l.length), shortB l[k] = false → briefB l n = false) := fun k hk h => by unfold briefB; rw [allF hk h, Bool.and_false]
  have HS2 : Hid ((l.length : Int) ≤ n → (l.take l.length).all shortB = true → briefB l n = true) := fun h h2 => by rw [List.take_length] at h2; unfold briefB; rw [decide_eq_true h, h2]; rfl
  have HST : Hid (∀ k (hk : k < l.length), (l.take k).all shortB = true → shortB l[k] = true → (l.take (k + 1)).all shortB = true) := fun k hk h h2 => allT hk h h2
  have HM := Lib.hid hm
  have hn2 : (l.length : Int) ≤ 9223372036854775807 := by unfold maxLen at hn; omega
  clear hm hn
  go_enter Tryz.func23, Tryz.ntmps23
  by_cases h25 : (l.length : Int) ≤ n
  · have h251 : ¬ n < (l.length : Int) := by omega
    have HS3 := Lib.hid (HS2.out h25)
    clear HS0 HS2
    go_wp2
    go_loopw [5] (fun y wr => ∃ k : Nat, k ≤ l.length ∧ y = .int .i64 k ∧ Hid ((l.take k).all shortB = true) ∧ Below w.heap.size w wr) (fun y _ => l.length - (intOf y).toNat)
    case atStart => exact ⟨0, by omega, rfl, rfl, Below.refl _ _⟩
    case round =>
      obtain ⟨k, hk, rfl, hf, hbw⟩ := hrel
      by_cases hlt : k < l.length
      · have HB := Lib.hid (HS1.out k hlt)
        have HT := Lib.hid (HST.out k hlt hf.out)
        obtain ⟨ad, rfl, _, c0⟩ := str_at (hl.below hbw (Nat.le_refl _)) hlt
        have hrm := HM.out _ (List.getElem_mem hlt)
        clear hf hl HM HS1 HST HS3
        generalize l[k] = x at *
        have HD : Hid (shortB x = decide (x.size ≤ 60)) := rfl
        have hx9 : (x.size : Int) ≤ 9223372036854775807 := by have := hrm; unfold maxLen at this; omega
        clear hrm
        by_cases hx : x.size ≤ 60
        · have hx1 : ¬ (60 : Int) < (x.size : Int) := by omega
          have H := Lib.hid (HT.out (by rw [HD.out, decide_eq_true hx]))
          clear HB HT HD
          go_wp2
          go_roundw
          case rel => exact ⟨k + 1, by omega, by go_num, H, hbw⟩
          case measure => simp [intOf]; omega
        · have hx1 : (60 : Int) < (x.size : Int) := by omega
          have H := Lib.hid (HB.out (by rw [HD.out, decide_eq_false hx]))
          clear HB HT HD
          go_wp2
          go_ret
          exact sh_ret H.out.symm hbw
      · obtain rfl : k = l.length := by omega
        have H := Lib.hid (HS3.out hf.out)
        clear hf hl HM HS1 HST HS3
        go_wp2
        go_ret
        exact sh_ret H.out.symm hbw
  · have h251 : n < (l.length : Int) := by omega
    have H := Lib.hid (HS0.out h25)
    clear HS0 HS1 HS2 HST HM hl
    go_wp2
    go_ret
    exact sh_ret H.out.symm (Below.refl _ _)

set_option maxHeartbeats 400000 in
set_option maxRecDepth 100000 in
theorem has_any (l : List ByteArray) (A : Option Addr) (c : Nat) (s : ByteArray) (w : World) (hl : Lies w w.heap.size A (strsC l)) (hn : l.length ≤ maxLen) :
    Calls Tryz.prog 26 #[.slice A l.length c, .string s] w (ShEnd (decide (s ∈ l)) w) := by
  have HS1 : Hid (∀ k (hk : k < l.length), l[k] = s → decide (s ∈ l) = true) := fun k hk h => by rw [decide_eq_true]; subst h; exact List.getElem_mem hk
  have HS2 : Hid ((∀ j (hj : j < l.length), l[j] ≠ s) → decide (s ∈ l) = false) := fun h => by
    rw [decide_eq_false]
    intro hm
    obtain ⟨j, hj, e⟩ := List.mem_iff_getElem.1 hm
    exact h j hj e
  have hn2 : (l.length : Int) ≤ 9223372036854775807 := by unfold maxLen at hn; omega
  generalize decide (s ∈ l) = R at *
  clear hn
  go_enter Tryz.func26, Tryz.ntmps26
  go_wp2
  go_loopw [5] (fun y wr => ∃ k : Nat, k ≤ l.length ∧ y = .int .i64 k ∧ Hid (∀ j, j < k → ∀ (hj : j < l.length), l[j] ≠ s) ∧ Below w.heap.size w wr) (fun y _ => l.length - (intOf y).toNat)
  case atStart => exact ⟨0, by omega, rfl, fun j hj => absurd hj (by omega), Below.refl _ _⟩
  case round =>
    obtain ⟨k, hk, rfl, hf, hbw⟩ := hrel
    by_cases hlt : k < l.length
    · have HB := Lib.hid (HS1.out k hlt)
      have HT := Lib.hid (fun (h : l[k] ≠ s) => show Hid (∀ j, j < k + 1 → ∀ (hj : j < l.length), l[j] ≠ s) from fun j hj h1 => by
        by_cases e : j = k
        · subst e; exact h
        · exact hf.out j (by omega) h1)
      obtain ⟨ad, rfl, _, c0⟩ := str_at (hl.below hbw (Nat.le_refl _)) hlt
      clear hf hl HS1 HS2
      generalize l[k] = x at *
      by_cases hx : x = s
      · have hx1 : (x.toList == s.toList) = true := by rw [str_eq]; exact decide_eq_true hx
        have H := Lib.hid (HB.out hx)
        clear HB HT hx
        go_wp2
        go_ret
        exact sh_ret H.out.symm hbw
      · have hx1 : (x.toList == s.toList) = false := by rw [str_eq]; exact decide_eq_false hx
        have H := Lib.hid (HT.out hx)
        clear HB HT hx
        go_wp2
        go_roundw
        case rel => exact ⟨k + 1, by omega, by go_num, H, hbw⟩
        case measure => simp [intOf]; omega
    · obtain rfl : k = l.length := by omega
      have H := Lib.hid (HS2.out (fun j hj => hf.out j hj hj))
      clear hf hl HS1 HS2
      go_wp2
      go_ret
      exact sh_ret H.out.symm hbw
end Go.Proofs.YtkfeagokmcakgaaGreatDoor

namespace Go.Proofs.YtkfeagokmcakgaaGreatDoor

/-- a colour of neither state is among them -/
def badB (l : List Rul) (col : List ByteArray) : Bool := col.any fun s => !isSt l 1 s && !isSt l 2 s
theorem badB_ok (l : List Rul) (col : List ByteArray) : badB l col = !stOK l col := by
  unfold badB stOK
  rw [Bool.eq_iff_iff]
  simp [List.any_eq_true]
theorem skE_eight {l : List Rul} {col : List ByteArray} (h : skE l col = 8) : badB l col = true := by
  unfold skE at h
  rw [badB_ok]
  repeat' split at h
  all_goals first | omega | simp_all
theorem skE_zero {l : List Rul} {col : List ByteArray} (h : skE l col = 0) : stOK l col = true := by
  unfold skE at h
  repeat' split at h
  all_goals first | omega | assumption
theorem skE_fine {l : List Rul} {col : List ByteArray} (h : skE l col = 0) : badB l col = false := by
  rw [badB_ok, skE_zero h]; rfl
theorem skF_has {l : List Rul} {col : List ByteArray} {n : Nat} {s : ByteArray} (h : skE l col = 0) (hs : s ∈ col) : decide (s ∈ skF l col n) = isSt l n s := by
  unfold skF
  rw [if_pos h]
  simp [List.mem_filter, hs]
theorem filt_two {l : List Rul} : ∀ {col : List ByteArray}, stOK l col = true → (col.filter (isSt l 1)).length + (col.filter (isSt l 2)).length = col.length
  | [], _ => rfl
  | s :: m, h => by
    have h1 : (isSt l 1 s || isSt l 2 s) = true ∧ stOK l m = true := by unfold stOK at h ⊢; simpa using h
    have h2 := filt_two h1.2
    have h3 : ¬ (isSt l 1 s = true ∧ isSt l 2 s = true) := by
      rintro ⟨a, b⟩
      simp [isSt] at a b
      omega
    rw [List.filter_cons, List.filter_cons]
    rcases hA : isSt l 1 s with _ | _ <;> rcases hB : isSt l 2 s with _ | _ <;> simp_all <;> omega
theorem skF_len {l : List Rul} {col : List ByteArray} (h : skE l col = 0) : (skF l col 1).length + (skF l col 2).length = col.length := by
  unfold skF
  rw [if_pos h, if_pos h]
  exact filt_two (skE_zero h)
theorem skF_none {l : List Rul} {col : List ByteArray} {n : Nat} (h : skE l col ≠ 0) : skF l col n = [] := by unfold skF; rw [if_neg h]
theorem badB_take {l : List Rul} {col : List ByteArray} {k : Nat} (hk : k < col.length) : badB l (col.take (k + 1)) = (badB l (col.take k) || (!isSt l 1 col[k] && !isSt l 2 col[k])) := by
  unfold badB
  rw [← List.take_append_getElem hk, List.any_append]
  simp
end Go.Proofs.YtkfeagokmcakgaaGreatDoor

namespace Go.Proofs.YtkfeagokmcakgaaGreatDoor
open Go.RowKit

def numB (s : ByteArray) : Option Int := match Lib.atoiAll s.data.toList with
  | .ok v => some v
  | _ => none
/-- what a reader panics with -/
def pv (k : Int) : Value := .iface 80 (.agg #[.int .i64 k])
def pvs (k : Int) : List PanicEntry := [{ v := pv k, recovered := false }]
def NumE (s : ByteArray) (w : World) (e : Ending) (w' : World) : Prop := (match numB s with
  | some n => e = .returned (.int .i64 n)
  | none => e = .panicked (pvs 4)) ∧ Below w.heap.size w w'
set_option maxHeartbeats 400000 in
theorem number_any (s : ByteArray) (w : World) (hg : Glob w) (hs : s.size ≤ 100000) : Calls Tryz.prog 111 #[.string s] w (NumE s w) := by
  have HG := Lib.hid hg
  cases h : Lib.atoiAll s.data.toList with
  | ok v =>
    have HN : Hid (numB s = some v) := by show numB s = some v; unfold numB; rw [h]
    have HA := Lib.hid (Tryz.strconv_Atoi_ok s (by omega) v h w)
    clear h hg
    go_enter Tryz.func111, Tryz.ntmps111
    go_wp2_with (first | (go_at_call 140; refine HA.out.mono ?_; rintro e w1 ⟨rfl, hw1⟩))
    go_ret
    refine ⟨by rw [HN.out]; rfl, ?_⟩
    rcases hw1 with rfl | ⟨t, rfl⟩
    · exact Below.refl _ _
    · unfold Lib.bytesWorld; exact Lib.below_freeze ((Below.refl _ _).drew.alloc (Nat.le_refl _) _) (by simp) _
  | range =>
    have HN : Hid (numB s = none) := by show numB s = none; unfold numB; rw [h]
    obtain ⟨t, p, hes⟩ := hg.er
    have HA := Lib.hid (Tryz.strconv_Atoi_range s (by omega) h _ w hes (.inr ⟨t, p, rfl⟩))
    clear h hg hes
    go_enter Tryz.func111, Tryz.ntmps111
    go_wp2_with (first | (go_at_call 140; refine HA.out.mono ?_; rintro e w1 ⟨N, rfl, hN, hN2, hb⟩))
    exact ⟨rfl, by rw [HN.out]; rfl, hb⟩
  | _ =>
    have HN : Hid (numB s = none) := by show numB s = none; unfold numB; rw [h]
    obtain ⟨t, p, hes⟩ := hg.es
    have HA := Lib.hid (Tryz.strconv_Atoi_syntax s (by omega) h _ w hes (.inr ⟨t, p, rfl⟩))
    clear h hg hes
    go_enter Tryz.func111, Tryz.ntmps111
    go_wp2_with (first | (go_at_call 140; refine HA.out.mono ?_; rintro e w1 ⟨N, rfl, hN, hN2, hb⟩))
    exact ⟨rfl, by rw [HN.out]; rfl, hb⟩
/-- the record of a rule -/
abbrev Rul.row (r : Rul) : Array Value := #[.int .i64 r.id, .int .i64 r.known, .int .u8 r.kind, .string r.x, .string r.y, .int .i64 r.of]
/-- what a taker does -/
def TakeE (b : Nat) (o : Option Rul) (w : World) (e : Ending) (w' : World) : Prop := (match o with
  | some r => e = .returned (.tuple #[]) ∧ Bk w' b 50 r.row
  | none => e = .panicked (pvs 4)) ∧ (∀ B a, B ≤ b → Below B a w → Below B a w') ∧ ∀ g t C, g ≠ b → Bk w g t C → Bk w' g t C
set_option maxHeartbeats 400000 in
theorem take1_any (b : Nat) (r : Rul) (x : ByteArray) (A : Addr) (n c : Nat) (w : World) (hk : Bk w b 50 r.row) (hA : w.cell? A = some (.string x)) (hn : 0 < n) :
    Calls Tryz.prog 152 #[.pointer (some ⟨b, 0, none⟩), .slice (some A) n c] w (TakeE b (some { r with x := x }) w) := by
  have HK := Lib.hid hk
  have f3 := hk.fro 3
  have c3 := hk.cell 3 rfl
  clear hk
  go_enter Tryz.func152, Tryz.ntmps152
  go_wp2
  go_end0
  exact ⟨⟨rfl, HK.out.set 3 _⟩, fun B a hB h => h.setCell (p := ⟨b, 3, none⟩) hB _, fun g t C hg h => h.far (p := ⟨b, 3, none⟩) hg _⟩
set_option maxHeartbeats 1000000 in
set_option maxRecDepth 100000 in
theorem take2_any (b : Nat) (r : Rul) (x y : ByteArray) (A : Addr) (n c : Nat) (w : World) (hk : Bk w b 50 r.row) (hA : w.cell? A = some (.string x)) (hA2 : w.cell? ⟨A.block, A.off + 1, none⟩ = some (.string y)) (hn : 1 < n) :
    Calls Tryz.prog 149 #[.pointer (some ⟨b, 0, none⟩), .slice (some A) n c] w (TakeE b (some { r with x := x, y := y }) w) := by
  have HK := Lib.hid hk
  have f3 := hk.fro 3
  have c3 := hk.cell 3 rfl
  have f4 := hk.fro 4
  have c4 := hk.cell 4 rfl
  have hn0 : 0 < n := by omega
  have hni : (1 : Int) < (n : Int) := by omega
  clear hk
  go_enter Tryz.func149, Tryz.ntmps149
  go_region
  all_goals
    go_wp2
    go_end0
    refine ⟨⟨rfl, ?_⟩, fun B a hB h => ?_, fun g t C hg h => ?_⟩
    · first | exact (HK.out.drew.set 3 _).set 4 _ | exact (HK.out.drew.set 4 _).set 3 _
    rotate_left
    · first | exact ((h.drew).far (p := ⟨b, 3, none⟩) hg _).far (p := ⟨b, 4, none⟩) hg _ | exact ((h.drew).far (p := ⟨b, 4, none⟩) hg _).far (p := ⟨b, 3, none⟩) hg _
    rotate_left 0
    · first | exact ((h.drew).setCell (p := ⟨b, 3, none⟩) hB _).setCell (p := ⟨b, 4, none⟩) hB _ | exact ((h.drew).setCell (p := ⟨b, 4, none⟩) hB _).setCell (p := ⟨b, 3, none⟩) hB _
set_option maxHeartbeats 400000 in
theorem take6_any (b : Nat) (r : Rul) (x : ByteArray) (A : Addr) (n c : Nat) (w : World) (hg : Glob w) (hx : x.size ≤ 100000) (hk : Bk w b 50 r.row) (hA : w.cell? A = some (.string x)) (hn : 0 < n) :
    Calls Tryz.prog 124 #[.pointer (some ⟨b, 0, none⟩), .slice (some A) n c] w (TakeE b ((numB x).map fun m => { r with of := m }) w) := by
  have HN := Lib.hid (number_any x w hg hx)
  have HK := Lib.hid hk
  clear hk hg
  cases h : numB x with
  | some m =>
    have HM : Hid (∀ e w', NumE x w e w' → e = .returned (.int .i64 m) ∧ Below w.heap.size w w') := fun e w' h1 => by unfold NumE at h1; rw [h] at h1; exact h1
    clear h
    go_enter Tryz.func124, Tryz.ntmps124
    go_wp2_with (first | (go_at_call 111; refine HN.out.mono ?_; intro e w1 he; obtain ⟨rfl, hb⟩ := HM.out e w1 he; have HK1 := Lib.hid (HK.out.below hb HK.out.lt); have f5 := HK1.out.fro 5; have c5 := HK1.out.cell 5 rfl))
    go_end0
    exact ⟨⟨rfl, HK1.out.set 5 _⟩, fun B a hB h => (h.trans (hb.mono (Nat.le_trans hB (Nat.le_of_lt HK.out.lt)))).setCell (p := ⟨b, 5, none⟩) hB _, fun g t C hg h => (h.below hb h.lt).far (p := ⟨b, 5, none⟩) hg _⟩
  | none =>
    have HM : Hid (∀ e w', NumE x w e w' → e = .panicked (pvs 4) ∧ Below w.heap.size w w') := fun e w' h1 => by unfold NumE at h1; rw [h] at h1; exact h1
    clear h
    go_enter Tryz.func124, Tryz.ntmps124
    go_wp2_with (first | (go_at_call 111; refine HN.out.mono ?_; intro e w1 he; obtain ⟨rfl, hb⟩ := HM.out e w1 he))
    exact ⟨rfl, rfl, fun B a hB h => h.trans (hb.mono (Nat.le_trans hB (Nat.le_of_lt HK.out.lt))), fun g t C hg h => h.below hb h.lt⟩
end Go.Proofs.YtkfeagokmcakgaaGreatDoor
