/- slices.Collect of the days that suit a task (crew.Days$1, slices.AppendSeq, slices.Collect). -/
import Derived.Test.YtjgnikmnadmheaaT3
import Derived.RangeFuncBox
import Derived.Maps.AppendAt
namespace Go.Proofs.Ytjgnikmnadmheaa
open Go.RowKit
attribute [local go_sem] Oper.semAt_some

theorem wpListIn_append_own_at {F : Fence} {n : Nat} {P : Program} (w : World) {ops : Array Oper} {rest : List Oper} {o : Oper} {a : Act} {Q : Exit → Act → World → Prop}
    (hg : o.guard = none) (s x : Operand) (t : TypeId) (hop : o.op = Op.call { callee := Callee.builtin Builtin.append, args := #[s, x], argTypes := #[t, t] })
    (base : Nat) (e : TypeId) (i : TypeInfo) (z : Value) (size bytes : Nat) (h1 : P.underlying t = some (.slice e)) (h2 : P.info? e = some i) (h3 : i.zero = some z) (h4 : i.size = size) (h5 : i.bytes = bytes) (h6 : z.cells.size = size) (h7 : 0 < size)
    (v : Value) (k : Nat) (xs : List Value) (hs : a.eval s = v) (hown : w.ownsRow base e size v k xs) (ad : Addr) (m c : Nat) (news : List Value) (hx : a.eval x = .slice (some ad) m c) (hn : news.length = m * size)
    (hc : ∀ j u, news[j]? = some u → w.cell? (ad.add j) = some u) (h1c : ∀ u ∈ news, u.oneCell' = true) (b1 : k + m ≤ maxLen) (b2 : (k + m) * bytes ≤ 140737488355328) (b3 : base ≤ w.heap.size)
    (hK : ∀ v' w', w'.ownsRow base e size v' (k + m) (xs ++ news) → w.grownBy w' v.ownBlock → (v'.ownBlock = v.ownBlock ∨ v'.ownBlock = some w.heap.size) → wpListIn F n P ops Q rest (a.put o.dst v') w') :
    wpListIn F n P ops Q (o :: rest) a w := by
  refine wpListIn_plain hg fun K hK' => ?_
  obtain ⟨v', w', hrun, r1, r2, _, r3⟩ := run_append_own_at (P := P) w base t o.type e i z size bytes h1 h2 h3 h4 h5 h6 h7 v k xs hown ad m c news hn hc h1c b1 b2 b3
  unfold Oper.wpIn
  refine ⟨?_, ?_⟩
  · simp [Oper.about, hop, resolve, Target.leads, Sem.run_pure]
  · rw [Oper.semAt_plain F _ _ (by rw [hop]; intro c hc'; cases hc')]
    simp [execOp, hop, resolve, invoke, builtin, hs, hx, hrun, Result.andThen]
    exact hK' _ _ (hK v' w' r1 r2 r3)

/-- what is cells lies as it lay, but for a box and the row that the box's slice owns -/
structure KpR (Bs : Nat) (W W' : World) : Prop where
  size : W.heap.size ≤ W'.heap.size
  keep : ∀ v, Boxed W Bs 25 v → ∃ v', Boxed W' Bs 25 v' ∧ (∀ r, v'.ownBlock = some r → v.ownBlock = some r ∨ W.heap.size ≤ r) ∧ ∀ g o, W.heap[g]? = some o → o.isCells = true → g ≠ Bs → v.ownBlock ≠ some g → W'.heap[g]? = some o
theorem KpR.trans {Bs : Nat} {A B C : World} (h : KpR Bs A B) (k : KpR Bs B C) : KpR Bs A C :=
  ⟨Nat.le_trans h.size k.size, fun v hv => by
    obtain ⟨v1, h1, h2, h3⟩ := h.keep v hv
    obtain ⟨v2, k1, k2, k3⟩ := k.keep v1 h1
    refine ⟨v2, k1, fun r hr => ?_, fun g o ho hc hg hn => ?_⟩
    · rcases k2 r hr with e | e
      · exact h2 r e
      · exact .inr (Nat.le_trans h.size e)
    · refine k3 g o (h3 g o ho hc hg hn) hc hg (fun e => ?_)
      rcases h2 g e with e' | e'
      · exact hn e'
      · have := (Array.getElem?_eq_some_iff.1 ho).1; omega⟩
theorem KpR.putObj {Bs : Nat} {W : World} {l : Nat} {o : Obj} (o' : Obj) (hl : Bs ≠ l) (h : W.heap[l]? = some o) (ho : o.isCells = false) : KpR Bs W (W.putObj l o') :=
  ⟨by simp, fun v hv => ⟨v, (World.putObj_heap_other hl).trans hv, fun r hr => .inl hr, fun g x h1 h2 _ _ => by
    have hne : g ≠ l := fun e => by subst e; rw [h] at h1; cases h1; rw [ho] at h2; cases h2
    rw [World.putObj_heap_other hne]; exact h1⟩⟩

/-- the iterator's world: SuitW, and the collecting slice's row is none of its blocks -/
def SuitR (Bs B : Nat) (C : Array Value) (Y : Yd) (l : List Tk) (A : Option Addr) (c i b1 b2 b3 b4 b5 : Nat) (d0 d1 : Int) (W : World) : Prop :=
  SuitW B C Y l A c i b1 b2 b3 b4 b5 d0 d1 W ∧ (∃ v, Boxed W Bs 25 v ∧ ∀ r, v.ownBlock = some r → B ≤ r ∧ r ≠ b1 ∧ r ≠ b2 ∧ r ≠ b3 ∧ r ≠ b4 ∧ r ≠ b5) ∧ (B ≤ Bs ∧ Bs ≠ b1 ∧ Bs ≠ b2 ∧ Bs ≠ b3 ∧ Bs ≠ b4 ∧ Bs ≠ b5)
theorem SuitW.lts {B : Nat} {C : Array Value} {Y : Yd} {l : List Tk} {A : Option Addr} {c i b1 b2 b3 b4 b5 : Nat} {d0 d1 : Int} {W : World} (h : SuitW B C Y l A c i b1 b2 b3 b4 b5 d0 d1 W) : b1 < W.heap.size ∧ b2 < W.heap.size ∧ b3 < W.heap.size ∧ b4 < W.heap.size ∧ b5 < W.heap.size :=
  ⟨block_lt_of_cell h.from_, block_lt_of_cell h.until_, h.yard.lt, block_lt_of_cell h.tasks, block_lt_of_cell h.task⟩
theorem SuitR.below {Bs B : Nat} {C : Array Value} {Y : Yd} {l : List Tk} {A : Option Addr} {c i b1 b2 b3 b4 b5 : Nat} {d0 d1 : Int} {W W' : World} (h : SuitR Bs B C Y l A c i b1 b2 b3 b4 b5 d0 d1 W) (hb : Below W.heap.size W W') : SuitR Bs B C Y l A c i b1 b2 b3 b4 b5 d0 d1 W' := by
  obtain ⟨h1, ⟨v, hv, hr⟩, h3⟩ := h
  exact ⟨h1.below hb, ⟨v, (hb.block Bs hv.lt).trans hv, hr⟩, h3⟩
theorem SuitR.kp {Bs B : Nat} {C : Array Value} {Y : Yd} {l : List Tk} {A : Option Addr} {c i b1 b2 b3 b4 b5 : Nat} {d0 d1 : Int} {W W' : World} (h : SuitR Bs B C Y l A c i b1 b2 b3 b4 b5 d0 d1 W) (hk : KpR Bs W W') : SuitR Bs B C Y l A c i b1 b2 b3 b4 b5 d0 d1 W' := by
  obtain ⟨h1, ⟨v, hv, hr⟩, h3, h4, h5, h6, h7, h8⟩ := h
  obtain ⟨v', k1, k2, k3⟩ := hk.keep v hv
  obtain ⟨l1, l2, l3, l4, l5⟩ := h1.lts
  have hkc : KpC (fun g => g = Bs ∨ v.ownBlock = some g) W W' := ⟨hk.size, fun g o ho hc hn => k3 g o ho hc (fun e => hn (.inl e)) (fun e => hn (.inr e))⟩
  refine ⟨h1.kp hkc ?_ ?_ ?_ ?_ ?_ ?_, ⟨v', k1, fun r hr' => ?_⟩, h3, h4, h5, h6, h7, h8⟩
  · rintro g hg (e | e)
    · omega
    · have := (hr g e).1; omega
  · rintro (e | e)
    · exact h4 e.symm
    · exact (hr _ e).2.1 rfl
  · rintro (e | e)
    · exact h5 e.symm
    · exact (hr _ e).2.2.1 rfl
  · rintro (e | e)
    · exact h6 e.symm
    · exact (hr _ e).2.2.2.1 rfl
  · rintro (e | e)
    · exact h7 e.symm
    · exact (hr _ e).2.2.2.2.1 rfl
  · rintro (e | e)
    · exact h8 e.symm
    · exact (hr _ e).2.2.2.2.2 rfl
  · rcases k2 r hr' with e | e
    · exact hr r e
    · have := h1.hB
      exact ⟨by omega, by omega, by omega, by omega, by omega, by omega⟩

set_option maxRecDepth 100000 in
set_option maxHeartbeats 1000000 in
theorem days1_iter (m Bs B : Nat) (C : Array Value) (Y : Yd) (l : List Tk) (A : Option Addr) (c i b1 b2 b3 b4 b5 : Nat) (d0 d1 : Int) (hv : Valid Y) (hl : l.length ≤ 1000) (hi : i < l.length) (h0 : -1000000 ≤ d0) (h1 : d0 ≤ 1000000 ∧ d1 ≤ 1000000)
    (lb : Nat) (J Jx : List Int → World → Prop) (W : World) (hW : SuitW B C Y l A c i b1 b2 b3 b4 b5 d0 d1 W) (hBs : B ≤ Bs) (hbx : ∃ v, Boxed W Bs 25 v ∧ v.ownBlock = none) (hJ : AbidesFrom W.heap.size J)
    (hY : ∀ pre x W1, J pre W1 → pre.length < (d1 - d0).toNat → YieldAt Fence.wide (m - 1) Try.prog lb #[.int .i64 x] W1 fun e W' => (e = .returned (.bool true) ∧ J (pre ++ [x]) W' ∧ KpR Bs W1 W') ∨ (e = .returned (.bool false) ∧ Jx (pre ++ [x]) W'))
    (hJ0 : J [] W) :
    CallsIn Fence.wide m Try.prog 104 #[.func (.yield lb) #[] #[], .pointer (some ⟨b3, 0, none⟩), .pointer (some ⟨b4, 0, none⟩), .pointer (some ⟨b5, 0, none⟩), .pointer (some ⟨b1, 0, none⟩), .pointer (some ⟨b2, 0, none⟩)] W
      fun e W' => (∃ v, e = .returned v) ∧ ((∃ xs, xs = suitK Y l[i] i d0 (d1 - d0).toNat ∧ J xs W') ∨ (∃ pre, pre <+: suitK Y l[i] i d0 (d1 - d0).toNat ∧ Jx pre W')) := by
  refine callsIn_wide.2 ?_
  have HJ := Lib.hid hJ; have HY := Lib.hid hY
  have HJ0 := Lib.hid hJ0
  have HSU := Lib.hid (suited_any C Y l A c i d0 d1 W (hW.yat.more hW.hB) (hW.tat.more hW.hB))
  have HWW := Lib.hid hW
  obtain ⟨v0, hbv, hno⟩ := hbx
  have HBV := Lib.hid (And.intro hbv hno)
  have u0 := hW.from_
  have u1 := hW.until_
  have t1 := hW.tasks
  have i1 := hW.task
  have HR := Lib.hid hW.yard.range
  have HC := Lib.hid hW.yat.len
  have HV := Lib.hid hv
  clear hJ hY hJ0 hW hbv hno hv
  go_enter Try.func104, Try.ntmps104
  go_upto_region 0 with fail
  refine (wpIn_wide (n := m)).1 ?_
  gi_wp2_with (first | (refine wpListIn_load_guard (P := Try.prog) (by rfl) 29 (.tmp 1) rfl b3 0 rfl C.toList _ HR.out Try.underlying29 rfl (by rw [HC.out]; exact info29) ?_))
  refine ⟨trivial, fun h => (by cases h), ?_⟩
  refine CallsIn.mono (callsIn_wide.2 HSU.out) ?_
  rintro e w6 ⟨rfl, hs6, hb6, hz6⟩
  have hj6 := HJ.out _ _ _ none HJ0.out (grown_below hb6) (fun r e => by cases e)
  have hl6 := HBV.out.1.lt
  have hg6 : SuitR Bs B C Y l A c i (W.heap.size + 3) (W.heap.size + 4) W.heap.size (W.heap.size + 1) (W.heap.size + 2) d0 d1 w6 :=
    ⟨⟨hs6.from_, hs6.until_, hs6.yard, hs6.tasks, hs6.task, HWW.out.yat.below hb6 HWW.out.hB, HWW.out.tat.below hb6 HWW.out.hB, Nat.le_trans HWW.out.hB hb6.size⟩,
      ⟨v0, (hb6.block Bs hl6).trans HBV.out.1, fun r hr => by rw [HBV.out.2] at hr; cases hr⟩, hBs, by omega, by omega, by omega, by omega, by omega⟩
  have HI := Lib.hid (suited1_iter m B C Y l A c i (W.heap.size + 3) (W.heap.size + 4) W.heap.size (W.heap.size + 1) (W.heap.size + 2) d0 d1 HV.out hl hi h0 h1 (SuitR Bs B C Y l A c i (W.heap.size + 3) (W.heap.size + 4) W.heap.size (W.heap.size + 1) (W.heap.size + 2) d0 d1) (KpR Bs) (fun _ _ h hb => h.below hb) (fun _ _ h hk => h.kp hk) (fun _ h => h.1) lb J Jx w6 hg6 (fun s A B row h hg hr => HJ.out s A B row h hg (fun r e => ⟨Nat.le_trans hb6.size (hr r e).1, (hr r e).2⟩)) HY.out hj6)
  clear hg6 hj6 hs6 u0 u1 t1 i1
  unfold suitFn
  gi_wp2
  refine ⟨trivial, fun h => (by cases h), ?_⟩
  refine CallsIn.mono (callsIn_wide.2 ((callsIn_wide (n := m)).1 HI.out)) ?_
  rintro e w7 ⟨⟨v7, rfl⟩, h7⟩
  gi_wp2
  go_end0
  exact ⟨⟨_, rfl⟩, h7⟩

set_option maxRecDepth 100000 in
set_option maxHeartbeats 1000000 in
theorem appendSeq_any (B : Nat) (C : Array Value) (Y : Yd) (l : List Tk) (A : Option Addr) (c i b1 b2 b3 b4 b5 : Nat) (d0 d1 : Int) (hv : Valid Y) (hl : l.length ≤ 1000) (hi : i < l.length) (h0 : -1000000 ≤ d0) (h1 : d0 ≤ 1000000 ∧ d1 ≤ 1000000)
    (w : World) (hW : SuitW B C Y l A c i b1 b2 b3 b4 b5 d0 d1 w) :
    Calls Try.prog 128 #[.slice none 0 0, .func (.func 104) #[] #[.pointer (some ⟨b3, 0, none⟩), .pointer (some ⟨b4, 0, none⟩), .pointer (some ⟨b5, 0, none⟩), .pointer (some ⟨b1, 0, none⟩), .pointer (some ⟨b2, 0, none⟩)]] w (IntsEnd (suitK Y l[i] i d0 (d1 - d0).toNat) w) := by
  obtain ⟨i0, hi0, hz0, hz1, hz2⟩ := info_parts info3
  have I3 := Lib.hid (And.intro hi0 (And.intro hz0 (And.intro hz1 hz2))); clear hi0 hz0 hz1 hz2
  have HV := Lib.hid hv
  have hBw := hW.hB
  have hb2 : Below w.heap.size w (w.alloc (.cells #[.slice none 0 0] 25)) := by exact (by repeat (first | with_reducible exact Below.refl _ _ | with_reducible assumption | with_reducible refine Below.drew ?_ | with_reducible refine below_drewN ?_ _ | (with_reducible refine Below.alloc ?_ ?_ _; rotate_left; (try simp) <;> omega) | (with_reducible refine Below.setCell ?_ ?_ _; rotate_left; (try simp) <;> omega)))
  have bx : Boxed (w.alloc (.cells #[.slice none 0 0] 25)) w.heap.size 25 (.slice none 0 0) := Boxed.new _ _ _
  have hW2 := Lib.hid (hW.below hb2)
  have hz2 : (w.alloc (.cells #[.slice none 0 0] 25)).heap.size = w.heap.size + 1 := by simp
  have HLN := Lib.hid (suitK_len Y l[i] i d0 (d1 - d0).toNat)
  have hN : (d1 - d0).toNat ≤ 2000000 := by omega
  clear hv hW
  refine (callsIn_wide (n := 3)).1 ?_
  refine callsIn_of_wp_marks Try.func128 rfl trivial ?_ rfl
  simp only [Try.ntmps128, List.size_toArray, List.length_cons, List.length_nil, Nat.reduceAdd, Nat.reduceSub, Array.replicate_succ, Array.replicate_zero, List.push_toArray, List.append_toArray, List.nil_append, List.cons_append]
  refine wpIn_wide.2 ?_
  go_wp2
  generalize w.alloc (.cells #[.slice none 0 0] 25) = w2 at *
  have hlt2 : w.heap.size < w2.heap.size := by omega
  generalize hL : suitK Y l[i] i d0 (d1 - d0).toNat = L at *
  have HLL := Lib.hid hL; clear hL
  refine (wpIn_wide (n := 3)).1 ?_
  refine wpIn_rangeFunc_ownF (n := 3) rfl (by omega) (gf := 104) (lb := #[.pointer (some ⟨b3, 0, none⟩), .pointer (some ⟨b4, 0, none⟩), .pointer (some ⟨b5, 0, none⟩), .pointer (some ⟨b1, 0, none⟩), .pointer (some ⟨b2, 0, none⟩)]) rfl trivial (enters_of Try.func104 (by kernel_rfl) rfl)
    (encs := fun x : Int => #[.int .i64 x]) (Kp := KpR w.heap.size) (S := fun xs => xs = L) (Sp := fun pre => pre <+: L) (N := (d1 - d0).toNat) (w0 := w2) ?seq (fun h k => h.trans k) (fun W l o o' h1 h2 h3 _ => KpR.putObj o' (by omega) h2 h3) (Below.refl _ _) (fun _ => rfl)
    (fun pre W => ∃ v, Boxed W w.heap.size 25 v ∧ W.ownsRow w.heap.size 3 1 v pre.length (ints pre) ∧ Below w.heap.size w W ∧ w2.heap.size ≤ W.heap.size)
    (fun c pre W => False) ?own ?ownx ⟨_, bx, World.ownsRow_nil _ _ _ _, hb2, Nat.le_refl _⟩
    (fun x => { tmps := #[.slice none 0 0, .func (.func 104) #[] #[.pointer (some ⟨b3, 0, none⟩), .pointer (some ⟨b4, 0, none⟩), .pointer (some ⟨b5, 0, none⟩), .pointer (some ⟨b1, 0, none⟩), .pointer (some ⟨b2, 0, none⟩)], .pointer (some ⟨w.heap.size, 0, none⟩), undef, .slice none 0 0, .int .i64 x, .func (.func 104) #[] #[.pointer (some ⟨b3, 0, none⟩), .pointer (some ⟨b4, 0, none⟩), .pointer (some ⟨b5, 0, none⟩), .pointer (some ⟨b1, 0, none⟩), .pointer (some ⟨b2, 0, none⟩)], .int .i64 x, undef, undef, undef, undef, undef], defers := [] }) ?assign ?body ?done ?stop
  case seq =>
    intro lb J Jx W hb hJ _ hY h0'
    have := days1_iter 2 w.heap.size B C Y l A c i b1 b2 b3 b4 b5 d0 d1 HV.out hl hi h0 h1 lb J Jx W (hW2.out.below hb) hBw ⟨_, (hb.block _ hlt2).trans bx, rfl⟩ hJ hY h0'
    rw [HLL.out] at this
    exact this
  case own =>
    rintro pre W W' row ⟨v, h1, h2, h3, h4⟩ hg hr
    obtain ⟨v', k1, k2, k3⟩ := holdsRow_own w.heap.size w.heap.size 25 3 1 List.length ints (fun _ _ => True) pre W W' row ⟨v, h1, h2, trivial⟩ hg (fun r e => (hr r e).2)
    exact ⟨v', k1, k2, h3.grown hg h3.size (fun k e => by have := (hr k e).1; omega), Nat.le_trans h4 hg.size⟩
  case ownx =>
    rintro cc pre W W' row h0 hg hr
    exact h0
  case assign =>
    intro lb x W K hK
    gi_wp2
    exact hK
  case body =>
    rintro lb pre x W ⟨v, hv, hr, hb, hzz⟩ hlen
    have y1 := hv.cell
    have z1 := hv.frozen
    gi_wp2_with (gi_at_builtin; refine wpListIn_append_own_at _ rfl (.tmp 8) (.tmp 10) 25 rfl w.heap.size 3 i0 (.int .i64 0) 1 8 Try.underlying25 I3.out.1 I3.out.2.1 I3.out.2.2.1 I3.out.2.2.2 rfl (by decide) _ pre.length _ rfl (hr.alloc _) ⟨W.heap.size, 0, none⟩ 1 1 [.int .i64 x] rfl rfl ?_ ?_ ?_ ?_ ?_ ?_; (exact cell_one_new _ _ _); (intro u hu; simp at hu; subst hu; rfl); (unfold maxLen; omega); (omega); (simp; omega); intro v5 w5 hown5 hgrow5 hat5; obtain ⟨g5, cap5, rfl⟩ := ownsRow_succ hown5; obtain ⟨e1, e2, e3, e4, e5⟩ := Boxed.appended hv (by decide) hr (by omega) (by omega) hown5 hgrow5; have y5 := e1.cell; have z5 := e1.frozen)
    have hnr := hv.not_row (by decide) hr
    have hKR : KpR w.heap.size W (w5.setCell ⟨w.heap.size, 0, none⟩ (.slice (some ⟨g5, 0, none⟩) (pre.length + 1) cap5)) :=
      ⟨e5.size, fun v' hv' => by
        obtain rfl : v = v' := by have := hv.symm.trans hv'; simpa using this
        refine ⟨_, e2, fun r hr' => ?_, fun g o ho hc hg hn => ?_⟩
        · rcases hat5 with e | e
          · exact .inl (e ▸ hr')
          · rw [e] at hr'; simp at hr'; exact .inr (by omega)
        · have hlt := (Array.getElem?_eq_some_iff.1 ho).1
          rw [Below.heap_setCell _ _ _ g (by show g ≠ w.heap.size; exact hg), hgrow5.block g (by simp; omega) (fun e => hn e.symm), Below.heap_alloc _ _ g hlt]
          exact ho⟩
    exact ⟨e4, hKR, _, e2, by rw [ints_snoc] at e3; simpa using e3, hb.trans e5, Nat.le_trans hzz e5.size⟩
  case done =>
    rintro D xs W hwD rfl ⟨v, h1, h2, h3, h4⟩ hK
    have y1 := h1.cell
    obtain ⟨A9, c9, rfl, _, _⟩ := ownsSlice h2
    go_wp2
    refine leaves_mark (D := D) hK rfl (by simp [results, Try.results128, go_sem]; rfl) ?_
    exact ⟨_, rfl, by rw [HLL.out]; exact ownsRow_putObj h2 _ hK rfl, below_putObj h3 (by omega) _⟩
  case stop =>
    rintro D cc pre W hwD hp h hK
    exact h.elim
end Go.Proofs.Ytjgnikmnadmheaa
