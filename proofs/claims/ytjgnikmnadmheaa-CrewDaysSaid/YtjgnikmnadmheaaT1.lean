/- The days that suit a task, one by one: the iterator that crew.suited hands out (suited, suited$1). -/
import Derived.Test.YtjgnikmnadmheaaS9
import Derived.RangeFuncNested
import Derived.RangeFuncBound
import Derived.RangeFuncCalls
import Derived.RangeFuncLeaves
import Derived.OwnWalkIn
import Derived.TacticsInMore
import Derived.LoopNIn
import Derived.LoopIn
import Derived.Outline
namespace Go.Proofs.Ytjgnikmnadmheaa
open Go.RowKit
attribute [local go_sem] Oper.semAt_some

theorem wpListIn_load_guard {P : Program} {n : Nat} {ops : Array Oper} {rest : List Oper} {op : Oper} {a : Act} {w : World} {Q : Exit → Act → World → Prop} (hgd : Region.wanted op (yielded ops a.tmps) = true) (ty : TypeId) (x : Operand) (ho : op.op = .load ty x)
    (b o : Nat) (hx : a.eval x = .pointer (some ⟨b, o, none⟩)) (cs : List Value) (d : TypeDesc) (hc : w.rangeAt b o cs)
    (hu : P.underlying ty = some d) (hd : d.isRow = true) (hi : (P.info? ty).map (·.size) = some cs.length)
    (h : wpListIn Fence.wide n P ops Q rest (a.put op.dst (.agg cs.toArray)) w) : wpListIn Fence.wide n P ops Q (op :: rest) a w := by
  unfold wpListIn
  rw [if_pos hgd]
  refine ⟨fun _ _ => trivial, ?_⟩
  show op.uponIn _ _ _ _ _ _ ((Oper.semAt none a.eval op).run P w)
  rw [Oper.semAt_none]
  unfold execOp
  simp only [ho, hx, Instr.loadAt, Instr.sureAddr, Sem.run_bind, Sem.run_pure, Result.andThen_ok, run_loadVar_mid w b o ty cs d hc hu hd hi]
  exact h

/-- the days from d0 on, below d, that suit a task -/
def suitK (Y : Yd) (t : Tk) (i : Nat) (d0 : Int) (k : Nat) : List Int := ((List.range k).map (fun j : Nat => d0 + (j : Int))).filter (suitB Y t i)
theorem suitK_yes {Y : Yd} {t : Tk} {i : Nat} {d0 : Int} {k : Nat} (h : suitB Y t i (d0 + k) = true) : suitK Y t i d0 (k + 1) = suitK Y t i d0 k ++ [d0 + (k : Int)] := by
  unfold suitK; rw [List.range_succ, List.map_append, List.filter_append]; simp [h]
theorem suitK_no {Y : Yd} {t : Tk} {i : Nat} {d0 : Int} {k : Nat} (h : suitB Y t i (d0 + k) = false) : suitK Y t i d0 (k + 1) = suitK Y t i d0 k := by
  unfold suitK; rw [List.range_succ, List.map_append, List.filter_append]; simp [h]
theorem suitK_len (Y : Yd) (t : Tk) (i : Nat) (d0 : Int) (k : Nat) : (suitK Y t i d0 k).length ≤ k := by
  unfold suitK
  exact Nat.le_trans (List.length_filter_le _ _) (by simp)
theorem suitK_pre (Y : Yd) (t : Tk) (i : Nat) (d0 : Int) (k m : Nat) (h : k ≤ m) : suitK Y t i d0 k <+: suitK Y t i d0 m := by
  obtain ⟨j, rfl⟩ : ∃ j, m = k + j := ⟨m - k, by omega⟩
  unfold suitK
  rw [List.range_add, List.map_append, List.filter_append]
  exact ⟨_, rfl⟩

/-- what the iterator needs of the world: yard and tasks lie below B -/
structure SuitW (B : Nat) (C : Array Value) (Y : Yd) (l : List Tk) (A : Option Addr) (c i b1 b2 b3 b4 b5 : Nat) (d0 d1 : Int) (W : World) : Prop where
  from_ : W.cell? ⟨b1, 0, none⟩ = some (.int .i64 d0)
  until_ : W.cell? ⟨b2, 0, none⟩ = some (.int .i64 d1)
  yard : Bk W b3 29 C
  tasks : W.cell? ⟨b4, 0, none⟩ = some (.slice A l.length c)
  task : W.cell? ⟨b5, 0, none⟩ = some (.int .i64 i)
  yat : YardAt W B C Y
  tat : TasksAt W B A l
  hB : B ≤ W.heap.size
/-- what is cells lies as it lay, but for what is one's own -/
structure KpC (own : Nat → Prop) (W W' : World) : Prop where
  size : W.heap.size ≤ W'.heap.size
  keep : ∀ g o, W.heap[g]? = some o → o.isCells = true → ¬ own g → W'.heap[g]? = some o
section
variable {own : Nat → Prop} {W W' W'' : World}
theorem KpC.trans (h : KpC own W W') (k : KpC own W' W'') : KpC own W W'' := ⟨Nat.le_trans h.size k.size, fun g o h1 h2 h3 => k.keep g o (h.keep g o h1 h2 h3) h2 h3⟩
theorem KpC.putObj {l : Nat} {o : Obj} (o' : Obj) (h : W.heap[l]? = some o) (ho : o.isCells = false) : KpC own W (W.putObj l o') :=
  ⟨by simp, fun g x h1 h2 _ => by
    have hne : g ≠ l := fun e => by subst e; rw [h] at h1; cases h1; rw [ho] at h2; cases h2
    rw [World.putObj_heap_other hne]; exact h1⟩
theorem KpC.cell (h : KpC own W W') {p : Addr} {v : Value} (hc : W.cell? p = some v) (hp : ¬ own p.block) : W'.cell? p = some v := by
  obtain ⟨o, ho, hcl⟩ := cells_of_cell hc
  have := h.keep _ _ ho hcl hp
  unfold World.cell? at hc ⊢
  rw [this]; rw [ho] at hc; exact hc
theorem KpC.lies (h : KpC own W W') {B : Nat} {A : Option Addr} {cs : List Value} (hl : Lies W B A cs) (ho : ∀ g, g < B → ¬ own g) : Lies W' B A cs := fun hne => by
  obtain ⟨ad, e, hb, hc⟩ := hl hne
  exact ⟨ad, e, hb, fun j u hu => h.cell (hc j u hu) (by rw [add_block]; exact ho _ hb)⟩
theorem KpC.yard (h : KpC own W W') {B : Nat} {C : Array Value} {Y : Yd} (hY : YardAt W B C Y) (ho : ∀ g, g < B → ¬ own g) : YardAt W' B C Y :=
  ⟨hY.size, hY.se, by obtain ⟨A, c, h1, h2⟩ := hY.cl; exact ⟨A, c, h1, h.lies h2 ho⟩, by obtain ⟨A, c, h1, h2⟩ := hY.pi; exact ⟨A, c, h1, h.lies h2 ho⟩, by obtain ⟨A, c, h1, h2⟩ := hY.ma; exact ⟨A, c, h1, h.lies h2 ho⟩, hY.dry⟩
theorem KpC.tasks (h : KpC own W W') {B : Nat} {A : Option Addr} {l : List Tk} (hT : TasksAt W B A l) (ho : ∀ g, g < B → ¬ own g) : TasksAt W' B A l :=
  ⟨h.lies hT.at_ ho, fun t ht => h.lies (hT.af t ht) ho, fun t ht => h.lies (hT.co t ht) ho⟩
theorem KpC.bk (h : KpC own W W') {g t : Nat} {C : Array Value} (hk : Bk W g t C) (ho : ¬ own g) : Bk W' g t C := h.keep g _ hk rfl ho
variable {B : Nat} {C : Array Value} {Y : Yd} {l : List Tk} {A : Option Addr} {c i b1 b2 b3 b4 b5 : Nat} {d0 d1 : Int}
theorem SuitW.kp (hs : SuitW B C Y l A c i b1 b2 b3 b4 b5 d0 d1 W) (h : KpC own W W') (ho : ∀ g, g < B → ¬ own g) (h1 : ¬ own b1) (h2 : ¬ own b2) (h3 : ¬ own b3) (h4 : ¬ own b4) (h5 : ¬ own b5) : SuitW B C Y l A c i b1 b2 b3 b4 b5 d0 d1 W' :=
  ⟨h.cell hs.from_ h1, h.cell hs.until_ h2, h.bk hs.yard h3, h.cell hs.tasks h4, h.cell hs.task h5, h.yard hs.yat ho, h.tasks hs.tat ho, Nat.le_trans hs.hB h.size⟩
theorem SuitW.below (hs : SuitW B C Y l A c i b1 b2 b3 b4 b5 d0 d1 W) (h : Below W.heap.size W W') : SuitW B C Y l A c i b1 b2 b3 b4 b5 d0 d1 W' :=
  ⟨(h.cell (block_lt_of_cell hs.from_)).trans hs.from_, (h.cell (block_lt_of_cell hs.until_)).trans hs.until_, hs.yard.below h hs.yard.lt, (h.cell (block_lt_of_cell hs.tasks)).trans hs.tasks, (h.cell (block_lt_of_cell hs.task)).trans hs.task,
    hs.yat.below h hs.hB, hs.tat.below h hs.hB, Nat.le_trans hs.hB h.size⟩
end

theorem grown_below {W W' : World} (h : Below W.heap.size W W') : W.grownBy W' none :=
  ⟨h.os, h.tape, h.output, h.size, fun k hk _ => h.block k hk⟩

set_option maxRecDepth 100000 in
set_option maxHeartbeats 1000000 in
theorem suited1_iter (m : Nat) (B : Nat) (C : Array Value) (Y : Yd) (l : List Tk) (A : Option Addr) (c i b1 b2 b3 b4 b5 : Nat) (d0 d1 : Int) (hv : Valid Y) (hl : l.length ≤ 1000) (hi : i < l.length) (h0 : -1000000 ≤ d0) (h1 : d0 ≤ 1000000 ∧ d1 ≤ 1000000)
    (G : World → Prop) (Kp : World → World → Prop) (hG1 : ∀ W W', G W → Below W.heap.size W W' → G W') (hG2 : ∀ W W', G W → Kp W W' → G W') (hGr : ∀ W, G W → SuitW B C Y l A c i b1 b2 b3 b4 b5 d0 d1 W)
    (lb : Nat) (J Jx : List Int → World → Prop) (W : World) (hW : G W) (hJ : AbidesFrom W.heap.size J)
    (hY : ∀ pre x W1, J pre W1 → pre.length < (d1 - d0).toNat → YieldAt Fence.wide (m - 1) Try.prog lb #[.int .i64 x] W1 fun e W' => (e = .returned (.bool true) ∧ J (pre ++ [x]) W' ∧ Kp W1 W') ∨ (e = .returned (.bool false) ∧ Jx (pre ++ [x]) W'))
    (hJ0 : J [] W) :
    CallsIn Fence.wide m Try.prog 122 #[.func (.yield lb) #[] #[], .pointer (some ⟨b1, 0, none⟩), .pointer (some ⟨b2, 0, none⟩), .pointer (some ⟨b3, 0, none⟩), .pointer (some ⟨b4, 0, none⟩), .pointer (some ⟨b5, 0, none⟩)] W
      fun e W' => (∃ v, e = .returned v) ∧ ((∃ xs, xs = suitK Y l[i] i d0 (d1 - d0).toNat ∧ J xs W') ∨ (∃ pre, pre <+: suitK Y l[i] i d0 (d1 - d0).toNat ∧ Jx pre W')) := by
  refine callsIn_wide.2 ?_
  have HG1 := Lib.hid hG1; have HG2 := Lib.hid hG2; have HGR := Lib.hid hGr; have HJ := Lib.hid hJ; have HY := Lib.hid hY
  have HSU := Lib.hid (fun W (h : G W) (d : Int) => suits_any C Y l A c i d W ((hGr W h).yat.more (hGr W h).hB) hv ((hGr W h).tat.more (hGr W h).hB) hl hi)
  have f0 := (hGr W hW).from_
  have HJ0 := Lib.hid hJ0
  clear hG1 hG2 hGr hJ hY hJ0 hv
  generalize l[i] = t at *
  have HK := Lib.hid (fun k => suitK_len Y t i d0 k)
  go_enter Try.func122, Try.ntmps122
  go_wp2
  go_loopw [7] (fun y wr => ∃ k : Nat, (d0 + (k : Int) ≤ d1 ∨ k = 0) ∧ y = .int .i64 (d0 + (k : Int)) ∧ G wr ∧ J (suitK Y t i d0 k) wr) (fun y _ => (d1 - intOf y).toNat)
  case atStart => exact ⟨0, .inr rfl, by simp, hW, HJ0.out⟩
  case round =>
    clear f0 hW HJ0
    obtain ⟨k, hk, rfl, hg, hj⟩ := hrel
    have hS := HGR.out wr hg
    have u1 := hS.until_
    have t1 := hS.tasks
    have i1 := hS.task
    have HR := Lib.hid hS.yard.range
    have HC := Lib.hid hS.yat.len
    clear hS
    by_cases hlt : d0 + (k : Int) < d1
    · go_upto_region 3 with fail
      refine (wpIn_wide (n := m)).1 ?_
      gi_wp2_with (first | (refine wpListIn_load_guard (P := Try.prog) (by rfl) 29 (.tmp 3) rfl b3 0 rfl C.toList _ HR.out Try.underlying29 rfl (by rw [HC.out]; exact info29) ?_))
      refine ⟨trivial, fun h => (by cases h), ?_⟩
      cases hq : suitB Y t i (d0 + (k : Int)) with
      | true =>
        have HE := Lib.hid (suitK_yes hq)
        have HP := Lib.hid (suitK_pre Y t i d0 (k + 1) (d1 - d0).toNat (by omega))
        have hs := HSU.out wr hg (d0 + (k : Int))
        rw [hq] at hs
        clear hq
        refine CallsIn.mono (callsIn_wide.2 hs) ?_
        rintro e w5 ⟨rfl, hb⟩
        have hg5 := HG1.out _ _ hg hb
        have hj5 := HJ.out _ _ _ none hj ((grown_below hb)) (fun r e => by cases e)
        have hz5 := hb.size
        have hln := HK.out k
        obtain ⟨fn, tmps, assign, body, hy, hR⟩ := HY.out _ (d0 + (k : Int)) w5 hj5 (by omega)
        have HRR := Lib.hid hR
        clear hR hs hb hj hg u1 t1 i1
        gi_wp2
        refine ⟨fun h => (by cases h), HRR.out.mono ?_⟩
        rintro e w6 (⟨rfl, hj6, hk6⟩ | ⟨rfl, hx6⟩)
        · have hg6 := HG2.out _ _ hg5 hk6
          rw [← HE.out] at hj6
          clear hk6 hg5 hj5 hy hln
          gi_wp2
          go_wp2
          go_roundw
          case rel => exact ⟨k + 1, .inl (by omega), by go_num, hg6, hj6⟩
          case measure => simp [intOf]; omega
        · rw [← HE.out] at hx6
          gi_wp2
          go_wp2
          refine bodyPost_ret (results_none rfl _ _ _) rfl ?_
          exact ⟨⟨_, rfl⟩, .inr ⟨_, HP.out, hx6⟩⟩
      | false =>
        have HE := Lib.hid (suitK_no hq)
        have hs := HSU.out wr hg (d0 + (k : Int))
        rw [hq] at hs
        clear hq
        refine CallsIn.mono (callsIn_wide.2 hs) ?_
        rintro e w5 ⟨rfl, hb⟩
        have hg5 := HG1.out _ _ hg hb
        have hj5 := HJ.out _ _ _ none hj ((grown_below hb)) (fun r e => by cases e)
        have hz5 := hb.size
        clear hs hb hj hg u1 t1 i1
        gi_wp2
        refine ⟨fun _ h => (by cases h), ?_⟩
        gi_wp2
        go_wp2
        go_roundw
        case rel => exact ⟨k + 1, .inl (by omega), by go_num, hg5, by rw [HE.out]; exact hj5⟩
        case measure => simp [intOf]; omega
    · have hd : ¬ d0 + (k : Int) < d1 := hlt
      have hE : Hid (suitK Y t i d0 (d1 - d0).toNat = suitK Y t i d0 k) := by
        show _ = _
        congr 1; omega
      go_wp2
      go_end0
      exact ⟨⟨_, rfl⟩, .inl (by rw [hE.out]; exact hj)⟩
end Go.Proofs.Ytjgnikmnadmheaa
