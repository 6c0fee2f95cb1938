/- pigment.tried (fn 62) and its deferred closure (fn 109). -/
import Derived.Defers
import Derived.Recover
import Derived.Test.YtkfeagokmcakgaaGreatDoorG02
import Derived.Test.YtkfeagokmcakgaaGreatDoorG13
import Derived.Test.YtkfeagokmcakgaaGreatDoorG14

set_option linter.unusedVariables false
set_option linter.unusedSimpArgs false

namespace Go.Proofs.YtkfeagokmcakgaaGreatDoor
open Go.RowKit

/-- the closure finds nothing to recover -/
theorem catch_idle (p : Addr) (w : World) : CallsD Tryz.prog 109 #[.pointer (some p)] .returning w fun e u' w' => e = .returned (.tuple #[]) ∧ u' = .returning ∧ w' = w := by
  refine callsD_of_wpS Tryz.func109 rfl fun c₀ cs hu => ?_
  apply wpS_seq
  apply wpS_region
  simp [wpOpsS, go_sem, recoverD, hu, Tryz.ntmps109, Exit.thenS]
  rw [show (#[.pointer (some p)] ++ ((Array.replicate 16 undef).setIfInBounds 3 .nilIface).setIfInBounds 0 .nilIface : Array Value) = #[.pointer (some p), .nilIface, undef, undef, .nilIface, undef, undef, undef, undef, undef, undef, undef, undef, undef, undef, undef, undef] from rfl]
  refine wpS_of_wp ?_
  go_wp2
  cases c₀
  simp_all [bodyPostS, results, Tryz.results109]
theorem neq_iface (k : Int) (w : World) : (binOp .neq 20 (.iface 80 (.agg #[.int .i64 k])) .nilIface).run Tryz.prog w = .ok (.bool true) w := by kernel_rfl
theorem assert80 (k : Int) (w : World) : (Instr.typeAssert (.iface 80 (.agg #[.int .i64 k])) 20 80 true).run Tryz.prog w = .ok (.tuple #[.agg #[.int .i64 k], .bool true]) w := by kernel_rfl
set_option maxHeartbeats 1000000 in
theorem catch_panic (b : Nat) (k v : Int) (older : List PanicEntry) (w : World) (hk : Bk w b 26 #[.int .i64 v]) : CallsD Tryz.prog 109 #[.pointer (some ⟨b, 0, none⟩)] (.panicking ({ v := pv k, recovered := false } :: older)) w fun e u' w' => e = .returned (.tuple #[]) ∧ u' = .panicking ({ v := pv k, recovered := true } :: older) ∧ w' = (w.setCell ⟨b, 0, none⟩ (.int .i64 k)).alloc (.cells #[.int .i64 k] 80) := by
  unfold pv
  have hk1 := hk.alloc (.cells #[.int .i64 k] 80)
  have c1 := hk1.cell 0 rfl
  have f1 := hk1.fro 0
  have hlt := hk.lt
  clear hk1 hk
  have hni := neq_iface
  have has := assert80
  refine callsD_of_wpS Tryz.func109 rfl fun c₀ cs hu => ?_
  apply wpS_seq
  apply wpS_region
  simp [wpOpsS, go_sem, recoverD, hu, Tryz.ntmps109, Exit.thenS]
  rw [show (#[.pointer (some ⟨b, 0, none⟩)] ++ ((Array.replicate 16 undef).setIfInBounds 3 (.iface 80 (.agg #[.int .i64 k]))).setIfInBounds 0 (.iface 80 (.agg #[.int .i64 k])) : Array Value) = #[.pointer (some ⟨b, 0, none⟩), (.iface 80 (.agg #[.int .i64 k])), undef, undef, (.iface 80 (.agg #[.int .i64 k])), undef, undef, undef, undef, undef, undef, undef, undef, undef, undef, undef, undef] from rfl]
  refine wpS_of_wp ?_
  go_wp2
  cases c₀
  simp_all [bodyPostS, results, Tryz.results109]
/-- what a call may do that is tried: it comes back, or panics with a refusal -/
def Tries (f : Nat) (args : Array Value) (b : Nat) (w : World) (R : Int → World → Prop) : Prop := Calls Tryz.prog f args w fun e w' => (∃ k, (k = 0 ∧ e = .returned (.tuple #[]) ∨ e = .panicked (pvs k)) ∧ R k w') ∧ Bk w' b 26 #[.int .i64 0]
def TriedE (b : Nat) (R : Int → World → Prop) (e : Ending) (w' : World) : Prop := ∃ k w2, e = .returned (.int .i64 k) ∧ R k w2 ∧ Nb w2 w' b ∧ Below b w2 w'
theorem tried_63 (a0 a1 a2 : Value) (w : World) (R : Int → World → Prop) (h : Tries 63 #[a0, a1, a2] w.heap.size (w.alloc (.cells #[.int .i64 0] 26)) R) : Calls Tryz.prog 62 #[.func (.func 63) #[] #[a0, a1, a2]] w (TriedE w.heap.size R) := by
  have hmf : ∀ (fn : Fn) (first cap : Array Value) (w : World), (Instr.makeFunc fn first cap).run Tryz.prog w = .ok (.func fn first cap) w := fun _ _ _ _ => rfl
  have HH := Lib.hid h
  clear h
  go_enter_defers Tryz.func62, Tryz.ntmps62
  go_wp2_with (first | (go_at_call 63; refine HH.out.mono ?_))
  rintro e w2 ⟨⟨k, ⟨rfl, rfl⟩ | rfl, hR⟩, hk⟩
  · have c0 := hk.cell 0 rfl
    have f0 := hk.fro 0
    have HK := Lib.hid (hk.set 0 (.int .i64 0))
    clear hk
    dsimp only
    go_wp2
    refine leaves_cons (f := 109) (args := #[.pointer (some ⟨w.heap.size, 0, none⟩)]) (by simp) (by simp [go_sem]) ?_
    refine (catch_idle ⟨w.heap.size, 0, none⟩ _).mono ?_
    rintro e u' w'' ⟨rfl, rfl, rfl⟩
    have c1 : (w2.setCell ⟨w.heap.size, 0, none⟩ (.int .i64 0)).cell? ⟨w.heap.size, 0, none⟩ = some (.int .i64 0) := HK.out.cell 0 rfl
    simp [Leaves, settle, results, Tryz.results62, go_sem]
    rw [c1]
    exact ⟨_, rfl, 0, w2, rfl, hR, (Nb.refl _ _).set 0 _, (Below.refl _ _).setCell (p := ⟨w.heap.size, 0, none⟩) (Nat.le_refl _) _⟩
  · dsimp only
    have HK1 := Lib.hid ((hk.set 0 (.int .i64 k)).alloc (.cells #[.int .i64 k] 80))
    refine leaves_cons (f := 109) (args := #[.pointer (some ⟨w.heap.size, 0, none⟩)]) (by simp) (by simp [go_sem]) ?_
    refine (catch_panic w.heap.size k 0 [] w2 hk).mono ?_
    rintro e u' w'' ⟨rfl, rfl, rfl⟩
    have c1 : ((w2.setCell ⟨w.heap.size, 0, none⟩ (.int .i64 k)).alloc (.cells #[.int .i64 k] 80)).cell? ⟨w.heap.size, 0, none⟩ = some (.int .i64 k) := HK1.out.cell 0 rfl
    have hlt := hk.lt
    simp [Leaves, settle, results, Tryz.results62, go_sem]
    rw [c1]
    exact ⟨_, rfl, k, w2, rfl, hR, ((Nb.refl _ _).set 0 _).alloc _, ((Below.refl _ _).setCell (p := ⟨w.heap.size, 0, none⟩) (Nat.le_refl _) _).alloc (by simp; omega) _⟩
theorem tried_87 (a0 a1 : Value) (w : World) (R : Int → World → Prop) (h : Tries 87 #[a0, a1] w.heap.size (w.alloc (.cells #[.int .i64 0] 26)) R) : Calls Tryz.prog 62 #[.func (.func 87) #[] #[a0, a1]] w (TriedE w.heap.size R) := by
  have hmf : ∀ (fn : Fn) (first cap : Array Value) (w : World), (Instr.makeFunc fn first cap).run Tryz.prog w = .ok (.func fn first cap) w := fun _ _ _ _ => rfl
  have HH := Lib.hid h
  clear h
  go_enter_defers Tryz.func62, Tryz.ntmps62
  go_wp2_with (first | (go_at_call 87; refine HH.out.mono ?_))
  rintro e w2 ⟨⟨k, ⟨rfl, rfl⟩ | rfl, hR⟩, hk⟩
  · have c0 := hk.cell 0 rfl
    have f0 := hk.fro 0
    have HK := Lib.hid (hk.set 0 (.int .i64 0))
    clear hk
    dsimp only
    go_wp2
    refine leaves_cons (f := 109) (args := #[.pointer (some ⟨w.heap.size, 0, none⟩)]) (by simp) (by simp [go_sem]) ?_
    refine (catch_idle ⟨w.heap.size, 0, none⟩ _).mono ?_
    rintro e u' w'' ⟨rfl, rfl, rfl⟩
    have c1 : (w2.setCell ⟨w.heap.size, 0, none⟩ (.int .i64 0)).cell? ⟨w.heap.size, 0, none⟩ = some (.int .i64 0) := HK.out.cell 0 rfl
    simp [Leaves, settle, results, Tryz.results62, go_sem]
    rw [c1]
    exact ⟨_, rfl, 0, w2, rfl, hR, (Nb.refl _ _).set 0 _, (Below.refl _ _).setCell (p := ⟨w.heap.size, 0, none⟩) (Nat.le_refl _) _⟩
  · dsimp only
    have HK1 := Lib.hid ((hk.set 0 (.int .i64 k)).alloc (.cells #[.int .i64 k] 80))
    refine leaves_cons (f := 109) (args := #[.pointer (some ⟨w.heap.size, 0, none⟩)]) (by simp) (by simp [go_sem]) ?_
    refine (catch_panic w.heap.size k 0 [] w2 hk).mono ?_
    rintro e u' w'' ⟨rfl, rfl, rfl⟩
    have c1 : ((w2.setCell ⟨w.heap.size, 0, none⟩ (.int .i64 k)).alloc (.cells #[.int .i64 k] 80)).cell? ⟨w.heap.size, 0, none⟩ = some (.int .i64 k) := HK1.out.cell 0 rfl
    have hlt := hk.lt
    simp [Leaves, settle, results, Tryz.results62, go_sem]
    rw [c1]
    exact ⟨_, rfl, k, w2, rfl, hR, ((Nb.refl _ _).set 0 _).alloc _, ((Below.refl _ _).setCell (p := ⟨w.heap.size, 0, none⟩) (Nat.le_refl _) _).alloc (by simp; omega) _⟩
end Go.Proofs.YtkfeagokmcakgaaGreatDoor

namespace Go.Proofs.YtkfeagokmcakgaaGreatDoor
open Go.RowKit

/-- a line that Parse passes over -/
def skipL (s : ByteArray) : Bool := match s.data.toList with
  | [] => true
  | c :: _ => decide ((c.toNat : Int) = 35)
/-- what Parse does with the lines from place i on: the error, the line, the rules -/
def prsG : List ByteArray → Nat → List Rul → Int → Int × Int × List Rul
  | [], _, l, at_ => (0, at_, l)
  | s :: r, i, l, at_ => if skipL s = true then prsG r (i + 1) l at_ else match rdR s with
    | none => (4, (i : Int) + 1, l)
    | some x => if refE l x = 0 then prsG r (i + 1) (l ++ [x]) ((i : Int) + 1) else (refE l x, (i : Int) + 1, l)
def nlB : ByteArray := ⟨#[10]⟩
def linesB (src : ByteArray) : List ByteArray := Lib.splitB nlB 0 (Lib.countB src nlB) src
def prsL (src : ByteArray) : Int × Int × List Rul := prsG (linesB src) 0 [] 0
theorem lines_small {src u : ByteArray} (h : u ∈ linesB src) : u.size ≤ src.size := splitB_small _ _ _ u h
theorem lines_len (src : ByteArray) : (linesB src).length = Lib.countB src nlB + 1 := Lib.splitB_all nlB (by decide) 0 _ src rfl
theorem lines_le (src : ByteArray) : (linesB src).length ≤ src.size + 2 := by
  rw [lines_len]
  have h := Lib.count_le src.data.toList nlB.data.toList
  rw [Array.length_toList] at h
  show Lib.count src.data.toList nlB.data.toList + 1 ≤ src.data.size + 2
  omega
theorem prs_at {L : List ByteArray} {k : Nat} (hk : k < L.length) (l : List Rul) (at_ : Int) : prsG (L.drop k) k l at_ = if skipL L[k] = true then prsG (L.drop (k + 1)) (k + 1) l at_ else match rdR L[k] with
    | none => (4, (k : Int) + 1, l)
    | some x => if refE l x = 0 then prsG (L.drop (k + 1)) (k + 1) (l ++ [x]) ((k : Int) + 1) else (refE l x, (k : Int) + 1, l) := by
  rw [List.drop_eq_getElem_cons hk]; rfl
theorem rdR_frm {s : ByteArray} {r : Rul} (h : rdR s = some r) : frm r = true := by
  unfold rdR at h
  split at h
  · split at h
    · obtain ⟨q, _, h2⟩ := Option.bind_eq_some_iff.1 h
      unfold rdF at h2
      split at h2
      · rename_i hq; cases h2; exact hq.1
      · cases h2
    · cases h
  · cases h
theorem nameB_le {s : ByteArray} (h : nameB s = true) : s.size ≤ 100 := by have := ((nameB_iff s).1 h).2.1; omega
theorem frm_ok {r : Rul} (h : frm r = true) : r.x.size ≤ 100 ∧ r.y.size ≤ 100 ∧ (0 ≤ r.kind ∧ r.kind ≤ 255) := by
  obtain ⟨-, -, hk⟩ := frm_bounds h
  have hs : shpB r = true := by unfold frm at h; simp only [Bool.and_eq_true] at h; exact h.2
  refine ⟨?_, ?_, by omega⟩
  · unfold shpB at hs
    split at hs
    · simp only [Bool.and_eq_true] at hs; exact nameB_le hs.1.1
    · split at hs
      · simp only [Bool.and_eq_true] at hs; exact nameB_le hs.1.1
      · split at hs
        · simp only [Bool.and_eq_true] at hs; exact nameB_le hs.1.1.1
        · split at hs
          · simp only [Bool.and_eq_true, decide_eq_true_eq] at hs; omega
          · cases hs
  · unfold shpB at hs
    split at hs
    · simp only [Bool.and_eq_true, decide_eq_true_eq] at hs; omega
    · split at hs
      · simp only [Bool.and_eq_true] at hs; exact nameB_le hs.1.2
      · split at hs
        · simp only [Bool.and_eq_true] at hs; exact nameB_le hs.1.1.2
        · split at hs
          · simp only [Bool.and_eq_true, decide_eq_true_eq] at hs; omega
          · cases hs
theorem refE_len {l : List Rul} {r : Rul} (h : refE l r = 0) : l.length < 200 := by
  unfold refE refG at h
  split at h
  · omega
  · omega
theorem skip_nil {s : ByteArray} (h : s.size = 0) : skipL s = true := by
  have : s.data.toList = [] := by rw [← List.length_eq_zero_iff, Array.length_toList]; exact h
  unfold skipL; rw [this]
theorem skip_hash {s : ByteArray} (h : 0 < s.size) : skipL s = decide ((s[0].toNat : Int) = 35) := by
  obtain ⟨⟨l⟩⟩ := s
  cases l with
  | nil => exact absurd h (by show ¬ 0 < 0; omega)
  | cons c r => rfl
end Go.Proofs.YtkfeagokmcakgaaGreatDoor

namespace Go.Proofs.YtkfeagokmcakgaaGreatDoor
open Go.RowKit

theorem wp_call_rule {o : Oper} {a : Act} {w : World} {s : ByteArray} {args : Array Value} {K : Act → World → Prop} {Q : Exit → Act → World → Prop} (he : (execOp a.eval o).run Tryz.prog w = .ok (.enter 65 args) w) (hc : Calls Tryz.prog 65 args w (RuleE s w))
    (hK : ∀ r w', rdR s = some r → Below w.heap.size w w' → K (a.put o.dst r.agg) w') (hQ : ∀ w', rdR s = none → Below w.heap.size w w' → Q (.panic (pvs 4)) a w') : o.wp Tryz.prog a w K Q := by
  unfold Oper.wp
  rw [he]
  refine hc.mono ?_
  intro e w' h
  unfold RuleE at h
  cases hn : rdR s with
  | some n => rw [hn] at h; obtain ⟨rfl, hb⟩ := h; exact hK n w' hn hb
  | none => rw [hn] at h; obtain ⟨rfl, hb⟩ := h; exact hQ w' hn hb
/-- what Parse's closure leaves behind -/
def PrsE (src : ByteArray) (bl bb : Nat) (w : World) (k : Int) (w' : World) : Prop :=
  ∃ at_ l, prsL src = (k, at_, l) ∧ Bk w' bl 3 #[.int .i64 at_] ∧ (k = 0 → ∃ A c, Bk w' bb 25 #[.slice A l.length c] ∧ (l.length ≤ c ∧ c ≤ maxLen) ∧ Lies w' w'.heap.size A (rulesC l) ∧ (∀ ad, A = some ad → w.heap.size ≤ ad.block) ∧ RulOK l ∧ l.length ≤ 200)
    ∧ (∀ B, B ≤ bl → B ≤ bb → Below B w w')
def Kept (bl bb : Nat) (w w' : World) : Prop := ∀ g t C, g ≠ bl → g ≠ bb → Bk w g t C → Bk w' g t C
theorem RulOK.snoc {l : List Rul} {r : Rul} (h : RulOK l) (hr : frm r = true) : RulOK (l ++ [r]) := fun x hx => by
  rcases List.mem_append.1 hx with h1 | h1
  · exact h x h1
  · simp at h1; subst h1; exact frm_ok hr
/-- the worlds of Parse's loop -/
structure PQ (bl bb : Nat) (w : World) (W : Array Value) (l : List Rul) (A : Option Addr) (c : Nat) (wr : World) : Prop where
  book : Bk wr bb 25 #[.slice A l.length c]
  own : wr.ownsRow w.heap.size 50 6 (.slice A l.length c) l.length (rulesC l)
  bel : ∀ B, B ≤ bl → B ≤ bb → Below B w wr
  keep : Kept bl bb w wr
  lines : Bk wr w.heap.size 9 W
theorem PQ.step {bl bb : Nat} {w V : World} {W : Array Value} {l : List Rul} {A : Option Addr} {c : Nat} {V' : World} (h : PQ bl bb w W l A c V) (hb : Below V.heap.size V V') : PQ bl bb w W l A c V' :=
  ⟨h.book.below hb h.book.lt, ownsRow_below h.own hb (Nat.le_refl _), fun B h1 h2 => (h.bel B h1 h2).trans (hb.mono (by have := h.book.lt; omega)), fun g t C h1 h2 hk => by have := h.keep g t C h1 h2 hk; exact this.below hb this.lt, h.lines.below hb h.lines.lt⟩
theorem PQ.set {bl bb : Nat} {w V : World} {W : Array Value} {l : List Rul} {A : Option Addr} {c : Nat} (h : PQ bl bb w W l A c V) (hne : bl ≠ bb) (hll : bl < w.heap.size) (v : Value) : PQ bl bb w W l A c (V.setCell ⟨bl, 0, none⟩ v) :=
  ⟨h.book.far (p := ⟨bl, 0, none⟩) (Ne.symm hne) v, (far_setCells bl [v] 0 V).own h.own hll, fun B h1 h2 => (h.bel B h1 h2).setCell (p := ⟨bl, 0, none⟩) h1 v, fun g t C h1 h2 hk => (h.keep g t C h1 h2 hk).far (p := ⟨bl, 0, none⟩) h1 v, h.lines.far (p := ⟨bl, 0, none⟩) (by show w.heap.size ≠ bl; omega) v⟩
theorem PQ.drew {bl bb : Nat} {w V : World} {W : Array Value} {l : List Rul} {A : Option Addr} {c : Nat} (h : PQ bl bb w W l A c V) : PQ bl bb w W l A c V.drew :=
  ⟨h.book.drew, h.own, fun B h1 h2 => (h.bel B h1 h2).drew, fun g t C h1 h2 hk => (h.keep g t C h1 h2 hk).drew, h.lines.drew⟩
/-- the state of Parse's loop ahead of line k -/
structure PSt (T : Int × Int × List Rul) (L : List ByteArray) (bl bb : Nat) (w : World) (k : Nat) (l : List Rul) (A : Option Addr) (c : Nat) (wr : World) : Prop where
  run : ∃ at_, prsG (L.drop k) k l at_ = T ∧ Bk wr bl 3 #[.int .i64 at_]
  ok : RulOK l ∧ l.length ≤ 200
  q : PQ bl bb w (L.map Value.string).toArray l A c wr
theorem PSt.skip {T : Int × Int × List Rul} {L : List ByteArray} {bl bb : Nat} {w wr : World} {k : Nat} {l : List Rul} {A : Option Addr} {c : Nat} (h : PSt T L bl bb w k l A c wr) (hk : k < L.length) (hs : skipL L[k] = true) : PSt T L bl bb w (k + 1) l A c wr := by
  obtain ⟨at_, h1, h2⟩ := h.run
  refine ⟨⟨at_, ?_, h2⟩, h.ok, h.q⟩
  rw [prs_at hk, if_pos hs] at h1; exact h1
set_option maxHeartbeats 4000000 in
set_option maxRecDepth 100000 in
theorem parse1_any (src : ByteArray) (bs bl bb : Nat) (w : World) (hg : Glob w) (hs : src.size ≤ 1000) (hbs : Bk w bs 9 #[.string src]) (hbl : Bk w bl 3 #[.int .i64 0]) (hbb : Bk w bb 25 #[.slice none 0 0]) (hl8 : 8 ≤ bl) (hb8 : 8 ≤ bb) (hne : bl ≠ bb) :
    Calls Tryz.prog 63 #[.pointer (some ⟨bs, 0, none⟩), .pointer (some ⟨bl, 0, none⟩), .pointer (some ⟨bb, 0, none⟩)] w (fun e w' => ∃ k, (k = 0 ∧ e = .returned (.tuple #[]) ∨ e = .panicked (pvs k)) ∧ PrsE src bl bb w k w' ∧ Kept bl bb w w') := by
  obtain ⟨mx, hmx⟩ := hg.max
  have HSP0 := Lib.hid (Tryz.strings_Split src nlB mx w (by omega) hmx (by decide))
  rw [← lines_len, ← linesB] at HSP0
  have HSM : Hid (∀ u ∈ linesB src, u.size ≤ 1000) := fun u hu => Nat.le_trans (lines_small hu) hs
  have HLN : Hid ((linesB src).length ≤ 1002) := Nat.le_trans (lines_le src) (by omega)
  have HG : Hid (∀ V, (∀ B, B ≤ bl → B ≤ bb → Below B w V) → Glob V) := fun V h => hg.below (h 8 hl8 hb8) (Nat.le_refl _)
  have HT : Hid (prsL src = prsG (linesB src) 0 [] 0) := rfl
  generalize linesB src = L at *
  obtain ⟨N, hN⟩ : ∃ N, N = L.length := ⟨_, rfl⟩
  rw [← hN] at HSP0 HLN
  have hN2 : N ≤ 1002 := HLN.out
  have HNL := Lib.hid hN
  have HSP1 : Hid (Calls Tryz.prog 64 #[.string src, .string ⟨#[10]⟩] w fun e w' => e = .returned (.slice (some ⟨w.heap.size, 0, none⟩) N N) ∧ Hid (Bk w' w.heap.size 9 (L.map Value.string).toArray) ∧ Hid (Kept bl bb w w') ∧ Hid (∀ B, B ≤ bl → B ≤ bb → Below B w w') ∧ w'.heap.size = w.heap.size + 1 ∧ Hid (Bk w' bl 3 #[.int .i64 0] ∧ Bk w' bb 25 #[.slice none 0 0])) := by
    refine HSP0.out.mono ?_
    rintro e w' ⟨rfl, rfl⟩
    exact ⟨rfl, Bk.new _ _ _, fun g t C _ _ h => h.alloc _, fun B hB _ => (Below.refl _ _).alloc (by have := hbl.lt; omega) _, by simp, hbl.alloc _, hbb.alloc _⟩
  have hbsc := hbs.cell 0 rfl
  have HL := Lib.hid hbl
  have HB := Lib.hid hbb
  have hll := hbl.lt
  have hbbl := hbb.lt
  clear hbs hbl hbb HSP0 HLN hg hmx hN
  go_enter Tryz.func63, Tryz.ntmps63
  go_wp2_with (first | (go_at_call 64; refine HSP1.out.mono ?_; rintro e wz ⟨rfl, HKW, HKP, HBZ, hzs, HZW⟩))
  have HBL : Bk wz bl 3 #[.int .i64 0] := HZW.out.1
  have HBBZ : Bk wz bb 25 #[.slice none 0 0] := HZW.out.2
  have HP0 : Hid (PSt (prsL src) L bl bb w 0 [] none 0 wz) := ⟨⟨0, HT.out.symm, HBL⟩, ⟨fun r hr => absurd hr (by simp), by simp⟩, HBBZ, World.ownsRow_nil _ _ _ _, HBZ.out, HKP.out, HKW.out⟩
  have hLN : L.length = N := HNL.out.symm
  go_loopw [10] (fun y wr => ∃ (k : Nat) (l : List Rul) (A : Option Addr) (c : Nat), k ≤ N ∧ y = .int .i64 k ∧ Hid (PSt (prsL src) L bl bb w k l A c wr)) (fun y _ => N - (intOf y).toNat)
  case atStart => exact ⟨0, [], none, 0, by omega, rfl, HP0⟩
  case round =>
    clear HP0
    obtain ⟨k, l, A, c, hk, rfl, hP⟩ := hrel
    by_cases hlt : k < N
    · have hkL : k < L.length := by omega
      have hKL := hP.out.q.lines
      have xk : wr.cell? ⟨w.heap.size, k, none⟩ = some (.string L[k]) := hKL.cell k (by simp [hkL])
      have HSK := Lib.hid (fun h => hP.out.skip hkL h)
      have HAT := Lib.hid (prs_at hkL)
      have HS1 := Lib.hid (HSM.out L[k] (List.getElem_mem hkL))
      generalize hs : L[k] = s at *
      have E1 := noE s
      have E2 := noL s
      by_cases h0 : s.size = 0
      · rw [decide_eq_true h0] at E1
        replace E2 := E2.2 h0
        have HP1 := Lib.hid (HSK.out (skip_nil h0))
        clear h0 hs hKL HAT
        go_wp2_with fail
        go_roundw
        case rel => exact ⟨k + 1, l, A, c, by omega, by go_num, HP1⟩
        case measure => simp [intOf]; omega
      · have hp' : 0 < s.size := by omega
        rw [decide_eq_false h0] at E1
        replace E2 := fun h => h0 (E2.1 h)
        by_cases hq : (s[0].toNat : Int) = 35
        · have HP1 := Lib.hid (HSK.out (by rw [skip_hash hp']; exact decide_eq_true hq))
          have hq2 : ((s[0].toNat : Int) == 35) = true := by rw [hq]; rfl
          clear hs hKL HAT
          go_wp2_with fail
          go_roundw
          case rel => exact ⟨k + 1, l, A, c, by omega, by go_num, HP1⟩
          case measure => simp [intOf]; omega
        · have hns : skipL s = false := by rw [skip_hash hp']; exact decide_eq_false hq
          have hq2 : ((s[0].toNat : Int) == 35) = false := by simpa using hq
          have HAT2 : Hid (∀ at_, prsG (L.drop k) k l at_ = match rdR s with
              | none => (4, (k : Int) + 1, l)
              | some x => if refE l x = 0 then prsG (L.drop (k + 1)) (k + 1) (l ++ [x]) ((k : Int) + 1) else (refE l x, (k : Int) + 1, l)) := fun at_ => by
            rw [HAT.out l at_, hns]; rfl
          have b0 : ∃ at_, Bk wr bl 3 #[.int .i64 at_] := hP.out.run.elim fun at_ h => ⟨at_, h.2⟩
          obtain ⟨at_, hbl⟩ := b0
          have q0 := hbl.cell 0 rfl
          have q1 := hbl.fro 0
          have HBL2 := Lib.hid hbl
          have HPK := Lib.hid hP.out.q.keep
          clear hs hKL HAT HSK hns hq hbl
          go_upto_region 5 with fail
          have HQ4 : Hid (PQ bl bb w (L.map Value.string).toArray l A c (wr.setCell ⟨bl, 0, none⟩ (.int .i64 (k + 1)))) := hP.out.q.set hne hll _
          have HL4 : Hid (Bk (wr.setCell ⟨bl, 0, none⟩ (.int .i64 (k + 1))) bl 3 #[.int .i64 (k + 1)]) := HBL2.out.set 0 _
          have HK4 : Hid (Kept bl bb w (wr.setCell ⟨bl, 0, none⟩ (.int .i64 (k + 1)))) := fun g t C h1 h2 hk => (HPK.out g t C h1 h2 hk).far (p := ⟨bl, 0, none⟩) h1 _
          have HT4 : Hid (∀ e at2 l2, (match rdR s with
              | none => (4, (k : Int) + 1, l)
              | some x => if refE l x = 0 then prsG (L.drop (k + 1)) (k + 1) (l ++ [x]) ((k : Int) + 1) else (refE l x, (k : Int) + 1, l)) = (e, at2, l2) → prsL src = (e, at2, l2)) := fun e at2 l2 h => by
            obtain ⟨at0, h1, h2⟩ := hP.out.run
            rw [← h1, HAT2.out at0, h]
          have HT6 : Hid (∀ x, rdR s = some x → refE l x = 0 → prsG (L.drop (k + 1)) (k + 1) (l ++ [x]) ((k : Int) + 1) = prsL src) := fun x h1 h2 => by
            obtain ⟨at0, h3, _⟩ := hP.out.run
            rw [← h3, HAT2.out at0, h1]
            show _ = if refE l x = 0 then _ else _
            rw [if_pos h2]
          have HOK4 := Lib.hid hP.out.ok
          clear q0 q1 HBL2 HPK
          generalize wr.setCell ⟨bl, 0, none⟩ (.int .i64 (k + 1)) = W4 at *
          refine wp_region_held_drew (S := fun V => V.cell? ⟨bb, 0, none⟩ = some (.slice A l.length c)) (by kernel_rfl) ?_ (fun hHeld => ?_)
          · exact HQ4.out.drew.book.cell 0 rfl
          refine tk 0 24 ?_
          refine tk 1 25 ?_
          refine tk 2 26 ?_
          have HQ5 := Lib.hid HQ4.out.drew
          have HL5 := Lib.hid HL4.out.drew
          have HK5 : Hid (Kept bl bb w W4.drew) := fun g t C h1 h2 hk => (HK4.out g t C h1 h2 hk).drew
          clear HQ4 HL4 HK4 hHeld
          generalize W4.drew = W5 at *
          refine held_one 3 ⟨some 27, .call { callee := .value (.func 65), args := #[.tmp 26], argTypes := #[9] }, 50, _, _, none⟩ rfl (by kernel_rfl) (by rfl) ?_
          refine wp_call_rule (s := s) (args := #[.string s]) (by go_simp) (ruleOf_any s W5 (HG.out _ HQ5.out.bel) HS1.out) ?_ ?_
          · intro x V6 hx hb6
            have HX := Lib.hid hx
            have HQ6 := Lib.hid (HQ5.out.step hb6)
            have HL6 := Lib.hid (HL5.out.below hb6 HL5.out.lt)
            have HK6 : Hid (Kept bl bb w V6) := fun g t C h1 h2 hk => by have := HK5.out g t C h1 h2 hk; exact this.below hb6 this.lt
            refine ⟨HQ6.out.book.cell 0 rfl, ?_⟩
            (try simp only [Act.put, List.setIfInBounds_toArray, List.set_cons_zero, List.set_cons_succ])
            clear hb6 hx HQ5 HL5 HK5
            refine held_one 4 ⟨some 28, .buildSlice 23 1 #[(0, .tmp 27)], 23, _, _, none⟩ rfl (by kernel_rfl) (by rfl) ?_
            unfold Oper.wp
            go_simp
            have HQ7 := Lib.hid (HQ6.out.step ((Below.refl _ _).alloc (Nat.le_refl _) (.cells #[.int .i64 x.id, .int .i64 x.known, .int .u8 x.kind, .string x.x, .string x.y, .int .i64 x.of] 50)))
            have HL7 := Lib.hid (HL6.out.alloc (.cells #[.int .i64 x.id, .int .i64 x.known, .int .u8 x.kind, .string x.x, .string x.y, .int .i64 x.of] 50))
            have HR7 : Hid (Bk (V6.alloc (.cells #[.int .i64 x.id, .int .i64 x.known, .int .u8 x.kind, .string x.x, .string x.y, .int .i64 x.of] 50)) V6.heap.size 50 #[.int .i64 x.id, .int .i64 x.known, .int .u8 x.kind, .string x.x, .string x.y, .int .i64 x.of]) := Bk.new _ _ _
            refine ⟨HQ7.out.book.cell 0 rfl, ?_⟩
            (try simp only [Act.put, List.setIfInBounds_toArray, List.set_cons_zero, List.set_cons_succ])
            clear HQ6 HL6 HK6
            generalize hV7 : V6.alloc (.cells #[.int .i64 x.id, .int .i64 x.known, .int .u8 x.kind, .string x.x, .string x.y, .int .i64 x.of] 50) = V7 at *
            refine held_one 5 ⟨some 29, .call { callee := .builtin .append, args := #[.tmp 25, .tmp 28], argTypes := #[23, 23] }, 23, _, _, none⟩ rfl (by kernel_rfl) (by rfl) ?_
            refine wp_append1 V7 (.tmp 25) (.tmp 28) 23 rfl w.heap.size 50 zeroRul 6 64 Tryz.underlying23 info50 (by decide) (by decide) (.slice A l.length c) l.length (rulesC l) rfl HQ7.out.own V6.heap.size #[.int .i64 x.id, .int .i64 x.known, .int .u8 x.kind, .string x.x, .string x.y, .int .i64 x.of] 50 rfl HR7.out (by simp) (by intro u hu; simp at hu; rcases hu with rfl | rfl | rfl | rfl | rfl | rfl <;> rfl) (Nat.lt_of_le_of_lt HOK4.out.2 (by decide)) (by decide) (Nat.le_of_lt HQ7.out.lines.lt) V7 (Below.refl _ _) ?_
            intro v8 V8 own8 bel8 gr8
            have bk8 := HQ7.out.book.below bel8 hbbl
            refine ⟨bk8.cell 0 rfl, ?_⟩
            (try simp only [Act.put, List.setIfInBounds_toArray, List.set_cons_zero, List.set_cons_succ])
            obtain ⟨A8, c8, rfl, hc8⟩ := ownsSlice own8
            have hS8 := bk8.cell 0 rfl
            refine tk 6 5 ?_
            refine wpAnyH_done (by kernel_rfl) ?_ _
            have HO8 := Lib.hid own8
            have HC8 := Lib.hid hc8
            have HB8 := Lib.hid bk8
            have HL8 := Lib.hid (HL7.out.below bel8 hll)
            have HK8 : Hid (Kept bl bb w V8) := fun g t C h1 h2 hk => (HQ7.out.keep g t C h1 h2 hk).below bel8 hk.lt
            have HW8 := Lib.hid (HQ7.out.lines.grown gr8 (own_ne HQ7.out.own HQ7.out.lines (by decide)))
            have HE8 : Hid (∀ B, B ≤ bl → B ≤ bb → Below B w V8) := fun B h1 h2 => (HQ7.out.bel B h1 h2).trans (bel8.mono (by omega))
            have HF8 := Lib.hid (rdR_frm HX.out)
            have HRO : Hid (RulOK (l ++ [x])) := HOK4.out.1.snoc HF8.out
            have HRF : Hid (Calls Tryz.prog 66 #[.slice A8 (l.length + 1) c8, .int .i64 l.length] V8 (IntEnd (refE l x) V8)) := by
              have h1 := ownsRow_lies own8
              rw [show rulesC l ++ (#[.int .i64 x.id, .int .i64 x.known, .int .u8 x.kind, .string x.x, .string x.y, .int .i64 x.of] : Array Value).toList = rulesC (l ++ [x]) from rulesC_snoc l x] at h1
              have h4 := refused_any (l ++ [x]) A8 c8 l.length V8 h1 HRO.out (by simp) (by have := HOK4.out.2; simp; omega) (by simpa using hc8.1) hc8.2
              rw [List.take_left, List.getElem_append_right (by omega)] at h4
              exact Lib.hid (by simpa using h4)
            have HR0 : Hid (refE l x = 0 → l.length < 200) := refE_len
            clear own8 hc8 bk8 bel8 gr8 HQ7 HL7 HR7 hV7
            have HTX : Hid (∀ e, refE l x = e → e ≠ 0 → prsL src = (e, (k : Int) + 1, l)) := fun e h1 h2 => HT4.out _ _ _ (by
              rw [HX.out]
              show (if refE l x = 0 then _ else _) = _
              rw [if_neg (by rw [h1]; exact h2), h1])
            have HT7 := Lib.hid (HT6.out x HX.out)
            clear HT4 HT6 HAT2
            generalize refE l x = R at *
            go_upto_region 7 with (first | (go_at_call 66; refine HRF.out.mono ?_; rintro e V9 ⟨rfl, hb9⟩))
            have HB9 := Lib.hid (HB8.out.below hb9 HB8.out.lt)
            have HL9 := Lib.hid (HL8.out.below hb9 HL8.out.lt)
            have HK9 : Hid (Kept bl bb w V9) := fun g t C h1 h2 hk => by have := HK8.out g t C h1 h2 hk; exact this.below hb9 this.lt
            have HW9 := Lib.hid (HW8.out.below hb9 HW8.out.lt)
            have HE9 : Hid (∀ B, B ≤ bl → B ≤ bb → Below B w V9) := fun B h1 h2 => (HE8.out B h1 h2).trans (hb9.mono (by have := HB8.out.lt; omega))
            have HO9 := Lib.hid (ownsRow_below HO8.out hb9 (Nat.le_refl _))
            have c9 := HB9.out.cell 0 rfl
            have f9 := HB9.out.fro 0
            clear HB8 HL8 HK8 HW8 HE8 HO8 hb9 hS8 HRF
            by_cases hZ : R = 0
            · subst hZ
              have HT8 := Lib.hid (HT7.out rfl)
              have HR1 := Lib.hid (HR0.out rfl)
              clear HT7 HR0 HTX
              go_wp2_with fail
              go_roundw
              case rel =>
                refine ⟨k + 1, l ++ [x], A8, c8, by omega, by go_num, ⟨(k : Int) + 1, HT8.out, HL9.out.far (p := ⟨bb, 0, none⟩) hne _⟩, ⟨HRO.out, by have := HR1.out; simp; omega⟩, ?_, ?_, fun B h1 h2 => (HE9.out B h1 h2).setCell (p := ⟨bb, 0, none⟩) h2 _, fun g t C h1 h2 hk => (HK9.out g t C h1 h2 hk).far (p := ⟨bb, 0, none⟩) h2 _, HW9.out.far (p := ⟨bb, 0, none⟩) (by show w.heap.size ≠ bb; omega) _⟩
                · rw [List.length_append]; exact HB9.out.set 0 _
                · have h1 := (far_setCells bb [.slice A8 (l.length + 1) c8] 0 V9).own HO9.out hbbl
                  rw [show rulesC l ++ (#[.int .i64 x.id, .int .i64 x.known, .int .u8 x.kind, .string x.x, .string x.y, .int .i64 x.of] : Array Value).toList = rulesC (l ++ [x]) from rulesC_snoc l x] at h1
                  rw [List.length_append]; exact h1
              case measure => simp [intOf]; omega
            · have hR' : (R == 0) = false := by simpa using hZ
              have hR2 : (R != 0) = true := by rw [bne, hR']; rfl
              have HZZ := Lib.hid hZ
              have HT8 := Lib.hid (HTX.out R rfl hZ)
              clear hZ HT7 HR0 HTX
              go_wp2_with fail
              exact ⟨rfl, R, .inr rfl, ⟨(k : Int) + 1, l, HT8.out, HL9.out, fun h => absurd h HZZ.out, HE9.out⟩, HK9.out⟩
          · intro V6 hx hb6
            refine ⟨rfl, 4, .inr rfl, ⟨(k : Int) + 1, l, HT4.out _ _ _ (by rw [hx]), HL5.out.below hb6 HL5.out.lt, fun h => absurd h (by decide), (HQ5.out.step hb6).bel⟩, fun g t C h1 h2 hk => by have := HK5.out g t C h1 h2 hk; exact this.below hb6 this.lt⟩
    · obtain rfl : k = N := by omega
      have HZ : Hid (PrsE src bl bb w 0 wr) := by
        obtain ⟨at_, h1, h2⟩ := hP.out.run
        rw [List.drop_eq_nil_of_le (by omega)] at h1
        exact ⟨at_, l, h1.symm, h2, fun _ => ⟨A, c, hP.out.q.book, by
          obtain ⟨A', c', e, h3⟩ := ownsSlice hP.out.q.own
          cases e; exact h3, ownsRow_lies hP.out.q.own, own_ge hP.out.q.own, hP.out.ok.1, hP.out.ok.2⟩, hP.out.q.bel⟩
      have HKN : Hid (Kept bl bb w wr) := hP.out.q.keep
      go_wp2_with fail
      go_end0
      exact ⟨0, .inl ⟨rfl, rfl⟩, HZ.out, HKN.out⟩
end Go.Proofs.YtkfeagokmcakgaaGreatDoor

namespace Go.Proofs.YtkfeagokmcakgaaGreatDoor
open Go.RowKit

theorem results_two {P : Program} {fn : Func} {s t ty tz : Nat} (h : fn.results = #[.cell s ty, .cell t tz]) (tmps : Array Value) (w : World) (b b2 : Nat) (cs cs2 : List Value) (d d2 : TypeDesc) (ha : tmps.getD s undef = .pointer (some ⟨b, 0, none⟩)) (ha2 : tmps.getD t undef = .pointer (some ⟨b2, 0, none⟩))
    (hc : w.rangeAt b 0 cs) (hu : P.underlying ty = some d) (hd : d.isRow = true) (hi : (P.info? ty).map (·.size) = some cs.length) (hc2 : w.rangeAt b2 0 cs2) (hu2 : P.underlying tz = some d2) (hd2 : d2.isRow = true) (hi2 : (P.info? tz).map (·.size) = some cs2.length) : (results fn tmps).run P w = .ok (.tuple #[.agg cs.toArray, .agg cs2.toArray]) w := by
  have hl := run_loadVar_mid (P := P) w b 0 ty cs d hc hu hd hi
  have hl2 := run_loadVar_mid (P := P) w b2 0 tz cs2 d2 hc2 hu2 hd2 hi2
  have ha' : tmps[s]?.getD undef = .pointer (some ⟨b, 0, none⟩) := by simpa [Array.getD_eq_getD_getElem?] using ha
  have ha2' : tmps[t]?.getD undef = .pointer (some ⟨b2, 0, none⟩) := by simpa [Array.getD_eq_getD_getElem?] using ha2
  simp [results, h, ha', ha2', asAddr, hl, hl2]
theorem info28 : (Tryz.prog.info? 28).map (·.size) = some 3 := by kernel_rfl
def prsR (src : ByteArray) : Int × Int × List Rul := if 20000 < src.size then (2, 0, []) else if (prsL src).1 = 0 then (0, 0, (prsL src).2.2) else ((prsL src).1, (prsL src).2.1, [])
def ParseE (src : ByteArray) (w : World) (e : Ending) (w' : World) : Prop := ∃ k at_ l A c, prsR src = (k, at_, l) ∧ e = .returned (.tuple #[.agg #[.slice A l.length c], .agg #[.int .i64 k, .int .i64 at_, .int .i64 0]]) ∧ Lies w' w'.heap.size A (rulesC l) ∧ (l.length ≤ c ∧ c ≤ maxLen) ∧ (RulOK l ∧ l.length ≤ 200) ∧ Below w.heap.size w w'
theorem parse_bad {src : ByteArray} {w w' : World} {k at_ : Int} (h : prsR src = (k, at_, [])) (hb : Below w.heap.size w w') : ParseE src w (.returned (.tuple #[.agg #[.slice none 0 0], .agg #[.int .i64 k, .int .i64 at_, .int .i64 0]])) w' :=
  ⟨k, at_, [], none, 0, h, rfl, fun hn => absurd rfl hn, ⟨Nat.le_refl _, Nat.zero_le _⟩, ⟨fun r hr => absurd hr (by simp), by simp⟩, hb⟩
set_option maxHeartbeats 4000000 in
set_option maxRecDepth 100000 in
theorem parse_any (src : ByteArray) (w : World) (hg : Glob w) (hs : src.size ≤ 1000 ∨ 20000 < src.size) (hs2 : src.size ≤ 1000000) : Calls Tryz.prog 18 #[.string src] w (ParseE src w) := by
  have h8 := hg.size
  by_cases hbig : 20000 < src.size
  · have HR : Hid (prsR src = (2, 0, [])) := by show prsR src = _; unfold prsR; rw [if_pos hbig]
    have hi : (20000 : Int) < src.size := by omega
    clear hs hg
    go_enter Tryz.func18, Tryz.ntmps18
    go_wp2
    have k1 : Bk (((w.alloc (.cells #[.string src] 9)).alloc (.cells #[.slice none 0 0] 25)).alloc (.cells #[.int .i64 2, .int .i64 0, .int .i64 0] 28)) (w.heap.size + 1) 25 #[.slice none 0 0] := by
      have h := (Bk.new (w.alloc (.cells #[.string src] 9)) 25 #[.slice none 0 0]).alloc (.cells #[.int .i64 2, .int .i64 0, .int .i64 0] 28)
      simpa using h
    have k2 : Bk (((w.alloc (.cells #[.string src] 9)).alloc (.cells #[.slice none 0 0] 25)).alloc (.cells #[.int .i64 2, .int .i64 0, .int .i64 0] 28)) (w.heap.size + 1 + 1) 28 #[.int .i64 2, .int .i64 0, .int .i64 0] := by
      have h := Bk.new ((w.alloc (.cells #[.string src] 9)).alloc (.cells #[.slice none 0 0] 25)) 28 #[.int .i64 2, .int .i64 0, .int .i64 0]
      simpa using h
    refine bodyPost_ret (results_two rfl _ _ (w.heap.size + 1) (w.heap.size + 1 + 1) [.slice none 0 0] [.int .i64 2, .int .i64 0, .int .i64 0] _ _ rfl rfl k1.range Tryz.underlying25 rfl info25 k2.range Tryz.underlying28 rfl info28) rfl ?_
    exact parse_bad HR.out ((((Below.refl _ _).alloc (Nat.le_refl _) _).alloc (by simp) _).alloc (by simp; omega) _)
  · have hs1 : src.size ≤ 1000 := by omega
    have hi : ¬ (20000 : Int) < src.size := by omega
    have HR : Hid (prsR src = if (prsL src).1 = 0 then (0, 0, (prsL src).2.2) else ((prsL src).1, (prsL src).2.1, [])) := by show prsR src = _; unfold prsR; rw [if_neg hbig]
    have HG := Lib.hid hg
    have hmf : ∀ (fn : Fn) (first cap : Array Value) (w : World), (Instr.makeFunc fn first cap).run Tryz.prog w = .ok (.func fn first cap) w := fun _ _ _ _ => rfl
    clear hs hg hbig
    go_enter Tryz.func18, Tryz.ntmps18
    go_upto_region 5 with fail
    have HX0 : Hid (Bk (((((w.alloc (.cells #[.string src] 9)).alloc (.cells #[.slice none 0 0] 25)).alloc (.cells #[.int .i64 0, .int .i64 0, .int .i64 0] 28)).alloc (.cells #[.slice none 0 0] 25)).alloc (.cells #[.int .i64 0] 3)) (w.heap.size) 9 #[.string src]) := (((((Bk.new w 9 #[.string src]).alloc _).alloc _).alloc _).alloc _)
    have HX1 : Hid (Bk (((((w.alloc (.cells #[.string src] 9)).alloc (.cells #[.slice none 0 0] 25)).alloc (.cells #[.int .i64 0, .int .i64 0, .int .i64 0] 28)).alloc (.cells #[.slice none 0 0] 25)).alloc (.cells #[.int .i64 0] 3)) (w.heap.size + 1) 25 #[.slice none 0 0]) := Lib.hid (by have h := (((Bk.new (w.alloc (.cells #[.string src] 9)) 25 #[.slice none 0 0]).alloc (.cells #[.int .i64 0, .int .i64 0, .int .i64 0] 28)).alloc (.cells #[.slice none 0 0] 25)).alloc (.cells #[.int .i64 0] 3); simpa using h)
    have HX2 : Hid (Bk (((((w.alloc (.cells #[.string src] 9)).alloc (.cells #[.slice none 0 0] 25)).alloc (.cells #[.int .i64 0, .int .i64 0, .int .i64 0] 28)).alloc (.cells #[.slice none 0 0] 25)).alloc (.cells #[.int .i64 0] 3)) (w.heap.size + 1 + 1) 28 #[.int .i64 0, .int .i64 0, .int .i64 0]) := Lib.hid (by have h := ((Bk.new ((w.alloc (.cells #[.string src] 9)).alloc (.cells #[.slice none 0 0] 25)) 28 #[.int .i64 0, .int .i64 0, .int .i64 0]).alloc (.cells #[.slice none 0 0] 25)).alloc (.cells #[.int .i64 0] 3); simpa using h)
    have HX3 : Hid (Bk (((((w.alloc (.cells #[.string src] 9)).alloc (.cells #[.slice none 0 0] 25)).alloc (.cells #[.int .i64 0, .int .i64 0, .int .i64 0] 28)).alloc (.cells #[.slice none 0 0] 25)).alloc (.cells #[.int .i64 0] 3)) (w.heap.size + 1 + 1 + 1) 25 #[.slice none 0 0]) := Lib.hid (by have h := (Bk.new (((w.alloc (.cells #[.string src] 9)).alloc (.cells #[.slice none 0 0] 25)).alloc (.cells #[.int .i64 0, .int .i64 0, .int .i64 0] 28)) 25 #[.slice none 0 0]).alloc (.cells #[.int .i64 0] 3); simpa using h)
    have HX4 : Hid (Bk (((((w.alloc (.cells #[.string src] 9)).alloc (.cells #[.slice none 0 0] 25)).alloc (.cells #[.int .i64 0, .int .i64 0, .int .i64 0] 28)).alloc (.cells #[.slice none 0 0] 25)).alloc (.cells #[.int .i64 0] 3)) (w.heap.size + 1 + 1 + 1 + 1) 3 #[.int .i64 0]) := Lib.hid (by have h := Bk.new ((((w.alloc (.cells #[.string src] 9)).alloc (.cells #[.slice none 0 0] 25)).alloc (.cells #[.int .i64 0, .int .i64 0, .int .i64 0] 28)).alloc (.cells #[.slice none 0 0] 25)) 3 #[.int .i64 0]; simpa using h)
    have hxs : (((((w.alloc (.cells #[.string src] 9)).alloc (.cells #[.slice none 0 0] 25)).alloc (.cells #[.int .i64 0, .int .i64 0, .int .i64 0] 28)).alloc (.cells #[.slice none 0 0] 25)).alloc (.cells #[.int .i64 0] 3)).heap.size = w.heap.size + 5 := by simp
    have HXB : Hid (Below w.heap.size w (((((w.alloc (.cells #[.string src] 9)).alloc (.cells #[.slice none 0 0] 25)).alloc (.cells #[.int .i64 0, .int .i64 0, .int .i64 0] 28)).alloc (.cells #[.slice none 0 0] 25)).alloc (.cells #[.int .i64 0] 3))) := (((((Below.refl _ _).alloc (Nat.le_refl _) _).alloc (by simp) _).alloc (by simp; omega) _).alloc (by simp; omega) _).alloc (by simp; omega) _
    generalize (((((w.alloc (.cells #[.string src] 9)).alloc (.cells #[.slice none 0 0] 25)).alloc (.cells #[.int .i64 0, .int .i64 0, .int .i64 0] 28)).alloc (.cells #[.slice none 0 0] 25)).alloc (.cells #[.int .i64 0] 3)) = X at *
    have HTR : Tries 63 #[.pointer (some ⟨w.heap.size, 0, none⟩), .pointer (some ⟨w.heap.size + 1 + 1 + 1 + 1, 0, none⟩), .pointer (some ⟨w.heap.size + 1 + 1 + 1, 0, none⟩)] X.heap.size (X.alloc (.cells #[.int .i64 0] 26)) (fun k V => PrsE src (w.heap.size + 1 + 1 + 1 + 1) (w.heap.size + 1 + 1 + 1) (X.alloc (.cells #[.int .i64 0] 26)) k V ∧ Kept (w.heap.size + 1 + 1 + 1 + 1) (w.heap.size + 1 + 1 + 1) (X.alloc (.cells #[.int .i64 0] 26)) V) :=
      (parse1_any src (w.heap.size) (w.heap.size + 1 + 1 + 1 + 1) (w.heap.size + 1 + 1 + 1) (X.alloc (.cells #[.int .i64 0] 26)) (HG.out.step (HXB.out.alloc HXB.out.size _)) hs1 (HX0.out.alloc _) (HX4.out.alloc _) (HX3.out.alloc _) (by omega) (by omega) (by omega)).mono (fun e w' ⟨k, h, h1, h2⟩ => ⟨⟨k, h, h1, h2⟩, h2 _ _ _ (by omega) (by omega) (Bk.new X 26 _)⟩)
    have HTD := Lib.hid (tried_63 (.pointer (some ⟨w.heap.size, 0, none⟩)) (.pointer (some ⟨w.heap.size + 1 + 1 + 1 + 1, 0, none⟩)) (.pointer (some ⟨w.heap.size + 1 + 1 + 1, 0, none⟩)) X _ HTR)
    clear HTR
    go_upto_region 6 with (first | (go_at_call 62; refine HTD.out.mono ?_; rintro e V ⟨k, w2, rfl, ⟨⟨at_, l, hT, hL2, hres, hbel⟩, hkp⟩, hnb, hbl⟩))
    have k1 := (hkp _ _ _ (by omega) (by omega) (HX1.out.alloc (.cells #[.int .i64 0] 26))).below hbl (by omega)
    have k2 := (hkp _ _ _ (by omega) (by omega) (HX2.out.alloc (.cells #[.int .i64 0] 26))).below hbl (by omega)
    have k4 := hL2.below hbl (by omega)
    have HBV : Hid (Below w.heap.size w V) := Lib.hid (((HXB.out.alloc HXB.out.size _).trans (hbel _ (by omega) (by omega))).trans (hbl.mono (by omega)))
    by_cases hk0 : k = 0
    · subst hk0
      obtain ⟨A, c, h3, hcc, hlies, hA, hok⟩ := hres rfl
      have k3 := h3.below hbl (by omega)
      have HLI : Hid (Lies V V.heap.size A (rulesC l)) := Lib.hid (hnb.lies (hlies) (fun ad e => by have := hA ad e; simp at this; omega))
      have HA := Lib.hid hA
      have HOK := Lib.hid hok
      have HCC := Lib.hid hcc
      have HRR : Hid (prsR src = (0, 0, l)) := by show _ = _; rw [HR.out, hT]; rfl
      have c3 := k3.cell 0 rfl
      have K1 := Lib.hid k1
      have K2 := Lib.hid k2
      clear k1 k2 k3 k4 hres hbel hkp hL2 h3 hlies hA hok hcc hnb hbl hT
      go_wp2_with (first | (refine wpList_store_blk (P := Tryz.prog) rfl 25 (.tmp 2) (.tmp 20) rfl (w.heap.size + 1) #[.slice none 0 0] #[.slice A l.length c] rfl rfl K1.out rfl info25 (by intro v hv; simp at hv; subst hv; rfl) ?_; intro W8 k8 f8) | (refine wpList_store_blk (P := Tryz.prog) rfl 28 (.tmp 3) (.tmp 21) rfl (w.heap.size + 1 + 1) #[.int .i64 0, .int .i64 0, .int .i64 0] #[.int .i64 0, .int .i64 0, .int .i64 0] rfl rfl (f8.bk (by omega) K2.out) rfl info28 (by intro v hv; simp at hv; subst hv; rfl) ?_; intro W9 k9 f9))
      have k89 := f9.bk (by omega) k8
      refine bodyPost_ret (results_two rfl _ _ (w.heap.size + 1) (w.heap.size + 1 + 1) [.slice A l.length c] [.int .i64 0, .int .i64 0, .int .i64 0] _ _ rfl rfl k89.range Tryz.underlying25 rfl info25 k9.range Tryz.underlying28 rfl info28) rfl ?_
      have hl1 := f8.lies HLI.out (fun ad e => by have := HA.out ad e; simp at this; omega)
      have hl2 := f9.lies hl1 (fun ad e => by have := HA.out ad e; simp at this; omega)
      exact ⟨0, 0, l, A, c, HRR.out, rfl, hl2.more (by rw [f9.size, f8.size]; exact Nat.le_refl _), HCC.out, HOK.out, f9.bel _ _ (by omega) (f8.bel _ _ (by omega) HBV.out)⟩
    · have HRR : Hid (prsR src = (k, at_, [])) := by show _ = _; rw [HR.out, hT]; exact if_neg hk0
      have hR' : (k == 0) = false := by simpa using hk0
      have hR2 : (k != 0) = true := by rw [bne, hR']; rfl
      have HK0 := Lib.hid hk0
      have K1 := Lib.hid k1
      have K2 := Lib.hid k2
      have K4 := Lib.hid k4
      clear k1 k2 k4 hres hbel hkp hL2 hnb hbl hT hk0
      go_upto_region 7 with fail
      refine wp_region_held_drew (S := fun U => U.cell? ⟨w.heap.size + 1 + 1 + 1 + 1, 0, none⟩ = some (.int .i64 at_)) (by kernel_rfl) ?_ (fun hHeld => ?_)
      · exact K4.out.drew.cell 0 rfl
      refine tk 0 16 ?_
      refine tk 1 17 ?_
      refine tk 2 18 ?_
      refine tk 3 19 ?_
      have HBD := Lib.hid HBV.out.drew
      have J1 := Lib.hid K1.out.drew
      have J2 := Lib.hid K2.out.drew
      have J4 := Lib.hid K4.out.drew
      clear hHeld K1 K2 K4 HBV
      generalize V.drew = U at *
      refine held_one 4 ⟨none, .store 25 (.tmp 2) (.tmp 16), _, _, _, none⟩ rfl (by kernel_rfl) (by rfl) ?_
      refine wp_store_blk 25 (.tmp 2) (.tmp 16) rfl (w.heap.size + 1) #[.slice none 0 0] #[.slice none 0 0] rfl rfl J1.out rfl info25 (by intro v hv; simp at hv; subst hv; rfl) ?_
      intro W8 k8 f8
      refine ⟨(f8.bk (by omega) J4.out).cell 0 rfl, ?_⟩
      (try simp only [Act.put, List.setIfInBounds_toArray, List.set_cons_zero, List.set_cons_succ])
      refine held_one 5 ⟨none, .store 28 (.tmp 3) (.tmp 19), _, _, _, none⟩ rfl (by kernel_rfl) (by rfl) ?_
      refine wp_store_blk 28 (.tmp 3) (.tmp 19) rfl (w.heap.size + 1 + 1) #[.int .i64 0, .int .i64 0, .int .i64 0] #[.int .i64 k, .int .i64 at_, .int .i64 0] rfl rfl (f8.bk (by omega) J2.out) rfl info28 (by intro v hv; simp at hv; rcases hv with rfl | rfl | rfl <;> rfl) ?_
      intro W9 k9 f9
      refine ⟨(f9.bk (by omega) (f8.bk (by omega) J4.out)).cell 0 rfl, ?_⟩
      (try simp only [Act.put, List.setIfInBounds_toArray, List.set_cons_zero, List.set_cons_succ])
      refine wpAnyH_done (by kernel_rfl) ?_ _
      have k89 := f9.bk (by omega) k8
      have K89 := Lib.hid k89
      have K9 := Lib.hid k9
      have HB9 := Lib.hid (f9.bel _ _ (by omega) (f8.bel _ _ (by omega) HBD.out))
      clear k89 k9 k8 f8 f9
      go_wp2_with fail
      refine bodyPost_ret (results_two rfl _ _ (w.heap.size + 1) (w.heap.size + 1 + 1) [.slice none 0 0] [.int .i64 k, .int .i64 at_, .int .i64 0] _ _ rfl rfl K89.out.range Tryz.underlying25 rfl info25 K9.out.range Tryz.underlying28 rfl info28) rfl ?_
      exact parse_bad HRR.out HB9.out
end Go.Proofs.YtkfeagokmcakgaaGreatDoor

namespace Go.Proofs.YtkfeagokmcakgaaGreatDoor
open Go.RowKit

def barM (d : List Rul) (cols : List ByteArray) (i k : Nat) : Bool := decide (i < cols.length) && (decide (k < cols.length) && (decide (i ≠ k) && !(barL d 4 (colAt cols i) (colAt cols k) false).1))
def stE (cols : List ByteArray) : Int := if 8 < cols.length then 2 else if twiceB cols = true then 6 else 0
def StE (d : List Rul) (cols : List ByteArray) (Ac : Option Addr) (cc : Nat) (w : World) (e : Ending) (w' : World) : Prop := (stE cols ≠ 0 ∧ e = .returned (.tuple #[.pointer none, .int .i64 (stE cols)]) ∨ stE cols = 0 ∧ ∃ bs, e = .returned (.tuple #[.pointer (some ⟨bs, 0, none⟩), .int .i64 0]) ∧ StkW bs Ac cols.length cc (barM d cols) w') ∧ Below w.heap.size w w'
/-- the stack's cells while it is filled: before colour i over colour k -/
def StQ (d : List Rul) (cols : List ByteArray) (Ac : Option Addr) (cc i k : Nat) (C : Array Value) : Prop := C.size = 65 ∧ C[0]? = some (.slice Ac cols.length cc) ∧ ∀ a b, a < 8 → b < 8 → C[1 + (a * 8 + b)]? = some (.bool (decide (a < i ∨ a = i ∧ b < k) && barM d cols a b))
theorem zero153 : Tryz.zeroCells153 = (.slice none 0 0 :: List.replicate 64 (.bool false)).toArray := by kernel_rfl
theorem stq_0 (d : List Rul) (cols : List ByteArray) (Ac : Option Addr) (cc : Nat) : StQ d cols Ac cc 0 0 (Tryz.zeroCells153.setIfInBounds 0 (.slice Ac cols.length cc)) := by
  rw [zero153]
  refine ⟨by simp, by simp, fun a b ha hb => ?_⟩
  rw [Array.getElem?_setIfInBounds_ne (by omega)]
  have hj : a * 8 + b < 64 := by omega
  rw [List.getElem?_toArray, Nat.add_comm 1, List.getElem?_cons_succ, List.getElem?_replicate, if_pos hj]
  simp
theorem stq_put {d : List Rul} {cols : List ByteArray} {Ac : Option Addr} {cc i k : Nat} {C : Array Value} (h : StQ d cols Ac cc i k C) (hi : i < 8) (hk : k < 8) : StQ d cols Ac cc i (k + 1) (C.setIfInBounds (1 + (i * 8 + k)) (.bool (barM d cols i k))) := by
  refine ⟨by simpa using h.1, by rw [Array.getElem?_setIfInBounds_ne (by omega)]; exact h.2.1, fun a b ha hb => ?_⟩
  by_cases e : a * 8 + b = i * 8 + k
  · have e1 : a = i := by omega
    have e2 : b = k := by omega
    subst e1; subst e2
    rw [Array.getElem?_setIfInBounds_self_of_lt (by rw [h.1]; omega)]
    simp
  · rw [Array.getElem?_setIfInBounds_ne (by omega), h.2.2 a b ha hb]
    have : (a < i ∨ a = i ∧ b < k) ↔ (a < i ∨ a = i ∧ b < k + 1) := by omega
    simp only [this]
theorem barM_out {d : List Rul} {cols : List ByteArray} {a b : Nat} (h : ¬ (a < cols.length ∧ b < cols.length)) : barM d cols a b = false := by
  unfold barM
  by_cases h1 : a < cols.length
  · rw [decide_eq_false (fun h2 => h ⟨h1, h2⟩)]; simp
  · rw [decide_eq_false h1]; simp
theorem stq_row {d : List Rul} {cols : List ByteArray} {Ac : Option Addr} {cc i : Nat} {C : Array Value} (h : StQ d cols Ac cc i cols.length C) : StQ d cols Ac cc (i + 1) 0 C := by
  refine ⟨h.1, h.2.1, fun a b ha hb => ?_⟩
  rw [h.2.2 a b ha hb]
  by_cases hb2 : b < cols.length
  · have : (a < i ∨ a = i ∧ b < cols.length) ↔ (a < i + 1 ∨ a = i + 1 ∧ b < 0) := by omega
    simp only [this]
  · rw [barM_out (fun h => hb2 h.2)]; simp
theorem stq_done {d : List Rul} {cols : List ByteArray} {Ac : Option Addr} {cc : Nat} {C : Array Value} {bs : Nat} {w : World} (h : StQ d cols Ac cc cols.length 0 C) (hk : Bk w bs 153 C) : StkW bs Ac cols.length cc (barM d cols) w := by
  refine ⟨hk.cell 0 h.2.1, fun a b ha hb => hk.cell _ ?_⟩
  rw [h.2.2 a b ha hb]
  by_cases h2 : a < cols.length
  · rw [decide_eq_true (.inl h2)]; simp
  · rw [barM_out (fun h => h2 h.1)]; simp
set_option maxHeartbeats 1000000 in
set_option maxRecDepth 100000 in
theorem stacked_any (l : List Rul) (A : Option Addr) (c : Nat) (known : Int) (cols : List ByteArray) (Ac : Option Addr) (cc : Nat) (w : World) (hl : Lies w w.heap.size A (rulesC l)) (hok : RulOK l) (hm : l.length ≤ 1000) (hlc : Lies w w.heap.size Ac (strsC cols)) (hcs : ∀ s ∈ cols, s.size ≤ 100) (hcm : cols.length ≤ 1000) (hcc : cols.length ≤ cc ∧ cc ≤ maxLen) :
    Calls Tryz.prog 100 #[.agg #[.slice A l.length c], .int .i64 known, .slice Ac cols.length cc] w (StE (cntL l known) cols Ac cc w) := by
  have HC : Hid (∀ W, Below w.heap.size w W → Calls Tryz.prog 38 #[.agg #[.slice A l.length c], .int .i64 known] W (SlE (cntL l known) W)) := fun W hb => counting_any l A c known W ((hl.below hb (Nat.le_refl _)).more hb.size) hok hm
  have hokd := hok.sub (cnt_sub l known)
  have hmd := Nat.le_trans (cnt_len l known) hm
  have HLC : Hid (∀ W, Below w.heap.size w W → Lies W W.heap.size Ac (strsC cols)) := fun W hb => (hlc.below hb (Nat.le_refl _)).more hb.size
  have HTW : Hid (∀ W, Below w.heap.size w W → Calls Tryz.prog 74 #[.slice Ac cols.length cc] W (BoolEnd (twiceB cols) W)) := fun W hb => twice_any cols Ac cc W (HLC.out W hb) hcm hcc.1 hcc.2
  generalize cntL l known = d at *
  have HSE : Hid (stE cols = if 8 < cols.length then 2 else if twiceB cols = true then 6 else 0) := rfl
  have hb1 : Below w.heap.size w (w.alloc (.cells #[.slice A l.length c] 25)) := (Below.refl _ _).alloc (Nat.le_refl _) _
  have HB1 := Lib.hid hb1
  by_cases h8 : 8 < cols.length
  · have HE : Hid (stE cols = 2) := HSE.out.trans (if_pos h8)
    have h8I : (8 : Int) < (cols.length : Int) := by omega
    clear HSE h8 HC HTW hb1 hl hok hlc hcs hokd
    go_enter Tryz.func100, Tryz.ntmps100
    go_wp2
    go_ret2
    exact ⟨.inl ⟨by rw [HE.out]; decide, by rw [HE.out]; rfl⟩, HB1.out⟩
  have HS1 := Lib.hid (HSE.out.trans (if_neg h8))
  have h8I : ¬ (8 : Int) < (cols.length : Int) := by omega
  have hc8 : cols.length ≤ 8 := by omega
  clear HSE h8
  by_cases h6 : twiceB cols = true
  · have HE : Hid (stE cols = 6) := HS1.out.trans (if_pos h6)
    rw [h6] at HTW
    have HT1 := Lib.hid (HTW.out _ hb1)
    clear HS1 h6 HC hb1 HTW hl hok hlc hcs hokd
    go_enter Tryz.func100, Tryz.ntmps100
    go_wp2_with (go_at_call 74; refine HT1.out.mono ?_; rintro e w' ⟨rfl, rfl⟩)
    go_ret2
    exact ⟨.inl ⟨by rw [HE.out]; decide, by rw [HE.out]; rfl⟩, HB1.out⟩
  have HE : Hid (stE cols = 0) := HS1.out.trans (if_neg h6)
  have h6' : twiceB cols = false := by simpa using h6
  rw [h6'] at HTW
  have HT1 := Lib.hid (HTW.out _ hb1)
  have HC1 := Lib.hid (HC.out _ hb1)
  have HOKD := Lib.hid hokd
  have HCS := Lib.hid hcs
  clear HS1 h6 h6' HC hb1 HTW hl hok hlc hcs hokd
  go_enter Tryz.func100, Tryz.ntmps100
  go_upto_region 6 with (first | (go_at_call 74; refine HT1.out.mono ?_; rintro e w' ⟨rfl, rfl⟩) | (go_at_call 38; refine HC1.out.mono ?_; rintro e w1 ⟨A1, c1, rfl, hl1, _, hb1⟩))
  go_wp2
  have HQ0 : Hid (StQ d cols Ac cc 0 0 (Tryz.zeroCells153.setIfInBounds 0 (.slice Ac cols.length cc))) := stq_0 d cols Ac cc
  have HBW : Hid (Below w.heap.size w w1) := HB1.out.trans (hb1.mono (by simp))
  have HLC1 := Lib.hid (HLC.out w1 HBW.out)
  have HLD := Lib.hid hl1
  have HK0 : Hid (Bk (w1.alloc (.cells (Tryz.zeroCells153.setIfInBounds 0 (.slice Ac cols.length cc)) 153)) w1.heap.size 153 (Tryz.zeroCells153.setIfInBounds 0 (.slice Ac cols.length cc))) := Bk.new _ _ _
  have HB0 : Hid (Below w1.heap.size w1 (w1.alloc (.cells (Tryz.zeroCells153.setIfInBounds 0 (.slice Ac cols.length cc)) 153))) := (Below.refl _ _).alloc (Nat.le_refl _) _
  have HBR : Hid (∀ x y V, x ∈ cols → y ∈ cols → Below w1.heap.size w1 V → Calls Tryz.prog 79 #[.slice A1 d.length c1, .int .u8 4, .string x, .string y, .bool false] V (BarE (barL d 4 x y false) V)) := fun x y V hx hy hV => bars_any d A1 c1 4 x y false V ((HLD.out.below hV (Nat.le_refl _)).more hV.size) HOKD.out hmd (HCS.out x hx) (HCS.out y hy)
  clear hb1 hl1 HC1 HT1 HB1
  generalize Tryz.zeroCells153.setIfInBounds 0 (.slice Ac cols.length cc) = C0 at *
  generalize w1.alloc (.cells C0 153) = w2 at *
  go_loopw [29] (fun y wr => ∃ (i : Nat) (C : Array Value), i ≤ cols.length ∧ y = .int .i64 i ∧ Hid (StQ d cols Ac cc i 0 C) ∧ Hid (Bk wr w1.heap.size 153 C) ∧ Hid (Below w1.heap.size w1 wr)) (fun y _ => cols.length - (intOf y).toNat)
  case atStart => exact ⟨0, C0, by omega, rfl, HQ0, HK0, HB0⟩
  case round =>
    clear HQ0 HK0 HB0
    obtain ⟨i, C, hi, rfl, hq, hk, hb⟩ := hrel
    by_cases hlt : i < cols.length
    · obtain ⟨ad, rfl, hadb, x0⟩ := str_at (HLC1.out.below hb.out (Nat.le_refl _)) hlt
      have hlI : (i : Int) < (cols.length : Int) := by omega
      generalize wr = wa at *
      go_upto_region 11 with fail
      have HX := Lib.hid (List.getElem_mem hlt)
      have HCA : Hid (colAt cols i = cols[i]) := by show _ = _; unfold colAt; simp [hlt]
      have HQI := hq
      have HKI := hk
      have HBI := hb
      clear hq hk hb x0 hadb
      generalize cols[i] = xi at *
      go_loopw [36] (fun y wr => ∃ (k : Nat) (C : Array Value), k ≤ cols.length ∧ y = .int .i64 k ∧ Hid (StQ d cols (some ad) cc i k C) ∧ Hid (Bk wr w1.heap.size 153 C) ∧ Hid (Below w1.heap.size w1 wr)) (fun y _ => cols.length - (intOf y).toNat)
      case atStart => exact ⟨0, C, by omega, rfl, HQI, HKI, HBI⟩
      case round =>
        clear HQI HKI HBI
        obtain ⟨k, D, hk0, rfl, hq, hk, hb⟩ := hrel
        by_cases hkt : k < cols.length
        · obtain ⟨ad', e', hadb, x1⟩ := str_at (HLC1.out.below hb.out (Nat.le_refl _)) hkt
          cases e'
          have hkI : (k : Int) < (cols.length : Int) := by omega
          have hi8 : (i : Int) < 8 := by omega
          have hk8 : (k : Int) < 8 := by omega
          have HCK : Hid (colAt cols k = cols[k]) := by show _ = _; unfold colAt; simp [hkt]
          have HB1 := Lib.hid (HBR.out xi cols[k] wr HX.out (List.getElem_mem hkt) hb.out)
          have HBM : Hid (i ≠ k → barM d cols i k = !(barL d 4 xi cols[k] false).1) := fun h => by
            unfold barM
            rw [decide_eq_true hlt, decide_eq_true hkt, decide_eq_true h, HCA.out, HCK.out]; rfl
          have HBN : Hid (i = k → barM d cols i k = false) := fun h => by
            unfold barM
            rw [decide_eq_false (not_not_intro h)]; simp
          have HPUT := Lib.hid (stq_put hq.out (by omega : i < 8) (by omega : k < 8))
          have HCC : Hid (∀ V, Below wr.heap.size wr V → ∃ b9, V.cell? ⟨w1.heap.size, 1 + i * 8 + k, none⟩ = some (.bool b9)) := fun V hV => by
            rw [Nat.add_assoc]
            exact ⟨_, (hk.out.below hV hk.out.lt).cell _ (hq.out.2.2 i k (by omega) (by omega))⟩
          have HNE : Hid (1 + (i * 8 + k) = 1 + i * 8 + k) := by show _ = _; omega
          generalize barL d 4 xi cols[k] false = RB at *
          generalize cols[k] = xk at *
          obtain ⟨rb, ri⟩ := RB
          dsimp only at *
          by_cases hik : i = k
          · have hne : ((i : Int) != (k : Int)) = false := by rw [hik]; simp
            have hee : ((i : Int) == (k : Int)) = true := by rw [hik]; simp
            have HBV := Lib.hid (HBN.out hik)
            rw [HBV.out] at HPUT
            clear HBM HBN hik
            go_wp2_with (first | (go_at_call 79; refine HB1.out.mono ?_; rintro e V9 ⟨rfl, hb9⟩; obtain ⟨b9, c9⟩ := HCC.out V9 hb9; have f9 := (hk.out.below hb9 hk.out.lt).fro (1 + i * 8 + k)))
            go_roundw
            case rel => exact ⟨k + 1, _, by omega, by go_num, HPUT, by rw [HNE.out]; exact (hk.out.below hb9 hk.out.lt).set _ _, (hb.out.trans (hb9.mono hb.out.size)).setCell (p := ⟨w1.heap.size, 1 + i * 8 + k, none⟩) (Nat.le_refl _) _⟩
            case measure => simp [intOf]; omega
          · have hne : ((i : Int) != (k : Int)) = true := by simp; omega
            have hee : ((i : Int) == (k : Int)) = false := by rw [beq_eq_false_iff_ne]; omega
            have HBV := Lib.hid (HBM.out hik)
            rw [HBV.out] at HPUT
            clear HBM HBN hik
            go_wp2_with (first | (go_at_call 79; refine HB1.out.mono ?_; rintro e V9 ⟨rfl, hb9⟩; obtain ⟨b9, c9⟩ := HCC.out V9 hb9; have f9 := (hk.out.below hb9 hk.out.lt).fro (1 + i * 8 + k)))
            go_roundw
            case rel => exact ⟨k + 1, _, by omega, by go_num, HPUT, by rw [HNE.out]; exact (hk.out.below hb9 hk.out.lt).set _ _, (hb.out.trans (hb9.mono hb.out.size)).setCell (p := ⟨w1.heap.size, 1 + i * 8 + k, none⟩) (Nat.le_refl _) _⟩
            case measure => simp [intOf]; omega
        · obtain rfl : k = cols.length := by omega
          have HROW := Lib.hid (stq_row hq.out)
          clear hq
          go_wp2_with fail
          go_roundw
          case rel => exact ⟨i + 1, D, by omega, by go_num, HROW, hk, hb⟩
          case measure => simp [intOf]; omega
    · obtain rfl : i = cols.length := by omega
      have HS := Lib.hid (stq_done hq.out hk.out)
      have HBE : Hid (Below w.heap.size w wr) := HBW.out.trans (hb.out.mono HBW.out.size)
      clear hq hk hb HBR HLC1 HLD HLC
      go_wp2
      go_ret2
      exact ⟨.inr ⟨HE.out, _, rfl, HS.out⟩, HBE.out⟩
end Go.Proofs.YtkfeagokmcakgaaGreatDoor
