/- pigment.ruleOf (fn 65): the rule of a line, or a panic with a refusal. Printed by wip/gen_f23.py. -/
import Derived.Lib.SplitLaws
import Derived.Test.YtkfeagokmcakgaaGreatDoorG02
import Derived.Test.YtkfeagokmcakgaaGreatDoorG12
import Derived.Test.YtkfeagokmcakgaaGreatDoorG13

set_option linter.unusedVariables false
set_option linter.unusedSimpArgs false

namespace Go.Proofs.YtkfeagokmcakgaaGreatDoor
open Go.RowKit

theorem idi107_0 (b : Nat) (w : World) : (Instr.index 107 (.agg (formsC b)) (.int .i64 0)).run Tryz.prog w = .ok (.agg #[.string ⟨#[]⟩, .nilFunc, .nilFunc, .nilFunc]) w := by kernel_rfl
theorem idi107_1 (b : Nat) (w : World) : (Instr.index 107 (.agg (formsC b)) (.int .i64 1)).run Tryz.prog w = .ok (.agg #[.string ⟨#[102, 97, 115, 116]⟩, .func (.func 150) #[] #[], .func (.func 151) #[] #[], .func (.func 152) #[] #[]]) w := by kernel_rfl
theorem idi107_2 (b : Nat) (w : World) : (Instr.index 107 (.agg (formsC b)) (.int .i64 2)).run Tryz.prog w = .ok (.agg #[.string ⟨#[100, 114, 121]⟩, .func (.func 150) #[] #[], .func (.func 151) #[] #[], .func (.func 152) #[] #[]]) w := by kernel_rfl
theorem idi107_3 (b : Nat) (w : World) : (Instr.index 107 (.agg (formsC b)) (.int .i64 3)).run Tryz.prog w = .ok (.agg #[.string ⟨#[98, 101, 115, 105, 100, 101]⟩, .func (.func 147) #[] #[], .func (.func 148) #[] #[], .func (.func 149) #[] #[]]) w := by kernel_rfl
theorem idi107_4 (b : Nat) (w : World) : (Instr.index 107 (.agg (formsC b)) (.int .i64 4)).run Tryz.prog w = .ok (.agg #[.string ⟨#[111, 118, 101, 114]⟩, .func (.func 147) #[] #[], .func (.func 148) #[] #[], .func (.func 149) #[] #[]]) w := by kernel_rfl
theorem idi107_5 (b : Nat) (w : World) : (Instr.index 107 (.agg (formsC b)) (.int .i64 5)).run Tryz.prog w = .ok (.agg #[.string ⟨#[103, 114, 111, 117, 112]⟩, .func (.func 121) #[] #[.pointer (some ⟨b, 0, none⟩)], .func (.func 148) #[] #[], .func (.func 149) #[] #[]]) w := by kernel_rfl
theorem idi107_6 (b : Nat) (w : World) : (Instr.index 107 (.agg (formsC b)) (.int .i64 6)).run Tryz.prog w = .ok (.agg #[.string ⟨#[118, 111, 105, 100]⟩, .func (.func 122) #[] #[], .func (.func 123) #[] #[], .func (.func 124) #[] #[]]) w := by kernel_rfl

def spB : ByteArray := ⟨#[32]⟩
/-- the words of a line -/
def wdsB (line : ByteArray) : List ByteArray := Lib.splitB spB 0 (Lib.countB line spB) line
def kindB (s : ByteArray) : Int := if s = wordB 1 then 1 else if s = wordB 2 then 2 else if s = wordB 3 then 3 else if s = wordB 4 then 4 else if s = wordB 5 then 5 else if s = wordB 6 then 6 else 0
theorem kindB_ge (s : ByteArray) : 0 ≤ kindB s := by unfold kindB; (repeat' split) <;> decide
theorem kindB_iff1 (s : ByteArray) : kindB s = 1 ↔ s = ⟨#[102, 97, 115, 116]⟩ := by
  constructor
  · intro h
    unfold kindB at h
    (repeat' split at h) <;> first | assumption | (exact absurd h (by decide))
  · rintro rfl; decide
theorem kindB_iff2 (s : ByteArray) : kindB s = 2 ↔ s = ⟨#[100, 114, 121]⟩ := by
  constructor
  · intro h
    unfold kindB at h
    (repeat' split at h) <;> first | assumption | (exact absurd h (by decide))
  · rintro rfl; decide
theorem kindB_iff3 (s : ByteArray) : kindB s = 3 ↔ s = ⟨#[98, 101, 115, 105, 100, 101]⟩ := by
  constructor
  · intro h
    unfold kindB at h
    (repeat' split at h) <;> first | assumption | (exact absurd h (by decide))
  · rintro rfl; decide
theorem kindB_iff4 (s : ByteArray) : kindB s = 4 ↔ s = ⟨#[111, 118, 101, 114]⟩ := by
  constructor
  · intro h
    unfold kindB at h
    (repeat' split at h) <;> first | assumption | (exact absurd h (by decide))
  · rintro rfl; decide
theorem kindB_iff5 (s : ByteArray) : kindB s = 5 ↔ s = ⟨#[103, 114, 111, 117, 112]⟩ := by
  constructor
  · intro h
    unfold kindB at h
    (repeat' split at h) <;> first | assumption | (exact absurd h (by decide))
  · rintro rfl; decide
theorem kindB_iff6 (s : ByteArray) : kindB s = 6 ↔ s = ⟨#[118, 111, 105, 100]⟩ := by
  constructor
  · intro h
    unfold kindB at h
    (repeat' split at h) <;> first | assumption | (exact absurd h (by decide))
  · rintro rfl; decide
theorem st_step {K : Int} {k : Nat} {p q : Prop} (h : K ≠ k) (g : if K = 0 ∨ (k : Int) ≤ K then p else q) : if K = 0 ∨ ((k + 1 : Nat) : Int) ≤ K then p else q := by
  have : (K = 0 ∨ ((k + 1 : Nat) : Int) ≤ K) ↔ (K = 0 ∨ (k : Int) ≤ K) := by omega
  simp only [this]; exact g
theorem st_zero {K : Int} {p q : Prop} (h : 0 ≤ K) (g : if K = 0 ∨ ((0 : Nat) : Int) ≤ K then p else q) : if K = 0 ∨ ((0 + 1 : Nat) : Int) ≤ K then p else q := by
  have h1 : K = 0 ∨ ((0 + 1 : Nat) : Int) ≤ K := by omega
  have h2 : K = 0 ∨ ((0 : Nat) : Int) ≤ K := by omega
  rw [if_pos h2] at g
  rw [if_pos h1]; exact g
theorem kindB_le (s : ByteArray) : kindB s ≤ 6 := by unfold kindB; (repeat' split) <;> decide
theorem lit_ne {l : List UInt8} {y : ByteArray} (h : ¬ y = ⟨l.toArray⟩) : (l == y.toList) = false := by
  rw [beq_eq_false_iff_ne, ByteArray.toList_eq]
  intro e
  apply h
  obtain ⟨d⟩ := y
  subst e; simp
def takR (k : Int) (r : Rul) (x y : ByteArray) : Option Rul := if k = 1 ∨ k = 2 then some { r with x := x } else if k = 6 then (numB x).map fun m => { r with of := m } else some { r with x := x, y := y }
def rdT (a b : Int) (w2 w3 w4 : ByteArray) : Option Rul := if kindB w2 = 0 then some ⟨a, b, 0, ⟨#[]⟩, ⟨#[]⟩, 0⟩ else takR (kindB w2) ⟨a, b, kindB w2, ⟨#[]⟩, ⟨#[]⟩, 0⟩ w3 w4
theorem rdT_of {a b : Int} {w2 w3 x4 : ByteArray} {r : Rul} (h : if kindB w2 = 0 ∨ ((7 : Nat) : Int) ≤ kindB w2 then r = ⟨a, b, 0, ⟨#[]⟩, ⟨#[]⟩, 0⟩ else takR (kindB w2) ⟨a, b, kindB w2, ⟨#[]⟩, ⟨#[]⟩, 0⟩ w3 x4 = some r) : rdT a b w2 w3 x4 = some r := by
  have h6 := kindB_le w2
  unfold rdT
  by_cases h0 : kindB w2 = 0
  · rw [if_pos (.inl h0)] at h
    rw [if_pos h0, h]
  · rw [if_neg (by omega)] at h
    rw [if_neg h0, h]
theorem rdT_small {a b : Int} {w2 w3 x4 : ByteArray} {r : Rul} (h : rdT a b w2 w3 x4 = some r) (h3 : w3.size ≤ 1000) (h4 : x4.size ≤ 1000) : r.x.size ≤ 1000 ∧ r.y.size ≤ 1000 := by
  have e0 : (⟨#[]⟩ : ByteArray).size ≤ 1000 := Nat.zero_le _
  unfold rdT at h
  split at h
  · cases h; exact ⟨e0, e0⟩
  · unfold takR at h
    split at h
    · cases h; exact ⟨h3, e0⟩
    · split at h
      · obtain ⟨m, _, rfl⟩ := Option.map_eq_some_iff.1 h; exact ⟨e0, e0⟩
      · cases h; exact ⟨h3, h4⟩
def rdF (line : ByteArray) (r : Rul) : Option Rul := if frm r = true ∧ wrB r = line then some r else none
/-- the rule of a line -/
def rdR (line : ByteArray) : Option Rul := match wdsB line with
  | w0 :: w1 :: w2 :: w3 :: l => match numB w0, numB w1 with
    | some a, some b => (rdT a b w2 w3 (l.getD 0 ⟨#[]⟩)).bind (rdF line)
    | _, _ => none
  | _ => none
theorem splitB_small (sep : ByteArray) : ∀ (k : Nat) (s : ByteArray), ∀ u ∈ Lib.splitB sep 0 k s, u.size ≤ s.size
  | 0, s, u, h => by rw [Lib.splitB_zero] at h; simp at h; subst h; exact Nat.le_refl _
  | k + 1, s, u, h => by
    unfold Lib.splitB at h
    split at h
    · simp at h; subst h; exact Nat.le_refl _
    · rcases List.mem_cons.1 h with rfl | h
      · simp [ByteArray.size_extract]; omega
      · have := splitB_small sep k _ u h
        simp [ByteArray.size_extract] at this; omega
theorem wds_small {line u : ByteArray} (h : u ∈ wdsB line) : u.size ≤ line.size := splitB_small _ _ _ u h
theorem wds_len (line : ByteArray) : (wdsB line).length = Lib.countB line spB + 1 := Lib.splitB_all spB (by decide) 0 _ line rfl
theorem info50s : (Tryz.prog.info? 50).map (·.size) = some 6 := by kernel_rfl
theorem wds_le (line : ByteArray) : (wdsB line).length ≤ line.size + 2 := by
  rw [wds_len]
  have h := Lib.count_le line.data.toList spB.data.toList
  rw [Array.length_toList] at h
  show Lib.count line.data.toList spB.data.toList + 1 ≤ line.data.size + 2
  omega
def RuleE (line : ByteArray) (w : World) (e : Ending) (w' : World) : Prop := (match rdR line with
  | some r => e = .returned r.agg
  | none => e = .panicked (pvs 4)) ∧ Below w.heap.size w w'
theorem results_cell {P : Program} {fn : Func} {s ty : Nat} (h : fn.results = #[.cell s ty]) (tmps : Array Value) (w : World) (b : Nat) (cs : List Value) (d : TypeDesc) (ha : tmps.getD s undef = .pointer (some ⟨b, 0, none⟩))
    (hc : w.rangeAt b 0 cs) (hu : P.underlying ty = some d) (hd : d.isRow = true) (hi : (P.info? ty).map (·.size) = some cs.length) : (results fn tmps).run P w = .ok (.agg cs.toArray) w := by
  have hl := run_loadVar_mid (P := P) w b 0 ty cs d hc hu hd hi
  have ha' : tmps[s]?.getD undef = .pointer (some ⟨b, 0, none⟩) := by simpa [Array.getD_eq_getD_getElem?] using ha
  simp [results, h, ha', asAddr, hl]
theorem rule_bad {line : ByteArray} {w w' : World} (h : rdR line = none) (hb : Below w.heap.size w w') : RuleE line w (.panicked (pvs 4)) w' := ⟨by rw [h], hb⟩
theorem wp_call_num {o : Oper} {a : Act} {w : World} {s : ByteArray} {args : Array Value} {K : Act → World → Prop} {Q : Exit → Act → World → Prop} (he : (execOp a.eval o).run Tryz.prog w = .ok (.enter 111 args) w) (hc : Calls Tryz.prog 111 args w (NumE s w))
    (hK : ∀ n w', numB s = some n → Below w.heap.size w w' → K (a.put o.dst (.int .i64 n)) w') (hQ : ∀ w', numB s = none → Below w.heap.size w w' → Q (.panic (pvs 4)) a w') : o.wp Tryz.prog a w K Q := by
  unfold Oper.wp
  rw [he]
  refine hc.mono ?_
  intro e w' h
  unfold NumE at h
  cases hn : numB s with
  | some n => rw [hn] at h; obtain ⟨rfl, hb⟩ := h; exact hK n w' hn hb
  | none => rw [hn] at h; obtain ⟨rfl, hb⟩ := h; exact hQ w' hn hb
theorem wp_call_take {o : Oper} {a : Act} {w : World} {f b : Nat} {args : Array Value} {t : Option Rul} {K : Act → World → Prop} {Q : Exit → Act → World → Prop} (he : (execOp a.eval o).run Tryz.prog w = .ok (.enter f args) w) (hc : Calls Tryz.prog f args w (TakeE b t w))
    (hK : ∀ r w', t = some r → Bk w' b 50 r.row → (∀ B a, B ≤ b → Below B a w → Below B a w') → (∀ g t C, g ≠ b → Bk w g t C → Bk w' g t C) → K (a.put o.dst (.tuple #[])) w') (hQ : ∀ w', t = none → (∀ B a, B ≤ b → Below B a w → Below B a w') → Q (.panic (pvs 4)) a w') : o.wp Tryz.prog a w K Q := by
  unfold Oper.wp
  rw [he]
  refine hc.mono ?_
  intro e w' h
  unfold TakeE at h
  cases t with
  | some r => obtain ⟨⟨rfl, h1⟩, hb, hb2⟩ := h; exact hK r w' rfl h1 hb hb2
  | none => obtain ⟨rfl, hb, -⟩ := h; exact hQ w' rfl hb
set_option maxHeartbeats 8000000 in
set_option maxRecDepth 100000 in
theorem ruleOf_any (line : ByteArray) (w : World) (hg : Glob w) (hs : line.size ≤ 1000) : Calls Tryz.prog 65 #[.string line] w (RuleE line w) := by
  obtain ⟨mx, hmx⟩ := hg.max
  have h8 := hg.size
  have HSP0 := Lib.hid (Tryz.strings_Split line spB mx (w.alloc (.cells #[.int .i64 0, .int .i64 0, .int .u8 0, .string ⟨#[]⟩, .string ⟨#[]⟩, .int .i64 0] 50)) (by omega) (((Below.refl w.heap.size w).alloc (Nat.le_refl _) _).cell (p := ⟨0, 0, none⟩) (by show 0 < w.heap.size; omega) |>.trans hmx) (by decide))
  rw [← wds_len, ← wdsB, show (w.alloc (.cells #[.int .i64 0, .int .i64 0, .int .u8 0, .string ⟨#[]⟩, .string ⟨#[]⟩, .int .i64 0] 50)).heap.size = w.heap.size + 1 by simp] at HSP0
  have HSM : Hid (∀ u ∈ wdsB line, u.size ≤ 1000) := fun u hu => Nat.le_trans (wds_small hu) hs
  have HLN : Hid ((wdsB line).length ≤ 1002) := Nat.le_trans (wds_le line) (by omega)
  have HG := Lib.hid hg
  have HRD : Hid (rdR line = match wdsB line with
    | w0 :: w1 :: w2 :: w3 :: l => match numB w0, numB w1 with
      | some a, some b => (rdT a b w2 w3 (l.getD 0 ⟨#[]⟩)).bind (rdF line)
      | _, _ => none
    | _ => none) := rfl
  clear hg hmx
  generalize wdsB line = WD at *
  by_cases h4 : WD.length < 4
  · have HB : Hid (rdR line = none) := by
      show rdR line = none
      rw [HRD.out]
      match WD, h4 with
      | [], _ => rfl
      | [_], _ => rfl
      | [_, _], _ => rfl
      | [_, _, _], _ => rfl
    obtain ⟨n, hn⟩ : ∃ n, n = WD.length := ⟨_, rfl⟩
    rw [← hn] at HSP0 h4
    have hi4 : (n : Int) < 4 := by omega
    clear HRD hn
    go_enter Tryz.func65, Tryz.ntmps65
    go_wp2_with (first | (go_at_call 64; refine HSP0.out.mono ?_; rintro e w1 ⟨rfl, rfl⟩))
    exact ⟨rfl, rule_bad HB.out (((Below.refl _ _).alloc (Nat.le_refl _) _).alloc (by simp) _)⟩
  · obtain ⟨w0, w1, w2, w3, l, rfl⟩ : ∃ a b c d l, WD = a :: b :: c :: d :: l := by
      match WD, h4 with
      | [], h => exact absurd (by simp) h
      | [_], h => exact absurd (by simp) h
      | [_, _], h => exact absurd (by simp) h
      | [_, _, _], h => exact absurd (by simp) h
      | a :: b :: c :: d :: l, _ => exact ⟨a, b, c, d, l, rfl⟩
    dsimp only at HRD
    obtain ⟨n, hn⟩ : ∃ n, n = (w0 :: w1 :: w2 :: w3 :: l).length := ⟨_, rfl⟩
    rw [← hn] at HSP0
    have HNM2 : Hid (n ≤ 1002) := by show n ≤ 1002; rw [hn]; exact HLN.out
    clear HLN
    have HNN : Hid (n = l.length + 4) := by show n = l.length + 4; rw [hn]; rfl
    have hn4 : ¬ (n : Int) < 4 := by have := HNN.out; omega
    have hn0 : (0 : Int) < n := by omega
    have hn1 : (1 : Int) < n := by omega
    have hn2 : (2 : Int) < n := by omega
    have hn3 : 3 ≤ n := by omega
    have hm0 : 0 < n := by omega
    have hn33 : ¬ n = 3 := by have := HNN.out; omega
    have HP1 : Hid (0 < n - 3 + 1) := Nat.succ_pos _
    have HP2 : Hid (1 < n - 3 + 1) := by show 1 < n - 3 + 1; have := HNN.out; omega
    have hm3 : (3 : Int) ≤ n := by omega
    clear hn h4
    have HSP1 : Hid (Calls Tryz.prog 64 #[.string line, .string spB] (w.alloc (.cells #[.int .i64 0, .int .i64 0, .int .u8 0, .string ⟨#[]⟩, .string ⟨#[]⟩, .int .i64 0] 50)) fun e w' => e = .returned (.slice (some ⟨w.heap.size + 1, 0, none⟩) n n) ∧ Hid (Bk w' (w.heap.size + 1) 9 ((w0 :: w1 :: w2 :: w3 :: l).map Value.string).toArray) ∧ Hid (Bk w' w.heap.size 50 #[.int .i64 0, .int .i64 0, .int .u8 0, .string ⟨#[]⟩, .string ⟨#[]⟩, .int .i64 0]) ∧ Hid (Below w.heap.size w w') ∧ w'.heap.size = w.heap.size + 2) := by
      refine HSP0.out.mono ?_
      rintro e w' ⟨rfl, rfl⟩
      refine ⟨rfl, ?_, (Bk.new w 50 #[.int .i64 0, .int .i64 0, .int .u8 0, .string ⟨#[]⟩, .string ⟨#[]⟩, .int .i64 0]).alloc _, ((Below.refl _ _).alloc (Nat.le_refl _) _).alloc (by simp) _, by simp⟩
      have := Bk.new (w.alloc (.cells #[.int .i64 0, .int .i64 0, .int .u8 0, .string ⟨#[]⟩, .string ⟨#[]⟩, .int .i64 0] 50)) 9 ((w0 :: w1 :: w2 :: w3 :: l).map Value.string).toArray
      show Bk _ _ _ _
      simpa using this
    clear HSP0
    unfold spB at HSP1
    go_enter Tryz.func65, Tryz.ntmps65
    go_upto_region 4 with (first | (go_at_call 64; refine HSP1.out.mono ?_; rintro e wz ⟨rfl, HKW, HKR, HB0, hzs⟩))
    clear HSP1
    have HN0 : Hid (numB w0 = none → rdR line = none) := fun h => by rw [HRD.out, h]
    have HN1 : Hid (numB w1 = none → rdR line = none) := fun h => by rw [HRD.out, h]; cases numB w0 <;> rfl
    have HS : Hid (∀ V, Below wz.heap.size wz V → V.cell? ⟨w.heap.size + 1, 0, none⟩ = some (.string w0) ∧ V.cell? ⟨w.heap.size + 1, 1, none⟩ = some (.string w1)) := fun V hV => by
      have k := HKW.out.below hV HKW.out.lt
      exact ⟨k.cell 0 (by simp), k.cell 1 (by simp)⟩
    have HBW : Hid (∀ V, Below wz.heap.size wz V → Below w.heap.size w V) := fun V hV => HB0.out.trans (hV.mono (by omega))
    have HNM : Hid (∀ s, s.size ≤ 1000 → ∀ V, Below wz.heap.size wz V → Calls Tryz.prog 111 #[.string s] V (NumE s V)) := fun s hs V hV => number_any s V (HG.out.step (HBW.out V hV)) (by omega)
    have HM0 := Lib.hid (HSM.out w0 (by simp))
    have HM1 := Lib.hid (HSM.out w1 (by simp))
    go_cut [4] (fun s4 wx => ∃ (g : Nat) (a b : Int), s4 = .pointer (some ⟨g, 0, none⟩) ∧ Hid (numB w0 = some a ∧ numB w1 = some b) ∧ Hid (Bk wx g 50 #[.int .i64 a, .int .i64 b, .int .u8 0, .string ⟨#[]⟩, .string ⟨#[]⟩, .int .i64 0]) ∧ wz.heap.size ≤ g ∧ Hid (Below wz.heap.size wz wx))
    case first =>
      refine wp_region_held_drew (S := fun V => V.cell? ⟨w.heap.size + 1, 0, none⟩ = some (.string w0) ∧ V.cell? ⟨w.heap.size + 1, 1, none⟩ = some (.string w1)) (by kernel_rfl) ?_ (fun hHeld => ?_)
      · exact HS.out _ (Below.refl _ _).drew
      refine tk 0 16 ?_
      refine tk 1 17 ?_
      refine tk 2 18 ?_
      refine tk 4 20 ?_
      refine tk 5 21 ?_
      refine tk 6 22 ?_
      have hB_u3 : Below wz.heap.size wz wz.drew := (Below.refl _ _).drew
      clear hHeld
      generalize wz.drew = u3 at *
      refine held_two 3 9 ⟨some 19, .call { callee := .value (.func 111), args := #[.tmp 18], argTypes := #[9] }, 3, _, _, none⟩ ⟨some 4, .alloc 50, 0, _, _, none⟩ rfl rfl (by kernel_rfl) (by rfl) (by rfl) ?_ ?_
      · refine wp_call_num (s := w0) (args := #[.string w0]) (by go_simp) (HNM.out w0 HM0.out _ hB_u3) ?_ (fun v1 hn hb => ⟨rfl, rule_bad (HN0.out hn) (HBW.out _ (hB_u3.trans (hb.mono hB_u3.size)))⟩)
        intro n1 v1 hn1 hb_v1
        replace hn1 := Lib.hid hn1
        have hB_v1 : Below wz.heap.size wz v1 := hB_u3.trans (hb_v1.mono hB_u3.size)
        have hS_v1 := HS.out _ hB_v1
        refine ⟨hS_v1, ?_⟩
        (try simp only [Act.put, List.setIfInBounds_toArray, List.set_cons_zero, List.set_cons_succ])
        clear hS_v1
        refine held_two 7 9 ⟨some 23, .call { callee := .value (.func 111), args := #[.tmp 22], argTypes := #[9] }, 3, _, _, none⟩ ⟨some 4, .alloc 50, 0, _, _, none⟩ rfl rfl (by kernel_rfl) (by rfl) (by rfl) ?_ ?_
        · refine wp_call_num (s := w1) (args := #[.string w1]) (by go_simp) (HNM.out w1 HM1.out _ hB_v1) ?_ (fun v2 hn hb => ⟨rfl, rule_bad (HN1.out hn) (HBW.out _ (hB_v1.trans (hb.mono hB_v1.size)))⟩)
          intro n2 v2 hn2 hb_v2
          replace hn2 := Lib.hid hn2
          have hB_v2 : Below wz.heap.size wz v2 := hB_v1.trans (hb_v2.mono hB_v1.size)
          have hS_v2 := HS.out _ hB_v2
          refine ⟨hS_v2, ?_⟩
          (try simp only [Act.put, List.setIfInBounds_toArray, List.set_cons_zero, List.set_cons_succ])
          refine tk 8 24 ?_
          clear hS_v2
          refine held_one 9 ⟨some 4, .alloc 50, 0, _, _, none⟩ rfl (by kernel_rfl) (by rfl) ?_
          unfold Oper.wp
          go_simp
          have hB_v3 : Below wz.heap.size wz (v2.alloc (.cells #[.int .i64 0, .int .i64 0, .int .u8 0, .string ⟨#[]⟩, .string ⟨#[]⟩, .int .i64 0] 50)) := hB_v2.alloc hB_v2.size _
          have box_v3 : Bk (v2.alloc (.cells #[.int .i64 0, .int .i64 0, .int .u8 0, .string ⟨#[]⟩, .string ⟨#[]⟩, .int .i64 0] 50)) v2.heap.size 50 #[.int .i64 0, .int .i64 0, .int .u8 0, .string ⟨#[]⟩, .string ⟨#[]⟩, .int .i64 0] := Bk.new _ _ _
          have hS_v3 := HS.out _ hB_v3
          refine ⟨hS_v3, ?_⟩
          (try simp only [Act.put, List.setIfInBounds_toArray, List.set_cons_zero, List.set_cons_succ])
          generalize hv_v3 : v2.alloc (.cells #[.int .i64 0, .int .i64 0, .int .u8 0, .string ⟨#[]⟩, .string ⟨#[]⟩, .int .i64 0] 50) = v3 at *
          clear hS_v3
          refine held_one 10 ⟨none, .store 50 (.tmp 4) (.tmp 24), _, _, _, none⟩ rfl (by kernel_rfl) (by rfl) ?_
          refine wp_store_blk 50 (.tmp 4) (.tmp 24) rfl (v2.heap.size) #[.int .i64 0, .int .i64 0, .int .u8 0, .string ⟨#[]⟩, .string ⟨#[]⟩, .int .i64 0] #[.int .i64 n1, .int .i64 n2, .int .u8 0, .string ⟨#[]⟩, .string ⟨#[]⟩, .int .i64 0] rfl rfl box_v3 rfl info50s (by intro v hv; simp at hv; rcases hv with rfl | rfl | rfl | rfl | rfl | rfl <;> rfl) ?_
          intro u k_u f_u
          have hB_u := f_u.bel _ _ (hB_v2.size) hB_v3
          refine ⟨HS.out _ hB_u, ?_⟩
          (try simp only [Act.put, List.setIfInBounds_toArray, List.set_cons_zero, List.set_cons_succ])
          refine wpAnyH_done (by kernel_rfl) ?_ _
          go_wp2_with fail
          go_meet
          exact ⟨_, _, _, rfl, Lib.hid ⟨hn1.out, hn2.out⟩, Lib.hid k_u, hB_v2.size, Lib.hid hB_u⟩
        · unfold Oper.wp
          go_simp
          have hB_v4 : Below wz.heap.size wz (v1.alloc (.cells #[.int .i64 0, .int .i64 0, .int .u8 0, .string ⟨#[]⟩, .string ⟨#[]⟩, .int .i64 0] 50)) := hB_v1.alloc hB_v1.size _
          have box_v4 : Bk (v1.alloc (.cells #[.int .i64 0, .int .i64 0, .int .u8 0, .string ⟨#[]⟩, .string ⟨#[]⟩, .int .i64 0] 50)) v1.heap.size 50 #[.int .i64 0, .int .i64 0, .int .u8 0, .string ⟨#[]⟩, .string ⟨#[]⟩, .int .i64 0] := Bk.new _ _ _
          have hS_v4 := HS.out _ hB_v4
          refine ⟨hS_v4, ?_⟩
          (try simp only [Act.put, List.setIfInBounds_toArray, List.set_cons_zero, List.set_cons_succ])
          generalize hv_v4 : v1.alloc (.cells #[.int .i64 0, .int .i64 0, .int .u8 0, .string ⟨#[]⟩, .string ⟨#[]⟩, .int .i64 0] 50) = v4 at *
          clear hS_v4
          refine held_one 7 ⟨some 23, .call { callee := .value (.func 111), args := #[.tmp 22], argTypes := #[9] }, 3, _, _, none⟩ rfl (by kernel_rfl) (by rfl) ?_
          refine wp_call_num (s := w1) (args := #[.string w1]) (by go_simp) (HNM.out w1 HM1.out _ hB_v4) ?_ (fun v5 hn hb => ⟨rfl, rule_bad (HN1.out hn) (HBW.out _ (hB_v4.trans (hb.mono hB_v4.size)))⟩)
          intro n5 v5 hn5 hb_v5
          replace hn5 := Lib.hid hn5
          have hB_v5 : Below wz.heap.size wz v5 := hB_v4.trans (hb_v5.mono hB_v4.size)
          have box_v5 := box_v4.below hb_v5 box_v4.lt
          have hS_v5 := HS.out _ hB_v5
          refine ⟨hS_v5, ?_⟩
          (try simp only [Act.put, List.setIfInBounds_toArray, List.set_cons_zero, List.set_cons_succ])
          refine tk 8 24 ?_
          clear hS_v5
          refine held_one 10 ⟨none, .store 50 (.tmp 4) (.tmp 24), _, _, _, none⟩ rfl (by kernel_rfl) (by rfl) ?_
          refine wp_store_blk 50 (.tmp 4) (.tmp 24) rfl (v1.heap.size) #[.int .i64 0, .int .i64 0, .int .u8 0, .string ⟨#[]⟩, .string ⟨#[]⟩, .int .i64 0] #[.int .i64 n1, .int .i64 n5, .int .u8 0, .string ⟨#[]⟩, .string ⟨#[]⟩, .int .i64 0] rfl rfl box_v5 rfl info50s (by intro v hv; simp at hv; rcases hv with rfl | rfl | rfl | rfl | rfl | rfl <;> rfl) ?_
          intro u k_u f_u
          have hB_u := f_u.bel _ _ (hB_v1.size) hB_v5
          refine ⟨HS.out _ hB_u, ?_⟩
          (try simp only [Act.put, List.setIfInBounds_toArray, List.set_cons_zero, List.set_cons_succ])
          refine wpAnyH_done (by kernel_rfl) ?_ _
          go_wp2_with fail
          go_meet
          exact ⟨_, _, _, rfl, Lib.hid ⟨hn1.out, hn5.out⟩, Lib.hid k_u, hB_v1.size, Lib.hid hB_u⟩
      · unfold Oper.wp
        go_simp
        have hB_v6 : Below wz.heap.size wz (u3.alloc (.cells #[.int .i64 0, .int .i64 0, .int .u8 0, .string ⟨#[]⟩, .string ⟨#[]⟩, .int .i64 0] 50)) := hB_u3.alloc hB_u3.size _
        have box_v6 : Bk (u3.alloc (.cells #[.int .i64 0, .int .i64 0, .int .u8 0, .string ⟨#[]⟩, .string ⟨#[]⟩, .int .i64 0] 50)) u3.heap.size 50 #[.int .i64 0, .int .i64 0, .int .u8 0, .string ⟨#[]⟩, .string ⟨#[]⟩, .int .i64 0] := Bk.new _ _ _
        have hS_v6 := HS.out _ hB_v6
        refine ⟨hS_v6, ?_⟩
        (try simp only [Act.put, List.setIfInBounds_toArray, List.set_cons_zero, List.set_cons_succ])
        generalize hv_v6 : u3.alloc (.cells #[.int .i64 0, .int .i64 0, .int .u8 0, .string ⟨#[]⟩, .string ⟨#[]⟩, .int .i64 0] 50) = v6 at *
        clear hS_v6
        refine held_one 3 ⟨some 19, .call { callee := .value (.func 111), args := #[.tmp 18], argTypes := #[9] }, 3, _, _, none⟩ rfl (by kernel_rfl) (by rfl) ?_
        refine wp_call_num (s := w0) (args := #[.string w0]) (by go_simp) (HNM.out w0 HM0.out _ hB_v6) ?_ (fun v7 hn hb => ⟨rfl, rule_bad (HN0.out hn) (HBW.out _ (hB_v6.trans (hb.mono hB_v6.size)))⟩)
        intro n7 v7 hn7 hb_v7
        replace hn7 := Lib.hid hn7
        have hB_v7 : Below wz.heap.size wz v7 := hB_v6.trans (hb_v7.mono hB_v6.size)
        have box_v7 := box_v6.below hb_v7 box_v6.lt
        have hS_v7 := HS.out _ hB_v7
        refine ⟨hS_v7, ?_⟩
        (try simp only [Act.put, List.setIfInBounds_toArray, List.set_cons_zero, List.set_cons_succ])
        clear hS_v7
        refine held_one 7 ⟨some 23, .call { callee := .value (.func 111), args := #[.tmp 22], argTypes := #[9] }, 3, _, _, none⟩ rfl (by kernel_rfl) (by rfl) ?_
        refine wp_call_num (s := w1) (args := #[.string w1]) (by go_simp) (HNM.out w1 HM1.out _ hB_v7) ?_ (fun v8 hn hb => ⟨rfl, rule_bad (HN1.out hn) (HBW.out _ (hB_v7.trans (hb.mono hB_v7.size)))⟩)
        intro n8 v8 hn8 hb_v8
        replace hn8 := Lib.hid hn8
        have hB_v8 : Below wz.heap.size wz v8 := hB_v7.trans (hb_v8.mono hB_v7.size)
        have box_v8 := box_v7.below hb_v8 box_v7.lt
        have hS_v8 := HS.out _ hB_v8
        refine ⟨hS_v8, ?_⟩
        (try simp only [Act.put, List.setIfInBounds_toArray, List.set_cons_zero, List.set_cons_succ])
        refine tk 8 24 ?_
        clear hS_v8
        refine held_one 10 ⟨none, .store 50 (.tmp 4) (.tmp 24), _, _, _, none⟩ rfl (by kernel_rfl) (by rfl) ?_
        refine wp_store_blk 50 (.tmp 4) (.tmp 24) rfl (u3.heap.size) #[.int .i64 0, .int .i64 0, .int .u8 0, .string ⟨#[]⟩, .string ⟨#[]⟩, .int .i64 0] #[.int .i64 n7, .int .i64 n8, .int .u8 0, .string ⟨#[]⟩, .string ⟨#[]⟩, .int .i64 0] rfl rfl box_v8 rfl info50s (by intro v hv; simp at hv; rcases hv with rfl | rfl | rfl | rfl | rfl | rfl <;> rfl) ?_
        intro u k_u f_u
        have hB_u := f_u.bel _ _ (hB_u3.size) hB_v8
        refine ⟨HS.out _ hB_u, ?_⟩
        (try simp only [Act.put, List.setIfInBounds_toArray, List.set_cons_zero, List.set_cons_succ])
        refine wpAnyH_done (by kernel_rfl) ?_ _
        go_wp2_with fail
        go_meet
        exact ⟨_, _, _, rfl, Lib.hid ⟨hn7.out, hn8.out⟩, Lib.hid k_u, hB_u3.size, Lib.hid hB_u⟩
    case rest =>
      obtain ⟨g, a, b, rfl, hab, hkg, hgz, hbc⟩ := hcut
      have HRD2 : Hid (rdR line = (rdT a b w2 w3 (l.getD 0 ⟨#[]⟩)).bind (rdF line)) := by
        show rdR line = _
        rw [HRD.out, hab.out.1, hab.out.2]
      have HX4 : Hid (∀ u, u = l.getD 0 ⟨#[]⟩ → u.size ≤ 1000) := fun u e => by
        subst e
        cases l with
        | nil => exact Nat.zero_le _
        | cons q l => simpa using HSM.out q (by simp)
      have HM3 := Lib.hid (HSM.out w3 (by simp))
      have HW : Hid (∀ V, Below wz.heap.size wz V → Bk V (w.heap.size + 1) 9 ((w0 :: w1 :: w2 :: w3 :: l).map Value.string).toArray) := fun V hV => HKW.out.below hV (by omega)
      have HFO := Lib.hid forms_any
      have hix0 := idi107_0
      clear HRD HN0 HN1 HM0 HM1 HNM HS hab HSM
      go_wp2_with (first | (go_at_call 82; refine (HFO.out _).mono ?_; rintro e wf ⟨bf, rfl, hbf0, hbf2, hbfc, hbf⟩))
      have hfz := hbf.size
      have HBF : Hid (Below wz.heap.size wz wf) := hbc.out.trans (hbf.mono hbc.out.size)
      have HKF : Hid (Bk wf g 50 #[.int .i64 a, .int .i64 b, .int .u8 0, .string ⟨#[]⟩, .string ⟨#[]⟩, .int .i64 0]) := hkg.out.below hbf hkg.out.lt
      clear hbf hbfc hbf0 hbf2 HFO hkg hbc
      obtain ⟨x4, hx4⟩ : ∃ x4, x4 = l.getD 0 ⟨#[]⟩ := ⟨_, rfl⟩
      have HM4 := Lib.hid (HX4.out x4 hx4)
      rw [← hx4] at HRD2
      have HL4 := Lib.hid hx4
      clear hx4 HX4
      go_loopw [26] (fun y wr => ∃ (k : Nat) (r : Rul), k ≤ 7 ∧ y = .int .i64 k ∧ Hid (if kindB w2 = 0 ∨ (k : Int) ≤ kindB w2 then r = ⟨a, b, 0, ⟨#[]⟩, ⟨#[]⟩, 0⟩ else takR (kindB w2) ⟨a, b, kindB w2, ⟨#[]⟩, ⟨#[]⟩, 0⟩ w3 x4 = some r) ∧ Hid (Bk wr g 50 r.row) ∧ Hid (Below wz.heap.size wz wr)) (fun y _ => 7 - (intOf y).toNat)
      case atStart => exact ⟨0, ⟨a, b, 0, ⟨#[]⟩, ⟨#[]⟩, 0⟩, by omega, rfl, by rw [if_pos (.inr (kindB_ge w2))]; rfl, HKF, HBF⟩
      case round =>
        clear HKF HBF
        obtain ⟨k, r, hk, rfl, hst, hkr, hbr⟩ := hrel
        have hBW2 := Lib.hid (HW.out wr hbr.out)
        have hkl := hkr.out.lt
        have hrs := fun f cs a m W => run_store Tryz.prog W a (.func (.func f) #[] cs) m rfl
        have hrn := fun a m W => run_store Tryz.prog W a .nilFunc m rfl
        have hk8 : k = 0 ∨ k = 1 ∨ k = 2 ∨ k = 3 ∨ k = 4 ∨ k = 5 ∨ k = 6 ∨ k = 7 := by omega
        rcases hk8 with rfl | rfl | rfl | rfl | rfl | rfl | rfl | rfl
        · unfold formsC at hix0 ⊢
          clear hrs
          go_wp2
          refine wp_region_held_drew (S := fun _ => True) (by kernel_rfl) trivial (fun hHeld => ?_)
          refine tk 0 30 ?_
          refine tk 1 31 ?_
          refine tk 2 32 ?_
          refine sk 3 33 ?_
          refine sk 4 34 ?_
          refine sk 5 35 ?_
          refine sk 6 36 ?_
          refine sk 7 37 ?_
          refine sk 8 38 ?_
          refine tk 9 39 ?_
          refine wpAnyH_done (by kernel_rfl) ?_ _
          clear hHeld
          go_wp2
          go_roundw
          case rel => exact ⟨1, r, by omega, by go_num, st_zero (kindB_ge w2) hst.out, (hkr.out.alloc _).drew, (hbr.out.alloc hbr.out.size _).drew⟩
          case measure => simp [intOf]
        · have HK : Hid (kindB w2 = 1 ↔ w2 = ⟨#[102, 97, 115, 116]⟩) := kindB_iff1 w2
          have hix := idi107_1
          unfold formsC at hix ⊢
          by_cases hw : w2 = ⟨#[102, 97, 115, 116]⟩
          · have HKK := Lib.hid (HK.out.2 hw)
            have hr0 : r = ⟨a, b, 0, ⟨#[]⟩, ⟨#[]⟩, 0⟩ := by have := hst.out; rwa [if_pos (.inr (by rw [HKK.out]; decide))] at this
            subst hr0
            have HTK : Hid (takR (kindB w2) ⟨a, b, kindB w2, ⟨#[]⟩, ⟨#[]⟩, 0⟩ w3 x4 = (some { (⟨a, b, 1, ⟨#[]⟩, ⟨#[]⟩, 0⟩ : Rul) with x := w3 })) := by
              show takR _ _ _ _ = _
              rw [HKK.out]; rfl
            have HRT : Hid (rdT a b w2 w3 x4 = (some { (⟨a, b, 1, ⟨#[]⟩, ⟨#[]⟩, 0⟩ : Rul) with x := w3 })) := by
              show rdT _ _ _ _ _ = _
              rw [← HTK.out]; unfold rdT; rw [if_neg (by rw [HKK.out]; decide)]
            subst hw
            have hkr1 : Bk ((wr.alloc (.cells #[.string ⟨#[102, 97, 115, 116]⟩, .func (.func 150) #[] #[], .func (.func 151) #[] #[], .func (.func 152) #[] #[]] 106)).drew) g 50 #[.int .i64 a, .int .i64 b, .int .u8 0, .string ⟨#[]⟩, .string ⟨#[]⟩, .int .i64 0] := (hkr.out.alloc _).drew
            have q2 := hkr1.cell 2 rfl
            have f2 := hkr1.fro 2
            have HKR1 := Lib.hid hkr1
            clear hkr1
            go_wp2
            refine wp_region_held_drew (S := fun V => V.cell? ⟨wr.heap.size, 0, none⟩ = some (.string ⟨#[102, 97, 115, 116]⟩) ∧ V.cell? ⟨w.heap.size + 1, 2, none⟩ = some (.string ⟨#[102, 97, 115, 116]⟩)) (by kernel_rfl) ?_ (fun hHeld => ?_)
            · exact ⟨((Bk.new wr 106 _).drew).cell 0 rfl, ((hBW2.out.alloc _).drew).cell 2 (by simp)⟩
            refine tk 0 30 ?_
            refine tk 1 31 ?_
            refine tk 2 32 ?_
            refine tk 3 33 ?_
            refine tk 4 34 ?_
            refine tk 5 35 ?_
            refine tk 6 36 ?_
            refine tk 7 37 ?_
            refine tk 8 38 ?_
            refine tk 9 39 ?_
            refine wpAnyH_done (by kernel_rfl) ?_ _
            clear hHeld
            go_upto_region 10 with fail
            have k9 := Lib.hid (show Bk (((wr.setCell ⟨g, 2, none⟩ (.int .u8 1)).alloc (.cells #[.string ⟨#[102, 97, 115, 116]⟩, .func (.func 150) #[] #[], .func (.func 151) #[] #[], .func (.func 152) #[] #[]] 106)).drew) g 50 #[.int .i64 a, .int .i64 b, .int .u8 1, .string ⟨#[]⟩, .string ⟨#[]⟩, .int .i64 0] from ((hkr.out.set 2 _).alloc _).drew)
            have b9 := Lib.hid (show Below wz.heap.size wz (((wr.setCell ⟨g, 2, none⟩ (.int .u8 1)).alloc (.cells #[.string ⟨#[102, 97, 115, 116]⟩, .func (.func 150) #[] #[], .func (.func 151) #[] #[], .func (.func 152) #[] #[]] 106)).drew) from ((hbr.out.setCell (p := ⟨g, 2, none⟩) hgz _).alloc (by have := hbr.out.size; simpa using this) _).drew)
            have m9 := Lib.hid (show Bk (((wr.setCell ⟨g, 2, none⟩ (.int .u8 1)).alloc (.cells #[.string ⟨#[102, 97, 115, 116]⟩, .func (.func 150) #[] #[], .func (.func 151) #[] #[], .func (.func 152) #[] #[]] 106)).drew) wr.heap.size 106 #[.string ⟨#[102, 97, 115, 116]⟩, .func (.func 150) #[] #[], .func (.func 151) #[] #[], .func (.func 152) #[] #[]] from by
              have h := Bk.new (wr.setCell ⟨g, 2, none⟩ (.int .u8 1)) 106 #[.string ⟨#[102, 97, 115, 116]⟩, .func (.func 150) #[] #[], .func (.func 151) #[] #[], .func (.func 152) #[] #[]]
              rw [show (wr.setCell ⟨g, 2, none⟩ (.int .u8 1)).heap.size = wr.heap.size by simp] at h
              exact h.drew)
            clear q2 f2 HKR1
            generalize (((wr.setCell ⟨g, 2, none⟩ (.int .u8 1)).alloc (.cells #[.string ⟨#[102, 97, 115, 116]⟩, .func (.func 150) #[] #[], .func (.func 151) #[] #[], .func (.func 152) #[] #[]] 106)).drew) = X9 at *
            have HW9 := Lib.hid (HW.out X9 b9.out)
            refine wp_region_held_drew (S := fun V => V.cell? ⟨wr.heap.size, 3, none⟩ = some (.func (.func 152) #[] #[])) (by kernel_rfl) ?_ (fun hHeld => ?_)
            · exact (m9.out.drew).cell 3 rfl
            refine tk 0 43 ?_
            refine tk 1 44 ?_
            refine tk 2 45 ?_
            refine tk 3 46 ?_
            have bd9 : Below wz.heap.size wz X9.drew := b9.out.drew
            have kd9 := k9.out.drew
            have HWd := Lib.hid (HW9.out.drew)
            have HMd := Lib.hid (m9.out.drew)
            clear hHeld k9 b9 m9 HW9
            generalize X9.drew = V3 at *
            refine held_one 4 ⟨some 47, .buildSlice 34 1 #[(0, .const (.string ⟨#[]⟩))], 34, _, _, none⟩ rfl (by kernel_rfl) (by rfl) ?_
            unfold Oper.wp
            go_simp
            have bd4 : Below wz.heap.size wz (V3.alloc (.cells #[.string ⟨#[]⟩] 9)) := bd9.alloc bd9.size _
            have kd4 := kd9.alloc (.cells #[.string ⟨#[]⟩] 9)
            have HW4 := Lib.hid (HWd.out.alloc (.cells #[.string ⟨#[]⟩] 9))
            have HM4' := Lib.hid (HMd.out.alloc (.cells #[.string ⟨#[]⟩] 9))
            have HN4 : Hid (Bk (V3.alloc (.cells #[.string ⟨#[]⟩] 9)) V3.heap.size 9 #[.string ⟨#[]⟩]) := Bk.new _ _ _
            refine ⟨HM4'.out.cell 3 rfl, ?_⟩
            (try simp only [Act.put, List.setIfInBounds_toArray, List.set_cons_zero, List.set_cons_succ])
            clear HMd HWd bd9 kd9
            generalize hV4 : V3.alloc (.cells #[.string ⟨#[]⟩] 9) = V4 at *
            refine held_one 5 ⟨some 48, .call { callee := .builtin .append, args := #[.tmp 46, .tmp 47], argTypes := #[34, 34] }, 34, _, _, none⟩ rfl (by kernel_rfl) (by rfl) ?_
            obtain ⟨i9, hi9, hz0, hz1, hz2⟩ := info_parts info9
            refine wp_append_grows V4 (.tmp 46) (.tmp 47) 34 rfl 9 i9 _ 1 16 Tryz.underlying34 hi9 hz0 hz1 hz2 (by decide) (by decide) (some ⟨w.heap.size + 1, 3, none⟩) (n - 3) (n - 3) ((w3 :: l).map Value.string) rfl (by intro h; cases h) (by have := HNN.out; simp; omega) (by
              intro bb e j u hj
              cases e
              have h9 := bk_cells HW4.out (j + 3) u (by simpa using hj)
              rw [Addr.add_lit] at h9 ⊢
              rw [show 3 + j = 0 + (j + 3) by omega]; exact h9) ⟨V3.heap.size, 0, none⟩ 1 1 [.string ⟨#[]⟩] rfl rfl (bk_cells HN4.out) (by intro u hu; simp at hu; subst hu; rfl) (by omega) (by have := HNM2.out; unfold maxLen; omega) (by have := HNM2.out; omega) ?_
            intro v5 V5 ow5 gr5
            have br5 : Below V4.heap.size V4 V5 := Below.grown (Below.refl _ _) gr5 (Nat.le_refl _) (by intro k hk; cases hk)
            have B6 : Below wz.heap.size wz V5 := bd4.trans (br5.mono bd4.size)
            have k6 := kd4.below br5 kd4.lt
            have HM6 := Lib.hid (HM4'.out.below br5 HM4'.out.lt)
            refine ⟨HM6.out.cell 3 rfl, ?_⟩
            (try simp only [Act.put, List.setIfInBounds_toArray, List.set_cons_zero, List.set_cons_succ])
            obtain ⟨A5, c2, rfl, hc5⟩ := ownsSlice ow5
            obtain ⟨g2, rfl, -⟩ := own_some ow5 (by omega)
            have y0 : V5.cell? ⟨g2, 0, none⟩ = some (.string w3) := by
              have := ow5.cells (g := g2) rfl 0 (.string w3) (by simp)
              simpa [Addr.add] using this
            have y1 : V5.cell? ⟨g2, 0 + 1, none⟩ = some (.string x4) := by
              have := ow5.cells (g := g2) rfl 1 (.string x4) (by
                rw [HL4.out]
                cases l with
                | nil => rfl
                | cons q l => rfl)
              simpa [Addr.add] using this
            clear ow5 gr5 br5 bd4 kd4 HW4 HN4 hi9 hz0 hz1 hz2 hV4
            generalize V5 = V6 at *
            refine held_one 6 ⟨some 49, .call { callee := .value (.tmp 44), args := #[.tmp 4, .tmp 48], argTypes := #[138, 34] }, 0, _, _, none⟩ rfl (by kernel_rfl) (by rfl) ?_
            have HTT := take1_any g ⟨a, b, 1, ⟨#[]⟩, ⟨#[]⟩, 0⟩ w3 ⟨g2, 0, none⟩ (n - 3 + 1) c2 V6 k6 y0 HP1.out
            refine wp_call_take (f := 152) (b := g) (args := #[.pointer (some ⟨g, 0, none⟩), .slice (some ⟨g2, 0, none⟩) (n - 3 + 1) c2]) ?qh HTT ?qk ?qp
            case qh =>
              clear HTT
              go_simp
            case qk =>
              intro r7 V7 ht7 k7 be7 ne7
              have B7 := be7 _ _ hgz B6
              refine ⟨(ne7 _ _ _ (by have := hkl; omega) HM6.out).cell 3 rfl, ?_⟩
              (try simp only [Act.put, List.setIfInBounds_toArray, List.set_cons_zero, List.set_cons_succ])
              refine wpAnyH_done (by kernel_rfl) ?_ _
              have K7 := Lib.hid k7
              have BB7 := Lib.hid B7
              have HT7 := Lib.hid ht7
              clear k7 B7 ht7 be7 ne7 HTT B6 k6 y0 y1
              go_wp2_with fail
              go_roundw
              case rel => exact ⟨1 + 1, r7, by omega, by go_num, by rw [if_neg (by rw [HKK.out]; omega)]; exact HTK.out.trans HT7.out, K7, BB7⟩
              case measure => simp [intOf]
            case qp =>
              intro V7 ht7 be7
              refine ⟨rfl, rule_bad ?_ (HBW.out _ (be7 _ _ hgz B6))⟩
              rw [HRD2.out, HRT.out, ht7]; rfl
          · have hk0 := fun h => hw (HK.out.1 h)
            have hs1 : (([102, 97, 115, 116] : List UInt8) == w2.toList) = false := lit_ne hw
            have HK0 := Lib.hid hk0
            clear hw hk0
            go_wp2
            refine wp_region_held_drew (S := fun V => V.cell? ⟨wr.heap.size, 0, none⟩ = some (.string ⟨#[102, 97, 115, 116]⟩) ∧ V.cell? ⟨w.heap.size + 1, 2, none⟩ = some (.string w2)) (by kernel_rfl) ?_ (fun hHeld => ?_)
            · exact ⟨((Bk.new wr 106 _).drew).cell 0 rfl, ((hBW2.out.alloc _).drew).cell 2 (by simp)⟩
            refine tk 0 30 ?_
            refine tk 1 31 ?_
            refine tk 2 32 ?_
            refine tk 3 33 ?_
            refine tk 4 34 ?_
            refine tk 5 35 ?_
            refine tk 6 36 ?_
            refine tk 7 37 ?_
            refine tk 8 38 ?_
            refine tk 9 39 ?_
            refine wpAnyH_done (by kernel_rfl) ?_ _
            clear hHeld
            go_wp2
            go_roundw
            case rel => exact ⟨1 + 1, r, by omega, by go_num, st_step (k := 1) (fun h => HK0.out h) hst.out, (hkr.out.alloc _).drew, (hbr.out.alloc hbr.out.size _).drew⟩
            case measure => simp [intOf]
        · have HK : Hid (kindB w2 = 2 ↔ w2 = ⟨#[100, 114, 121]⟩) := kindB_iff2 w2
          have hix := idi107_2
          unfold formsC at hix ⊢
          by_cases hw : w2 = ⟨#[100, 114, 121]⟩
          · have HKK := Lib.hid (HK.out.2 hw)
            have hr0 : r = ⟨a, b, 0, ⟨#[]⟩, ⟨#[]⟩, 0⟩ := by have := hst.out; rwa [if_pos (.inr (by rw [HKK.out]; decide))] at this
            subst hr0
            have HTK : Hid (takR (kindB w2) ⟨a, b, kindB w2, ⟨#[]⟩, ⟨#[]⟩, 0⟩ w3 x4 = (some { (⟨a, b, 2, ⟨#[]⟩, ⟨#[]⟩, 0⟩ : Rul) with x := w3 })) := by
              show takR _ _ _ _ = _
              rw [HKK.out]; rfl
            have HRT : Hid (rdT a b w2 w3 x4 = (some { (⟨a, b, 2, ⟨#[]⟩, ⟨#[]⟩, 0⟩ : Rul) with x := w3 })) := by
              show rdT _ _ _ _ _ = _
              rw [← HTK.out]; unfold rdT; rw [if_neg (by rw [HKK.out]; decide)]
            subst hw
            have hkr1 : Bk ((wr.alloc (.cells #[.string ⟨#[100, 114, 121]⟩, .func (.func 150) #[] #[], .func (.func 151) #[] #[], .func (.func 152) #[] #[]] 106)).drew) g 50 #[.int .i64 a, .int .i64 b, .int .u8 0, .string ⟨#[]⟩, .string ⟨#[]⟩, .int .i64 0] := (hkr.out.alloc _).drew
            have q2 := hkr1.cell 2 rfl
            have f2 := hkr1.fro 2
            have HKR1 := Lib.hid hkr1
            clear hkr1
            go_wp2
            refine wp_region_held_drew (S := fun V => V.cell? ⟨wr.heap.size, 0, none⟩ = some (.string ⟨#[100, 114, 121]⟩) ∧ V.cell? ⟨w.heap.size + 1, 2, none⟩ = some (.string ⟨#[100, 114, 121]⟩)) (by kernel_rfl) ?_ (fun hHeld => ?_)
            · exact ⟨((Bk.new wr 106 _).drew).cell 0 rfl, ((hBW2.out.alloc _).drew).cell 2 (by simp)⟩
            refine tk 0 30 ?_
            refine tk 1 31 ?_
            refine tk 2 32 ?_
            refine tk 3 33 ?_
            refine tk 4 34 ?_
            refine tk 5 35 ?_
            refine tk 6 36 ?_
            refine tk 7 37 ?_
            refine tk 8 38 ?_
            refine tk 9 39 ?_
            refine wpAnyH_done (by kernel_rfl) ?_ _
            clear hHeld
            go_upto_region 10 with fail
            have k9 := Lib.hid (show Bk (((wr.setCell ⟨g, 2, none⟩ (.int .u8 2)).alloc (.cells #[.string ⟨#[100, 114, 121]⟩, .func (.func 150) #[] #[], .func (.func 151) #[] #[], .func (.func 152) #[] #[]] 106)).drew) g 50 #[.int .i64 a, .int .i64 b, .int .u8 2, .string ⟨#[]⟩, .string ⟨#[]⟩, .int .i64 0] from ((hkr.out.set 2 _).alloc _).drew)
            have b9 := Lib.hid (show Below wz.heap.size wz (((wr.setCell ⟨g, 2, none⟩ (.int .u8 2)).alloc (.cells #[.string ⟨#[100, 114, 121]⟩, .func (.func 150) #[] #[], .func (.func 151) #[] #[], .func (.func 152) #[] #[]] 106)).drew) from ((hbr.out.setCell (p := ⟨g, 2, none⟩) hgz _).alloc (by have := hbr.out.size; simpa using this) _).drew)
            have m9 := Lib.hid (show Bk (((wr.setCell ⟨g, 2, none⟩ (.int .u8 2)).alloc (.cells #[.string ⟨#[100, 114, 121]⟩, .func (.func 150) #[] #[], .func (.func 151) #[] #[], .func (.func 152) #[] #[]] 106)).drew) wr.heap.size 106 #[.string ⟨#[100, 114, 121]⟩, .func (.func 150) #[] #[], .func (.func 151) #[] #[], .func (.func 152) #[] #[]] from by
              have h := Bk.new (wr.setCell ⟨g, 2, none⟩ (.int .u8 2)) 106 #[.string ⟨#[100, 114, 121]⟩, .func (.func 150) #[] #[], .func (.func 151) #[] #[], .func (.func 152) #[] #[]]
              rw [show (wr.setCell ⟨g, 2, none⟩ (.int .u8 2)).heap.size = wr.heap.size by simp] at h
              exact h.drew)
            clear q2 f2 HKR1
            generalize (((wr.setCell ⟨g, 2, none⟩ (.int .u8 2)).alloc (.cells #[.string ⟨#[100, 114, 121]⟩, .func (.func 150) #[] #[], .func (.func 151) #[] #[], .func (.func 152) #[] #[]] 106)).drew) = X9 at *
            have HW9 := Lib.hid (HW.out X9 b9.out)
            refine wp_region_held_drew (S := fun V => V.cell? ⟨wr.heap.size, 3, none⟩ = some (.func (.func 152) #[] #[])) (by kernel_rfl) ?_ (fun hHeld => ?_)
            · exact (m9.out.drew).cell 3 rfl
            refine tk 0 43 ?_
            refine tk 1 44 ?_
            refine tk 2 45 ?_
            refine tk 3 46 ?_
            have bd9 : Below wz.heap.size wz X9.drew := b9.out.drew
            have kd9 := k9.out.drew
            have HWd := Lib.hid (HW9.out.drew)
            have HMd := Lib.hid (m9.out.drew)
            clear hHeld k9 b9 m9 HW9
            generalize X9.drew = V3 at *
            refine held_one 4 ⟨some 47, .buildSlice 34 1 #[(0, .const (.string ⟨#[]⟩))], 34, _, _, none⟩ rfl (by kernel_rfl) (by rfl) ?_
            unfold Oper.wp
            go_simp
            have bd4 : Below wz.heap.size wz (V3.alloc (.cells #[.string ⟨#[]⟩] 9)) := bd9.alloc bd9.size _
            have kd4 := kd9.alloc (.cells #[.string ⟨#[]⟩] 9)
            have HW4 := Lib.hid (HWd.out.alloc (.cells #[.string ⟨#[]⟩] 9))
            have HM4' := Lib.hid (HMd.out.alloc (.cells #[.string ⟨#[]⟩] 9))
            have HN4 : Hid (Bk (V3.alloc (.cells #[.string ⟨#[]⟩] 9)) V3.heap.size 9 #[.string ⟨#[]⟩]) := Bk.new _ _ _
            refine ⟨HM4'.out.cell 3 rfl, ?_⟩
            (try simp only [Act.put, List.setIfInBounds_toArray, List.set_cons_zero, List.set_cons_succ])
            clear HMd HWd bd9 kd9
            generalize hV4 : V3.alloc (.cells #[.string ⟨#[]⟩] 9) = V4 at *
            refine held_one 5 ⟨some 48, .call { callee := .builtin .append, args := #[.tmp 46, .tmp 47], argTypes := #[34, 34] }, 34, _, _, none⟩ rfl (by kernel_rfl) (by rfl) ?_
            obtain ⟨i9, hi9, hz0, hz1, hz2⟩ := info_parts info9
            refine wp_append_grows V4 (.tmp 46) (.tmp 47) 34 rfl 9 i9 _ 1 16 Tryz.underlying34 hi9 hz0 hz1 hz2 (by decide) (by decide) (some ⟨w.heap.size + 1, 3, none⟩) (n - 3) (n - 3) ((w3 :: l).map Value.string) rfl (by intro h; cases h) (by have := HNN.out; simp; omega) (by
              intro bb e j u hj
              cases e
              have h9 := bk_cells HW4.out (j + 3) u (by simpa using hj)
              rw [Addr.add_lit] at h9 ⊢
              rw [show 3 + j = 0 + (j + 3) by omega]; exact h9) ⟨V3.heap.size, 0, none⟩ 1 1 [.string ⟨#[]⟩] rfl rfl (bk_cells HN4.out) (by intro u hu; simp at hu; subst hu; rfl) (by omega) (by have := HNM2.out; unfold maxLen; omega) (by have := HNM2.out; omega) ?_
            intro v5 V5 ow5 gr5
            have br5 : Below V4.heap.size V4 V5 := Below.grown (Below.refl _ _) gr5 (Nat.le_refl _) (by intro k hk; cases hk)
            have B6 : Below wz.heap.size wz V5 := bd4.trans (br5.mono bd4.size)
            have k6 := kd4.below br5 kd4.lt
            have HM6 := Lib.hid (HM4'.out.below br5 HM4'.out.lt)
            refine ⟨HM6.out.cell 3 rfl, ?_⟩
            (try simp only [Act.put, List.setIfInBounds_toArray, List.set_cons_zero, List.set_cons_succ])
            obtain ⟨A5, c2, rfl, hc5⟩ := ownsSlice ow5
            obtain ⟨g2, rfl, -⟩ := own_some ow5 (by omega)
            have y0 : V5.cell? ⟨g2, 0, none⟩ = some (.string w3) := by
              have := ow5.cells (g := g2) rfl 0 (.string w3) (by simp)
              simpa [Addr.add] using this
            have y1 : V5.cell? ⟨g2, 0 + 1, none⟩ = some (.string x4) := by
              have := ow5.cells (g := g2) rfl 1 (.string x4) (by
                rw [HL4.out]
                cases l with
                | nil => rfl
                | cons q l => rfl)
              simpa [Addr.add] using this
            clear ow5 gr5 br5 bd4 kd4 HW4 HN4 hi9 hz0 hz1 hz2 hV4
            generalize V5 = V6 at *
            refine held_one 6 ⟨some 49, .call { callee := .value (.tmp 44), args := #[.tmp 4, .tmp 48], argTypes := #[138, 34] }, 0, _, _, none⟩ rfl (by kernel_rfl) (by rfl) ?_
            have HTT := take1_any g ⟨a, b, 2, ⟨#[]⟩, ⟨#[]⟩, 0⟩ w3 ⟨g2, 0, none⟩ (n - 3 + 1) c2 V6 k6 y0 HP1.out
            refine wp_call_take (f := 152) (b := g) (args := #[.pointer (some ⟨g, 0, none⟩), .slice (some ⟨g2, 0, none⟩) (n - 3 + 1) c2]) ?qh HTT ?qk ?qp
            case qh =>
              clear HTT
              go_simp
            case qk =>
              intro r7 V7 ht7 k7 be7 ne7
              have B7 := be7 _ _ hgz B6
              refine ⟨(ne7 _ _ _ (by have := hkl; omega) HM6.out).cell 3 rfl, ?_⟩
              (try simp only [Act.put, List.setIfInBounds_toArray, List.set_cons_zero, List.set_cons_succ])
              refine wpAnyH_done (by kernel_rfl) ?_ _
              have K7 := Lib.hid k7
              have BB7 := Lib.hid B7
              have HT7 := Lib.hid ht7
              clear k7 B7 ht7 be7 ne7 HTT B6 k6 y0 y1
              go_wp2_with fail
              go_roundw
              case rel => exact ⟨2 + 1, r7, by omega, by go_num, by rw [if_neg (by rw [HKK.out]; omega)]; exact HTK.out.trans HT7.out, K7, BB7⟩
              case measure => simp [intOf]
            case qp =>
              intro V7 ht7 be7
              refine ⟨rfl, rule_bad ?_ (HBW.out _ (be7 _ _ hgz B6))⟩
              rw [HRD2.out, HRT.out, ht7]; rfl
          · have hk0 := fun h => hw (HK.out.1 h)
            have hs1 : (([100, 114, 121] : List UInt8) == w2.toList) = false := lit_ne hw
            have HK0 := Lib.hid hk0
            clear hw hk0
            go_wp2
            refine wp_region_held_drew (S := fun V => V.cell? ⟨wr.heap.size, 0, none⟩ = some (.string ⟨#[100, 114, 121]⟩) ∧ V.cell? ⟨w.heap.size + 1, 2, none⟩ = some (.string w2)) (by kernel_rfl) ?_ (fun hHeld => ?_)
            · exact ⟨((Bk.new wr 106 _).drew).cell 0 rfl, ((hBW2.out.alloc _).drew).cell 2 (by simp)⟩
            refine tk 0 30 ?_
            refine tk 1 31 ?_
            refine tk 2 32 ?_
            refine tk 3 33 ?_
            refine tk 4 34 ?_
            refine tk 5 35 ?_
            refine tk 6 36 ?_
            refine tk 7 37 ?_
            refine tk 8 38 ?_
            refine tk 9 39 ?_
            refine wpAnyH_done (by kernel_rfl) ?_ _
            clear hHeld
            go_wp2
            go_roundw
            case rel => exact ⟨2 + 1, r, by omega, by go_num, st_step (k := 2) (fun h => HK0.out h) hst.out, (hkr.out.alloc _).drew, (hbr.out.alloc hbr.out.size _).drew⟩
            case measure => simp [intOf]
        · have HK : Hid (kindB w2 = 3 ↔ w2 = ⟨#[98, 101, 115, 105, 100, 101]⟩) := kindB_iff3 w2
          have hix := idi107_3
          unfold formsC at hix ⊢
          by_cases hw : w2 = ⟨#[98, 101, 115, 105, 100, 101]⟩
          · have HKK := Lib.hid (HK.out.2 hw)
            have hr0 : r = ⟨a, b, 0, ⟨#[]⟩, ⟨#[]⟩, 0⟩ := by have := hst.out; rwa [if_pos (.inr (by rw [HKK.out]; decide))] at this
            subst hr0
            have HTK : Hid (takR (kindB w2) ⟨a, b, kindB w2, ⟨#[]⟩, ⟨#[]⟩, 0⟩ w3 x4 = (some { (⟨a, b, 3, ⟨#[]⟩, ⟨#[]⟩, 0⟩ : Rul) with x := w3, y := x4 })) := by
              show takR _ _ _ _ = _
              rw [HKK.out]; rfl
            have HRT : Hid (rdT a b w2 w3 x4 = (some { (⟨a, b, 3, ⟨#[]⟩, ⟨#[]⟩, 0⟩ : Rul) with x := w3, y := x4 })) := by
              show rdT _ _ _ _ _ = _
              rw [← HTK.out]; unfold rdT; rw [if_neg (by rw [HKK.out]; decide)]
            subst hw
            have hkr1 : Bk ((wr.alloc (.cells #[.string ⟨#[98, 101, 115, 105, 100, 101]⟩, .func (.func 147) #[] #[], .func (.func 148) #[] #[], .func (.func 149) #[] #[]] 106)).drew) g 50 #[.int .i64 a, .int .i64 b, .int .u8 0, .string ⟨#[]⟩, .string ⟨#[]⟩, .int .i64 0] := (hkr.out.alloc _).drew
            have q2 := hkr1.cell 2 rfl
            have f2 := hkr1.fro 2
            have HKR1 := Lib.hid hkr1
            clear hkr1
            go_wp2
            refine wp_region_held_drew (S := fun V => V.cell? ⟨wr.heap.size, 0, none⟩ = some (.string ⟨#[98, 101, 115, 105, 100, 101]⟩) ∧ V.cell? ⟨w.heap.size + 1, 2, none⟩ = some (.string ⟨#[98, 101, 115, 105, 100, 101]⟩)) (by kernel_rfl) ?_ (fun hHeld => ?_)
            · exact ⟨((Bk.new wr 106 _).drew).cell 0 rfl, ((hBW2.out.alloc _).drew).cell 2 (by simp)⟩
            refine tk 0 30 ?_
            refine tk 1 31 ?_
            refine tk 2 32 ?_
            refine tk 3 33 ?_
            refine tk 4 34 ?_
            refine tk 5 35 ?_
            refine tk 6 36 ?_
            refine tk 7 37 ?_
            refine tk 8 38 ?_
            refine tk 9 39 ?_
            refine wpAnyH_done (by kernel_rfl) ?_ _
            clear hHeld
            go_upto_region 10 with fail
            have k9 := Lib.hid (show Bk (((wr.setCell ⟨g, 2, none⟩ (.int .u8 3)).alloc (.cells #[.string ⟨#[98, 101, 115, 105, 100, 101]⟩, .func (.func 147) #[] #[], .func (.func 148) #[] #[], .func (.func 149) #[] #[]] 106)).drew) g 50 #[.int .i64 a, .int .i64 b, .int .u8 3, .string ⟨#[]⟩, .string ⟨#[]⟩, .int .i64 0] from ((hkr.out.set 2 _).alloc _).drew)
            have b9 := Lib.hid (show Below wz.heap.size wz (((wr.setCell ⟨g, 2, none⟩ (.int .u8 3)).alloc (.cells #[.string ⟨#[98, 101, 115, 105, 100, 101]⟩, .func (.func 147) #[] #[], .func (.func 148) #[] #[], .func (.func 149) #[] #[]] 106)).drew) from ((hbr.out.setCell (p := ⟨g, 2, none⟩) hgz _).alloc (by have := hbr.out.size; simpa using this) _).drew)
            have m9 := Lib.hid (show Bk (((wr.setCell ⟨g, 2, none⟩ (.int .u8 3)).alloc (.cells #[.string ⟨#[98, 101, 115, 105, 100, 101]⟩, .func (.func 147) #[] #[], .func (.func 148) #[] #[], .func (.func 149) #[] #[]] 106)).drew) wr.heap.size 106 #[.string ⟨#[98, 101, 115, 105, 100, 101]⟩, .func (.func 147) #[] #[], .func (.func 148) #[] #[], .func (.func 149) #[] #[]] from by
              have h := Bk.new (wr.setCell ⟨g, 2, none⟩ (.int .u8 3)) 106 #[.string ⟨#[98, 101, 115, 105, 100, 101]⟩, .func (.func 147) #[] #[], .func (.func 148) #[] #[], .func (.func 149) #[] #[]]
              rw [show (wr.setCell ⟨g, 2, none⟩ (.int .u8 3)).heap.size = wr.heap.size by simp] at h
              exact h.drew)
            clear q2 f2 HKR1
            generalize (((wr.setCell ⟨g, 2, none⟩ (.int .u8 3)).alloc (.cells #[.string ⟨#[98, 101, 115, 105, 100, 101]⟩, .func (.func 147) #[] #[], .func (.func 148) #[] #[], .func (.func 149) #[] #[]] 106)).drew) = X9 at *
            have HW9 := Lib.hid (HW.out X9 b9.out)
            refine wp_region_held_drew (S := fun V => V.cell? ⟨wr.heap.size, 3, none⟩ = some (.func (.func 149) #[] #[])) (by kernel_rfl) ?_ (fun hHeld => ?_)
            · exact (m9.out.drew).cell 3 rfl
            refine tk 0 43 ?_
            refine tk 1 44 ?_
            refine tk 2 45 ?_
            refine tk 3 46 ?_
            have bd9 : Below wz.heap.size wz X9.drew := b9.out.drew
            have kd9 := k9.out.drew
            have HWd := Lib.hid (HW9.out.drew)
            have HMd := Lib.hid (m9.out.drew)
            clear hHeld k9 b9 m9 HW9
            generalize X9.drew = V3 at *
            refine held_one 4 ⟨some 47, .buildSlice 34 1 #[(0, .const (.string ⟨#[]⟩))], 34, _, _, none⟩ rfl (by kernel_rfl) (by rfl) ?_
            unfold Oper.wp
            go_simp
            have bd4 : Below wz.heap.size wz (V3.alloc (.cells #[.string ⟨#[]⟩] 9)) := bd9.alloc bd9.size _
            have kd4 := kd9.alloc (.cells #[.string ⟨#[]⟩] 9)
            have HW4 := Lib.hid (HWd.out.alloc (.cells #[.string ⟨#[]⟩] 9))
            have HM4' := Lib.hid (HMd.out.alloc (.cells #[.string ⟨#[]⟩] 9))
            have HN4 : Hid (Bk (V3.alloc (.cells #[.string ⟨#[]⟩] 9)) V3.heap.size 9 #[.string ⟨#[]⟩]) := Bk.new _ _ _
            refine ⟨HM4'.out.cell 3 rfl, ?_⟩
            (try simp only [Act.put, List.setIfInBounds_toArray, List.set_cons_zero, List.set_cons_succ])
            clear HMd HWd bd9 kd9
            generalize hV4 : V3.alloc (.cells #[.string ⟨#[]⟩] 9) = V4 at *
            refine held_one 5 ⟨some 48, .call { callee := .builtin .append, args := #[.tmp 46, .tmp 47], argTypes := #[34, 34] }, 34, _, _, none⟩ rfl (by kernel_rfl) (by rfl) ?_
            obtain ⟨i9, hi9, hz0, hz1, hz2⟩ := info_parts info9
            refine wp_append_grows V4 (.tmp 46) (.tmp 47) 34 rfl 9 i9 _ 1 16 Tryz.underlying34 hi9 hz0 hz1 hz2 (by decide) (by decide) (some ⟨w.heap.size + 1, 3, none⟩) (n - 3) (n - 3) ((w3 :: l).map Value.string) rfl (by intro h; cases h) (by have := HNN.out; simp; omega) (by
              intro bb e j u hj
              cases e
              have h9 := bk_cells HW4.out (j + 3) u (by simpa using hj)
              rw [Addr.add_lit] at h9 ⊢
              rw [show 3 + j = 0 + (j + 3) by omega]; exact h9) ⟨V3.heap.size, 0, none⟩ 1 1 [.string ⟨#[]⟩] rfl rfl (bk_cells HN4.out) (by intro u hu; simp at hu; subst hu; rfl) (by omega) (by have := HNM2.out; unfold maxLen; omega) (by have := HNM2.out; omega) ?_
            intro v5 V5 ow5 gr5
            have br5 : Below V4.heap.size V4 V5 := Below.grown (Below.refl _ _) gr5 (Nat.le_refl _) (by intro k hk; cases hk)
            have B6 : Below wz.heap.size wz V5 := bd4.trans (br5.mono bd4.size)
            have k6 := kd4.below br5 kd4.lt
            have HM6 := Lib.hid (HM4'.out.below br5 HM4'.out.lt)
            refine ⟨HM6.out.cell 3 rfl, ?_⟩
            (try simp only [Act.put, List.setIfInBounds_toArray, List.set_cons_zero, List.set_cons_succ])
            obtain ⟨A5, c2, rfl, hc5⟩ := ownsSlice ow5
            obtain ⟨g2, rfl, -⟩ := own_some ow5 (by omega)
            have y0 : V5.cell? ⟨g2, 0, none⟩ = some (.string w3) := by
              have := ow5.cells (g := g2) rfl 0 (.string w3) (by simp)
              simpa [Addr.add] using this
            have y1 : V5.cell? ⟨g2, 0 + 1, none⟩ = some (.string x4) := by
              have := ow5.cells (g := g2) rfl 1 (.string x4) (by
                rw [HL4.out]
                cases l with
                | nil => rfl
                | cons q l => rfl)
              simpa [Addr.add] using this
            clear ow5 gr5 br5 bd4 kd4 HW4 HN4 hi9 hz0 hz1 hz2 hV4
            generalize V5 = V6 at *
            refine held_one 6 ⟨some 49, .call { callee := .value (.tmp 44), args := #[.tmp 4, .tmp 48], argTypes := #[138, 34] }, 0, _, _, none⟩ rfl (by kernel_rfl) (by rfl) ?_
            have HTT := take2_any g ⟨a, b, 3, ⟨#[]⟩, ⟨#[]⟩, 0⟩ w3 x4 ⟨g2, 0, none⟩ (n - 3 + 1) c2 V6 k6 y0 y1 HP2.out
            refine wp_call_take (f := 149) (b := g) (args := #[.pointer (some ⟨g, 0, none⟩), .slice (some ⟨g2, 0, none⟩) (n - 3 + 1) c2]) ?qh HTT ?qk ?qp
            case qh =>
              clear HTT
              go_simp
            case qk =>
              intro r7 V7 ht7 k7 be7 ne7
              have B7 := be7 _ _ hgz B6
              refine ⟨(ne7 _ _ _ (by have := hkl; omega) HM6.out).cell 3 rfl, ?_⟩
              (try simp only [Act.put, List.setIfInBounds_toArray, List.set_cons_zero, List.set_cons_succ])
              refine wpAnyH_done (by kernel_rfl) ?_ _
              have K7 := Lib.hid k7
              have BB7 := Lib.hid B7
              have HT7 := Lib.hid ht7
              clear k7 B7 ht7 be7 ne7 HTT B6 k6 y0 y1
              go_wp2_with fail
              go_roundw
              case rel => exact ⟨3 + 1, r7, by omega, by go_num, by rw [if_neg (by rw [HKK.out]; omega)]; exact HTK.out.trans HT7.out, K7, BB7⟩
              case measure => simp [intOf]
            case qp =>
              intro V7 ht7 be7
              refine ⟨rfl, rule_bad ?_ (HBW.out _ (be7 _ _ hgz B6))⟩
              rw [HRD2.out, HRT.out, ht7]; rfl
          · have hk0 := fun h => hw (HK.out.1 h)
            have hs1 : (([98, 101, 115, 105, 100, 101] : List UInt8) == w2.toList) = false := lit_ne hw
            have HK0 := Lib.hid hk0
            clear hw hk0
            go_wp2
            refine wp_region_held_drew (S := fun V => V.cell? ⟨wr.heap.size, 0, none⟩ = some (.string ⟨#[98, 101, 115, 105, 100, 101]⟩) ∧ V.cell? ⟨w.heap.size + 1, 2, none⟩ = some (.string w2)) (by kernel_rfl) ?_ (fun hHeld => ?_)
            · exact ⟨((Bk.new wr 106 _).drew).cell 0 rfl, ((hBW2.out.alloc _).drew).cell 2 (by simp)⟩
            refine tk 0 30 ?_
            refine tk 1 31 ?_
            refine tk 2 32 ?_
            refine tk 3 33 ?_
            refine tk 4 34 ?_
            refine tk 5 35 ?_
            refine tk 6 36 ?_
            refine tk 7 37 ?_
            refine tk 8 38 ?_
            refine tk 9 39 ?_
            refine wpAnyH_done (by kernel_rfl) ?_ _
            clear hHeld
            go_wp2
            go_roundw
            case rel => exact ⟨3 + 1, r, by omega, by go_num, st_step (k := 3) (fun h => HK0.out h) hst.out, (hkr.out.alloc _).drew, (hbr.out.alloc hbr.out.size _).drew⟩
            case measure => simp [intOf]
        · have HK : Hid (kindB w2 = 4 ↔ w2 = ⟨#[111, 118, 101, 114]⟩) := kindB_iff4 w2
          have hix := idi107_4
          unfold formsC at hix ⊢
          by_cases hw : w2 = ⟨#[111, 118, 101, 114]⟩
          · have HKK := Lib.hid (HK.out.2 hw)
            have hr0 : r = ⟨a, b, 0, ⟨#[]⟩, ⟨#[]⟩, 0⟩ := by have := hst.out; rwa [if_pos (.inr (by rw [HKK.out]; decide))] at this
            subst hr0
            have HTK : Hid (takR (kindB w2) ⟨a, b, kindB w2, ⟨#[]⟩, ⟨#[]⟩, 0⟩ w3 x4 = (some { (⟨a, b, 4, ⟨#[]⟩, ⟨#[]⟩, 0⟩ : Rul) with x := w3, y := x4 })) := by
              show takR _ _ _ _ = _
              rw [HKK.out]; rfl
            have HRT : Hid (rdT a b w2 w3 x4 = (some { (⟨a, b, 4, ⟨#[]⟩, ⟨#[]⟩, 0⟩ : Rul) with x := w3, y := x4 })) := by
              show rdT _ _ _ _ _ = _
              rw [← HTK.out]; unfold rdT; rw [if_neg (by rw [HKK.out]; decide)]
            subst hw
            have hkr1 : Bk ((wr.alloc (.cells #[.string ⟨#[111, 118, 101, 114]⟩, .func (.func 147) #[] #[], .func (.func 148) #[] #[], .func (.func 149) #[] #[]] 106)).drew) g 50 #[.int .i64 a, .int .i64 b, .int .u8 0, .string ⟨#[]⟩, .string ⟨#[]⟩, .int .i64 0] := (hkr.out.alloc _).drew
            have q2 := hkr1.cell 2 rfl
            have f2 := hkr1.fro 2
            have HKR1 := Lib.hid hkr1
            clear hkr1
            go_wp2
            refine wp_region_held_drew (S := fun V => V.cell? ⟨wr.heap.size, 0, none⟩ = some (.string ⟨#[111, 118, 101, 114]⟩) ∧ V.cell? ⟨w.heap.size + 1, 2, none⟩ = some (.string ⟨#[111, 118, 101, 114]⟩)) (by kernel_rfl) ?_ (fun hHeld => ?_)
            · exact ⟨((Bk.new wr 106 _).drew).cell 0 rfl, ((hBW2.out.alloc _).drew).cell 2 (by simp)⟩
            refine tk 0 30 ?_
            refine tk 1 31 ?_
            refine tk 2 32 ?_
            refine tk 3 33 ?_
            refine tk 4 34 ?_
            refine tk 5 35 ?_
            refine tk 6 36 ?_
            refine tk 7 37 ?_
            refine tk 8 38 ?_
            refine tk 9 39 ?_
            refine wpAnyH_done (by kernel_rfl) ?_ _
            clear hHeld
            go_upto_region 10 with fail
            have k9 := Lib.hid (show Bk (((wr.setCell ⟨g, 2, none⟩ (.int .u8 4)).alloc (.cells #[.string ⟨#[111, 118, 101, 114]⟩, .func (.func 147) #[] #[], .func (.func 148) #[] #[], .func (.func 149) #[] #[]] 106)).drew) g 50 #[.int .i64 a, .int .i64 b, .int .u8 4, .string ⟨#[]⟩, .string ⟨#[]⟩, .int .i64 0] from ((hkr.out.set 2 _).alloc _).drew)
            have b9 := Lib.hid (show Below wz.heap.size wz (((wr.setCell ⟨g, 2, none⟩ (.int .u8 4)).alloc (.cells #[.string ⟨#[111, 118, 101, 114]⟩, .func (.func 147) #[] #[], .func (.func 148) #[] #[], .func (.func 149) #[] #[]] 106)).drew) from ((hbr.out.setCell (p := ⟨g, 2, none⟩) hgz _).alloc (by have := hbr.out.size; simpa using this) _).drew)
            have m9 := Lib.hid (show Bk (((wr.setCell ⟨g, 2, none⟩ (.int .u8 4)).alloc (.cells #[.string ⟨#[111, 118, 101, 114]⟩, .func (.func 147) #[] #[], .func (.func 148) #[] #[], .func (.func 149) #[] #[]] 106)).drew) wr.heap.size 106 #[.string ⟨#[111, 118, 101, 114]⟩, .func (.func 147) #[] #[], .func (.func 148) #[] #[], .func (.func 149) #[] #[]] from by
              have h := Bk.new (wr.setCell ⟨g, 2, none⟩ (.int .u8 4)) 106 #[.string ⟨#[111, 118, 101, 114]⟩, .func (.func 147) #[] #[], .func (.func 148) #[] #[], .func (.func 149) #[] #[]]
              rw [show (wr.setCell ⟨g, 2, none⟩ (.int .u8 4)).heap.size = wr.heap.size by simp] at h
              exact h.drew)
            clear q2 f2 HKR1
            generalize (((wr.setCell ⟨g, 2, none⟩ (.int .u8 4)).alloc (.cells #[.string ⟨#[111, 118, 101, 114]⟩, .func (.func 147) #[] #[], .func (.func 148) #[] #[], .func (.func 149) #[] #[]] 106)).drew) = X9 at *
            have HW9 := Lib.hid (HW.out X9 b9.out)
            refine wp_region_held_drew (S := fun V => V.cell? ⟨wr.heap.size, 3, none⟩ = some (.func (.func 149) #[] #[])) (by kernel_rfl) ?_ (fun hHeld => ?_)
            · exact (m9.out.drew).cell 3 rfl
            refine tk 0 43 ?_
            refine tk 1 44 ?_
            refine tk 2 45 ?_
            refine tk 3 46 ?_
            have bd9 : Below wz.heap.size wz X9.drew := b9.out.drew
            have kd9 := k9.out.drew
            have HWd := Lib.hid (HW9.out.drew)
            have HMd := Lib.hid (m9.out.drew)
            clear hHeld k9 b9 m9 HW9
            generalize X9.drew = V3 at *
            refine held_one 4 ⟨some 47, .buildSlice 34 1 #[(0, .const (.string ⟨#[]⟩))], 34, _, _, none⟩ rfl (by kernel_rfl) (by rfl) ?_
            unfold Oper.wp
            go_simp
            have bd4 : Below wz.heap.size wz (V3.alloc (.cells #[.string ⟨#[]⟩] 9)) := bd9.alloc bd9.size _
            have kd4 := kd9.alloc (.cells #[.string ⟨#[]⟩] 9)
            have HW4 := Lib.hid (HWd.out.alloc (.cells #[.string ⟨#[]⟩] 9))
            have HM4' := Lib.hid (HMd.out.alloc (.cells #[.string ⟨#[]⟩] 9))
            have HN4 : Hid (Bk (V3.alloc (.cells #[.string ⟨#[]⟩] 9)) V3.heap.size 9 #[.string ⟨#[]⟩]) := Bk.new _ _ _
            refine ⟨HM4'.out.cell 3 rfl, ?_⟩
            (try simp only [Act.put, List.setIfInBounds_toArray, List.set_cons_zero, List.set_cons_succ])
            clear HMd HWd bd9 kd9
            generalize hV4 : V3.alloc (.cells #[.string ⟨#[]⟩] 9) = V4 at *
            refine held_one 5 ⟨some 48, .call { callee := .builtin .append, args := #[.tmp 46, .tmp 47], argTypes := #[34, 34] }, 34, _, _, none⟩ rfl (by kernel_rfl) (by rfl) ?_
            obtain ⟨i9, hi9, hz0, hz1, hz2⟩ := info_parts info9
            refine wp_append_grows V4 (.tmp 46) (.tmp 47) 34 rfl 9 i9 _ 1 16 Tryz.underlying34 hi9 hz0 hz1 hz2 (by decide) (by decide) (some ⟨w.heap.size + 1, 3, none⟩) (n - 3) (n - 3) ((w3 :: l).map Value.string) rfl (by intro h; cases h) (by have := HNN.out; simp; omega) (by
              intro bb e j u hj
              cases e
              have h9 := bk_cells HW4.out (j + 3) u (by simpa using hj)
              rw [Addr.add_lit] at h9 ⊢
              rw [show 3 + j = 0 + (j + 3) by omega]; exact h9) ⟨V3.heap.size, 0, none⟩ 1 1 [.string ⟨#[]⟩] rfl rfl (bk_cells HN4.out) (by intro u hu; simp at hu; subst hu; rfl) (by omega) (by have := HNM2.out; unfold maxLen; omega) (by have := HNM2.out; omega) ?_
            intro v5 V5 ow5 gr5
            have br5 : Below V4.heap.size V4 V5 := Below.grown (Below.refl _ _) gr5 (Nat.le_refl _) (by intro k hk; cases hk)
            have B6 : Below wz.heap.size wz V5 := bd4.trans (br5.mono bd4.size)
            have k6 := kd4.below br5 kd4.lt
            have HM6 := Lib.hid (HM4'.out.below br5 HM4'.out.lt)
            refine ⟨HM6.out.cell 3 rfl, ?_⟩
            (try simp only [Act.put, List.setIfInBounds_toArray, List.set_cons_zero, List.set_cons_succ])
            obtain ⟨A5, c2, rfl, hc5⟩ := ownsSlice ow5
            obtain ⟨g2, rfl, -⟩ := own_some ow5 (by omega)
            have y0 : V5.cell? ⟨g2, 0, none⟩ = some (.string w3) := by
              have := ow5.cells (g := g2) rfl 0 (.string w3) (by simp)
              simpa [Addr.add] using this
            have y1 : V5.cell? ⟨g2, 0 + 1, none⟩ = some (.string x4) := by
              have := ow5.cells (g := g2) rfl 1 (.string x4) (by
                rw [HL4.out]
                cases l with
                | nil => rfl
                | cons q l => rfl)
              simpa [Addr.add] using this
            clear ow5 gr5 br5 bd4 kd4 HW4 HN4 hi9 hz0 hz1 hz2 hV4
            generalize V5 = V6 at *
            refine held_one 6 ⟨some 49, .call { callee := .value (.tmp 44), args := #[.tmp 4, .tmp 48], argTypes := #[138, 34] }, 0, _, _, none⟩ rfl (by kernel_rfl) (by rfl) ?_
            have HTT := take2_any g ⟨a, b, 4, ⟨#[]⟩, ⟨#[]⟩, 0⟩ w3 x4 ⟨g2, 0, none⟩ (n - 3 + 1) c2 V6 k6 y0 y1 HP2.out
            refine wp_call_take (f := 149) (b := g) (args := #[.pointer (some ⟨g, 0, none⟩), .slice (some ⟨g2, 0, none⟩) (n - 3 + 1) c2]) ?qh HTT ?qk ?qp
            case qh =>
              clear HTT
              go_simp
            case qk =>
              intro r7 V7 ht7 k7 be7 ne7
              have B7 := be7 _ _ hgz B6
              refine ⟨(ne7 _ _ _ (by have := hkl; omega) HM6.out).cell 3 rfl, ?_⟩
              (try simp only [Act.put, List.setIfInBounds_toArray, List.set_cons_zero, List.set_cons_succ])
              refine wpAnyH_done (by kernel_rfl) ?_ _
              have K7 := Lib.hid k7
              have BB7 := Lib.hid B7
              have HT7 := Lib.hid ht7
              clear k7 B7 ht7 be7 ne7 HTT B6 k6 y0 y1
              go_wp2_with fail
              go_roundw
              case rel => exact ⟨4 + 1, r7, by omega, by go_num, by rw [if_neg (by rw [HKK.out]; omega)]; exact HTK.out.trans HT7.out, K7, BB7⟩
              case measure => simp [intOf]
            case qp =>
              intro V7 ht7 be7
              refine ⟨rfl, rule_bad ?_ (HBW.out _ (be7 _ _ hgz B6))⟩
              rw [HRD2.out, HRT.out, ht7]; rfl
          · have hk0 := fun h => hw (HK.out.1 h)
            have hs1 : (([111, 118, 101, 114] : List UInt8) == w2.toList) = false := lit_ne hw
            have HK0 := Lib.hid hk0
            clear hw hk0
            go_wp2
            refine wp_region_held_drew (S := fun V => V.cell? ⟨wr.heap.size, 0, none⟩ = some (.string ⟨#[111, 118, 101, 114]⟩) ∧ V.cell? ⟨w.heap.size + 1, 2, none⟩ = some (.string w2)) (by kernel_rfl) ?_ (fun hHeld => ?_)
            · exact ⟨((Bk.new wr 106 _).drew).cell 0 rfl, ((hBW2.out.alloc _).drew).cell 2 (by simp)⟩
            refine tk 0 30 ?_
            refine tk 1 31 ?_
            refine tk 2 32 ?_
            refine tk 3 33 ?_
            refine tk 4 34 ?_
            refine tk 5 35 ?_
            refine tk 6 36 ?_
            refine tk 7 37 ?_
            refine tk 8 38 ?_
            refine tk 9 39 ?_
            refine wpAnyH_done (by kernel_rfl) ?_ _
            clear hHeld
            go_wp2
            go_roundw
            case rel => exact ⟨4 + 1, r, by omega, by go_num, st_step (k := 4) (fun h => HK0.out h) hst.out, (hkr.out.alloc _).drew, (hbr.out.alloc hbr.out.size _).drew⟩
            case measure => simp [intOf]
        · have HK : Hid (kindB w2 = 5 ↔ w2 = ⟨#[103, 114, 111, 117, 112]⟩) := kindB_iff5 w2
          have hix := idi107_5
          unfold formsC at hix ⊢
          by_cases hw : w2 = ⟨#[103, 114, 111, 117, 112]⟩
          · have HKK := Lib.hid (HK.out.2 hw)
            have hr0 : r = ⟨a, b, 0, ⟨#[]⟩, ⟨#[]⟩, 0⟩ := by have := hst.out; rwa [if_pos (.inr (by rw [HKK.out]; decide))] at this
            subst hr0
            have HTK : Hid (takR (kindB w2) ⟨a, b, kindB w2, ⟨#[]⟩, ⟨#[]⟩, 0⟩ w3 x4 = (some { (⟨a, b, 5, ⟨#[]⟩, ⟨#[]⟩, 0⟩ : Rul) with x := w3, y := x4 })) := by
              show takR _ _ _ _ = _
              rw [HKK.out]; rfl
            have HRT : Hid (rdT a b w2 w3 x4 = (some { (⟨a, b, 5, ⟨#[]⟩, ⟨#[]⟩, 0⟩ : Rul) with x := w3, y := x4 })) := by
              show rdT _ _ _ _ _ = _
              rw [← HTK.out]; unfold rdT; rw [if_neg (by rw [HKK.out]; decide)]
            subst hw
            have hkr1 : Bk ((wr.alloc (.cells #[.string ⟨#[103, 114, 111, 117, 112]⟩, .func (.func 121) #[] #[.pointer (some ⟨bf, 0, none⟩)], .func (.func 148) #[] #[], .func (.func 149) #[] #[]] 106)).drew) g 50 #[.int .i64 a, .int .i64 b, .int .u8 0, .string ⟨#[]⟩, .string ⟨#[]⟩, .int .i64 0] := (hkr.out.alloc _).drew
            have q2 := hkr1.cell 2 rfl
            have f2 := hkr1.fro 2
            have HKR1 := Lib.hid hkr1
            clear hkr1
            go_wp2
            refine wp_region_held_drew (S := fun V => V.cell? ⟨wr.heap.size, 0, none⟩ = some (.string ⟨#[103, 114, 111, 117, 112]⟩) ∧ V.cell? ⟨w.heap.size + 1, 2, none⟩ = some (.string ⟨#[103, 114, 111, 117, 112]⟩)) (by kernel_rfl) ?_ (fun hHeld => ?_)
            · exact ⟨((Bk.new wr 106 _).drew).cell 0 rfl, ((hBW2.out.alloc _).drew).cell 2 (by simp)⟩
            refine tk 0 30 ?_
            refine tk 1 31 ?_
            refine tk 2 32 ?_
            refine tk 3 33 ?_
            refine tk 4 34 ?_
            refine tk 5 35 ?_
            refine tk 6 36 ?_
            refine tk 7 37 ?_
            refine tk 8 38 ?_
            refine tk 9 39 ?_
            refine wpAnyH_done (by kernel_rfl) ?_ _
            clear hHeld
            go_upto_region 10 with fail
            have k9 := Lib.hid (show Bk (((wr.setCell ⟨g, 2, none⟩ (.int .u8 5)).alloc (.cells #[.string ⟨#[103, 114, 111, 117, 112]⟩, .func (.func 121) #[] #[.pointer (some ⟨bf, 0, none⟩)], .func (.func 148) #[] #[], .func (.func 149) #[] #[]] 106)).drew) g 50 #[.int .i64 a, .int .i64 b, .int .u8 5, .string ⟨#[]⟩, .string ⟨#[]⟩, .int .i64 0] from ((hkr.out.set 2 _).alloc _).drew)
            have b9 := Lib.hid (show Below wz.heap.size wz (((wr.setCell ⟨g, 2, none⟩ (.int .u8 5)).alloc (.cells #[.string ⟨#[103, 114, 111, 117, 112]⟩, .func (.func 121) #[] #[.pointer (some ⟨bf, 0, none⟩)], .func (.func 148) #[] #[], .func (.func 149) #[] #[]] 106)).drew) from ((hbr.out.setCell (p := ⟨g, 2, none⟩) hgz _).alloc (by have := hbr.out.size; simpa using this) _).drew)
            have m9 := Lib.hid (show Bk (((wr.setCell ⟨g, 2, none⟩ (.int .u8 5)).alloc (.cells #[.string ⟨#[103, 114, 111, 117, 112]⟩, .func (.func 121) #[] #[.pointer (some ⟨bf, 0, none⟩)], .func (.func 148) #[] #[], .func (.func 149) #[] #[]] 106)).drew) wr.heap.size 106 #[.string ⟨#[103, 114, 111, 117, 112]⟩, .func (.func 121) #[] #[.pointer (some ⟨bf, 0, none⟩)], .func (.func 148) #[] #[], .func (.func 149) #[] #[]] from by
              have h := Bk.new (wr.setCell ⟨g, 2, none⟩ (.int .u8 5)) 106 #[.string ⟨#[103, 114, 111, 117, 112]⟩, .func (.func 121) #[] #[.pointer (some ⟨bf, 0, none⟩)], .func (.func 148) #[] #[], .func (.func 149) #[] #[]]
              rw [show (wr.setCell ⟨g, 2, none⟩ (.int .u8 5)).heap.size = wr.heap.size by simp] at h
              exact h.drew)
            clear q2 f2 HKR1
            generalize (((wr.setCell ⟨g, 2, none⟩ (.int .u8 5)).alloc (.cells #[.string ⟨#[103, 114, 111, 117, 112]⟩, .func (.func 121) #[] #[.pointer (some ⟨bf, 0, none⟩)], .func (.func 148) #[] #[], .func (.func 149) #[] #[]] 106)).drew) = X9 at *
            have HW9 := Lib.hid (HW.out X9 b9.out)
            refine wp_region_held_drew (S := fun V => V.cell? ⟨wr.heap.size, 3, none⟩ = some (.func (.func 149) #[] #[])) (by kernel_rfl) ?_ (fun hHeld => ?_)
            · exact (m9.out.drew).cell 3 rfl
            refine tk 0 43 ?_
            refine tk 1 44 ?_
            refine tk 2 45 ?_
            refine tk 3 46 ?_
            have bd9 : Below wz.heap.size wz X9.drew := b9.out.drew
            have kd9 := k9.out.drew
            have HWd := Lib.hid (HW9.out.drew)
            have HMd := Lib.hid (m9.out.drew)
            clear hHeld k9 b9 m9 HW9
            generalize X9.drew = V3 at *
            refine held_one 4 ⟨some 47, .buildSlice 34 1 #[(0, .const (.string ⟨#[]⟩))], 34, _, _, none⟩ rfl (by kernel_rfl) (by rfl) ?_
            unfold Oper.wp
            go_simp
            have bd4 : Below wz.heap.size wz (V3.alloc (.cells #[.string ⟨#[]⟩] 9)) := bd9.alloc bd9.size _
            have kd4 := kd9.alloc (.cells #[.string ⟨#[]⟩] 9)
            have HW4 := Lib.hid (HWd.out.alloc (.cells #[.string ⟨#[]⟩] 9))
            have HM4' := Lib.hid (HMd.out.alloc (.cells #[.string ⟨#[]⟩] 9))
            have HN4 : Hid (Bk (V3.alloc (.cells #[.string ⟨#[]⟩] 9)) V3.heap.size 9 #[.string ⟨#[]⟩]) := Bk.new _ _ _
            refine ⟨HM4'.out.cell 3 rfl, ?_⟩
            (try simp only [Act.put, List.setIfInBounds_toArray, List.set_cons_zero, List.set_cons_succ])
            clear HMd HWd bd9 kd9
            generalize hV4 : V3.alloc (.cells #[.string ⟨#[]⟩] 9) = V4 at *
            refine held_one 5 ⟨some 48, .call { callee := .builtin .append, args := #[.tmp 46, .tmp 47], argTypes := #[34, 34] }, 34, _, _, none⟩ rfl (by kernel_rfl) (by rfl) ?_
            obtain ⟨i9, hi9, hz0, hz1, hz2⟩ := info_parts info9
            refine wp_append_grows V4 (.tmp 46) (.tmp 47) 34 rfl 9 i9 _ 1 16 Tryz.underlying34 hi9 hz0 hz1 hz2 (by decide) (by decide) (some ⟨w.heap.size + 1, 3, none⟩) (n - 3) (n - 3) ((w3 :: l).map Value.string) rfl (by intro h; cases h) (by have := HNN.out; simp; omega) (by
              intro bb e j u hj
              cases e
              have h9 := bk_cells HW4.out (j + 3) u (by simpa using hj)
              rw [Addr.add_lit] at h9 ⊢
              rw [show 3 + j = 0 + (j + 3) by omega]; exact h9) ⟨V3.heap.size, 0, none⟩ 1 1 [.string ⟨#[]⟩] rfl rfl (bk_cells HN4.out) (by intro u hu; simp at hu; subst hu; rfl) (by omega) (by have := HNM2.out; unfold maxLen; omega) (by have := HNM2.out; omega) ?_
            intro v5 V5 ow5 gr5
            have br5 : Below V4.heap.size V4 V5 := Below.grown (Below.refl _ _) gr5 (Nat.le_refl _) (by intro k hk; cases hk)
            have B6 : Below wz.heap.size wz V5 := bd4.trans (br5.mono bd4.size)
            have k6 := kd4.below br5 kd4.lt
            have HM6 := Lib.hid (HM4'.out.below br5 HM4'.out.lt)
            refine ⟨HM6.out.cell 3 rfl, ?_⟩
            (try simp only [Act.put, List.setIfInBounds_toArray, List.set_cons_zero, List.set_cons_succ])
            obtain ⟨A5, c2, rfl, hc5⟩ := ownsSlice ow5
            obtain ⟨g2, rfl, -⟩ := own_some ow5 (by omega)
            have y0 : V5.cell? ⟨g2, 0, none⟩ = some (.string w3) := by
              have := ow5.cells (g := g2) rfl 0 (.string w3) (by simp)
              simpa [Addr.add] using this
            have y1 : V5.cell? ⟨g2, 0 + 1, none⟩ = some (.string x4) := by
              have := ow5.cells (g := g2) rfl 1 (.string x4) (by
                rw [HL4.out]
                cases l with
                | nil => rfl
                | cons q l => rfl)
              simpa [Addr.add] using this
            clear ow5 gr5 br5 bd4 kd4 HW4 HN4 hi9 hz0 hz1 hz2 hV4
            generalize V5 = V6 at *
            refine held_one 6 ⟨some 49, .call { callee := .value (.tmp 44), args := #[.tmp 4, .tmp 48], argTypes := #[138, 34] }, 0, _, _, none⟩ rfl (by kernel_rfl) (by rfl) ?_
            have HTT := take2_any g ⟨a, b, 5, ⟨#[]⟩, ⟨#[]⟩, 0⟩ w3 x4 ⟨g2, 0, none⟩ (n - 3 + 1) c2 V6 k6 y0 y1 HP2.out
            refine wp_call_take (f := 149) (b := g) (args := #[.pointer (some ⟨g, 0, none⟩), .slice (some ⟨g2, 0, none⟩) (n - 3 + 1) c2]) ?qh HTT ?qk ?qp
            case qh =>
              clear HTT
              go_simp
            case qk =>
              intro r7 V7 ht7 k7 be7 ne7
              have B7 := be7 _ _ hgz B6
              refine ⟨(ne7 _ _ _ (by have := hkl; omega) HM6.out).cell 3 rfl, ?_⟩
              (try simp only [Act.put, List.setIfInBounds_toArray, List.set_cons_zero, List.set_cons_succ])
              refine wpAnyH_done (by kernel_rfl) ?_ _
              have K7 := Lib.hid k7
              have BB7 := Lib.hid B7
              have HT7 := Lib.hid ht7
              clear k7 B7 ht7 be7 ne7 HTT B6 k6 y0 y1
              go_wp2_with fail
              go_roundw
              case rel => exact ⟨5 + 1, r7, by omega, by go_num, by rw [if_neg (by rw [HKK.out]; omega)]; exact HTK.out.trans HT7.out, K7, BB7⟩
              case measure => simp [intOf]
            case qp =>
              intro V7 ht7 be7
              refine ⟨rfl, rule_bad ?_ (HBW.out _ (be7 _ _ hgz B6))⟩
              rw [HRD2.out, HRT.out, ht7]; rfl
          · have hk0 := fun h => hw (HK.out.1 h)
            have hs1 : (([103, 114, 111, 117, 112] : List UInt8) == w2.toList) = false := lit_ne hw
            have HK0 := Lib.hid hk0
            clear hw hk0
            go_wp2
            refine wp_region_held_drew (S := fun V => V.cell? ⟨wr.heap.size, 0, none⟩ = some (.string ⟨#[103, 114, 111, 117, 112]⟩) ∧ V.cell? ⟨w.heap.size + 1, 2, none⟩ = some (.string w2)) (by kernel_rfl) ?_ (fun hHeld => ?_)
            · exact ⟨((Bk.new wr 106 _).drew).cell 0 rfl, ((hBW2.out.alloc _).drew).cell 2 (by simp)⟩
            refine tk 0 30 ?_
            refine tk 1 31 ?_
            refine tk 2 32 ?_
            refine tk 3 33 ?_
            refine tk 4 34 ?_
            refine tk 5 35 ?_
            refine tk 6 36 ?_
            refine tk 7 37 ?_
            refine tk 8 38 ?_
            refine tk 9 39 ?_
            refine wpAnyH_done (by kernel_rfl) ?_ _
            clear hHeld
            go_wp2
            go_roundw
            case rel => exact ⟨5 + 1, r, by omega, by go_num, st_step (k := 5) (fun h => HK0.out h) hst.out, (hkr.out.alloc _).drew, (hbr.out.alloc hbr.out.size _).drew⟩
            case measure => simp [intOf]
        · have HK : Hid (kindB w2 = 6 ↔ w2 = ⟨#[118, 111, 105, 100]⟩) := kindB_iff6 w2
          have hix := idi107_6
          unfold formsC at hix ⊢
          by_cases hw : w2 = ⟨#[118, 111, 105, 100]⟩
          · have HKK := Lib.hid (HK.out.2 hw)
            have hr0 : r = ⟨a, b, 0, ⟨#[]⟩, ⟨#[]⟩, 0⟩ := by have := hst.out; rwa [if_pos (.inr (by rw [HKK.out]; decide))] at this
            subst hr0
            have HTK : Hid (takR (kindB w2) ⟨a, b, kindB w2, ⟨#[]⟩, ⟨#[]⟩, 0⟩ w3 x4 = ((numB w3).map fun m => { (⟨a, b, 6, ⟨#[]⟩, ⟨#[]⟩, 0⟩ : Rul) with of := m })) := by
              show takR _ _ _ _ = _
              rw [HKK.out]; rfl
            have HRT : Hid (rdT a b w2 w3 x4 = ((numB w3).map fun m => { (⟨a, b, 6, ⟨#[]⟩, ⟨#[]⟩, 0⟩ : Rul) with of := m })) := by
              show rdT _ _ _ _ _ = _
              rw [← HTK.out]; unfold rdT; rw [if_neg (by rw [HKK.out]; decide)]
            subst hw
            have hkr1 : Bk ((wr.alloc (.cells #[.string ⟨#[118, 111, 105, 100]⟩, .func (.func 122) #[] #[], .func (.func 123) #[] #[], .func (.func 124) #[] #[]] 106)).drew) g 50 #[.int .i64 a, .int .i64 b, .int .u8 0, .string ⟨#[]⟩, .string ⟨#[]⟩, .int .i64 0] := (hkr.out.alloc _).drew
            have q2 := hkr1.cell 2 rfl
            have f2 := hkr1.fro 2
            have HKR1 := Lib.hid hkr1
            clear hkr1
            go_wp2
            refine wp_region_held_drew (S := fun V => V.cell? ⟨wr.heap.size, 0, none⟩ = some (.string ⟨#[118, 111, 105, 100]⟩) ∧ V.cell? ⟨w.heap.size + 1, 2, none⟩ = some (.string ⟨#[118, 111, 105, 100]⟩)) (by kernel_rfl) ?_ (fun hHeld => ?_)
            · exact ⟨((Bk.new wr 106 _).drew).cell 0 rfl, ((hBW2.out.alloc _).drew).cell 2 (by simp)⟩
            refine tk 0 30 ?_
            refine tk 1 31 ?_
            refine tk 2 32 ?_
            refine tk 3 33 ?_
            refine tk 4 34 ?_
            refine tk 5 35 ?_
            refine tk 6 36 ?_
            refine tk 7 37 ?_
            refine tk 8 38 ?_
            refine tk 9 39 ?_
            refine wpAnyH_done (by kernel_rfl) ?_ _
            clear hHeld
            go_upto_region 10 with fail
            have k9 := Lib.hid (show Bk (((wr.setCell ⟨g, 2, none⟩ (.int .u8 6)).alloc (.cells #[.string ⟨#[118, 111, 105, 100]⟩, .func (.func 122) #[] #[], .func (.func 123) #[] #[], .func (.func 124) #[] #[]] 106)).drew) g 50 #[.int .i64 a, .int .i64 b, .int .u8 6, .string ⟨#[]⟩, .string ⟨#[]⟩, .int .i64 0] from ((hkr.out.set 2 _).alloc _).drew)
            have b9 := Lib.hid (show Below wz.heap.size wz (((wr.setCell ⟨g, 2, none⟩ (.int .u8 6)).alloc (.cells #[.string ⟨#[118, 111, 105, 100]⟩, .func (.func 122) #[] #[], .func (.func 123) #[] #[], .func (.func 124) #[] #[]] 106)).drew) from ((hbr.out.setCell (p := ⟨g, 2, none⟩) hgz _).alloc (by have := hbr.out.size; simpa using this) _).drew)
            have m9 := Lib.hid (show Bk (((wr.setCell ⟨g, 2, none⟩ (.int .u8 6)).alloc (.cells #[.string ⟨#[118, 111, 105, 100]⟩, .func (.func 122) #[] #[], .func (.func 123) #[] #[], .func (.func 124) #[] #[]] 106)).drew) wr.heap.size 106 #[.string ⟨#[118, 111, 105, 100]⟩, .func (.func 122) #[] #[], .func (.func 123) #[] #[], .func (.func 124) #[] #[]] from by
              have h := Bk.new (wr.setCell ⟨g, 2, none⟩ (.int .u8 6)) 106 #[.string ⟨#[118, 111, 105, 100]⟩, .func (.func 122) #[] #[], .func (.func 123) #[] #[], .func (.func 124) #[] #[]]
              rw [show (wr.setCell ⟨g, 2, none⟩ (.int .u8 6)).heap.size = wr.heap.size by simp] at h
              exact h.drew)
            clear q2 f2 HKR1
            generalize (((wr.setCell ⟨g, 2, none⟩ (.int .u8 6)).alloc (.cells #[.string ⟨#[118, 111, 105, 100]⟩, .func (.func 122) #[] #[], .func (.func 123) #[] #[], .func (.func 124) #[] #[]] 106)).drew) = X9 at *
            have HW9 := Lib.hid (HW.out X9 b9.out)
            refine wp_region_held_drew (S := fun V => V.cell? ⟨wr.heap.size, 3, none⟩ = some (.func (.func 124) #[] #[])) (by kernel_rfl) ?_ (fun hHeld => ?_)
            · exact (m9.out.drew).cell 3 rfl
            refine tk 0 43 ?_
            refine tk 1 44 ?_
            refine tk 2 45 ?_
            refine tk 3 46 ?_
            have bd9 : Below wz.heap.size wz X9.drew := b9.out.drew
            have kd9 := k9.out.drew
            have HWd := Lib.hid (HW9.out.drew)
            have HMd := Lib.hid (m9.out.drew)
            clear hHeld k9 b9 m9 HW9
            generalize X9.drew = V3 at *
            refine held_one 4 ⟨some 47, .buildSlice 34 1 #[(0, .const (.string ⟨#[]⟩))], 34, _, _, none⟩ rfl (by kernel_rfl) (by rfl) ?_
            unfold Oper.wp
            go_simp
            have bd4 : Below wz.heap.size wz (V3.alloc (.cells #[.string ⟨#[]⟩] 9)) := bd9.alloc bd9.size _
            have kd4 := kd9.alloc (.cells #[.string ⟨#[]⟩] 9)
            have HW4 := Lib.hid (HWd.out.alloc (.cells #[.string ⟨#[]⟩] 9))
            have HM4' := Lib.hid (HMd.out.alloc (.cells #[.string ⟨#[]⟩] 9))
            have HN4 : Hid (Bk (V3.alloc (.cells #[.string ⟨#[]⟩] 9)) V3.heap.size 9 #[.string ⟨#[]⟩]) := Bk.new _ _ _
            refine ⟨HM4'.out.cell 3 rfl, ?_⟩
            (try simp only [Act.put, List.setIfInBounds_toArray, List.set_cons_zero, List.set_cons_succ])
            clear HMd HWd bd9 kd9
            generalize hV4 : V3.alloc (.cells #[.string ⟨#[]⟩] 9) = V4 at *
            refine held_one 5 ⟨some 48, .call { callee := .builtin .append, args := #[.tmp 46, .tmp 47], argTypes := #[34, 34] }, 34, _, _, none⟩ rfl (by kernel_rfl) (by rfl) ?_
            obtain ⟨i9, hi9, hz0, hz1, hz2⟩ := info_parts info9
            refine wp_append_grows V4 (.tmp 46) (.tmp 47) 34 rfl 9 i9 _ 1 16 Tryz.underlying34 hi9 hz0 hz1 hz2 (by decide) (by decide) (some ⟨w.heap.size + 1, 3, none⟩) (n - 3) (n - 3) ((w3 :: l).map Value.string) rfl (by intro h; cases h) (by have := HNN.out; simp; omega) (by
              intro bb e j u hj
              cases e
              have h9 := bk_cells HW4.out (j + 3) u (by simpa using hj)
              rw [Addr.add_lit] at h9 ⊢
              rw [show 3 + j = 0 + (j + 3) by omega]; exact h9) ⟨V3.heap.size, 0, none⟩ 1 1 [.string ⟨#[]⟩] rfl rfl (bk_cells HN4.out) (by intro u hu; simp at hu; subst hu; rfl) (by omega) (by have := HNM2.out; unfold maxLen; omega) (by have := HNM2.out; omega) ?_
            intro v5 V5 ow5 gr5
            have br5 : Below V4.heap.size V4 V5 := Below.grown (Below.refl _ _) gr5 (Nat.le_refl _) (by intro k hk; cases hk)
            have B6 : Below wz.heap.size wz V5 := bd4.trans (br5.mono bd4.size)
            have k6 := kd4.below br5 kd4.lt
            have HM6 := Lib.hid (HM4'.out.below br5 HM4'.out.lt)
            refine ⟨HM6.out.cell 3 rfl, ?_⟩
            (try simp only [Act.put, List.setIfInBounds_toArray, List.set_cons_zero, List.set_cons_succ])
            obtain ⟨A5, c2, rfl, hc5⟩ := ownsSlice ow5
            obtain ⟨g2, rfl, -⟩ := own_some ow5 (by omega)
            have y0 : V5.cell? ⟨g2, 0, none⟩ = some (.string w3) := by
              have := ow5.cells (g := g2) rfl 0 (.string w3) (by simp)
              simpa [Addr.add] using this
            have y1 : V5.cell? ⟨g2, 0 + 1, none⟩ = some (.string x4) := by
              have := ow5.cells (g := g2) rfl 1 (.string x4) (by
                rw [HL4.out]
                cases l with
                | nil => rfl
                | cons q l => rfl)
              simpa [Addr.add] using this
            clear ow5 gr5 br5 bd4 kd4 HW4 HN4 hi9 hz0 hz1 hz2 hV4
            generalize V5 = V6 at *
            refine held_one 6 ⟨some 49, .call { callee := .value (.tmp 44), args := #[.tmp 4, .tmp 48], argTypes := #[138, 34] }, 0, _, _, none⟩ rfl (by kernel_rfl) (by rfl) ?_
            have HTT := take6_any g ⟨a, b, 6, ⟨#[]⟩, ⟨#[]⟩, 0⟩ w3 ⟨g2, 0, none⟩ (n - 3 + 1) c2 V6 (HG.out.step (HBW.out _ B6)) (Nat.le_trans HM3.out (by decide)) k6 y0 HP1.out
            refine wp_call_take (f := 124) (b := g) (args := #[.pointer (some ⟨g, 0, none⟩), .slice (some ⟨g2, 0, none⟩) (n - 3 + 1) c2]) ?qh HTT ?qk ?qp
            case qh =>
              clear HTT
              go_simp
            case qk =>
              intro r7 V7 ht7 k7 be7 ne7
              have B7 := be7 _ _ hgz B6
              refine ⟨(ne7 _ _ _ (by have := hkl; omega) HM6.out).cell 3 rfl, ?_⟩
              (try simp only [Act.put, List.setIfInBounds_toArray, List.set_cons_zero, List.set_cons_succ])
              refine wpAnyH_done (by kernel_rfl) ?_ _
              have K7 := Lib.hid k7
              have BB7 := Lib.hid B7
              have HT7 := Lib.hid ht7
              clear k7 B7 ht7 be7 ne7 HTT B6 k6 y0 y1
              go_wp2_with fail
              go_roundw
              case rel => exact ⟨6 + 1, r7, by omega, by go_num, by rw [if_neg (by rw [HKK.out]; omega)]; exact HTK.out.trans HT7.out, K7, BB7⟩
              case measure => simp [intOf]
            case qp =>
              intro V7 ht7 be7
              refine ⟨rfl, rule_bad ?_ (HBW.out _ (be7 _ _ hgz B6))⟩
              rw [HRD2.out, HRT.out, ht7]; rfl
          · have hk0 := fun h => hw (HK.out.1 h)
            have hs1 : (([118, 111, 105, 100] : List UInt8) == w2.toList) = false := lit_ne hw
            have HK0 := Lib.hid hk0
            clear hw hk0
            go_wp2
            refine wp_region_held_drew (S := fun V => V.cell? ⟨wr.heap.size, 0, none⟩ = some (.string ⟨#[118, 111, 105, 100]⟩) ∧ V.cell? ⟨w.heap.size + 1, 2, none⟩ = some (.string w2)) (by kernel_rfl) ?_ (fun hHeld => ?_)
            · exact ⟨((Bk.new wr 106 _).drew).cell 0 rfl, ((hBW2.out.alloc _).drew).cell 2 (by simp)⟩
            refine tk 0 30 ?_
            refine tk 1 31 ?_
            refine tk 2 32 ?_
            refine tk 3 33 ?_
            refine tk 4 34 ?_
            refine tk 5 35 ?_
            refine tk 6 36 ?_
            refine tk 7 37 ?_
            refine tk 8 38 ?_
            refine tk 9 39 ?_
            refine wpAnyH_done (by kernel_rfl) ?_ _
            clear hHeld
            go_wp2
            go_roundw
            case rel => exact ⟨6 + 1, r, by omega, by go_num, st_step (k := 6) (fun h => HK0.out h) hst.out, (hkr.out.alloc _).drew, (hbr.out.alloc hbr.out.size _).drew⟩
            case measure => simp [intOf]
        · have HRT : Hid (rdT a b w2 w3 x4 = some r) := rdT_of hst.out
          have HRF : Hid (rdR line = rdF line r) := by
            show rdR line = _
            rw [HRD2.out, HRT.out]; rfl
          have hsz := rdT_small HRT.out HM3.out HM4.out
          have HWR := Lib.hid (write_big r wr (HG.out.step (HBW.out _ hbr.out)) hsz.1 hsz.2)
          have HRES := Lib.hid (HKR.out.below hbr.out (by omega : w.heap.size < wz.heap.size))
          have c0 := hkr.out.cell 0 rfl
          have c1 := hkr.out.cell 1 rfl
          have c2 := hkr.out.cell 2 rfl
          have c3 := hkr.out.cell 3 rfl
          have c4 := hkr.out.cell 4 rfl
          have c5 := hkr.out.cell 5 rfl
          have HBR2 := Lib.hid (HBW.out _ hbr.out)
          have HKG := Lib.hid hkr.out
          clear hst HRT HRD2 hsz hkr hbr hBW2 hix0 HW
          by_cases hF : frm r = true
          · have HWE : Hid (wrE r = 0) := by show wrE r = 0; unfold wrE; rw [if_pos hF]
            by_cases hL : wrB r = line
            · have HRR : Hid (rdR line = some r) := by show _ = _; rw [HRF.out]; unfold rdF; rw [if_pos ⟨hF, hL⟩]
              have hstr : ((wrB r).toList == line.toList) = true := by rw [str_eq]; exact decide_eq_true hL
              clear hF hL HRF
              obtain ⟨i7, n7, k7, x7, y7, o7⟩ := r
              go_wp2_with (first | (go_at_call 34; refine HWR.out.mono ?_; rintro e V7 ⟨rfl, hb7⟩; rw [HWE.out]; have HB7 := Lib.hid (HBR2.out.trans (hb7.mono HBR2.out.size)); have HJ7 := Lib.hid (HRES.out.below hb7 HRES.out.lt); have HK7 := Lib.hid (HKG.out.below hb7 HKG.out.lt); have d0 := HK7.out.cell 0 rfl; have d1 := HK7.out.cell 1 rfl; have d2 := HK7.out.cell 2 rfl; have d3 := HK7.out.cell 3 rfl; have d4 := HK7.out.cell 4 rfl; have d5 := HK7.out.cell 5 rfl) | (refine wpList_store_blk (P := Tryz.prog) rfl 50 (.tmp 2) (.tmp 65) rfl w.heap.size #[.int .i64 0, .int .i64 0, .int .u8 0, .string ⟨#[]⟩, .string ⟨#[]⟩, .int .i64 0] #[.int .i64 i7, .int .i64 n7, .int .u8 k7, .string x7, .string y7, .int .i64 o7] rfl rfl HJ7.out rfl info50s (by intro v hv; simp at hv; rcases hv with rfl | rfl | rfl | rfl | rfl | rfl <;> rfl) ?_; intro W8 hk8 hf8))
              refine bodyPost_ret (results_cell rfl _ _ w.heap.size (#[.int .i64 i7, .int .i64 n7, .int .u8 k7, .string x7, .string y7, .int .i64 o7] : Array Value).toList _ rfl hk8.range Tryz.underlying50 rfl info50s) rfl ?_
              exact ⟨by rw [HRR.out], hf8.bel _ _ (Nat.le_refl _) HB7.out⟩
            · have HRR : Hid (rdR line = none) := by show _ = _; rw [HRF.out]; unfold rdF; rw [if_neg (fun h => hL h.2)]
              have hstr : ((wrB r).toList == line.toList) = false := by rw [str_eq]; exact decide_eq_false hL
              clear hF hL HRF HRES
              obtain ⟨i7, n7, k7, x7, y7, o7⟩ := r
              go_wp2_with (first | (go_at_call 34; refine HWR.out.mono ?_; rintro e V7 ⟨rfl, hb7⟩; rw [HWE.out]; have HB7 := Lib.hid (HBR2.out.trans (hb7.mono HBR2.out.size))))
              exact ⟨rfl, rule_bad HRR.out HB7.out⟩
          · have HWE : Hid (wrE r = 1) := by show wrE r = 1; unfold wrE; rw [if_neg hF]
            have HRR : Hid (rdR line = none) := by show _ = _; rw [HRF.out]; unfold rdF; rw [if_neg (fun h => hF h.1)]
            clear hF HRF HRES
            obtain ⟨i7, n7, k7, x7, y7, o7⟩ := r
            go_wp2_with (first | (go_at_call 34; refine HWR.out.mono ?_; rintro e V7 ⟨rfl, hb7⟩; rw [HWE.out]; have HB7 := Lib.hid (HBR2.out.trans (hb7.mono HBR2.out.size))))
            exact ⟨rfl, rule_bad HRR.out HB7.out⟩
end Go.Proofs.YtkfeagokmcakgaaGreatDoor
