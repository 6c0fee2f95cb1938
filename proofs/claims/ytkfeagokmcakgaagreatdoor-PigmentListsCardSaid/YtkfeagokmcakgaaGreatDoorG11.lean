/- (*strings.Builder).WriteString (fn 69): the shelf's walk turned to this program (its copy check is cut off here). -/
import Derived.Shelf.Strings.BuilderK
import Derived.Test.YtkfeagokmcakgaaGreatDoorG06
import Derived.Test.YtkfeagokmcakgaaGreatDoorG10

set_option linter.unusedVariables false
set_option linter.unusedSimpArgs false

namespace Go.Proofs.YtkfeagokmcakgaaGreatDoor
open Go.RowKit

theorem bsize : (Tryz.prog.info? 86).map (·.size) = some 2 := Tryz.Builder_Extra_169.sizeBuilder
theorem blies_of {ρ : Go.Shelf.Ren} (X : Builder.Extra Tryz.prog ρ) (h : ρ.t 72 = 86) : liesAt Tryz.prog Tryz.prog.depth 86 (2 / Tryz.prog.cellsOf 86) 0 86 1 = true := by
  have h1 := X.liesBuilder
  rwa [h] at h1
theorem blies : liesAt Tryz.prog Tryz.prog.depth 86 (2 / Tryz.prog.cellsOf 86) 0 86 1 = true := blies_of Tryz.Builder_Extra_169 rfl
theorem binfo : (Tryz.prog.info? 5).map (fun i => (i.zero, i.size, i.bytes)) = some (some (.int .u8 0), 1, 1) := Tryz.Builder_Extra_169.infoByte
set_option maxHeartbeats 1000000 in
set_option maxRecDepth 100000 in
theorem copyCheck_used (b : Nat) (w : World) (h0 : w.cell? ⟨b, 0, none⟩ = some (.pointer (some ⟨b, 0, none⟩))) :
    Calls Tryz.prog 116 #[.pointer (some ⟨b, 0, none⟩)] w fun e w' => e = .returned (.tuple #[]) ∧ w' = w := by
  obtain ⟨j, hj, _⟩ := Option.map_eq_some_iff.1 bsize
  go_enter Tryz.func116, Tryz.ntmps116
  go_wp2
  rw [Lib.run_neq_ptr_same w _ Tryz.underlying83 hj]
  go_wp2
  go_end0
  exact ⟨rfl, rfl⟩
set_option maxHeartbeats 1000000 in
set_option maxRecDepth 100000 in
theorem copyCheck_fresh (b : Nat) (w : World) (h0 : w.cell? ⟨b, 0, none⟩ = some (.pointer none)) (hsh : w.shape? b = some (86, 2)) (hfz : w.frozen? ⟨b, 0, none⟩ = false) :
    Calls Tryz.prog 116 #[.pointer (some ⟨b, 0, none⟩)] w fun e w' => e = .returned (.tuple #[]) ∧ w' = w.setCell ⟨b, 0, none⟩ (.pointer (some ⟨b, 0, none⟩)) := by
  obtain ⟨j, hj, hjs⟩ := Option.map_eq_some_iff.1 bsize
  go_enter Tryz.func116, Tryz.ntmps116
  go_wp2
  rw [Lib.run_to_unsafe w ⟨b, 0, none⟩ Tryz.underlying83 Tryz.underlying161 hj (by rw [hjs]; decide) hsh (Nat.zero_lt_succ 1)]
  simp only [Result.andThen]
  rw [Oper.upon_value]
  go_wp2
  rw [run_callFunc_extern Tryz.func145 (by kernel_rfl) (by kernel_rfl) (by kernel_rfl) (e := Extern.AbiNoEscape.same) (by kernel_rfl)]
  rw [Lib.run_noEscape]
  simp only [Result.andThen]
  rw [Oper.upon_value]
  go_wp2
  rw [Lib.run_from_unsafe w ⟨b, 0, none⟩ Tryz.underlying161 Tryz.underlying83 hj hsh blies]
  simp only [Result.andThen]
  rw [Oper.upon_value]
  go_wp2
  go_end0
  exact ⟨rfl, rfl⟩
theorem copyCheck_k (B b : Nat) (bs : List Value) (w : World) (h : Lib.IsBuilderF 86 5 B b bs w) :
    Calls Tryz.prog 116 #[.pointer (some ⟨b, 0, none⟩)] w fun e w' => e = .returned (.tuple #[]) ∧ (Lib.BuilderAtF 86 5 B b (.pointer (some ⟨b, 0, none⟩)) bs w' ∧ Below B w w' ∧ Lib.OthersKept 5 (some b) w w') := by
  rcases h with h | h
  · refine (copyCheck_fresh b w h.cell0 h.shape h.frozen0).mono ?_
    rintro e w' ⟨rfl, rfl⟩
    exact ⟨rfl, h.used _, (Below.refl B w).setCell (p := ⟨b, 0, none⟩) h.1 _, (Lib.OthersKept.refl _ _ w).setCell ⟨b, 0, none⟩ rfl _⟩
  · refine (copyCheck_used b w h.cell0).mono ?_
    rintro e w' ⟨rfl, rfl⟩
    exact ⟨rfl, h, Below.refl B _, Lib.OthersKept.refl _ _ _⟩
set_option maxHeartbeats 2000000 in
set_option maxRecDepth 100000 in
theorem WriteString_k (B b : Nat) (bs : List Value) (s : ByteArray) (w : World) (h : Lib.IsBuilderF 86 5 B b bs w) (hlen : bs.length + s.size ≤ 140737488355328) (hBw : B ≤ w.heap.size) :
    Calls Tryz.prog 69 #[.pointer (some ⟨b, 0, none⟩), .string s] w fun e w' => e = .returned (.tuple #[.int .i64 s.size, .nilIface]) ∧ (Lib.BuilderAtF 86 5 B b (.pointer (some ⟨b, 0, none⟩)) (bs ++ Lib.strCells s) w' ∧ Below B w w' ∧ Lib.OthersKept 5 (some b) w w') := by
  obtain ⟨i0, hi, hz0, hz1, hz2⟩ := info_parts binfo
  go_enter Tryz.func69, Tryz.ntmps69
  go_wp2_with (go_at_call 116; refine (copyCheck_k B b bs _ h).mono ?_)
  rintro e w1 ⟨rfl, h1, hb1, hk1⟩
  obtain ⟨hB, v, hbk, hown, hne⟩ := h1
  have c0 : w1.cell? ⟨b, 0, none⟩ = some (.pointer (some ⟨b, 0, none⟩)) := by rw [Lib.cell_of_heap hbk]; rfl
  have c1 : w1.cell? ⟨b, 1, none⟩ = some v := by rw [Lib.cell_of_heap hbk]; rfl
  go_wp2_with (at_builtin; refine Lib.wpList_append_own_stringF _ rfl _ _ 84 9 rfl B 5 i0 Tryz.underlying84 Tryz.underlying9 hi hz0 hz1 hz2 _ _ _ rfl hown s rfl ?c3 ?c4 ?c5 ?_)
  case c3 => unfold maxLen; omega
  case c4 => omega
  case c5 => have := hb1.size; omega
  intro v' w2 hown' hgrow _
  have hlt : b < w1.heap.size := by
    rcases Nat.lt_or_ge b w1.heap.size with h' | h'
    · exact h'
    · simp [Array.getElem?_eq_none h'] at hbk
  have hb2 : w2.heap[b]? = some (.cells #[.pointer (some ⟨b, 0, none⟩), v] 86 (0, 0)) := by
    rw [hgrow.block b hlt (fun e => hne e.symm)]
    exact hbk
  have d0 : w2.cell? ⟨b, 0, none⟩ = some (.pointer (some ⟨b, 0, none⟩)) := by rw [Lib.cell_of_heap hb2]; rfl
  have d1 : w2.cell? ⟨b, 1, none⟩ = some v := by rw [Lib.cell_of_heap hb2]; rfl
  have f1 : w2.frozen? ⟨b, 1, none⟩ = false := Lib.frozen_of_heap hb2 1
  obtain ⟨ao, n', cap, rfl⟩ : ∃ ao n' cap, v' = .slice ao n' cap := by
    rcases hown'.2 with ⟨hv, _⟩ | ⟨g, cap, cur, fz, hv, _⟩
    · exact ⟨_, _, _, hv⟩
    · exact ⟨_, _, _, hv⟩
  go_wp2
  go_ret2
  refine ⟨rfl, ?_, ?_, (hk1.grown hgrow (Lib.ownsRowF_kind hown)).setCell ⟨b, 1, none⟩ rfl _⟩
  · exact Lib.BuilderAtF.put (T := 86) (e := 5) hB hb2 (bs' := bs ++ Lib.strCells s) (by simpa [Lib.strCells_length] using hown') (by decide)
  · exact (hb1.grown hgrow (by have := hb1.size; omega) (fun k hk => (hown.lt k hk).1)).setCell (p := ⟨b, 1, none⟩) hB _
end Go.Proofs.YtkfeagokmcakgaaGreatDoor

namespace Go.Proofs.YtkfeagokmcakgaaGreatDoor
open Go.RowKit

theorem ownsRowF_below {w w' : World} {base B : Nat} {e : TypeId} {size n : Nat} {v : Value} {xs : List Value} (h : w.ownsRowF base e size v n xs) (hb : Below B w w') (hB : w.heap.size ≤ B) : w'.ownsRowF base e size v n xs := by
  refine ⟨h.1, ?_⟩
  rcases h.2 with h2 | ⟨g, cap, cur, fz, h1, h2, h3, h4⟩
  · exact .inl h2
  · have hg : g < w.heap.size := (Array.getElem?_eq_some_iff.1 h3).1
    exact .inr ⟨g, cap, cur, fz, h1, h2, (hb.block g (by omega)).trans h3, h4⟩
theorem builder_below {w w' : World} {C B b : Nat} {bs : List Value} (h : Lib.IsBuilderF 86 5 B b bs w) (hb : Below C w w') (hC : w.heap.size ≤ C) : Lib.IsBuilderF 86 5 B b bs w' := by
  rcases h with ⟨h1, v, h2, h3, h4⟩ | ⟨h1, v, h2, h3, h4⟩
  · have hlt : b < w.heap.size := (Array.getElem?_eq_some_iff.1 h2).1
    exact .inl ⟨h1, v, (hb.block b (by omega)).trans h2, ownsRowF_below h3 hb hC, h4⟩
  · have hlt : b < w.heap.size := (Array.getElem?_eq_some_iff.1 h2).1
    exact .inr ⟨h1, v, (hb.block b (by omega)).trans h2, ownsRowF_below h3 hb hC, h4⟩
theorem builder_new (w : World) : Lib.IsBuilderF 86 5 w.heap.size w.heap.size [] (w.alloc (.cells #[.pointer none, .slice none 0 0] 86)) :=
  .inl ⟨Nat.le_refl _, .slice none 0 0, heap_alloc_new w _, World.ownsRowF_nil _ _ _ _, by simp [Value.ownBlock]⟩

def prnL (l : List Rul) : List UInt8 := l.flatMap fun r => wrL r ++ [10]
def prnB (l : List Rul) : ByteArray := if (chkL l).2 = 0 then ⟨(prnL l).toArray⟩ else ⟨#[]⟩
theorem prnL_snoc (l : List Rul) (r : Rul) : prnL (l ++ [r]) = prnL l ++ (wrL r ++ [10]) := by unfold prnL; rw [List.flatMap_append]; simp
theorem fine_frm {l : List Rul} (h : Fine l) {k : Nat} (hk : k < l.length) : frm l[k] = true := by
  have h1 := h k hk
  unfold refE refG at h1
  by_cases hf : frm l[k] = true
  · exact hf
  · rw [if_pos (by simpa using hf : frm l[k] = false)] at h1
    split at h1 <;> omega
theorem prnL_len (l : List Rul) (h : ∀ r ∈ l, frm r = true) (hok : RulOK l) : (prnL l).length ≤ l.length * 1001 := by
  induction l with
  | nil => simp [prnL]
  | cons r l ih =>
    have h1 := ih (fun x hx => h x (by simp [hx])) (fun x hx => hok x (by simp [hx]))
    have h2 := wrL_len (h r (by simp)) (hok r (by simp)).1 (hok r (by simp)).2.1
    simp only [prnL, List.flatMap_cons, List.length_append, List.length_cons, List.length_nil] at *
    omega
theorem byteCells_app (a b : List UInt8) : Lib.byteCells a ++ Lib.byteCells b = Lib.byteCells (a ++ b) := by simp [Lib.byteCells]
theorem line_size (U : List UInt8) : (ByteArray.mk U.toArray ++ ⟨#[10]⟩).size = U.length + 1 := by rw [ByteArray.size_append]; rfl
set_option maxHeartbeats 1000000 in
theorem print_any (l : List Rul) (A : Option Addr) (c : Nat) (w : World) (hl : Lies w w.heap.size A (rulesC l)) (hg : Glob w) (hok : RulOK l) (hm : l.length ≤ 1000) (hc : l.length ≤ c) (hc2 : c ≤ maxLen) :
    Calls Tryz.prog 21 #[.agg #[.slice A l.length c]] w (ValEnd (.string (prnB l)) w) := by
  have HCH := Lib.hid (check_any l A c (w.alloc (.cells #[.slice A l.length c] 25)) ((hl.below ((Below.refl w.heap.size w).alloc (Nat.le_refl _) _) (Nat.le_refl _)).more (by simp)) hok hm hc hc2)
  have HP : Hid (prnB l = if (chkL l).2 = 0 then ⟨(prnL l).toArray⟩ else ⟨#[]⟩) := rfl
  have HFM : Hid ((chkL l).2 = 0 → Fine l) := chkL_fine
  by_cases h0 : (chkL l).2 = 0
  · have HF := Lib.hid (HFM.out h0)
    have HE := Lib.hid h0
    have hR' : ((chkL l).2 == 0) = true := by rw [h0]; rfl
    have hR2 : ((chkL l).2 != 0) = false := by rw [bne, hR']; rfl
    clear h0
    have HW : Hid (∀ (k : Nat) (hk : k < l.length) W, Below w.heap.size w W → Calls Tryz.prog 34 #[l[k].agg] W (fun e W' => e = .returned (.tuple #[.string ⟨(wrL l[k]).toArray⟩, .int .i64 0]) ∧ Below W.heap.size W W')) := fun k hk W hb => by
      have hk2 := hok l[k] (List.getElem_mem hk)
      have hf := fine_frm HF.out hk
      refine (write_any l[k] W (hg.step hb) hk2.1 hk2.2.1).mono ?_
      rintro e w1 ⟨h1, h2⟩
      refine ⟨?_, h2⟩
      rw [h1]; unfold wrB wrE; rw [if_pos hf, if_pos hf]
    have HL : Hid (∀ W, Below w.heap.size w W → Lies W w.heap.size A (rulesC l)) := fun W hb => hl.below hb (Nat.le_refl _)
    have HN : Hid (∀ k, (prnL (l.take k)).length ≤ 1001000 ∧ ∀ hk : k < l.length, (wrL l[k]).length ≤ 1000) := fun k => by
      refine ⟨?_, fun hk => wrL_len (fine_frm HF.out hk) (hok _ (List.getElem_mem hk)).1 (hok _ (List.getElem_mem hk)).2.1⟩
      have h1 := prnL_len (l.take k) (fun r hr => by
        obtain ⟨i, hi, e⟩ := List.getElem_of_mem (List.mem_of_mem_take hr)
        rw [← e]; exact fine_frm HF.out hi) (hok.sub fun r hr => List.mem_of_mem_take hr)
      have : (l.take k).length ≤ l.length := by rw [List.length_take]; exact Nat.min_le_right _ _
      omega
    have HS : Hid (∀ k (hk : k < l.length), prnL (l.take (k + 1)) = prnL (l.take k) ++ (wrL l[k] ++ [10])) := fun k hk => by
      rw [← prnL_snoc, List.take_append_getElem]
    clear hl hg hok HFM
    have HZ : Hid (prnL (l.take 0) = []) := by show prnL _ = []; simp [prnL]
    have HPR : Hid (prnB l = ⟨(prnL l).toArray⟩) := by show prnB l = _; rw [HP.out, if_pos HE.out]
    have HALL : Hid (l.take l.length = l) := List.take_length
    clear HP
    generalize chkL l = R at *
    obtain ⟨i0, e0⟩ := R
    dsimp only at *
    go_enter Tryz.func21, Tryz.ntmps21
    go_upto_region 4 with (first | (go_at_call 46; refine HCH.out.mono ?_; rintro e w1 ⟨rfl, hb1⟩))
    have hbx1 : Bk w1 w.heap.size 25 #[.slice A l.length c] := (Bk.new w 25 #[.slice A l.length c]).below hb1 (by simp)
    have hlt1 := hbx1.lt
    have x1 := hbx1.cell 0 rfl
    have x2 : (w1.alloc (.cells #[.pointer none, .slice none 0 0] 86)).cell? ⟨w.heap.size, 0, none⟩ = some (.slice A l.length c) := (hbx1.alloc _).cell 0 rfl
    clear hbx1
    have hbw1 : Below w.heap.size w w1 := ((Below.refl _ _).alloc (Nat.le_refl _) _).trans (hb1.mono (by simp))
    clear hb1 HCH
    go_wp2
    go_loopw [20] (fun y wr => ∃ k : Nat, k ≤ l.length ∧ y = .int .i64 k ∧ Lib.IsBuilderF 86 5 w1.heap.size w1.heap.size (Lib.byteCells (prnL (l.take k))) wr ∧ Below w1.heap.size w1 wr ∧ w1.heap.size < wr.heap.size) (fun y _ => l.length - (intOf y).toNat)
    case atStart => exact ⟨0, by omega, rfl, by rw [HZ.out]; exact builder_new w1, (by repeat (first | with_reducible exact Below.refl _ _ | with_reducible assumption | with_reducible refine Below.drew ?_ | with_reducible refine below_drewN ?_ _ | (with_reducible refine Below.alloc ?_ ?_ _; rotate_left; (try simp) <;> omega) | (with_reducible refine Below.setCell ?_ ?_ _; rotate_left; (try simp) <;> omega))), by simp⟩
    case round =>
      obtain ⟨k, hk, rfl, hbu, hbw, hsz⟩ := hrel
      have hbww : Below w.heap.size w wr := hbw1.trans (hbw.mono hbw1.size)
      by_cases hlt : k < l.length
      · obtain ⟨ad, e1, h1, h2, h3, h4, h5, h6, h7⟩ := rule_at (HL.out wr hbww) hlt
        subst e1
        have hadb : (ad.add (k * 6)).block < w.heap.size := by rw [add_block]; exact h1
        have HC := HW.out k hlt
        have HS1 := Lib.hid (HS.out k hlt)
        have HN1 := Lib.hid ((HN.out k).1)
        have HN2 := Lib.hid ((HN.out k).2 hlt)
        clear HS HN HW HL HPR HF
        generalize wrL l[k] = U at *
        generalize prnL (l.take k) = V at *
        generalize l[k] = rk at *
        obtain ⟨id, kn, kd, x, y, of⟩ := rk
        dsimp only at *
        have HC1 := Lib.hid (HC _ (hbww.alloc hbww.size (.cells #[.int .i64 id, .int .i64 kn, .int .u8 kd, .string x, .string y, .int .i64 of] 50)))
        have HB0 := Lib.hid (show Lib.IsBuilderF 86 5 w1.heap.size w1.heap.size (Lib.byteCells V) wr from hbu)
        have HBW := Lib.hid hbw
        have HBWW := Lib.hid hbww
        clear HC hbu hbw hbww
        go_upto_region 9 with (first | (go_at_call 34; refine HC1.out.mono ?_; rintro e w2 ⟨rfl, hb2⟩))
        have HB2 := Lib.hid (builder_below (HB0.out.alloc (.cells #[.int .i64 id, .int .i64 kn, .int .u8 kd, .string x, .string y, .int .i64 of] 50)) hb2 (Nat.le_refl _))
        have HW2 : Hid (Below w1.heap.size w1 w2) := (HBW.out.alloc HBW.out.size _).trans (hb2.mono (by have := HBW.out.size; simp; omega))
        have HWS := Lib.hid (WriteString_k w1.heap.size w1.heap.size (Lib.byteCells V) (⟨U.toArray⟩ ++ ⟨#[10]⟩) w2 HB2.out (by rw [Lib.byteCells_length]; have h8 := HN1.out; have h9 := HN2.out; have h10 : (ByteArray.mk U.toArray ++ ⟨#[10]⟩).size = U.length + 1 := line_size U; rw [h10]; omega) HW2.out.size)
        have hs2 : w1.heap.size < w2.heap.size := by have := hb2.size; simp at this; omega
        have hcc : U.length + 1 ≤ 9223372036854775807 := by have := HN2.out; omega
        clear hb2
        go_wp2_with (first | (go_at_call 69; refine HWS.out.mono ?_; rintro e w3 ⟨rfl, hbu3, hb3, -⟩))
        have hs3 := hb3.size
        go_roundw
        case rel => exact ⟨k + 1, by omega, by go_num, by rw [HS1.out, ← byteCells_app]; exact .inr hbu3, HW2.out.trans hb3, by omega⟩
        case measure => simp [intOf]; omega
      · obtain rfl : k = l.length := by omega
        rw [HALL.out] at hbu
        have HST := Lib.hid (Tryz.Builder_String_any_k w1.heap.size w1.heap.size (prnL l) wr hbu hbw.size)
        clear HS HN HW HL HF hbu
        go_wp2_with (go_at_call 70; refine HST.out.mono ?_; rintro e w2 ⟨rfl, -, hb2, -⟩)
        go_ret
        exact ⟨by rw [HPR.out]; rfl, hbww.trans (hb2.mono hbw1.size)⟩
  · have HE := Lib.hid h0
    have hR' : ((chkL l).2 == 0) = false := by simpa using h0
    have hR2 : ((chkL l).2 != 0) = true := by rw [bne, hR']; rfl
    clear h0 HFM hl hok hg
    go_enter Tryz.func21, Tryz.ntmps21
    go_wp2_with (go_at_call 46; refine HCH.out.mono ?_; rintro e w1 ⟨rfl, hb1⟩)
    go_ret
    refine ⟨?_, ?_⟩
    · rw [HP.out, if_neg HE.out]; rfl
    exact ((Below.refl _ _).alloc (Nat.le_refl _) _).trans (hb1.mono (by simp))
end Go.Proofs.YtkfeagokmcakgaaGreatDoor
