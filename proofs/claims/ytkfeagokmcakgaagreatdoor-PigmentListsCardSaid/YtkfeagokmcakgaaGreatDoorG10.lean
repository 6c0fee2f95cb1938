/- The line of a rule: pigment.Write (fn 34). Printed by wip/gen_f18.py. -/
import Derived.Lib.ItoaLen
import Derived.Test.YtkfeagokmcakgaaGreatDoorG02
import Derived.Test.YtkfeagokmcakgaaGreatDoorG06
import Derived.Test.YtkfeagokmcakgaaGreatDoorG08

set_option linter.unusedVariables false
set_option linter.unusedSimpArgs false

namespace Go.Proofs.YtkfeagokmcakgaaGreatDoor
open Go.RowKit

def wordB (k : Int) : ByteArray := if k = 1 then ⟨#[102, 97, 115, 116]⟩ else if k = 2 then ⟨#[100, 114, 121]⟩ else if k = 3 then ⟨#[98, 101, 115, 105, 100, 101]⟩ else if k = 4 then ⟨#[111, 118, 101, 114]⟩ else if k = 5 then ⟨#[103, 114, 111, 117, 112]⟩ else ⟨#[118, 111, 105, 100]⟩
def tellB (r : Rul) : List ByteArray := if r.kind = 1 ∨ r.kind = 2 then [r.x] else if r.kind = 6 then [itoB r.of] else [r.x, r.y]
def wordsB (r : Rul) : List ByteArray := itoB r.id :: itoB r.known :: wordB r.kind :: tellB r
/-- the line of a well-formed rule -/
def wrL (r : Rul) : List UInt8 := Lib.join ((wordsB r).map (·.data.toList)) [32]
def wrB (r : Rul) : ByteArray := if frm r = true then ⟨(wrL r).toArray⟩ else ⟨#[]⟩
def wrE (r : Rul) : Int := if frm r = true then 0 else 1
def WriteE (r : Rul) (w : World) (e : Ending) (w' : World) : Prop := e = .returned (.tuple #[.string (wrB r), .int .i64 (wrE r)]) ∧ Below w.heap.size w w'
/-- words in new memory -/
def TellE (ws : List ByteArray) (w : World) (e : Ending) (w' : World) : Prop := ∃ g, e = .returned (.slice (some ⟨g, 0, none⟩) ws.length ws.length) ∧ Lies w' w'.heap.size (some ⟨g, 0, none⟩) (strsC ws) ∧ Below w.heap.size w w'
set_option maxHeartbeats 400000 in
theorem tell1_any (r : Rul) (w : World) : Calls Tryz.prog 151 #[r.agg] w (TellE [r.x] w) := by
  obtain ⟨id, kn, kd, x, y, of⟩ := r
  go_enter Tryz.func151, Tryz.ntmps151
  go_wp2
  go_ret
  exact ⟨w.heap.size + 1, by simp, Lies.fresh (cs := #[.string x]) (t := 9) (X := w.alloc (.cells #[.int .i64 id, .int .i64 kn, .int .u8 kd, .string x, .string y, .int .i64 of] 50)) rfl (by simp) (by simp) rfl, (by repeat (first | with_reducible exact Below.refl _ _ | with_reducible assumption | with_reducible refine Below.drew ?_ | with_reducible refine below_drewN ?_ _ | (with_reducible refine Below.alloc ?_ ?_ _; rotate_left; (try simp) <;> omega) | (with_reducible refine Below.setCell ?_ ?_ _; rotate_left; (try simp) <;> omega)))⟩
set_option maxHeartbeats 400000 in
theorem tell2_any (r : Rul) (w : World) : Calls Tryz.prog 148 #[r.agg] w (TellE [r.x, r.y] w) := by
  obtain ⟨id, kn, kd, x, y, of⟩ := r
  go_enter Tryz.func148, Tryz.ntmps148
  go_wp2
  go_ret
  exact ⟨w.heap.size + 1, by simp, Lies.fresh (cs := #[.string x, .string y]) (t := 9) (X := w.alloc (.cells #[.int .i64 id, .int .i64 kn, .int .u8 kd, .string x, .string y, .int .i64 of] 50)) rfl (by simp) (by simp) rfl, (by repeat (first | with_reducible exact Below.refl _ _ | with_reducible assumption | with_reducible refine Below.drew ?_ | with_reducible refine below_drewN ?_ _ | (with_reducible refine Below.alloc ?_ ?_ _; rotate_left; (try simp) <;> omega) | (with_reducible refine Below.setCell ?_ ?_ _; rotate_left; (try simp) <;> omega)))⟩
set_option maxHeartbeats 400000 in
theorem tell6_any (r : Rul) (w : World) (hg : Glob w) (ho : i64v r.of) : Calls Tryz.prog 123 #[r.agg] w (TellE [itoB r.of] w) := by
  obtain ⟨id, kn, kd, x, y, of⟩ := r
  have HC := Lib.hid (itoa_any of (w.alloc (.cells #[.int .i64 id, .int .i64 kn, .int .u8 kd, .string x, .string y, .int .i64 of] 50)) (hg.step ((Below.refl _ _).alloc (Nat.le_refl _) _)) ho)
  clear hg
  go_enter Tryz.func123, Tryz.ntmps123
  go_wp2_with (go_at_call 84; refine HC.out.mono ?_; rintro e w1 ⟨rfl, hb1⟩)
  go_ret
  have hb0 : Below w.heap.size w w1 := ((Below.refl _ _).alloc (Nat.le_refl _) _).trans (hb1.mono (by simp))
  exact ⟨w1.heap.size, by simp, Lies.fresh (cs := #[.string (itoB of)]) (t := 9) (X := w1) rfl rfl (by simp) rfl, hb0.alloc hb0.size _⟩
theorem frm_bounds {r : Rul} (h : frm r = true) : i64v r.id ∧ i64v r.known ∧ (1 ≤ r.kind ∧ r.kind ≤ 6) := by
  have h1 := frm_eq r
  rw [h] at h1
  have hk : 1 ≤ r.kind ∧ r.kind ≤ 6 := by
    by_cases hk : 1 ≤ r.kind ∧ r.kind ≤ 6
    · exact hk
    · rw [shpB_0 r hk] at h1; simp at h1
  simp [idB] at h1
  unfold i64v; omega
theorem itoB_len (n : Int) (h : i64v n) : (Lib.itoa n).length ≤ 21 := Lib.itoa_length_le n h.1 h.2
theorem wrL_len {r : Rul} (h : frm r = true) (hx : r.x.size ≤ 100) (hy : r.y.size ≤ 100) : (wrL r).length ≤ 1000 := by
  obtain ⟨h1, h2, h3⟩ := frm_bounds h
  have l1 := itoB_len _ h1
  have l2 := itoB_len _ h2
  have l3 : (wordB r.kind).data.toList.length ≤ 6 := by
    unfold wordB; repeat' split
    all_goals decide
  have sx : r.x.data.toList.length = r.x.size := by rw [Array.length_toList]; rfl
  have sy : r.y.data.toList.length = r.y.size := by rw [Array.length_toList]; rfl
  unfold wrL wordsB
  rw [List.map_cons, Lib.join_length]
  unfold Lib.lens itoB tellB
  by_cases hk : r.kind = 1 ∨ r.kind = 2
  · rw [if_pos hk]; simp at *; omega
  · rw [if_neg hk]
    by_cases h6 : r.kind = 6
    · have l4 := itoB_len _ (frm_of h h6)
      rw [if_pos h6]; unfold itoB; simp at *; omega
    · rw [if_neg h6]; simp at *; omega
theorem wrL_big {r : Rul} (h : frm r = true) (hx : r.x.size ≤ 1000) (hy : r.y.size ≤ 1000) : (wrL r).length ≤ 2800 := by
  obtain ⟨h1, h2, h3⟩ := frm_bounds h
  have l1 := itoB_len _ h1
  have l2 := itoB_len _ h2
  have l3 : (wordB r.kind).data.toList.length ≤ 6 := by
    unfold wordB; repeat' split
    all_goals decide
  have sx : r.x.data.toList.length = r.x.size := by rw [Array.length_toList]; rfl
  have sy : r.y.data.toList.length = r.y.size := by rw [Array.length_toList]; rfl
  unfold wrL wordsB
  rw [List.map_cons, Lib.join_length]
  unfold Lib.lens itoB tellB
  by_cases hk : r.kind = 1 ∨ r.kind = 2
  · rw [if_pos hk]; simp at *; omega
  · rw [if_neg hk]
    by_cases h6 : r.kind = 6
    · have l4 := itoB_len _ (frm_of h h6)
      rw [if_pos h6]; unfold itoB; simp at *; omega
    · rw [if_neg h6]; simp at *; omega
theorem info106 : (Tryz.prog.info? 106).map (·.size) = some 4 := by kernel_rfl
set_option maxRecDepth 100000 in
set_option maxHeartbeats 8000000 in
theorem write_big (r : Rul) (w : World) (hg : Glob w) (hx : r.x.size ≤ 1000) (hy : r.y.size ≤ 1000) : Calls Tryz.prog 34 #[r.agg] w (WriteE r w) := by
  have HF := Lib.hid (fun W => formed_big r W hx hy)
  have HG := Lib.hid hg
  have HBD0 : Hid (frm r = true → i64v r.id ∧ i64v r.known ∧ (1 ≤ r.kind ∧ r.kind ≤ 6)) := frm_bounds
  have HOF0 : Hid (frm r = true → r.kind = 6 → i64v r.of) := frm_of
  have HLEN0 : Hid (frm r = true → (wrL r).length ≤ 2800) := fun h => wrL_big h hx hy
  obtain ⟨id, kn, kd, x, y, of⟩ := r
  dsimp only at *
  clear hg
  by_cases h1 : frm ⟨id, kn, kd, x, y, of⟩ = true
  · have H1 := Lib.hid h1
    have HBD := Lib.hid (HBD0.out h1)
    have HLEN := Lib.hid (HLEN0.out h1)
    have hk := HBD.out.2.2
    have h6 : kd = 1 ∨ kd = 2 ∨ kd = 3 ∨ kd = 4 ∨ kd = 5 ∨ kd = 6 := by omega
    clear hk h1 HBD0 HLEN0
    go_enter Tryz.func34, Tryz.ntmps34
    rcases h6 with rfl | rfl | rfl | rfl | rfl | rfl
    · go_upto_region 3 with (first | (go_at_call 81; refine (HF.out _).mono ?_; rintro e w1 ⟨rfl, hb1⟩; rw [H1.out]; have hs1 := hb1.size; try simp at hs1))
      have hb1' : Below (w.heap.size + 1) (w.alloc (.cells #[.int .i64 id, .int .i64 kn, .int .u8 1, .string x, .string y, .int .i64 of] 50)) w1 := hb1.mono (by simp)
      have HBX : Hid (∀ V, Below w1.heap.size w1 V → Bk V w.heap.size 50 #[.int .i64 id, .int .i64 kn, .int .u8 1, .string x, .string y, .int .i64 of]) := fun V hV => ((Bk.new w 50 #[.int .i64 id, .int .i64 kn, .int .u8 1, .string x, .string y, .int .i64 of]).below hb1' (Nat.lt_succ_self _)).below hV (by omega)
      have HBW : Hid (∀ V, Below w1.heap.size w1 V → Below w.heap.size w V) := fun V hV => (((Below.refl _ _).alloc (Nat.le_refl _) _).trans (hb1'.mono (by omega))).trans (hV.mono (by omega))
      have HGL : Hid (∀ V, Below w1.heap.size w1 V → Glob V) := fun V hV => HG.out.step (HBW.out V hV)
      clear hb1 hb1'
      go_cut [4] (fun s4 wx => ∃ g b0 : Nat, s4 = .pointer (some ⟨g, 0, none⟩) ∧ w1.heap.size ≤ g ∧ Hid (Bk wx g 106 #[.string ⟨#[102, 97, 115, 116]⟩, .func (.func 150) #[] #[], .func (.func 151) #[] #[], .func (.func 152) #[] #[]]) ∧ Hid (Below w1.heap.size w1 wx))
      case first =>
        refine wp_region_held_drew (S := (fun V => V.cell? ⟨w.heap.size, 2, none⟩ = some (.int .u8 1))) (by kernel_rfl) ?_ (fun hHeld => ?_)
        · exact (HBX.out _ (Below.refl _ _).drew).cell 2 rfl
        refine tk 1 9 ?_
        refine tk 2 10 ?_
        have hb_w3 : Below w1.heap.size w1 w1.drew := (Below.refl _ _).drew
        have hz_w3 : w1.heap.size ≤ w1.drew.heap.size := Nat.le_refl _
        generalize w1.drew = w3 at *
        refine held_two 0 4 ⟨some 8, .call { callee := .value (.func 82), args := #[], argTypes := #[] }, 107, _, _, none⟩ ⟨some 4, .alloc 106, 0, _, _, none⟩ rfl rfl (by kernel_rfl) (by rfl) (by rfl) ?_ ?_
        · refine wp_call (f := 82) (args := #[]) (by go_simp) (forms_any _) ?_
          rintro e w4 ⟨b, rfl, hb0, hb2, hbc, hb4⟩
          have hB4 : Below w1.heap.size w1 w4 := hb_w3.trans (hb4.mono hz_w3)
          have hS0 : w4.cell? ⟨w.heap.size, 2, none⟩ = some (.int .u8 1) := (HBX.out _ hB4).cell 2 rfl
          refine ⟨_, rfl, hS0, ?_⟩
          (try simp only [Act.put, List.setIfInBounds_toArray, List.set_cons_zero, List.set_cons_succ])
          have hix := fun V => idx107_1 b V
          unfold formsC at hix ⊢
          refine tk 3 11 ?_
          clear hS0
          refine held_one 4 ⟨some 4, .alloc 106, 0, _, _, none⟩ rfl (by kernel_rfl) (by rfl) ?_
          unfold Oper.wp
          go_simp
          have hB5 : Below w1.heap.size w1 (w4.alloc (.cells #[.string ⟨#[]⟩, .nilFunc, .nilFunc, .nilFunc] 106)) := hB4.alloc hB4.size _
          have k5 : Bk (w4.alloc (.cells #[.string ⟨#[]⟩, .nilFunc, .nilFunc, .nilFunc] 106)) w4.heap.size 106 #[.string ⟨#[]⟩, .nilFunc, .nilFunc, .nilFunc] := Bk.new _ _ _
          refine ⟨(HBX.out _ hB5).cell 2 rfl, ?_⟩
          (try simp only [Act.put, List.setIfInBounds_toArray, List.set_cons_zero, List.set_cons_succ])
          refine held_one 5 ⟨none, .store 106 (.tmp 4) (.tmp 11), _, _, _, none⟩ rfl (by kernel_rfl) (by rfl) ?_
          refine wp_store_blk 106 (.tmp 4) (.tmp 11) rfl w4.heap.size #[.string ⟨#[]⟩, .nilFunc, .nilFunc, .nilFunc] #[.string ⟨#[102, 97, 115, 116]⟩, .func (.func 150) #[] #[], .func (.func 151) #[] #[], .func (.func 152) #[] #[]] rfl rfl k5 rfl info106 (by intro v hv; simp at hv; rcases hv with rfl | rfl | rfl | rfl <;> rfl) ?_
          intro u4 k4 f4
          have hB6 := f4.bel _ _ hB4.size hB5
          refine ⟨(HBX.out _ hB6).cell 2 rfl, ?_⟩
          (try simp only [Act.put, List.setIfInBounds_toArray, List.set_cons_zero, List.set_cons_succ])
          refine wpAnyH_done (by kernel_rfl) ?_ _
          clear hHeld hix
          go_wp2_with fail
          go_meet
          exact ⟨w4.heap.size, b, rfl, hB4.size, k4, hB6⟩
        · unfold Oper.wp
          go_simp
          have hB5 : Below w1.heap.size w1 (w3.alloc (.cells #[.string ⟨#[]⟩, .nilFunc, .nilFunc, .nilFunc] 106)) := hb_w3.alloc hz_w3 _
          have k5 : Bk (w3.alloc (.cells #[.string ⟨#[]⟩, .nilFunc, .nilFunc, .nilFunc] 106)) w3.heap.size 106 #[.string ⟨#[]⟩, .nilFunc, .nilFunc, .nilFunc] := Bk.new _ _ _
          refine ⟨(HBX.out _ hB5).cell 2 rfl, ?_⟩
          (try simp only [Act.put, List.setIfInBounds_toArray, List.set_cons_zero, List.set_cons_succ])
          refine held_one 0 ⟨some 8, .call { callee := .value (.func 82), args := #[], argTypes := #[] }, 107, _, _, none⟩ rfl (by kernel_rfl) (by rfl) ?_
          refine wp_call (f := 82) (args := #[]) (by go_simp) (forms_any _) ?_
          rintro e w4 ⟨b, rfl, hb0, hb2, hbc, hb4⟩
          have hB4 : Below w1.heap.size w1 w4 := hB5.trans (hb4.mono hB5.size)
          have k6 := k5.below hb4 k5.lt
          have hS0 : w4.cell? ⟨w.heap.size, 2, none⟩ = some (.int .u8 1) := (HBX.out _ hB4).cell 2 rfl
          refine ⟨_, rfl, hS0, ?_⟩
          (try simp only [Act.put, List.setIfInBounds_toArray, List.set_cons_zero, List.set_cons_succ])
          have hix := fun V => idx107_1 b V
          unfold formsC at hix ⊢
          refine tk 3 11 ?_
          refine held_one 5 ⟨none, .store 106 (.tmp 4) (.tmp 11), _, _, _, none⟩ rfl (by kernel_rfl) (by rfl) ?_
          refine wp_store_blk 106 (.tmp 4) (.tmp 11) rfl w3.heap.size #[.string ⟨#[]⟩, .nilFunc, .nilFunc, .nilFunc] #[.string ⟨#[102, 97, 115, 116]⟩, .func (.func 150) #[] #[], .func (.func 151) #[] #[], .func (.func 152) #[] #[]] rfl rfl k6 rfl info106 (by intro v hv; simp at hv; rcases hv with rfl | rfl | rfl | rfl <;> rfl) ?_
          intro u4 k4 f4
          have hB6 := f4.bel _ _ hz_w3 hB4
          refine ⟨(HBX.out _ hB6).cell 2 rfl, ?_⟩
          (try simp only [Act.put, List.setIfInBounds_toArray, List.set_cons_zero, List.set_cons_succ])
          refine wpAnyH_done (by kernel_rfl) ?_ _
          clear hHeld hix
          go_wp2_with fail
          go_meet
          exact ⟨w3.heap.size, b, rfl, hz_w3, k4, hB6⟩
      case rest =>
        obtain ⟨g, b0, rfl, hgz, HKG, HBC⟩ := hcut
        have hgl := HKG.out.lt
        have hcs := HBC.out.size
        have HSS : Hid (∀ V, Below wc.heap.size wc V → V.cell? ⟨w.heap.size, 0, none⟩ = some (.int .i64 id) ∧ V.cell? ⟨w.heap.size, 1, none⟩ = some (.int .i64 kn) ∧ V.cell? ⟨w.heap.size, 2, none⟩ = some (.int .u8 1) ∧ V.cell? ⟨w.heap.size, 3, none⟩ = some (.string x) ∧ V.cell? ⟨w.heap.size, 4, none⟩ = some (.string y) ∧ V.cell? ⟨w.heap.size, 5, none⟩ = some (.int .i64 of) ∧ V.cell? ⟨g, 0, none⟩ = some (.string ⟨#[102, 97, 115, 116]⟩) ∧ V.cell? ⟨g, 2, none⟩ = some (.func (.func 151) #[] #[])) := fun V hV => by
          have k1 := HBX.out V (HBC.out.trans (hV.mono hcs))
          have k2 := HKG.out.below hV hgl
          exact ⟨k1.cell 0 rfl, k1.cell 1 rfl, k1.cell 2 rfl, k1.cell 3 rfl, k1.cell 4 rfl, k1.cell 5 rfl, k2.cell 0 rfl, k2.cell 2 rfl⟩
        have HIT : Hid (∀ V, Below wc.heap.size wc V → ∀ n, i64v n → Calls Tryz.prog 84 #[.int .i64 n] V (ValEnd (.string (itoB n)) V)) := fun V hV n hn => itoa_any n V (HGL.out V (HBC.out.trans (hV.mono hcs))) hn
        have HTL : Hid (∀ V, Below w1.heap.size w1 V → Calls Tryz.prog 151 #[(Rul.mk id kn 1 x y of).agg] V (TellE [x] V)) := fun V hV => tell1_any ⟨id, kn, 1, x, y, of⟩ V
        obtain ⟨i0, hi0, hz0, hz1, hz2⟩ := info_parts info9
        have I9 := Lib.hid (And.intro hi0 (And.intro hz0 (And.intro hz1 hz2))); clear hi0 hz0 hz1 hz2
        go_upto_region 4 with fail
        refine wp_region_held_drew (S := (fun V => V.cell? ⟨w.heap.size, 0, none⟩ = some (.int .i64 id) ∧ V.cell? ⟨w.heap.size, 1, none⟩ = some (.int .i64 kn) ∧ V.cell? ⟨w.heap.size, 2, none⟩ = some (.int .u8 1) ∧ V.cell? ⟨w.heap.size, 3, none⟩ = some (.string x) ∧ V.cell? ⟨w.heap.size, 4, none⟩ = some (.string y) ∧ V.cell? ⟨w.heap.size, 5, none⟩ = some (.int .i64 of) ∧ V.cell? ⟨g, 0, none⟩ = some (.string ⟨#[102, 97, 115, 116]⟩) ∧ V.cell? ⟨g, 2, none⟩ = some (.func (.func 151) #[] #[]))) (by kernel_rfl) ?_ (fun hHeld => ?_)
        · exact HSS.out _ (Below.refl _ _).drew
        refine tk 0 12 ?_
        refine tk 1 13 ?_
        refine tk 3 15 ?_
        refine tk 4 16 ?_
        refine tk 6 18 ?_
        refine tk 7 19 ?_
        refine tk 9 21 ?_
        refine tk 10 22 ?_
        refine tk 11 23 ?_
        have hb_w3 : Below wc.heap.size wc wc.drew := (Below.refl _ _).drew
        generalize wc.drew = w3 at *
        (refine held_call 2 (some 14) 84 _ rfl (by kernel_rfl) (by rfl) ?_ ((HIT.out w3 hb_w3 id HBD.out.1)) ?_; rotate_left; rotate_left; (simp only [List.getElem?_toArray, List.getElem?_cons_zero, List.getElem?_cons_succ, Option.map_some]; refine congrArg some ?_; go_simp))
        rintro e w4 ⟨rfl, c4⟩
        have hb_w4 : Below wc.heap.size wc w4 := hb_w3.trans (c4.mono hb_w3.size)
        refine ⟨_, rfl, HSS.out _ hb_w4, fun hHeld => ?_⟩
        (try simp only [Act.put, List.setIfInBounds_toArray, List.set_cons_zero, List.set_cons_succ])
        (refine held_call 5 (some 17) 84 _ rfl (by kernel_rfl) (by rfl) ?_ ((HIT.out w4 hb_w4 kn HBD.out.2.1)) ?_; rotate_left; rotate_left; (simp only [List.getElem?_toArray, List.getElem?_cons_zero, List.getElem?_cons_succ, Option.map_some]; refine congrArg some ?_; go_simp))
        rintro e w5 ⟨rfl, c5⟩
        have hb_w5 : Below wc.heap.size wc w5 := hb_w4.trans (c5.mono hb_w4.size)
        refine ⟨_, rfl, HSS.out _ hb_w5, fun hHeld => ?_⟩
        (try simp only [Act.put, List.setIfInBounds_toArray, List.set_cons_zero, List.set_cons_succ])
        clear c4 c5
        refine held_two 8 12 ⟨some 20, .buildSlice 34 3 #[(0, .tmp 14), (1, .tmp 17), (2, .tmp 19)], 34, _, _, none⟩ ⟨some 24, .call { callee := .value (.tmp 22), args := #[.tmp 23], argTypes := #[50] }, 34, _, _, none⟩ rfl rfl (by kernel_rfl) (by rfl) (by rfl) ?_ ?_
        · unfold Oper.wp
          go_simp
          have hb_w6 : Below wc.heap.size wc (w5.alloc (.cells #[.string (itoB id), .string (itoB kn), .string ⟨#[102, 97, 115, 116]⟩] 9)) := hb_w5.alloc hb_w5.size _
          have bx : Bk (w5.alloc (.cells #[.string (itoB id), .string (itoB kn), .string ⟨#[102, 97, 115, 116]⟩] 9)) w5.heap.size 9 #[.string (itoB id), .string (itoB kn), .string ⟨#[102, 97, 115, 116]⟩] := Bk.new _ _ _
          refine ⟨HSS.out _ hb_w6, ?_⟩
          (try simp only [Act.put, List.setIfInBounds_toArray, List.set_cons_zero, List.set_cons_succ])
          have hb16 := HBC.out.trans (hb_w6.mono hcs)
          generalize w5.alloc (.cells #[.string (itoB id), .string (itoB kn), .string ⟨#[102, 97, 115, 116]⟩] 9) = w6 at *
          refine held_one 12 ⟨some 24, .call { callee := .value (.tmp 22), args := #[.tmp 23], argTypes := #[50] }, 34, _, _, none⟩ rfl (by kernel_rfl) (by rfl) ?_
          refine wp_call (f := 151) (args := #[(Rul.mk id kn 1 x y of).agg]) (by go_simp) (HTL.out w6 hb16) ?_
          rintro e w7 ⟨gt, rfl, hlt7, c7⟩
          have hb_w7 : Below wc.heap.size wc w7 := hb_w6.trans (c7.mono hb_w6.size)
          have bx7 := bx.below c7 bx.lt
          refine ⟨_, rfl, HSS.out _ hb_w7, ?_⟩
          (try simp only [Act.put, List.setIfInBounds_toArray, List.set_cons_zero, List.set_cons_succ])
          clear bx c7 hb16
          refine held_one 13 ⟨some 25, .call { callee := .builtin .append, args := #[.tmp 20, .tmp 24], argTypes := #[34, 34] }, 34, _, _, none⟩ rfl (by kernel_rfl) (by rfl) ?_
          refine wp_append_grows _ (.tmp 20) (.tmp 24) 34 rfl 9 i0 (.string ByteArray.empty) 1 16 Tryz.underlying34 I9.out.1 I9.out.2.1 I9.out.2.2.1 I9.out.2.2.2 rfl (by decide) (some ⟨w5.heap.size, 0, none⟩) 3 3 [.string (itoB id), .string (itoB kn), .string ⟨#[102, 97, 115, 116]⟩] rfl (fun e => by cases e) rfl (fun b hb j u hj => by cases hb; exact bk_cells bx7 j u hj) ⟨gt, 0, none⟩ 1 1 (strsC [x]) rfl rfl (fun j u hj => by
            obtain ⟨ad, e, _, hc⟩ := hlt7 (by simp [strsC])
            cases e; exact hc j u hj) ?_ (by omega) ?_ ?_ ?_
          · intro u hu; simp [strsC] at hu; (try rcases hu with rfl | rfl) <;> (try subst hu) <;> rfl
          · unfold maxLen; omega
          · omega
          intro v8 w8 ow8 hg8
          have hb_w8 : Below wc.heap.size wc w8 := Below.grown hb_w7 hg8 hb_w7.size (fun g e => by cases e)
          obtain ⟨A8, c8, rfl, hc8, hcm8⟩ := ownsSlice ow8
          obtain ⟨g8, rfl, hge8⟩ := own_some ow8 (Nat.succ_pos _)
          have HJ := Lib.hid (Tryz.strings_Join g8 0 c8 (wordsB (Rul.mk id kn 1 x y of)) ⟨#[32]⟩ w8 (fun j z hz => by
            obtain ⟨ad, e, _, hc⟩ := ownsRow_lies ow8 (by simp)
            cases e
            have h2 := hc j (.string z) (by
              have : ((wordsB (Rul.mk id kn 1 x y of)).map Value.string)[j]? = some (.string z) := by rw [List.getElem?_map, hz]; rfl
              exact this)
            unfold Addr.add at h2
            split at h2
            · rename_i h0; subst h0; exact h2
            · exact h2) (by have := hge8; have h3 := (ow8.lt g8 rfl).2; exact h3) (by show _ ≤ 140737488355328; simp [wordsB, tellB]) (by simpa [wordsB, tellB] using hc8) (by have := HLEN.out; unfold wrL at this; exact Nat.le_trans this (by decide)))
          have hwl : (wordsB (Rul.mk id kn 1 x y of)).length = 4 := by simp [wordsB, tellB]
          rw [hwl] at HJ
          clear ow8 hg8 bx7 hlt7 hwl
          refine ⟨HSS.out _ hb_w8, ?_⟩
          (try simp only [Act.put, List.setIfInBounds_toArray, List.set_cons_zero, List.set_cons_succ])
          (refine held_call 14 (some 26) 83 _ rfl (by kernel_rfl) (by rfl) ?_ (HJ.out) ?_; rotate_left; rotate_left; (simp only [List.getElem?_toArray, List.getElem?_cons_zero, List.getElem?_cons_succ, Option.map_some]; refine congrArg some ?_; go_simp))
          rintro e w9 ⟨rfl, c9⟩
          have hb_w9 : Below wc.heap.size wc w9 := hb_w8.trans (c9.mono hb_w8.size)
          refine ⟨_, rfl, HSS.out _ hb_w9, fun hHeld => ?_⟩
          (try simp only [Act.put, List.setIfInBounds_toArray, List.set_cons_zero, List.set_cons_succ])
          refine tk 15 2 ?_
          refine tk 16 3 ?_
          refine wpAnyH_done (by kernel_rfl) ?_ _
          have HEND : Hid (WriteE (Rul.mk id kn 1 x y of) w (.returned (.tuple #[.string ⟨(Lib.join (List.map (fun z => z.data.toList) (wordsB (Rul.mk id kn 1 x y of))) [32]).toArray⟩, .int .i64 0])) w9) := by
            refine ⟨?_, HBW.out _ (HBC.out.trans (hb_w9.mono hcs))⟩
            unfold wrB wrE
            rw [if_pos H1.out, if_pos H1.out]; rfl
          clear hHeld HJ
          go_wp2
          go_ret2
          exact HEND.out
        · have hb16 := HBC.out.trans (hb_w5.mono hcs)
          refine wp_call (f := 151) (args := #[(Rul.mk id kn 1 x y of).agg]) (by go_simp) (HTL.out w5 hb16) ?_
          rintro e w6 ⟨gt, rfl, hlt6, c6⟩
          have hb_w6 : Below wc.heap.size wc w6 := hb_w5.trans (c6.mono hb_w5.size)
          refine ⟨_, rfl, HSS.out _ hb_w6, ?_⟩
          (try simp only [Act.put, List.setIfInBounds_toArray, List.set_cons_zero, List.set_cons_succ])
          refine held_one 8 ⟨some 20, .buildSlice 34 3 #[(0, .tmp 14), (1, .tmp 17), (2, .tmp 19)], 34, _, _, none⟩ rfl (by kernel_rfl) (by rfl) ?_
          unfold Oper.wp
          go_simp
          have hb_w7 : Below wc.heap.size wc (w6.alloc (.cells #[.string (itoB id), .string (itoB kn), .string ⟨#[102, 97, 115, 116]⟩] 9)) := hb_w6.alloc hb_w6.size _
          have bx7 : Bk (w6.alloc (.cells #[.string (itoB id), .string (itoB kn), .string ⟨#[102, 97, 115, 116]⟩] 9)) w6.heap.size 9 #[.string (itoB id), .string (itoB kn), .string ⟨#[102, 97, 115, 116]⟩] := Bk.new _ _ _
          have hlt7 : Lies (w6.alloc (.cells #[.string (itoB id), .string (itoB kn), .string ⟨#[102, 97, 115, 116]⟩] 9)) (w6.alloc (.cells #[.string (itoB id), .string (itoB kn), .string ⟨#[102, 97, 115, 116]⟩] 9)).heap.size (some ⟨gt, 0, none⟩) (strsC [x]) := (hlt6.below ((Below.refl _ _).alloc (Nat.le_refl _) _) (Nat.le_refl _)).more (by simp)
          refine ⟨HSS.out _ hb_w7, ?_⟩
          (try simp only [Act.put, List.setIfInBounds_toArray, List.set_cons_zero, List.set_cons_succ])
          generalize w6.alloc (.cells #[.string (itoB id), .string (itoB kn), .string ⟨#[102, 97, 115, 116]⟩] 9) = w7 at *
          clear hlt6 c6 hb16
          refine held_one 13 ⟨some 25, .call { callee := .builtin .append, args := #[.tmp 20, .tmp 24], argTypes := #[34, 34] }, 34, _, _, none⟩ rfl (by kernel_rfl) (by rfl) ?_
          refine wp_append_grows _ (.tmp 20) (.tmp 24) 34 rfl 9 i0 (.string ByteArray.empty) 1 16 Tryz.underlying34 I9.out.1 I9.out.2.1 I9.out.2.2.1 I9.out.2.2.2 rfl (by decide) (some ⟨w6.heap.size, 0, none⟩) 3 3 [.string (itoB id), .string (itoB kn), .string ⟨#[102, 97, 115, 116]⟩] rfl (fun e => by cases e) rfl (fun b hb j u hj => by cases hb; exact bk_cells bx7 j u hj) ⟨gt, 0, none⟩ 1 1 (strsC [x]) rfl rfl (fun j u hj => by
            obtain ⟨ad, e, _, hc⟩ := hlt7 (by simp [strsC])
            cases e; exact hc j u hj) ?_ (by omega) ?_ ?_ ?_
          · intro u hu; simp [strsC] at hu; (try rcases hu with rfl | rfl) <;> (try subst hu) <;> rfl
          · unfold maxLen; omega
          · omega
          intro v8 w8 ow8 hg8
          have hb_w8 : Below wc.heap.size wc w8 := Below.grown hb_w7 hg8 hb_w7.size (fun g e => by cases e)
          obtain ⟨A8, c8, rfl, hc8, hcm8⟩ := ownsSlice ow8
          obtain ⟨g8, rfl, hge8⟩ := own_some ow8 (Nat.succ_pos _)
          have HJ := Lib.hid (Tryz.strings_Join g8 0 c8 (wordsB (Rul.mk id kn 1 x y of)) ⟨#[32]⟩ w8 (fun j z hz => by
            obtain ⟨ad, e, _, hc⟩ := ownsRow_lies ow8 (by simp)
            cases e
            have h2 := hc j (.string z) (by
              have : ((wordsB (Rul.mk id kn 1 x y of)).map Value.string)[j]? = some (.string z) := by rw [List.getElem?_map, hz]; rfl
              exact this)
            unfold Addr.add at h2
            split at h2
            · rename_i h0; subst h0; exact h2
            · exact h2) (by have := hge8; have h3 := (ow8.lt g8 rfl).2; exact h3) (by show _ ≤ 140737488355328; simp [wordsB, tellB]) (by simpa [wordsB, tellB] using hc8) (by have := HLEN.out; unfold wrL at this; exact Nat.le_trans this (by decide)))
          have hwl : (wordsB (Rul.mk id kn 1 x y of)).length = 4 := by simp [wordsB, tellB]
          rw [hwl] at HJ
          clear ow8 hg8 bx7 hlt7 hwl
          refine ⟨HSS.out _ hb_w8, ?_⟩
          (try simp only [Act.put, List.setIfInBounds_toArray, List.set_cons_zero, List.set_cons_succ])
          (refine held_call 14 (some 26) 83 _ rfl (by kernel_rfl) (by rfl) ?_ (HJ.out) ?_; rotate_left; rotate_left; (simp only [List.getElem?_toArray, List.getElem?_cons_zero, List.getElem?_cons_succ, Option.map_some]; refine congrArg some ?_; go_simp))
          rintro e w9 ⟨rfl, c9⟩
          have hb_w9 : Below wc.heap.size wc w9 := hb_w8.trans (c9.mono hb_w8.size)
          refine ⟨_, rfl, HSS.out _ hb_w9, fun hHeld => ?_⟩
          (try simp only [Act.put, List.setIfInBounds_toArray, List.set_cons_zero, List.set_cons_succ])
          refine tk 15 2 ?_
          refine tk 16 3 ?_
          refine wpAnyH_done (by kernel_rfl) ?_ _
          have HEND : Hid (WriteE (Rul.mk id kn 1 x y of) w (.returned (.tuple #[.string ⟨(Lib.join (List.map (fun z => z.data.toList) (wordsB (Rul.mk id kn 1 x y of))) [32]).toArray⟩, .int .i64 0])) w9) := by
            refine ⟨?_, HBW.out _ (HBC.out.trans (hb_w9.mono hcs))⟩
            unfold wrB wrE
            rw [if_pos H1.out, if_pos H1.out]; rfl
          clear hHeld HJ
          go_wp2
          go_ret2
          exact HEND.out
    · go_upto_region 3 with (first | (go_at_call 81; refine (HF.out _).mono ?_; rintro e w1 ⟨rfl, hb1⟩; rw [H1.out]; have hs1 := hb1.size; try simp at hs1))
      have hb1' : Below (w.heap.size + 1) (w.alloc (.cells #[.int .i64 id, .int .i64 kn, .int .u8 2, .string x, .string y, .int .i64 of] 50)) w1 := hb1.mono (by simp)
      have HBX : Hid (∀ V, Below w1.heap.size w1 V → Bk V w.heap.size 50 #[.int .i64 id, .int .i64 kn, .int .u8 2, .string x, .string y, .int .i64 of]) := fun V hV => ((Bk.new w 50 #[.int .i64 id, .int .i64 kn, .int .u8 2, .string x, .string y, .int .i64 of]).below hb1' (Nat.lt_succ_self _)).below hV (by omega)
      have HBW : Hid (∀ V, Below w1.heap.size w1 V → Below w.heap.size w V) := fun V hV => (((Below.refl _ _).alloc (Nat.le_refl _) _).trans (hb1'.mono (by omega))).trans (hV.mono (by omega))
      have HGL : Hid (∀ V, Below w1.heap.size w1 V → Glob V) := fun V hV => HG.out.step (HBW.out V hV)
      clear hb1 hb1'
      go_cut [4] (fun s4 wx => ∃ g b0 : Nat, s4 = .pointer (some ⟨g, 0, none⟩) ∧ w1.heap.size ≤ g ∧ Hid (Bk wx g 106 #[.string ⟨#[100, 114, 121]⟩, .func (.func 150) #[] #[], .func (.func 151) #[] #[], .func (.func 152) #[] #[]]) ∧ Hid (Below w1.heap.size w1 wx))
      case first =>
        refine wp_region_held_drew (S := (fun V => V.cell? ⟨w.heap.size, 2, none⟩ = some (.int .u8 2))) (by kernel_rfl) ?_ (fun hHeld => ?_)
        · exact (HBX.out _ (Below.refl _ _).drew).cell 2 rfl
        refine tk 1 9 ?_
        refine tk 2 10 ?_
        have hb_w3 : Below w1.heap.size w1 w1.drew := (Below.refl _ _).drew
        have hz_w3 : w1.heap.size ≤ w1.drew.heap.size := Nat.le_refl _
        generalize w1.drew = w3 at *
        refine held_two 0 4 ⟨some 8, .call { callee := .value (.func 82), args := #[], argTypes := #[] }, 107, _, _, none⟩ ⟨some 4, .alloc 106, 0, _, _, none⟩ rfl rfl (by kernel_rfl) (by rfl) (by rfl) ?_ ?_
        · refine wp_call (f := 82) (args := #[]) (by go_simp) (forms_any _) ?_
          rintro e w4 ⟨b, rfl, hb0, hb2, hbc, hb4⟩
          have hB4 : Below w1.heap.size w1 w4 := hb_w3.trans (hb4.mono hz_w3)
          have hS0 : w4.cell? ⟨w.heap.size, 2, none⟩ = some (.int .u8 2) := (HBX.out _ hB4).cell 2 rfl
          refine ⟨_, rfl, hS0, ?_⟩
          (try simp only [Act.put, List.setIfInBounds_toArray, List.set_cons_zero, List.set_cons_succ])
          have hix := fun V => idx107_2 b V
          unfold formsC at hix ⊢
          refine tk 3 11 ?_
          clear hS0
          refine held_one 4 ⟨some 4, .alloc 106, 0, _, _, none⟩ rfl (by kernel_rfl) (by rfl) ?_
          unfold Oper.wp
          go_simp
          have hB5 : Below w1.heap.size w1 (w4.alloc (.cells #[.string ⟨#[]⟩, .nilFunc, .nilFunc, .nilFunc] 106)) := hB4.alloc hB4.size _
          have k5 : Bk (w4.alloc (.cells #[.string ⟨#[]⟩, .nilFunc, .nilFunc, .nilFunc] 106)) w4.heap.size 106 #[.string ⟨#[]⟩, .nilFunc, .nilFunc, .nilFunc] := Bk.new _ _ _
          refine ⟨(HBX.out _ hB5).cell 2 rfl, ?_⟩
          (try simp only [Act.put, List.setIfInBounds_toArray, List.set_cons_zero, List.set_cons_succ])
          refine held_one 5 ⟨none, .store 106 (.tmp 4) (.tmp 11), _, _, _, none⟩ rfl (by kernel_rfl) (by rfl) ?_
          refine wp_store_blk 106 (.tmp 4) (.tmp 11) rfl w4.heap.size #[.string ⟨#[]⟩, .nilFunc, .nilFunc, .nilFunc] #[.string ⟨#[100, 114, 121]⟩, .func (.func 150) #[] #[], .func (.func 151) #[] #[], .func (.func 152) #[] #[]] rfl rfl k5 rfl info106 (by intro v hv; simp at hv; rcases hv with rfl | rfl | rfl | rfl <;> rfl) ?_
          intro u4 k4 f4
          have hB6 := f4.bel _ _ hB4.size hB5
          refine ⟨(HBX.out _ hB6).cell 2 rfl, ?_⟩
          (try simp only [Act.put, List.setIfInBounds_toArray, List.set_cons_zero, List.set_cons_succ])
          refine wpAnyH_done (by kernel_rfl) ?_ _
          clear hHeld hix
          go_wp2_with fail
          go_meet
          exact ⟨w4.heap.size, b, rfl, hB4.size, k4, hB6⟩
        · unfold Oper.wp
          go_simp
          have hB5 : Below w1.heap.size w1 (w3.alloc (.cells #[.string ⟨#[]⟩, .nilFunc, .nilFunc, .nilFunc] 106)) := hb_w3.alloc hz_w3 _
          have k5 : Bk (w3.alloc (.cells #[.string ⟨#[]⟩, .nilFunc, .nilFunc, .nilFunc] 106)) w3.heap.size 106 #[.string ⟨#[]⟩, .nilFunc, .nilFunc, .nilFunc] := Bk.new _ _ _
          refine ⟨(HBX.out _ hB5).cell 2 rfl, ?_⟩
          (try simp only [Act.put, List.setIfInBounds_toArray, List.set_cons_zero, List.set_cons_succ])
          refine held_one 0 ⟨some 8, .call { callee := .value (.func 82), args := #[], argTypes := #[] }, 107, _, _, none⟩ rfl (by kernel_rfl) (by rfl) ?_
          refine wp_call (f := 82) (args := #[]) (by go_simp) (forms_any _) ?_
          rintro e w4 ⟨b, rfl, hb0, hb2, hbc, hb4⟩
          have hB4 : Below w1.heap.size w1 w4 := hB5.trans (hb4.mono hB5.size)
          have k6 := k5.below hb4 k5.lt
          have hS0 : w4.cell? ⟨w.heap.size, 2, none⟩ = some (.int .u8 2) := (HBX.out _ hB4).cell 2 rfl
          refine ⟨_, rfl, hS0, ?_⟩
          (try simp only [Act.put, List.setIfInBounds_toArray, List.set_cons_zero, List.set_cons_succ])
          have hix := fun V => idx107_2 b V
          unfold formsC at hix ⊢
          refine tk 3 11 ?_
          refine held_one 5 ⟨none, .store 106 (.tmp 4) (.tmp 11), _, _, _, none⟩ rfl (by kernel_rfl) (by rfl) ?_
          refine wp_store_blk 106 (.tmp 4) (.tmp 11) rfl w3.heap.size #[.string ⟨#[]⟩, .nilFunc, .nilFunc, .nilFunc] #[.string ⟨#[100, 114, 121]⟩, .func (.func 150) #[] #[], .func (.func 151) #[] #[], .func (.func 152) #[] #[]] rfl rfl k6 rfl info106 (by intro v hv; simp at hv; rcases hv with rfl | rfl | rfl | rfl <;> rfl) ?_
          intro u4 k4 f4
          have hB6 := f4.bel _ _ hz_w3 hB4
          refine ⟨(HBX.out _ hB6).cell 2 rfl, ?_⟩
          (try simp only [Act.put, List.setIfInBounds_toArray, List.set_cons_zero, List.set_cons_succ])
          refine wpAnyH_done (by kernel_rfl) ?_ _
          clear hHeld hix
          go_wp2_with fail
          go_meet
          exact ⟨w3.heap.size, b, rfl, hz_w3, k4, hB6⟩
      case rest =>
        obtain ⟨g, b0, rfl, hgz, HKG, HBC⟩ := hcut
        have hgl := HKG.out.lt
        have hcs := HBC.out.size
        have HSS : Hid (∀ V, Below wc.heap.size wc V → V.cell? ⟨w.heap.size, 0, none⟩ = some (.int .i64 id) ∧ V.cell? ⟨w.heap.size, 1, none⟩ = some (.int .i64 kn) ∧ V.cell? ⟨w.heap.size, 2, none⟩ = some (.int .u8 2) ∧ V.cell? ⟨w.heap.size, 3, none⟩ = some (.string x) ∧ V.cell? ⟨w.heap.size, 4, none⟩ = some (.string y) ∧ V.cell? ⟨w.heap.size, 5, none⟩ = some (.int .i64 of) ∧ V.cell? ⟨g, 0, none⟩ = some (.string ⟨#[100, 114, 121]⟩) ∧ V.cell? ⟨g, 2, none⟩ = some (.func (.func 151) #[] #[])) := fun V hV => by
          have k1 := HBX.out V (HBC.out.trans (hV.mono hcs))
          have k2 := HKG.out.below hV hgl
          exact ⟨k1.cell 0 rfl, k1.cell 1 rfl, k1.cell 2 rfl, k1.cell 3 rfl, k1.cell 4 rfl, k1.cell 5 rfl, k2.cell 0 rfl, k2.cell 2 rfl⟩
        have HIT : Hid (∀ V, Below wc.heap.size wc V → ∀ n, i64v n → Calls Tryz.prog 84 #[.int .i64 n] V (ValEnd (.string (itoB n)) V)) := fun V hV n hn => itoa_any n V (HGL.out V (HBC.out.trans (hV.mono hcs))) hn
        have HTL : Hid (∀ V, Below w1.heap.size w1 V → Calls Tryz.prog 151 #[(Rul.mk id kn 2 x y of).agg] V (TellE [x] V)) := fun V hV => tell1_any ⟨id, kn, 2, x, y, of⟩ V
        obtain ⟨i0, hi0, hz0, hz1, hz2⟩ := info_parts info9
        have I9 := Lib.hid (And.intro hi0 (And.intro hz0 (And.intro hz1 hz2))); clear hi0 hz0 hz1 hz2
        go_upto_region 4 with fail
        refine wp_region_held_drew (S := (fun V => V.cell? ⟨w.heap.size, 0, none⟩ = some (.int .i64 id) ∧ V.cell? ⟨w.heap.size, 1, none⟩ = some (.int .i64 kn) ∧ V.cell? ⟨w.heap.size, 2, none⟩ = some (.int .u8 2) ∧ V.cell? ⟨w.heap.size, 3, none⟩ = some (.string x) ∧ V.cell? ⟨w.heap.size, 4, none⟩ = some (.string y) ∧ V.cell? ⟨w.heap.size, 5, none⟩ = some (.int .i64 of) ∧ V.cell? ⟨g, 0, none⟩ = some (.string ⟨#[100, 114, 121]⟩) ∧ V.cell? ⟨g, 2, none⟩ = some (.func (.func 151) #[] #[]))) (by kernel_rfl) ?_ (fun hHeld => ?_)
        · exact HSS.out _ (Below.refl _ _).drew
        refine tk 0 12 ?_
        refine tk 1 13 ?_
        refine tk 3 15 ?_
        refine tk 4 16 ?_
        refine tk 6 18 ?_
        refine tk 7 19 ?_
        refine tk 9 21 ?_
        refine tk 10 22 ?_
        refine tk 11 23 ?_
        have hb_w3 : Below wc.heap.size wc wc.drew := (Below.refl _ _).drew
        generalize wc.drew = w3 at *
        (refine held_call 2 (some 14) 84 _ rfl (by kernel_rfl) (by rfl) ?_ ((HIT.out w3 hb_w3 id HBD.out.1)) ?_; rotate_left; rotate_left; (simp only [List.getElem?_toArray, List.getElem?_cons_zero, List.getElem?_cons_succ, Option.map_some]; refine congrArg some ?_; go_simp))
        rintro e w4 ⟨rfl, c4⟩
        have hb_w4 : Below wc.heap.size wc w4 := hb_w3.trans (c4.mono hb_w3.size)
        refine ⟨_, rfl, HSS.out _ hb_w4, fun hHeld => ?_⟩
        (try simp only [Act.put, List.setIfInBounds_toArray, List.set_cons_zero, List.set_cons_succ])
        (refine held_call 5 (some 17) 84 _ rfl (by kernel_rfl) (by rfl) ?_ ((HIT.out w4 hb_w4 kn HBD.out.2.1)) ?_; rotate_left; rotate_left; (simp only [List.getElem?_toArray, List.getElem?_cons_zero, List.getElem?_cons_succ, Option.map_some]; refine congrArg some ?_; go_simp))
        rintro e w5 ⟨rfl, c5⟩
        have hb_w5 : Below wc.heap.size wc w5 := hb_w4.trans (c5.mono hb_w4.size)
        refine ⟨_, rfl, HSS.out _ hb_w5, fun hHeld => ?_⟩
        (try simp only [Act.put, List.setIfInBounds_toArray, List.set_cons_zero, List.set_cons_succ])
        clear c4 c5
        refine held_two 8 12 ⟨some 20, .buildSlice 34 3 #[(0, .tmp 14), (1, .tmp 17), (2, .tmp 19)], 34, _, _, none⟩ ⟨some 24, .call { callee := .value (.tmp 22), args := #[.tmp 23], argTypes := #[50] }, 34, _, _, none⟩ rfl rfl (by kernel_rfl) (by rfl) (by rfl) ?_ ?_
        · unfold Oper.wp
          go_simp
          have hb_w6 : Below wc.heap.size wc (w5.alloc (.cells #[.string (itoB id), .string (itoB kn), .string ⟨#[100, 114, 121]⟩] 9)) := hb_w5.alloc hb_w5.size _
          have bx : Bk (w5.alloc (.cells #[.string (itoB id), .string (itoB kn), .string ⟨#[100, 114, 121]⟩] 9)) w5.heap.size 9 #[.string (itoB id), .string (itoB kn), .string ⟨#[100, 114, 121]⟩] := Bk.new _ _ _
          refine ⟨HSS.out _ hb_w6, ?_⟩
          (try simp only [Act.put, List.setIfInBounds_toArray, List.set_cons_zero, List.set_cons_succ])
          have hb16 := HBC.out.trans (hb_w6.mono hcs)
          generalize w5.alloc (.cells #[.string (itoB id), .string (itoB kn), .string ⟨#[100, 114, 121]⟩] 9) = w6 at *
          refine held_one 12 ⟨some 24, .call { callee := .value (.tmp 22), args := #[.tmp 23], argTypes := #[50] }, 34, _, _, none⟩ rfl (by kernel_rfl) (by rfl) ?_
          refine wp_call (f := 151) (args := #[(Rul.mk id kn 2 x y of).agg]) (by go_simp) (HTL.out w6 hb16) ?_
          rintro e w7 ⟨gt, rfl, hlt7, c7⟩
          have hb_w7 : Below wc.heap.size wc w7 := hb_w6.trans (c7.mono hb_w6.size)
          have bx7 := bx.below c7 bx.lt
          refine ⟨_, rfl, HSS.out _ hb_w7, ?_⟩
          (try simp only [Act.put, List.setIfInBounds_toArray, List.set_cons_zero, List.set_cons_succ])
          clear bx c7 hb16
          refine held_one 13 ⟨some 25, .call { callee := .builtin .append, args := #[.tmp 20, .tmp 24], argTypes := #[34, 34] }, 34, _, _, none⟩ rfl (by kernel_rfl) (by rfl) ?_
          refine wp_append_grows _ (.tmp 20) (.tmp 24) 34 rfl 9 i0 (.string ByteArray.empty) 1 16 Tryz.underlying34 I9.out.1 I9.out.2.1 I9.out.2.2.1 I9.out.2.2.2 rfl (by decide) (some ⟨w5.heap.size, 0, none⟩) 3 3 [.string (itoB id), .string (itoB kn), .string ⟨#[100, 114, 121]⟩] rfl (fun e => by cases e) rfl (fun b hb j u hj => by cases hb; exact bk_cells bx7 j u hj) ⟨gt, 0, none⟩ 1 1 (strsC [x]) rfl rfl (fun j u hj => by
            obtain ⟨ad, e, _, hc⟩ := hlt7 (by simp [strsC])
            cases e; exact hc j u hj) ?_ (by omega) ?_ ?_ ?_
          · intro u hu; simp [strsC] at hu; (try rcases hu with rfl | rfl) <;> (try subst hu) <;> rfl
          · unfold maxLen; omega
          · omega
          intro v8 w8 ow8 hg8
          have hb_w8 : Below wc.heap.size wc w8 := Below.grown hb_w7 hg8 hb_w7.size (fun g e => by cases e)
          obtain ⟨A8, c8, rfl, hc8, hcm8⟩ := ownsSlice ow8
          obtain ⟨g8, rfl, hge8⟩ := own_some ow8 (Nat.succ_pos _)
          have HJ := Lib.hid (Tryz.strings_Join g8 0 c8 (wordsB (Rul.mk id kn 2 x y of)) ⟨#[32]⟩ w8 (fun j z hz => by
            obtain ⟨ad, e, _, hc⟩ := ownsRow_lies ow8 (by simp)
            cases e
            have h2 := hc j (.string z) (by
              have : ((wordsB (Rul.mk id kn 2 x y of)).map Value.string)[j]? = some (.string z) := by rw [List.getElem?_map, hz]; rfl
              exact this)
            unfold Addr.add at h2
            split at h2
            · rename_i h0; subst h0; exact h2
            · exact h2) (by have := hge8; have h3 := (ow8.lt g8 rfl).2; exact h3) (by show _ ≤ 140737488355328; simp [wordsB, tellB]) (by simpa [wordsB, tellB] using hc8) (by have := HLEN.out; unfold wrL at this; exact Nat.le_trans this (by decide)))
          have hwl : (wordsB (Rul.mk id kn 2 x y of)).length = 4 := by simp [wordsB, tellB]
          rw [hwl] at HJ
          clear ow8 hg8 bx7 hlt7 hwl
          refine ⟨HSS.out _ hb_w8, ?_⟩
          (try simp only [Act.put, List.setIfInBounds_toArray, List.set_cons_zero, List.set_cons_succ])
          (refine held_call 14 (some 26) 83 _ rfl (by kernel_rfl) (by rfl) ?_ (HJ.out) ?_; rotate_left; rotate_left; (simp only [List.getElem?_toArray, List.getElem?_cons_zero, List.getElem?_cons_succ, Option.map_some]; refine congrArg some ?_; go_simp))
          rintro e w9 ⟨rfl, c9⟩
          have hb_w9 : Below wc.heap.size wc w9 := hb_w8.trans (c9.mono hb_w8.size)
          refine ⟨_, rfl, HSS.out _ hb_w9, fun hHeld => ?_⟩
          (try simp only [Act.put, List.setIfInBounds_toArray, List.set_cons_zero, List.set_cons_succ])
          refine tk 15 2 ?_
          refine tk 16 3 ?_
          refine wpAnyH_done (by kernel_rfl) ?_ _
          have HEND : Hid (WriteE (Rul.mk id kn 2 x y of) w (.returned (.tuple #[.string ⟨(Lib.join (List.map (fun z => z.data.toList) (wordsB (Rul.mk id kn 2 x y of))) [32]).toArray⟩, .int .i64 0])) w9) := by
            refine ⟨?_, HBW.out _ (HBC.out.trans (hb_w9.mono hcs))⟩
            unfold wrB wrE
            rw [if_pos H1.out, if_pos H1.out]; rfl
          clear hHeld HJ
          go_wp2
          go_ret2
          exact HEND.out
        · have hb16 := HBC.out.trans (hb_w5.mono hcs)
          refine wp_call (f := 151) (args := #[(Rul.mk id kn 2 x y of).agg]) (by go_simp) (HTL.out w5 hb16) ?_
          rintro e w6 ⟨gt, rfl, hlt6, c6⟩
          have hb_w6 : Below wc.heap.size wc w6 := hb_w5.trans (c6.mono hb_w5.size)
          refine ⟨_, rfl, HSS.out _ hb_w6, ?_⟩
          (try simp only [Act.put, List.setIfInBounds_toArray, List.set_cons_zero, List.set_cons_succ])
          refine held_one 8 ⟨some 20, .buildSlice 34 3 #[(0, .tmp 14), (1, .tmp 17), (2, .tmp 19)], 34, _, _, none⟩ rfl (by kernel_rfl) (by rfl) ?_
          unfold Oper.wp
          go_simp
          have hb_w7 : Below wc.heap.size wc (w6.alloc (.cells #[.string (itoB id), .string (itoB kn), .string ⟨#[100, 114, 121]⟩] 9)) := hb_w6.alloc hb_w6.size _
          have bx7 : Bk (w6.alloc (.cells #[.string (itoB id), .string (itoB kn), .string ⟨#[100, 114, 121]⟩] 9)) w6.heap.size 9 #[.string (itoB id), .string (itoB kn), .string ⟨#[100, 114, 121]⟩] := Bk.new _ _ _
          have hlt7 : Lies (w6.alloc (.cells #[.string (itoB id), .string (itoB kn), .string ⟨#[100, 114, 121]⟩] 9)) (w6.alloc (.cells #[.string (itoB id), .string (itoB kn), .string ⟨#[100, 114, 121]⟩] 9)).heap.size (some ⟨gt, 0, none⟩) (strsC [x]) := (hlt6.below ((Below.refl _ _).alloc (Nat.le_refl _) _) (Nat.le_refl _)).more (by simp)
          refine ⟨HSS.out _ hb_w7, ?_⟩
          (try simp only [Act.put, List.setIfInBounds_toArray, List.set_cons_zero, List.set_cons_succ])
          generalize w6.alloc (.cells #[.string (itoB id), .string (itoB kn), .string ⟨#[100, 114, 121]⟩] 9) = w7 at *
          clear hlt6 c6 hb16
          refine held_one 13 ⟨some 25, .call { callee := .builtin .append, args := #[.tmp 20, .tmp 24], argTypes := #[34, 34] }, 34, _, _, none⟩ rfl (by kernel_rfl) (by rfl) ?_
          refine wp_append_grows _ (.tmp 20) (.tmp 24) 34 rfl 9 i0 (.string ByteArray.empty) 1 16 Tryz.underlying34 I9.out.1 I9.out.2.1 I9.out.2.2.1 I9.out.2.2.2 rfl (by decide) (some ⟨w6.heap.size, 0, none⟩) 3 3 [.string (itoB id), .string (itoB kn), .string ⟨#[100, 114, 121]⟩] rfl (fun e => by cases e) rfl (fun b hb j u hj => by cases hb; exact bk_cells bx7 j u hj) ⟨gt, 0, none⟩ 1 1 (strsC [x]) rfl rfl (fun j u hj => by
            obtain ⟨ad, e, _, hc⟩ := hlt7 (by simp [strsC])
            cases e; exact hc j u hj) ?_ (by omega) ?_ ?_ ?_
          · intro u hu; simp [strsC] at hu; (try rcases hu with rfl | rfl) <;> (try subst hu) <;> rfl
          · unfold maxLen; omega
          · omega
          intro v8 w8 ow8 hg8
          have hb_w8 : Below wc.heap.size wc w8 := Below.grown hb_w7 hg8 hb_w7.size (fun g e => by cases e)
          obtain ⟨A8, c8, rfl, hc8, hcm8⟩ := ownsSlice ow8
          obtain ⟨g8, rfl, hge8⟩ := own_some ow8 (Nat.succ_pos _)
          have HJ := Lib.hid (Tryz.strings_Join g8 0 c8 (wordsB (Rul.mk id kn 2 x y of)) ⟨#[32]⟩ w8 (fun j z hz => by
            obtain ⟨ad, e, _, hc⟩ := ownsRow_lies ow8 (by simp)
            cases e
            have h2 := hc j (.string z) (by
              have : ((wordsB (Rul.mk id kn 2 x y of)).map Value.string)[j]? = some (.string z) := by rw [List.getElem?_map, hz]; rfl
              exact this)
            unfold Addr.add at h2
            split at h2
            · rename_i h0; subst h0; exact h2
            · exact h2) (by have := hge8; have h3 := (ow8.lt g8 rfl).2; exact h3) (by show _ ≤ 140737488355328; simp [wordsB, tellB]) (by simpa [wordsB, tellB] using hc8) (by have := HLEN.out; unfold wrL at this; exact Nat.le_trans this (by decide)))
          have hwl : (wordsB (Rul.mk id kn 2 x y of)).length = 4 := by simp [wordsB, tellB]
          rw [hwl] at HJ
          clear ow8 hg8 bx7 hlt7 hwl
          refine ⟨HSS.out _ hb_w8, ?_⟩
          (try simp only [Act.put, List.setIfInBounds_toArray, List.set_cons_zero, List.set_cons_succ])
          (refine held_call 14 (some 26) 83 _ rfl (by kernel_rfl) (by rfl) ?_ (HJ.out) ?_; rotate_left; rotate_left; (simp only [List.getElem?_toArray, List.getElem?_cons_zero, List.getElem?_cons_succ, Option.map_some]; refine congrArg some ?_; go_simp))
          rintro e w9 ⟨rfl, c9⟩
          have hb_w9 : Below wc.heap.size wc w9 := hb_w8.trans (c9.mono hb_w8.size)
          refine ⟨_, rfl, HSS.out _ hb_w9, fun hHeld => ?_⟩
          (try simp only [Act.put, List.setIfInBounds_toArray, List.set_cons_zero, List.set_cons_succ])
          refine tk 15 2 ?_
          refine tk 16 3 ?_
          refine wpAnyH_done (by kernel_rfl) ?_ _
          have HEND : Hid (WriteE (Rul.mk id kn 2 x y of) w (.returned (.tuple #[.string ⟨(Lib.join (List.map (fun z => z.data.toList) (wordsB (Rul.mk id kn 2 x y of))) [32]).toArray⟩, .int .i64 0])) w9) := by
            refine ⟨?_, HBW.out _ (HBC.out.trans (hb_w9.mono hcs))⟩
            unfold wrB wrE
            rw [if_pos H1.out, if_pos H1.out]; rfl
          clear hHeld HJ
          go_wp2
          go_ret2
          exact HEND.out
    · go_upto_region 3 with (first | (go_at_call 81; refine (HF.out _).mono ?_; rintro e w1 ⟨rfl, hb1⟩; rw [H1.out]; have hs1 := hb1.size; try simp at hs1))
      have hb1' : Below (w.heap.size + 1) (w.alloc (.cells #[.int .i64 id, .int .i64 kn, .int .u8 3, .string x, .string y, .int .i64 of] 50)) w1 := hb1.mono (by simp)
      have HBX : Hid (∀ V, Below w1.heap.size w1 V → Bk V w.heap.size 50 #[.int .i64 id, .int .i64 kn, .int .u8 3, .string x, .string y, .int .i64 of]) := fun V hV => ((Bk.new w 50 #[.int .i64 id, .int .i64 kn, .int .u8 3, .string x, .string y, .int .i64 of]).below hb1' (Nat.lt_succ_self _)).below hV (by omega)
      have HBW : Hid (∀ V, Below w1.heap.size w1 V → Below w.heap.size w V) := fun V hV => (((Below.refl _ _).alloc (Nat.le_refl _) _).trans (hb1'.mono (by omega))).trans (hV.mono (by omega))
      have HGL : Hid (∀ V, Below w1.heap.size w1 V → Glob V) := fun V hV => HG.out.step (HBW.out V hV)
      clear hb1 hb1'
      go_cut [4] (fun s4 wx => ∃ g b0 : Nat, s4 = .pointer (some ⟨g, 0, none⟩) ∧ w1.heap.size ≤ g ∧ Hid (Bk wx g 106 #[.string ⟨#[98, 101, 115, 105, 100, 101]⟩, .func (.func 147) #[] #[], .func (.func 148) #[] #[], .func (.func 149) #[] #[]]) ∧ Hid (Below w1.heap.size w1 wx))
      case first =>
        refine wp_region_held_drew (S := (fun V => V.cell? ⟨w.heap.size, 2, none⟩ = some (.int .u8 3))) (by kernel_rfl) ?_ (fun hHeld => ?_)
        · exact (HBX.out _ (Below.refl _ _).drew).cell 2 rfl
        refine tk 1 9 ?_
        refine tk 2 10 ?_
        have hb_w3 : Below w1.heap.size w1 w1.drew := (Below.refl _ _).drew
        have hz_w3 : w1.heap.size ≤ w1.drew.heap.size := Nat.le_refl _
        generalize w1.drew = w3 at *
        refine held_two 0 4 ⟨some 8, .call { callee := .value (.func 82), args := #[], argTypes := #[] }, 107, _, _, none⟩ ⟨some 4, .alloc 106, 0, _, _, none⟩ rfl rfl (by kernel_rfl) (by rfl) (by rfl) ?_ ?_
        · refine wp_call (f := 82) (args := #[]) (by go_simp) (forms_any _) ?_
          rintro e w4 ⟨b, rfl, hb0, hb2, hbc, hb4⟩
          have hB4 : Below w1.heap.size w1 w4 := hb_w3.trans (hb4.mono hz_w3)
          have hS0 : w4.cell? ⟨w.heap.size, 2, none⟩ = some (.int .u8 3) := (HBX.out _ hB4).cell 2 rfl
          refine ⟨_, rfl, hS0, ?_⟩
          (try simp only [Act.put, List.setIfInBounds_toArray, List.set_cons_zero, List.set_cons_succ])
          have hix := fun V => idx107_3 b V
          unfold formsC at hix ⊢
          refine tk 3 11 ?_
          clear hS0
          refine held_one 4 ⟨some 4, .alloc 106, 0, _, _, none⟩ rfl (by kernel_rfl) (by rfl) ?_
          unfold Oper.wp
          go_simp
          have hB5 : Below w1.heap.size w1 (w4.alloc (.cells #[.string ⟨#[]⟩, .nilFunc, .nilFunc, .nilFunc] 106)) := hB4.alloc hB4.size _
          have k5 : Bk (w4.alloc (.cells #[.string ⟨#[]⟩, .nilFunc, .nilFunc, .nilFunc] 106)) w4.heap.size 106 #[.string ⟨#[]⟩, .nilFunc, .nilFunc, .nilFunc] := Bk.new _ _ _
          refine ⟨(HBX.out _ hB5).cell 2 rfl, ?_⟩
          (try simp only [Act.put, List.setIfInBounds_toArray, List.set_cons_zero, List.set_cons_succ])
          refine held_one 5 ⟨none, .store 106 (.tmp 4) (.tmp 11), _, _, _, none⟩ rfl (by kernel_rfl) (by rfl) ?_
          refine wp_store_blk 106 (.tmp 4) (.tmp 11) rfl w4.heap.size #[.string ⟨#[]⟩, .nilFunc, .nilFunc, .nilFunc] #[.string ⟨#[98, 101, 115, 105, 100, 101]⟩, .func (.func 147) #[] #[], .func (.func 148) #[] #[], .func (.func 149) #[] #[]] rfl rfl k5 rfl info106 (by intro v hv; simp at hv; rcases hv with rfl | rfl | rfl | rfl <;> rfl) ?_
          intro u4 k4 f4
          have hB6 := f4.bel _ _ hB4.size hB5
          refine ⟨(HBX.out _ hB6).cell 2 rfl, ?_⟩
          (try simp only [Act.put, List.setIfInBounds_toArray, List.set_cons_zero, List.set_cons_succ])
          refine wpAnyH_done (by kernel_rfl) ?_ _
          clear hHeld hix
          go_wp2_with fail
          go_meet
          exact ⟨w4.heap.size, b, rfl, hB4.size, k4, hB6⟩
        · unfold Oper.wp
          go_simp
          have hB5 : Below w1.heap.size w1 (w3.alloc (.cells #[.string ⟨#[]⟩, .nilFunc, .nilFunc, .nilFunc] 106)) := hb_w3.alloc hz_w3 _
          have k5 : Bk (w3.alloc (.cells #[.string ⟨#[]⟩, .nilFunc, .nilFunc, .nilFunc] 106)) w3.heap.size 106 #[.string ⟨#[]⟩, .nilFunc, .nilFunc, .nilFunc] := Bk.new _ _ _
          refine ⟨(HBX.out _ hB5).cell 2 rfl, ?_⟩
          (try simp only [Act.put, List.setIfInBounds_toArray, List.set_cons_zero, List.set_cons_succ])
          refine held_one 0 ⟨some 8, .call { callee := .value (.func 82), args := #[], argTypes := #[] }, 107, _, _, none⟩ rfl (by kernel_rfl) (by rfl) ?_
          refine wp_call (f := 82) (args := #[]) (by go_simp) (forms_any _) ?_
          rintro e w4 ⟨b, rfl, hb0, hb2, hbc, hb4⟩
          have hB4 : Below w1.heap.size w1 w4 := hB5.trans (hb4.mono hB5.size)
          have k6 := k5.below hb4 k5.lt
          have hS0 : w4.cell? ⟨w.heap.size, 2, none⟩ = some (.int .u8 3) := (HBX.out _ hB4).cell 2 rfl
          refine ⟨_, rfl, hS0, ?_⟩
          (try simp only [Act.put, List.setIfInBounds_toArray, List.set_cons_zero, List.set_cons_succ])
          have hix := fun V => idx107_3 b V
          unfold formsC at hix ⊢
          refine tk 3 11 ?_
          refine held_one 5 ⟨none, .store 106 (.tmp 4) (.tmp 11), _, _, _, none⟩ rfl (by kernel_rfl) (by rfl) ?_
          refine wp_store_blk 106 (.tmp 4) (.tmp 11) rfl w3.heap.size #[.string ⟨#[]⟩, .nilFunc, .nilFunc, .nilFunc] #[.string ⟨#[98, 101, 115, 105, 100, 101]⟩, .func (.func 147) #[] #[], .func (.func 148) #[] #[], .func (.func 149) #[] #[]] rfl rfl k6 rfl info106 (by intro v hv; simp at hv; rcases hv with rfl | rfl | rfl | rfl <;> rfl) ?_
          intro u4 k4 f4
          have hB6 := f4.bel _ _ hz_w3 hB4
          refine ⟨(HBX.out _ hB6).cell 2 rfl, ?_⟩
          (try simp only [Act.put, List.setIfInBounds_toArray, List.set_cons_zero, List.set_cons_succ])
          refine wpAnyH_done (by kernel_rfl) ?_ _
          clear hHeld hix
          go_wp2_with fail
          go_meet
          exact ⟨w3.heap.size, b, rfl, hz_w3, k4, hB6⟩
      case rest =>
        obtain ⟨g, b0, rfl, hgz, HKG, HBC⟩ := hcut
        have hgl := HKG.out.lt
        have hcs := HBC.out.size
        have HSS : Hid (∀ V, Below wc.heap.size wc V → V.cell? ⟨w.heap.size, 0, none⟩ = some (.int .i64 id) ∧ V.cell? ⟨w.heap.size, 1, none⟩ = some (.int .i64 kn) ∧ V.cell? ⟨w.heap.size, 2, none⟩ = some (.int .u8 3) ∧ V.cell? ⟨w.heap.size, 3, none⟩ = some (.string x) ∧ V.cell? ⟨w.heap.size, 4, none⟩ = some (.string y) ∧ V.cell? ⟨w.heap.size, 5, none⟩ = some (.int .i64 of) ∧ V.cell? ⟨g, 0, none⟩ = some (.string ⟨#[98, 101, 115, 105, 100, 101]⟩) ∧ V.cell? ⟨g, 2, none⟩ = some (.func (.func 148) #[] #[])) := fun V hV => by
          have k1 := HBX.out V (HBC.out.trans (hV.mono hcs))
          have k2 := HKG.out.below hV hgl
          exact ⟨k1.cell 0 rfl, k1.cell 1 rfl, k1.cell 2 rfl, k1.cell 3 rfl, k1.cell 4 rfl, k1.cell 5 rfl, k2.cell 0 rfl, k2.cell 2 rfl⟩
        have HIT : Hid (∀ V, Below wc.heap.size wc V → ∀ n, i64v n → Calls Tryz.prog 84 #[.int .i64 n] V (ValEnd (.string (itoB n)) V)) := fun V hV n hn => itoa_any n V (HGL.out V (HBC.out.trans (hV.mono hcs))) hn
        have HTL : Hid (∀ V, Below w1.heap.size w1 V → Calls Tryz.prog 148 #[(Rul.mk id kn 3 x y of).agg] V (TellE [x, y] V)) := fun V hV => tell2_any ⟨id, kn, 3, x, y, of⟩ V
        obtain ⟨i0, hi0, hz0, hz1, hz2⟩ := info_parts info9
        have I9 := Lib.hid (And.intro hi0 (And.intro hz0 (And.intro hz1 hz2))); clear hi0 hz0 hz1 hz2
        go_upto_region 4 with fail
        refine wp_region_held_drew (S := (fun V => V.cell? ⟨w.heap.size, 0, none⟩ = some (.int .i64 id) ∧ V.cell? ⟨w.heap.size, 1, none⟩ = some (.int .i64 kn) ∧ V.cell? ⟨w.heap.size, 2, none⟩ = some (.int .u8 3) ∧ V.cell? ⟨w.heap.size, 3, none⟩ = some (.string x) ∧ V.cell? ⟨w.heap.size, 4, none⟩ = some (.string y) ∧ V.cell? ⟨w.heap.size, 5, none⟩ = some (.int .i64 of) ∧ V.cell? ⟨g, 0, none⟩ = some (.string ⟨#[98, 101, 115, 105, 100, 101]⟩) ∧ V.cell? ⟨g, 2, none⟩ = some (.func (.func 148) #[] #[]))) (by kernel_rfl) ?_ (fun hHeld => ?_)
        · exact HSS.out _ (Below.refl _ _).drew
        refine tk 0 12 ?_
        refine tk 1 13 ?_
        refine tk 3 15 ?_
        refine tk 4 16 ?_
        refine tk 6 18 ?_
        refine tk 7 19 ?_
        refine tk 9 21 ?_
        refine tk 10 22 ?_
        refine tk 11 23 ?_
        have hb_w3 : Below wc.heap.size wc wc.drew := (Below.refl _ _).drew
        generalize wc.drew = w3 at *
        (refine held_call 2 (some 14) 84 _ rfl (by kernel_rfl) (by rfl) ?_ ((HIT.out w3 hb_w3 id HBD.out.1)) ?_; rotate_left; rotate_left; (simp only [List.getElem?_toArray, List.getElem?_cons_zero, List.getElem?_cons_succ, Option.map_some]; refine congrArg some ?_; go_simp))
        rintro e w4 ⟨rfl, c4⟩
        have hb_w4 : Below wc.heap.size wc w4 := hb_w3.trans (c4.mono hb_w3.size)
        refine ⟨_, rfl, HSS.out _ hb_w4, fun hHeld => ?_⟩
        (try simp only [Act.put, List.setIfInBounds_toArray, List.set_cons_zero, List.set_cons_succ])
        (refine held_call 5 (some 17) 84 _ rfl (by kernel_rfl) (by rfl) ?_ ((HIT.out w4 hb_w4 kn HBD.out.2.1)) ?_; rotate_left; rotate_left; (simp only [List.getElem?_toArray, List.getElem?_cons_zero, List.getElem?_cons_succ, Option.map_some]; refine congrArg some ?_; go_simp))
        rintro e w5 ⟨rfl, c5⟩
        have hb_w5 : Below wc.heap.size wc w5 := hb_w4.trans (c5.mono hb_w4.size)
        refine ⟨_, rfl, HSS.out _ hb_w5, fun hHeld => ?_⟩
        (try simp only [Act.put, List.setIfInBounds_toArray, List.set_cons_zero, List.set_cons_succ])
        clear c4 c5
        refine held_two 8 12 ⟨some 20, .buildSlice 34 3 #[(0, .tmp 14), (1, .tmp 17), (2, .tmp 19)], 34, _, _, none⟩ ⟨some 24, .call { callee := .value (.tmp 22), args := #[.tmp 23], argTypes := #[50] }, 34, _, _, none⟩ rfl rfl (by kernel_rfl) (by rfl) (by rfl) ?_ ?_
        · unfold Oper.wp
          go_simp
          have hb_w6 : Below wc.heap.size wc (w5.alloc (.cells #[.string (itoB id), .string (itoB kn), .string ⟨#[98, 101, 115, 105, 100, 101]⟩] 9)) := hb_w5.alloc hb_w5.size _
          have bx : Bk (w5.alloc (.cells #[.string (itoB id), .string (itoB kn), .string ⟨#[98, 101, 115, 105, 100, 101]⟩] 9)) w5.heap.size 9 #[.string (itoB id), .string (itoB kn), .string ⟨#[98, 101, 115, 105, 100, 101]⟩] := Bk.new _ _ _
          refine ⟨HSS.out _ hb_w6, ?_⟩
          (try simp only [Act.put, List.setIfInBounds_toArray, List.set_cons_zero, List.set_cons_succ])
          have hb16 := HBC.out.trans (hb_w6.mono hcs)
          generalize w5.alloc (.cells #[.string (itoB id), .string (itoB kn), .string ⟨#[98, 101, 115, 105, 100, 101]⟩] 9) = w6 at *
          refine held_one 12 ⟨some 24, .call { callee := .value (.tmp 22), args := #[.tmp 23], argTypes := #[50] }, 34, _, _, none⟩ rfl (by kernel_rfl) (by rfl) ?_
          refine wp_call (f := 148) (args := #[(Rul.mk id kn 3 x y of).agg]) (by go_simp) (HTL.out w6 hb16) ?_
          rintro e w7 ⟨gt, rfl, hlt7, c7⟩
          have hb_w7 : Below wc.heap.size wc w7 := hb_w6.trans (c7.mono hb_w6.size)
          have bx7 := bx.below c7 bx.lt
          refine ⟨_, rfl, HSS.out _ hb_w7, ?_⟩
          (try simp only [Act.put, List.setIfInBounds_toArray, List.set_cons_zero, List.set_cons_succ])
          clear bx c7 hb16
          refine held_one 13 ⟨some 25, .call { callee := .builtin .append, args := #[.tmp 20, .tmp 24], argTypes := #[34, 34] }, 34, _, _, none⟩ rfl (by kernel_rfl) (by rfl) ?_
          refine wp_append_grows _ (.tmp 20) (.tmp 24) 34 rfl 9 i0 (.string ByteArray.empty) 1 16 Tryz.underlying34 I9.out.1 I9.out.2.1 I9.out.2.2.1 I9.out.2.2.2 rfl (by decide) (some ⟨w5.heap.size, 0, none⟩) 3 3 [.string (itoB id), .string (itoB kn), .string ⟨#[98, 101, 115, 105, 100, 101]⟩] rfl (fun e => by cases e) rfl (fun b hb j u hj => by cases hb; exact bk_cells bx7 j u hj) ⟨gt, 0, none⟩ 2 2 (strsC [x, y]) rfl rfl (fun j u hj => by
            obtain ⟨ad, e, _, hc⟩ := hlt7 (by simp [strsC])
            cases e; exact hc j u hj) ?_ (by omega) ?_ ?_ ?_
          · intro u hu; simp [strsC] at hu; (try rcases hu with rfl | rfl) <;> (try subst hu) <;> rfl
          · unfold maxLen; omega
          · omega
          intro v8 w8 ow8 hg8
          have hb_w8 : Below wc.heap.size wc w8 := Below.grown hb_w7 hg8 hb_w7.size (fun g e => by cases e)
          obtain ⟨A8, c8, rfl, hc8, hcm8⟩ := ownsSlice ow8
          obtain ⟨g8, rfl, hge8⟩ := own_some ow8 (Nat.succ_pos _)
          have HJ := Lib.hid (Tryz.strings_Join g8 0 c8 (wordsB (Rul.mk id kn 3 x y of)) ⟨#[32]⟩ w8 (fun j z hz => by
            obtain ⟨ad, e, _, hc⟩ := ownsRow_lies ow8 (by simp)
            cases e
            have h2 := hc j (.string z) (by
              have : ((wordsB (Rul.mk id kn 3 x y of)).map Value.string)[j]? = some (.string z) := by rw [List.getElem?_map, hz]; rfl
              exact this)
            unfold Addr.add at h2
            split at h2
            · rename_i h0; subst h0; exact h2
            · exact h2) (by have := hge8; have h3 := (ow8.lt g8 rfl).2; exact h3) (by show _ ≤ 140737488355328; simp [wordsB, tellB]) (by simpa [wordsB, tellB] using hc8) (by have := HLEN.out; unfold wrL at this; exact Nat.le_trans this (by decide)))
          have hwl : (wordsB (Rul.mk id kn 3 x y of)).length = 5 := by simp [wordsB, tellB]
          rw [hwl] at HJ
          clear ow8 hg8 bx7 hlt7 hwl
          refine ⟨HSS.out _ hb_w8, ?_⟩
          (try simp only [Act.put, List.setIfInBounds_toArray, List.set_cons_zero, List.set_cons_succ])
          (refine held_call 14 (some 26) 83 _ rfl (by kernel_rfl) (by rfl) ?_ (HJ.out) ?_; rotate_left; rotate_left; (simp only [List.getElem?_toArray, List.getElem?_cons_zero, List.getElem?_cons_succ, Option.map_some]; refine congrArg some ?_; go_simp))
          rintro e w9 ⟨rfl, c9⟩
          have hb_w9 : Below wc.heap.size wc w9 := hb_w8.trans (c9.mono hb_w8.size)
          refine ⟨_, rfl, HSS.out _ hb_w9, fun hHeld => ?_⟩
          (try simp only [Act.put, List.setIfInBounds_toArray, List.set_cons_zero, List.set_cons_succ])
          refine tk 15 2 ?_
          refine tk 16 3 ?_
          refine wpAnyH_done (by kernel_rfl) ?_ _
          have HEND : Hid (WriteE (Rul.mk id kn 3 x y of) w (.returned (.tuple #[.string ⟨(Lib.join (List.map (fun z => z.data.toList) (wordsB (Rul.mk id kn 3 x y of))) [32]).toArray⟩, .int .i64 0])) w9) := by
            refine ⟨?_, HBW.out _ (HBC.out.trans (hb_w9.mono hcs))⟩
            unfold wrB wrE
            rw [if_pos H1.out, if_pos H1.out]; rfl
          clear hHeld HJ
          go_wp2
          go_ret2
          exact HEND.out
        · have hb16 := HBC.out.trans (hb_w5.mono hcs)
          refine wp_call (f := 148) (args := #[(Rul.mk id kn 3 x y of).agg]) (by go_simp) (HTL.out w5 hb16) ?_
          rintro e w6 ⟨gt, rfl, hlt6, c6⟩
          have hb_w6 : Below wc.heap.size wc w6 := hb_w5.trans (c6.mono hb_w5.size)
          refine ⟨_, rfl, HSS.out _ hb_w6, ?_⟩
          (try simp only [Act.put, List.setIfInBounds_toArray, List.set_cons_zero, List.set_cons_succ])
          refine held_one 8 ⟨some 20, .buildSlice 34 3 #[(0, .tmp 14), (1, .tmp 17), (2, .tmp 19)], 34, _, _, none⟩ rfl (by kernel_rfl) (by rfl) ?_
          unfold Oper.wp
          go_simp
          have hb_w7 : Below wc.heap.size wc (w6.alloc (.cells #[.string (itoB id), .string (itoB kn), .string ⟨#[98, 101, 115, 105, 100, 101]⟩] 9)) := hb_w6.alloc hb_w6.size _
          have bx7 : Bk (w6.alloc (.cells #[.string (itoB id), .string (itoB kn), .string ⟨#[98, 101, 115, 105, 100, 101]⟩] 9)) w6.heap.size 9 #[.string (itoB id), .string (itoB kn), .string ⟨#[98, 101, 115, 105, 100, 101]⟩] := Bk.new _ _ _
          have hlt7 : Lies (w6.alloc (.cells #[.string (itoB id), .string (itoB kn), .string ⟨#[98, 101, 115, 105, 100, 101]⟩] 9)) (w6.alloc (.cells #[.string (itoB id), .string (itoB kn), .string ⟨#[98, 101, 115, 105, 100, 101]⟩] 9)).heap.size (some ⟨gt, 0, none⟩) (strsC [x, y]) := (hlt6.below ((Below.refl _ _).alloc (Nat.le_refl _) _) (Nat.le_refl _)).more (by simp)
          refine ⟨HSS.out _ hb_w7, ?_⟩
          (try simp only [Act.put, List.setIfInBounds_toArray, List.set_cons_zero, List.set_cons_succ])
          generalize w6.alloc (.cells #[.string (itoB id), .string (itoB kn), .string ⟨#[98, 101, 115, 105, 100, 101]⟩] 9) = w7 at *
          clear hlt6 c6 hb16
          refine held_one 13 ⟨some 25, .call { callee := .builtin .append, args := #[.tmp 20, .tmp 24], argTypes := #[34, 34] }, 34, _, _, none⟩ rfl (by kernel_rfl) (by rfl) ?_
          refine wp_append_grows _ (.tmp 20) (.tmp 24) 34 rfl 9 i0 (.string ByteArray.empty) 1 16 Tryz.underlying34 I9.out.1 I9.out.2.1 I9.out.2.2.1 I9.out.2.2.2 rfl (by decide) (some ⟨w6.heap.size, 0, none⟩) 3 3 [.string (itoB id), .string (itoB kn), .string ⟨#[98, 101, 115, 105, 100, 101]⟩] rfl (fun e => by cases e) rfl (fun b hb j u hj => by cases hb; exact bk_cells bx7 j u hj) ⟨gt, 0, none⟩ 2 2 (strsC [x, y]) rfl rfl (fun j u hj => by
            obtain ⟨ad, e, _, hc⟩ := hlt7 (by simp [strsC])
            cases e; exact hc j u hj) ?_ (by omega) ?_ ?_ ?_
          · intro u hu; simp [strsC] at hu; (try rcases hu with rfl | rfl) <;> (try subst hu) <;> rfl
          · unfold maxLen; omega
          · omega
          intro v8 w8 ow8 hg8
          have hb_w8 : Below wc.heap.size wc w8 := Below.grown hb_w7 hg8 hb_w7.size (fun g e => by cases e)
          obtain ⟨A8, c8, rfl, hc8, hcm8⟩ := ownsSlice ow8
          obtain ⟨g8, rfl, hge8⟩ := own_some ow8 (Nat.succ_pos _)
          have HJ := Lib.hid (Tryz.strings_Join g8 0 c8 (wordsB (Rul.mk id kn 3 x y of)) ⟨#[32]⟩ w8 (fun j z hz => by
            obtain ⟨ad, e, _, hc⟩ := ownsRow_lies ow8 (by simp)
            cases e
            have h2 := hc j (.string z) (by
              have : ((wordsB (Rul.mk id kn 3 x y of)).map Value.string)[j]? = some (.string z) := by rw [List.getElem?_map, hz]; rfl
              exact this)
            unfold Addr.add at h2
            split at h2
            · rename_i h0; subst h0; exact h2
            · exact h2) (by have := hge8; have h3 := (ow8.lt g8 rfl).2; exact h3) (by show _ ≤ 140737488355328; simp [wordsB, tellB]) (by simpa [wordsB, tellB] using hc8) (by have := HLEN.out; unfold wrL at this; exact Nat.le_trans this (by decide)))
          have hwl : (wordsB (Rul.mk id kn 3 x y of)).length = 5 := by simp [wordsB, tellB]
          rw [hwl] at HJ
          clear ow8 hg8 bx7 hlt7 hwl
          refine ⟨HSS.out _ hb_w8, ?_⟩
          (try simp only [Act.put, List.setIfInBounds_toArray, List.set_cons_zero, List.set_cons_succ])
          (refine held_call 14 (some 26) 83 _ rfl (by kernel_rfl) (by rfl) ?_ (HJ.out) ?_; rotate_left; rotate_left; (simp only [List.getElem?_toArray, List.getElem?_cons_zero, List.getElem?_cons_succ, Option.map_some]; refine congrArg some ?_; go_simp))
          rintro e w9 ⟨rfl, c9⟩
          have hb_w9 : Below wc.heap.size wc w9 := hb_w8.trans (c9.mono hb_w8.size)
          refine ⟨_, rfl, HSS.out _ hb_w9, fun hHeld => ?_⟩
          (try simp only [Act.put, List.setIfInBounds_toArray, List.set_cons_zero, List.set_cons_succ])
          refine tk 15 2 ?_
          refine tk 16 3 ?_
          refine wpAnyH_done (by kernel_rfl) ?_ _
          have HEND : Hid (WriteE (Rul.mk id kn 3 x y of) w (.returned (.tuple #[.string ⟨(Lib.join (List.map (fun z => z.data.toList) (wordsB (Rul.mk id kn 3 x y of))) [32]).toArray⟩, .int .i64 0])) w9) := by
            refine ⟨?_, HBW.out _ (HBC.out.trans (hb_w9.mono hcs))⟩
            unfold wrB wrE
            rw [if_pos H1.out, if_pos H1.out]; rfl
          clear hHeld HJ
          go_wp2
          go_ret2
          exact HEND.out
    · go_upto_region 3 with (first | (go_at_call 81; refine (HF.out _).mono ?_; rintro e w1 ⟨rfl, hb1⟩; rw [H1.out]; have hs1 := hb1.size; try simp at hs1))
      have hb1' : Below (w.heap.size + 1) (w.alloc (.cells #[.int .i64 id, .int .i64 kn, .int .u8 4, .string x, .string y, .int .i64 of] 50)) w1 := hb1.mono (by simp)
      have HBX : Hid (∀ V, Below w1.heap.size w1 V → Bk V w.heap.size 50 #[.int .i64 id, .int .i64 kn, .int .u8 4, .string x, .string y, .int .i64 of]) := fun V hV => ((Bk.new w 50 #[.int .i64 id, .int .i64 kn, .int .u8 4, .string x, .string y, .int .i64 of]).below hb1' (Nat.lt_succ_self _)).below hV (by omega)
      have HBW : Hid (∀ V, Below w1.heap.size w1 V → Below w.heap.size w V) := fun V hV => (((Below.refl _ _).alloc (Nat.le_refl _) _).trans (hb1'.mono (by omega))).trans (hV.mono (by omega))
      have HGL : Hid (∀ V, Below w1.heap.size w1 V → Glob V) := fun V hV => HG.out.step (HBW.out V hV)
      clear hb1 hb1'
      go_cut [4] (fun s4 wx => ∃ g b0 : Nat, s4 = .pointer (some ⟨g, 0, none⟩) ∧ w1.heap.size ≤ g ∧ Hid (Bk wx g 106 #[.string ⟨#[111, 118, 101, 114]⟩, .func (.func 147) #[] #[], .func (.func 148) #[] #[], .func (.func 149) #[] #[]]) ∧ Hid (Below w1.heap.size w1 wx))
      case first =>
        refine wp_region_held_drew (S := (fun V => V.cell? ⟨w.heap.size, 2, none⟩ = some (.int .u8 4))) (by kernel_rfl) ?_ (fun hHeld => ?_)
        · exact (HBX.out _ (Below.refl _ _).drew).cell 2 rfl
        refine tk 1 9 ?_
        refine tk 2 10 ?_
        have hb_w3 : Below w1.heap.size w1 w1.drew := (Below.refl _ _).drew
        have hz_w3 : w1.heap.size ≤ w1.drew.heap.size := Nat.le_refl _
        generalize w1.drew = w3 at *
        refine held_two 0 4 ⟨some 8, .call { callee := .value (.func 82), args := #[], argTypes := #[] }, 107, _, _, none⟩ ⟨some 4, .alloc 106, 0, _, _, none⟩ rfl rfl (by kernel_rfl) (by rfl) (by rfl) ?_ ?_
        · refine wp_call (f := 82) (args := #[]) (by go_simp) (forms_any _) ?_
          rintro e w4 ⟨b, rfl, hb0, hb2, hbc, hb4⟩
          have hB4 : Below w1.heap.size w1 w4 := hb_w3.trans (hb4.mono hz_w3)
          have hS0 : w4.cell? ⟨w.heap.size, 2, none⟩ = some (.int .u8 4) := (HBX.out _ hB4).cell 2 rfl
          refine ⟨_, rfl, hS0, ?_⟩
          (try simp only [Act.put, List.setIfInBounds_toArray, List.set_cons_zero, List.set_cons_succ])
          have hix := fun V => idx107_4 b V
          unfold formsC at hix ⊢
          refine tk 3 11 ?_
          clear hS0
          refine held_one 4 ⟨some 4, .alloc 106, 0, _, _, none⟩ rfl (by kernel_rfl) (by rfl) ?_
          unfold Oper.wp
          go_simp
          have hB5 : Below w1.heap.size w1 (w4.alloc (.cells #[.string ⟨#[]⟩, .nilFunc, .nilFunc, .nilFunc] 106)) := hB4.alloc hB4.size _
          have k5 : Bk (w4.alloc (.cells #[.string ⟨#[]⟩, .nilFunc, .nilFunc, .nilFunc] 106)) w4.heap.size 106 #[.string ⟨#[]⟩, .nilFunc, .nilFunc, .nilFunc] := Bk.new _ _ _
          refine ⟨(HBX.out _ hB5).cell 2 rfl, ?_⟩
          (try simp only [Act.put, List.setIfInBounds_toArray, List.set_cons_zero, List.set_cons_succ])
          refine held_one 5 ⟨none, .store 106 (.tmp 4) (.tmp 11), _, _, _, none⟩ rfl (by kernel_rfl) (by rfl) ?_
          refine wp_store_blk 106 (.tmp 4) (.tmp 11) rfl w4.heap.size #[.string ⟨#[]⟩, .nilFunc, .nilFunc, .nilFunc] #[.string ⟨#[111, 118, 101, 114]⟩, .func (.func 147) #[] #[], .func (.func 148) #[] #[], .func (.func 149) #[] #[]] rfl rfl k5 rfl info106 (by intro v hv; simp at hv; rcases hv with rfl | rfl | rfl | rfl <;> rfl) ?_
          intro u4 k4 f4
          have hB6 := f4.bel _ _ hB4.size hB5
          refine ⟨(HBX.out _ hB6).cell 2 rfl, ?_⟩
          (try simp only [Act.put, List.setIfInBounds_toArray, List.set_cons_zero, List.set_cons_succ])
          refine wpAnyH_done (by kernel_rfl) ?_ _
          clear hHeld hix
          go_wp2_with fail
          go_meet
          exact ⟨w4.heap.size, b, rfl, hB4.size, k4, hB6⟩
        · unfold Oper.wp
          go_simp
          have hB5 : Below w1.heap.size w1 (w3.alloc (.cells #[.string ⟨#[]⟩, .nilFunc, .nilFunc, .nilFunc] 106)) := hb_w3.alloc hz_w3 _
          have k5 : Bk (w3.alloc (.cells #[.string ⟨#[]⟩, .nilFunc, .nilFunc, .nilFunc] 106)) w3.heap.size 106 #[.string ⟨#[]⟩, .nilFunc, .nilFunc, .nilFunc] := Bk.new _ _ _
          refine ⟨(HBX.out _ hB5).cell 2 rfl, ?_⟩
          (try simp only [Act.put, List.setIfInBounds_toArray, List.set_cons_zero, List.set_cons_succ])
          refine held_one 0 ⟨some 8, .call { callee := .value (.func 82), args := #[], argTypes := #[] }, 107, _, _, none⟩ rfl (by kernel_rfl) (by rfl) ?_
          refine wp_call (f := 82) (args := #[]) (by go_simp) (forms_any _) ?_
          rintro e w4 ⟨b, rfl, hb0, hb2, hbc, hb4⟩
          have hB4 : Below w1.heap.size w1 w4 := hB5.trans (hb4.mono hB5.size)
          have k6 := k5.below hb4 k5.lt
          have hS0 : w4.cell? ⟨w.heap.size, 2, none⟩ = some (.int .u8 4) := (HBX.out _ hB4).cell 2 rfl
          refine ⟨_, rfl, hS0, ?_⟩
          (try simp only [Act.put, List.setIfInBounds_toArray, List.set_cons_zero, List.set_cons_succ])
          have hix := fun V => idx107_4 b V
          unfold formsC at hix ⊢
          refine tk 3 11 ?_
          refine held_one 5 ⟨none, .store 106 (.tmp 4) (.tmp 11), _, _, _, none⟩ rfl (by kernel_rfl) (by rfl) ?_
          refine wp_store_blk 106 (.tmp 4) (.tmp 11) rfl w3.heap.size #[.string ⟨#[]⟩, .nilFunc, .nilFunc, .nilFunc] #[.string ⟨#[111, 118, 101, 114]⟩, .func (.func 147) #[] #[], .func (.func 148) #[] #[], .func (.func 149) #[] #[]] rfl rfl k6 rfl info106 (by intro v hv; simp at hv; rcases hv with rfl | rfl | rfl | rfl <;> rfl) ?_
          intro u4 k4 f4
          have hB6 := f4.bel _ _ hz_w3 hB4
          refine ⟨(HBX.out _ hB6).cell 2 rfl, ?_⟩
          (try simp only [Act.put, List.setIfInBounds_toArray, List.set_cons_zero, List.set_cons_succ])
          refine wpAnyH_done (by kernel_rfl) ?_ _
          clear hHeld hix
          go_wp2_with fail
          go_meet
          exact ⟨w3.heap.size, b, rfl, hz_w3, k4, hB6⟩
      case rest =>
        obtain ⟨g, b0, rfl, hgz, HKG, HBC⟩ := hcut
        have hgl := HKG.out.lt
        have hcs := HBC.out.size
        have HSS : Hid (∀ V, Below wc.heap.size wc V → V.cell? ⟨w.heap.size, 0, none⟩ = some (.int .i64 id) ∧ V.cell? ⟨w.heap.size, 1, none⟩ = some (.int .i64 kn) ∧ V.cell? ⟨w.heap.size, 2, none⟩ = some (.int .u8 4) ∧ V.cell? ⟨w.heap.size, 3, none⟩ = some (.string x) ∧ V.cell? ⟨w.heap.size, 4, none⟩ = some (.string y) ∧ V.cell? ⟨w.heap.size, 5, none⟩ = some (.int .i64 of) ∧ V.cell? ⟨g, 0, none⟩ = some (.string ⟨#[111, 118, 101, 114]⟩) ∧ V.cell? ⟨g, 2, none⟩ = some (.func (.func 148) #[] #[])) := fun V hV => by
          have k1 := HBX.out V (HBC.out.trans (hV.mono hcs))
          have k2 := HKG.out.below hV hgl
          exact ⟨k1.cell 0 rfl, k1.cell 1 rfl, k1.cell 2 rfl, k1.cell 3 rfl, k1.cell 4 rfl, k1.cell 5 rfl, k2.cell 0 rfl, k2.cell 2 rfl⟩
        have HIT : Hid (∀ V, Below wc.heap.size wc V → ∀ n, i64v n → Calls Tryz.prog 84 #[.int .i64 n] V (ValEnd (.string (itoB n)) V)) := fun V hV n hn => itoa_any n V (HGL.out V (HBC.out.trans (hV.mono hcs))) hn
        have HTL : Hid (∀ V, Below w1.heap.size w1 V → Calls Tryz.prog 148 #[(Rul.mk id kn 4 x y of).agg] V (TellE [x, y] V)) := fun V hV => tell2_any ⟨id, kn, 4, x, y, of⟩ V
        obtain ⟨i0, hi0, hz0, hz1, hz2⟩ := info_parts info9
        have I9 := Lib.hid (And.intro hi0 (And.intro hz0 (And.intro hz1 hz2))); clear hi0 hz0 hz1 hz2
        go_upto_region 4 with fail
        refine wp_region_held_drew (S := (fun V => V.cell? ⟨w.heap.size, 0, none⟩ = some (.int .i64 id) ∧ V.cell? ⟨w.heap.size, 1, none⟩ = some (.int .i64 kn) ∧ V.cell? ⟨w.heap.size, 2, none⟩ = some (.int .u8 4) ∧ V.cell? ⟨w.heap.size, 3, none⟩ = some (.string x) ∧ V.cell? ⟨w.heap.size, 4, none⟩ = some (.string y) ∧ V.cell? ⟨w.heap.size, 5, none⟩ = some (.int .i64 of) ∧ V.cell? ⟨g, 0, none⟩ = some (.string ⟨#[111, 118, 101, 114]⟩) ∧ V.cell? ⟨g, 2, none⟩ = some (.func (.func 148) #[] #[]))) (by kernel_rfl) ?_ (fun hHeld => ?_)
        · exact HSS.out _ (Below.refl _ _).drew
        refine tk 0 12 ?_
        refine tk 1 13 ?_
        refine tk 3 15 ?_
        refine tk 4 16 ?_
        refine tk 6 18 ?_
        refine tk 7 19 ?_
        refine tk 9 21 ?_
        refine tk 10 22 ?_
        refine tk 11 23 ?_
        have hb_w3 : Below wc.heap.size wc wc.drew := (Below.refl _ _).drew
        generalize wc.drew = w3 at *
        (refine held_call 2 (some 14) 84 _ rfl (by kernel_rfl) (by rfl) ?_ ((HIT.out w3 hb_w3 id HBD.out.1)) ?_; rotate_left; rotate_left; (simp only [List.getElem?_toArray, List.getElem?_cons_zero, List.getElem?_cons_succ, Option.map_some]; refine congrArg some ?_; go_simp))
        rintro e w4 ⟨rfl, c4⟩
        have hb_w4 : Below wc.heap.size wc w4 := hb_w3.trans (c4.mono hb_w3.size)
        refine ⟨_, rfl, HSS.out _ hb_w4, fun hHeld => ?_⟩
        (try simp only [Act.put, List.setIfInBounds_toArray, List.set_cons_zero, List.set_cons_succ])
        (refine held_call 5 (some 17) 84 _ rfl (by kernel_rfl) (by rfl) ?_ ((HIT.out w4 hb_w4 kn HBD.out.2.1)) ?_; rotate_left; rotate_left; (simp only [List.getElem?_toArray, List.getElem?_cons_zero, List.getElem?_cons_succ, Option.map_some]; refine congrArg some ?_; go_simp))
        rintro e w5 ⟨rfl, c5⟩
        have hb_w5 : Below wc.heap.size wc w5 := hb_w4.trans (c5.mono hb_w4.size)
        refine ⟨_, rfl, HSS.out _ hb_w5, fun hHeld => ?_⟩
        (try simp only [Act.put, List.setIfInBounds_toArray, List.set_cons_zero, List.set_cons_succ])
        clear c4 c5
        refine held_two 8 12 ⟨some 20, .buildSlice 34 3 #[(0, .tmp 14), (1, .tmp 17), (2, .tmp 19)], 34, _, _, none⟩ ⟨some 24, .call { callee := .value (.tmp 22), args := #[.tmp 23], argTypes := #[50] }, 34, _, _, none⟩ rfl rfl (by kernel_rfl) (by rfl) (by rfl) ?_ ?_
        · unfold Oper.wp
          go_simp
          have hb_w6 : Below wc.heap.size wc (w5.alloc (.cells #[.string (itoB id), .string (itoB kn), .string ⟨#[111, 118, 101, 114]⟩] 9)) := hb_w5.alloc hb_w5.size _
          have bx : Bk (w5.alloc (.cells #[.string (itoB id), .string (itoB kn), .string ⟨#[111, 118, 101, 114]⟩] 9)) w5.heap.size 9 #[.string (itoB id), .string (itoB kn), .string ⟨#[111, 118, 101, 114]⟩] := Bk.new _ _ _
          refine ⟨HSS.out _ hb_w6, ?_⟩
          (try simp only [Act.put, List.setIfInBounds_toArray, List.set_cons_zero, List.set_cons_succ])
          have hb16 := HBC.out.trans (hb_w6.mono hcs)
          generalize w5.alloc (.cells #[.string (itoB id), .string (itoB kn), .string ⟨#[111, 118, 101, 114]⟩] 9) = w6 at *
          refine held_one 12 ⟨some 24, .call { callee := .value (.tmp 22), args := #[.tmp 23], argTypes := #[50] }, 34, _, _, none⟩ rfl (by kernel_rfl) (by rfl) ?_
          refine wp_call (f := 148) (args := #[(Rul.mk id kn 4 x y of).agg]) (by go_simp) (HTL.out w6 hb16) ?_
          rintro e w7 ⟨gt, rfl, hlt7, c7⟩
          have hb_w7 : Below wc.heap.size wc w7 := hb_w6.trans (c7.mono hb_w6.size)
          have bx7 := bx.below c7 bx.lt
          refine ⟨_, rfl, HSS.out _ hb_w7, ?_⟩
          (try simp only [Act.put, List.setIfInBounds_toArray, List.set_cons_zero, List.set_cons_succ])
          clear bx c7 hb16
          refine held_one 13 ⟨some 25, .call { callee := .builtin .append, args := #[.tmp 20, .tmp 24], argTypes := #[34, 34] }, 34, _, _, none⟩ rfl (by kernel_rfl) (by rfl) ?_
          refine wp_append_grows _ (.tmp 20) (.tmp 24) 34 rfl 9 i0 (.string ByteArray.empty) 1 16 Tryz.underlying34 I9.out.1 I9.out.2.1 I9.out.2.2.1 I9.out.2.2.2 rfl (by decide) (some ⟨w5.heap.size, 0, none⟩) 3 3 [.string (itoB id), .string (itoB kn), .string ⟨#[111, 118, 101, 114]⟩] rfl (fun e => by cases e) rfl (fun b hb j u hj => by cases hb; exact bk_cells bx7 j u hj) ⟨gt, 0, none⟩ 2 2 (strsC [x, y]) rfl rfl (fun j u hj => by
            obtain ⟨ad, e, _, hc⟩ := hlt7 (by simp [strsC])
            cases e; exact hc j u hj) ?_ (by omega) ?_ ?_ ?_
          · intro u hu; simp [strsC] at hu; (try rcases hu with rfl | rfl) <;> (try subst hu) <;> rfl
          · unfold maxLen; omega
          · omega
          intro v8 w8 ow8 hg8
          have hb_w8 : Below wc.heap.size wc w8 := Below.grown hb_w7 hg8 hb_w7.size (fun g e => by cases e)
          obtain ⟨A8, c8, rfl, hc8, hcm8⟩ := ownsSlice ow8
          obtain ⟨g8, rfl, hge8⟩ := own_some ow8 (Nat.succ_pos _)
          have HJ := Lib.hid (Tryz.strings_Join g8 0 c8 (wordsB (Rul.mk id kn 4 x y of)) ⟨#[32]⟩ w8 (fun j z hz => by
            obtain ⟨ad, e, _, hc⟩ := ownsRow_lies ow8 (by simp)
            cases e
            have h2 := hc j (.string z) (by
              have : ((wordsB (Rul.mk id kn 4 x y of)).map Value.string)[j]? = some (.string z) := by rw [List.getElem?_map, hz]; rfl
              exact this)
            unfold Addr.add at h2
            split at h2
            · rename_i h0; subst h0; exact h2
            · exact h2) (by have := hge8; have h3 := (ow8.lt g8 rfl).2; exact h3) (by show _ ≤ 140737488355328; simp [wordsB, tellB]) (by simpa [wordsB, tellB] using hc8) (by have := HLEN.out; unfold wrL at this; exact Nat.le_trans this (by decide)))
          have hwl : (wordsB (Rul.mk id kn 4 x y of)).length = 5 := by simp [wordsB, tellB]
          rw [hwl] at HJ
          clear ow8 hg8 bx7 hlt7 hwl
          refine ⟨HSS.out _ hb_w8, ?_⟩
          (try simp only [Act.put, List.setIfInBounds_toArray, List.set_cons_zero, List.set_cons_succ])
          (refine held_call 14 (some 26) 83 _ rfl (by kernel_rfl) (by rfl) ?_ (HJ.out) ?_; rotate_left; rotate_left; (simp only [List.getElem?_toArray, List.getElem?_cons_zero, List.getElem?_cons_succ, Option.map_some]; refine congrArg some ?_; go_simp))
          rintro e w9 ⟨rfl, c9⟩
          have hb_w9 : Below wc.heap.size wc w9 := hb_w8.trans (c9.mono hb_w8.size)
          refine ⟨_, rfl, HSS.out _ hb_w9, fun hHeld => ?_⟩
          (try simp only [Act.put, List.setIfInBounds_toArray, List.set_cons_zero, List.set_cons_succ])
          refine tk 15 2 ?_
          refine tk 16 3 ?_
          refine wpAnyH_done (by kernel_rfl) ?_ _
          have HEND : Hid (WriteE (Rul.mk id kn 4 x y of) w (.returned (.tuple #[.string ⟨(Lib.join (List.map (fun z => z.data.toList) (wordsB (Rul.mk id kn 4 x y of))) [32]).toArray⟩, .int .i64 0])) w9) := by
            refine ⟨?_, HBW.out _ (HBC.out.trans (hb_w9.mono hcs))⟩
            unfold wrB wrE
            rw [if_pos H1.out, if_pos H1.out]; rfl
          clear hHeld HJ
          go_wp2
          go_ret2
          exact HEND.out
        · have hb16 := HBC.out.trans (hb_w5.mono hcs)
          refine wp_call (f := 148) (args := #[(Rul.mk id kn 4 x y of).agg]) (by go_simp) (HTL.out w5 hb16) ?_
          rintro e w6 ⟨gt, rfl, hlt6, c6⟩
          have hb_w6 : Below wc.heap.size wc w6 := hb_w5.trans (c6.mono hb_w5.size)
          refine ⟨_, rfl, HSS.out _ hb_w6, ?_⟩
          (try simp only [Act.put, List.setIfInBounds_toArray, List.set_cons_zero, List.set_cons_succ])
          refine held_one 8 ⟨some 20, .buildSlice 34 3 #[(0, .tmp 14), (1, .tmp 17), (2, .tmp 19)], 34, _, _, none⟩ rfl (by kernel_rfl) (by rfl) ?_
          unfold Oper.wp
          go_simp
          have hb_w7 : Below wc.heap.size wc (w6.alloc (.cells #[.string (itoB id), .string (itoB kn), .string ⟨#[111, 118, 101, 114]⟩] 9)) := hb_w6.alloc hb_w6.size _
          have bx7 : Bk (w6.alloc (.cells #[.string (itoB id), .string (itoB kn), .string ⟨#[111, 118, 101, 114]⟩] 9)) w6.heap.size 9 #[.string (itoB id), .string (itoB kn), .string ⟨#[111, 118, 101, 114]⟩] := Bk.new _ _ _
          have hlt7 : Lies (w6.alloc (.cells #[.string (itoB id), .string (itoB kn), .string ⟨#[111, 118, 101, 114]⟩] 9)) (w6.alloc (.cells #[.string (itoB id), .string (itoB kn), .string ⟨#[111, 118, 101, 114]⟩] 9)).heap.size (some ⟨gt, 0, none⟩) (strsC [x, y]) := (hlt6.below ((Below.refl _ _).alloc (Nat.le_refl _) _) (Nat.le_refl _)).more (by simp)
          refine ⟨HSS.out _ hb_w7, ?_⟩
          (try simp only [Act.put, List.setIfInBounds_toArray, List.set_cons_zero, List.set_cons_succ])
          generalize w6.alloc (.cells #[.string (itoB id), .string (itoB kn), .string ⟨#[111, 118, 101, 114]⟩] 9) = w7 at *
          clear hlt6 c6 hb16
          refine held_one 13 ⟨some 25, .call { callee := .builtin .append, args := #[.tmp 20, .tmp 24], argTypes := #[34, 34] }, 34, _, _, none⟩ rfl (by kernel_rfl) (by rfl) ?_
          refine wp_append_grows _ (.tmp 20) (.tmp 24) 34 rfl 9 i0 (.string ByteArray.empty) 1 16 Tryz.underlying34 I9.out.1 I9.out.2.1 I9.out.2.2.1 I9.out.2.2.2 rfl (by decide) (some ⟨w6.heap.size, 0, none⟩) 3 3 [.string (itoB id), .string (itoB kn), .string ⟨#[111, 118, 101, 114]⟩] rfl (fun e => by cases e) rfl (fun b hb j u hj => by cases hb; exact bk_cells bx7 j u hj) ⟨gt, 0, none⟩ 2 2 (strsC [x, y]) rfl rfl (fun j u hj => by
            obtain ⟨ad, e, _, hc⟩ := hlt7 (by simp [strsC])
            cases e; exact hc j u hj) ?_ (by omega) ?_ ?_ ?_
          · intro u hu; simp [strsC] at hu; (try rcases hu with rfl | rfl) <;> (try subst hu) <;> rfl
          · unfold maxLen; omega
          · omega
          intro v8 w8 ow8 hg8
          have hb_w8 : Below wc.heap.size wc w8 := Below.grown hb_w7 hg8 hb_w7.size (fun g e => by cases e)
          obtain ⟨A8, c8, rfl, hc8, hcm8⟩ := ownsSlice ow8
          obtain ⟨g8, rfl, hge8⟩ := own_some ow8 (Nat.succ_pos _)
          have HJ := Lib.hid (Tryz.strings_Join g8 0 c8 (wordsB (Rul.mk id kn 4 x y of)) ⟨#[32]⟩ w8 (fun j z hz => by
            obtain ⟨ad, e, _, hc⟩ := ownsRow_lies ow8 (by simp)
            cases e
            have h2 := hc j (.string z) (by
              have : ((wordsB (Rul.mk id kn 4 x y of)).map Value.string)[j]? = some (.string z) := by rw [List.getElem?_map, hz]; rfl
              exact this)
            unfold Addr.add at h2
            split at h2
            · rename_i h0; subst h0; exact h2
            · exact h2) (by have := hge8; have h3 := (ow8.lt g8 rfl).2; exact h3) (by show _ ≤ 140737488355328; simp [wordsB, tellB]) (by simpa [wordsB, tellB] using hc8) (by have := HLEN.out; unfold wrL at this; exact Nat.le_trans this (by decide)))
          have hwl : (wordsB (Rul.mk id kn 4 x y of)).length = 5 := by simp [wordsB, tellB]
          rw [hwl] at HJ
          clear ow8 hg8 bx7 hlt7 hwl
          refine ⟨HSS.out _ hb_w8, ?_⟩
          (try simp only [Act.put, List.setIfInBounds_toArray, List.set_cons_zero, List.set_cons_succ])
          (refine held_call 14 (some 26) 83 _ rfl (by kernel_rfl) (by rfl) ?_ (HJ.out) ?_; rotate_left; rotate_left; (simp only [List.getElem?_toArray, List.getElem?_cons_zero, List.getElem?_cons_succ, Option.map_some]; refine congrArg some ?_; go_simp))
          rintro e w9 ⟨rfl, c9⟩
          have hb_w9 : Below wc.heap.size wc w9 := hb_w8.trans (c9.mono hb_w8.size)
          refine ⟨_, rfl, HSS.out _ hb_w9, fun hHeld => ?_⟩
          (try simp only [Act.put, List.setIfInBounds_toArray, List.set_cons_zero, List.set_cons_succ])
          refine tk 15 2 ?_
          refine tk 16 3 ?_
          refine wpAnyH_done (by kernel_rfl) ?_ _
          have HEND : Hid (WriteE (Rul.mk id kn 4 x y of) w (.returned (.tuple #[.string ⟨(Lib.join (List.map (fun z => z.data.toList) (wordsB (Rul.mk id kn 4 x y of))) [32]).toArray⟩, .int .i64 0])) w9) := by
            refine ⟨?_, HBW.out _ (HBC.out.trans (hb_w9.mono hcs))⟩
            unfold wrB wrE
            rw [if_pos H1.out, if_pos H1.out]; rfl
          clear hHeld HJ
          go_wp2
          go_ret2
          exact HEND.out
    · go_upto_region 3 with (first | (go_at_call 81; refine (HF.out _).mono ?_; rintro e w1 ⟨rfl, hb1⟩; rw [H1.out]; have hs1 := hb1.size; try simp at hs1))
      have hb1' : Below (w.heap.size + 1) (w.alloc (.cells #[.int .i64 id, .int .i64 kn, .int .u8 5, .string x, .string y, .int .i64 of] 50)) w1 := hb1.mono (by simp)
      have HBX : Hid (∀ V, Below w1.heap.size w1 V → Bk V w.heap.size 50 #[.int .i64 id, .int .i64 kn, .int .u8 5, .string x, .string y, .int .i64 of]) := fun V hV => ((Bk.new w 50 #[.int .i64 id, .int .i64 kn, .int .u8 5, .string x, .string y, .int .i64 of]).below hb1' (Nat.lt_succ_self _)).below hV (by omega)
      have HBW : Hid (∀ V, Below w1.heap.size w1 V → Below w.heap.size w V) := fun V hV => (((Below.refl _ _).alloc (Nat.le_refl _) _).trans (hb1'.mono (by omega))).trans (hV.mono (by omega))
      have HGL : Hid (∀ V, Below w1.heap.size w1 V → Glob V) := fun V hV => HG.out.step (HBW.out V hV)
      clear hb1 hb1'
      go_cut [4] (fun s4 wx => ∃ g b0 : Nat, s4 = .pointer (some ⟨g, 0, none⟩) ∧ w1.heap.size ≤ g ∧ Hid (Bk wx g 106 #[.string ⟨#[103, 114, 111, 117, 112]⟩, .func (.func 121) #[] #[.pointer (some ⟨b0, 0, none⟩)], .func (.func 148) #[] #[], .func (.func 149) #[] #[]]) ∧ Hid (Below w1.heap.size w1 wx))
      case first =>
        refine wp_region_held_drew (S := (fun V => V.cell? ⟨w.heap.size, 2, none⟩ = some (.int .u8 5))) (by kernel_rfl) ?_ (fun hHeld => ?_)
        · exact (HBX.out _ (Below.refl _ _).drew).cell 2 rfl
        refine tk 1 9 ?_
        refine tk 2 10 ?_
        have hb_w3 : Below w1.heap.size w1 w1.drew := (Below.refl _ _).drew
        have hz_w3 : w1.heap.size ≤ w1.drew.heap.size := Nat.le_refl _
        generalize w1.drew = w3 at *
        refine held_two 0 4 ⟨some 8, .call { callee := .value (.func 82), args := #[], argTypes := #[] }, 107, _, _, none⟩ ⟨some 4, .alloc 106, 0, _, _, none⟩ rfl rfl (by kernel_rfl) (by rfl) (by rfl) ?_ ?_
        · refine wp_call (f := 82) (args := #[]) (by go_simp) (forms_any _) ?_
          rintro e w4 ⟨b, rfl, hb0, hb2, hbc, hb4⟩
          have hB4 : Below w1.heap.size w1 w4 := hb_w3.trans (hb4.mono hz_w3)
          have hS0 : w4.cell? ⟨w.heap.size, 2, none⟩ = some (.int .u8 5) := (HBX.out _ hB4).cell 2 rfl
          refine ⟨_, rfl, hS0, ?_⟩
          (try simp only [Act.put, List.setIfInBounds_toArray, List.set_cons_zero, List.set_cons_succ])
          have hix := fun V => idx107_5 b V
          unfold formsC at hix ⊢
          refine tk 3 11 ?_
          clear hS0
          refine held_one 4 ⟨some 4, .alloc 106, 0, _, _, none⟩ rfl (by kernel_rfl) (by rfl) ?_
          unfold Oper.wp
          go_simp
          have hB5 : Below w1.heap.size w1 (w4.alloc (.cells #[.string ⟨#[]⟩, .nilFunc, .nilFunc, .nilFunc] 106)) := hB4.alloc hB4.size _
          have k5 : Bk (w4.alloc (.cells #[.string ⟨#[]⟩, .nilFunc, .nilFunc, .nilFunc] 106)) w4.heap.size 106 #[.string ⟨#[]⟩, .nilFunc, .nilFunc, .nilFunc] := Bk.new _ _ _
          refine ⟨(HBX.out _ hB5).cell 2 rfl, ?_⟩
          (try simp only [Act.put, List.setIfInBounds_toArray, List.set_cons_zero, List.set_cons_succ])
          refine held_one 5 ⟨none, .store 106 (.tmp 4) (.tmp 11), _, _, _, none⟩ rfl (by kernel_rfl) (by rfl) ?_
          refine wp_store_blk 106 (.tmp 4) (.tmp 11) rfl w4.heap.size #[.string ⟨#[]⟩, .nilFunc, .nilFunc, .nilFunc] #[.string ⟨#[103, 114, 111, 117, 112]⟩, .func (.func 121) #[] #[.pointer (some ⟨b, 0, none⟩)], .func (.func 148) #[] #[], .func (.func 149) #[] #[]] rfl rfl k5 rfl info106 (by intro v hv; simp at hv; rcases hv with rfl | rfl | rfl | rfl <;> rfl) ?_
          intro u4 k4 f4
          have hB6 := f4.bel _ _ hB4.size hB5
          refine ⟨(HBX.out _ hB6).cell 2 rfl, ?_⟩
          (try simp only [Act.put, List.setIfInBounds_toArray, List.set_cons_zero, List.set_cons_succ])
          refine wpAnyH_done (by kernel_rfl) ?_ _
          clear hHeld hix
          go_wp2_with fail
          go_meet
          exact ⟨w4.heap.size, b, rfl, hB4.size, k4, hB6⟩
        · unfold Oper.wp
          go_simp
          have hB5 : Below w1.heap.size w1 (w3.alloc (.cells #[.string ⟨#[]⟩, .nilFunc, .nilFunc, .nilFunc] 106)) := hb_w3.alloc hz_w3 _
          have k5 : Bk (w3.alloc (.cells #[.string ⟨#[]⟩, .nilFunc, .nilFunc, .nilFunc] 106)) w3.heap.size 106 #[.string ⟨#[]⟩, .nilFunc, .nilFunc, .nilFunc] := Bk.new _ _ _
          refine ⟨(HBX.out _ hB5).cell 2 rfl, ?_⟩
          (try simp only [Act.put, List.setIfInBounds_toArray, List.set_cons_zero, List.set_cons_succ])
          refine held_one 0 ⟨some 8, .call { callee := .value (.func 82), args := #[], argTypes := #[] }, 107, _, _, none⟩ rfl (by kernel_rfl) (by rfl) ?_
          refine wp_call (f := 82) (args := #[]) (by go_simp) (forms_any _) ?_
          rintro e w4 ⟨b, rfl, hb0, hb2, hbc, hb4⟩
          have hB4 : Below w1.heap.size w1 w4 := hB5.trans (hb4.mono hB5.size)
          have k6 := k5.below hb4 k5.lt
          have hS0 : w4.cell? ⟨w.heap.size, 2, none⟩ = some (.int .u8 5) := (HBX.out _ hB4).cell 2 rfl
          refine ⟨_, rfl, hS0, ?_⟩
          (try simp only [Act.put, List.setIfInBounds_toArray, List.set_cons_zero, List.set_cons_succ])
          have hix := fun V => idx107_5 b V
          unfold formsC at hix ⊢
          refine tk 3 11 ?_
          refine held_one 5 ⟨none, .store 106 (.tmp 4) (.tmp 11), _, _, _, none⟩ rfl (by kernel_rfl) (by rfl) ?_
          refine wp_store_blk 106 (.tmp 4) (.tmp 11) rfl w3.heap.size #[.string ⟨#[]⟩, .nilFunc, .nilFunc, .nilFunc] #[.string ⟨#[103, 114, 111, 117, 112]⟩, .func (.func 121) #[] #[.pointer (some ⟨b, 0, none⟩)], .func (.func 148) #[] #[], .func (.func 149) #[] #[]] rfl rfl k6 rfl info106 (by intro v hv; simp at hv; rcases hv with rfl | rfl | rfl | rfl <;> rfl) ?_
          intro u4 k4 f4
          have hB6 := f4.bel _ _ hz_w3 hB4
          refine ⟨(HBX.out _ hB6).cell 2 rfl, ?_⟩
          (try simp only [Act.put, List.setIfInBounds_toArray, List.set_cons_zero, List.set_cons_succ])
          refine wpAnyH_done (by kernel_rfl) ?_ _
          clear hHeld hix
          go_wp2_with fail
          go_meet
          exact ⟨w3.heap.size, b, rfl, hz_w3, k4, hB6⟩
      case rest =>
        obtain ⟨g, b0, rfl, hgz, HKG, HBC⟩ := hcut
        have hgl := HKG.out.lt
        have hcs := HBC.out.size
        have HSS : Hid (∀ V, Below wc.heap.size wc V → V.cell? ⟨w.heap.size, 0, none⟩ = some (.int .i64 id) ∧ V.cell? ⟨w.heap.size, 1, none⟩ = some (.int .i64 kn) ∧ V.cell? ⟨w.heap.size, 2, none⟩ = some (.int .u8 5) ∧ V.cell? ⟨w.heap.size, 3, none⟩ = some (.string x) ∧ V.cell? ⟨w.heap.size, 4, none⟩ = some (.string y) ∧ V.cell? ⟨w.heap.size, 5, none⟩ = some (.int .i64 of) ∧ V.cell? ⟨g, 0, none⟩ = some (.string ⟨#[103, 114, 111, 117, 112]⟩) ∧ V.cell? ⟨g, 2, none⟩ = some (.func (.func 148) #[] #[])) := fun V hV => by
          have k1 := HBX.out V (HBC.out.trans (hV.mono hcs))
          have k2 := HKG.out.below hV hgl
          exact ⟨k1.cell 0 rfl, k1.cell 1 rfl, k1.cell 2 rfl, k1.cell 3 rfl, k1.cell 4 rfl, k1.cell 5 rfl, k2.cell 0 rfl, k2.cell 2 rfl⟩
        have HIT : Hid (∀ V, Below wc.heap.size wc V → ∀ n, i64v n → Calls Tryz.prog 84 #[.int .i64 n] V (ValEnd (.string (itoB n)) V)) := fun V hV n hn => itoa_any n V (HGL.out V (HBC.out.trans (hV.mono hcs))) hn
        have HTL : Hid (∀ V, Below w1.heap.size w1 V → Calls Tryz.prog 148 #[(Rul.mk id kn 5 x y of).agg] V (TellE [x, y] V)) := fun V hV => tell2_any ⟨id, kn, 5, x, y, of⟩ V
        obtain ⟨i0, hi0, hz0, hz1, hz2⟩ := info_parts info9
        have I9 := Lib.hid (And.intro hi0 (And.intro hz0 (And.intro hz1 hz2))); clear hi0 hz0 hz1 hz2
        go_upto_region 4 with fail
        refine wp_region_held_drew (S := (fun V => V.cell? ⟨w.heap.size, 0, none⟩ = some (.int .i64 id) ∧ V.cell? ⟨w.heap.size, 1, none⟩ = some (.int .i64 kn) ∧ V.cell? ⟨w.heap.size, 2, none⟩ = some (.int .u8 5) ∧ V.cell? ⟨w.heap.size, 3, none⟩ = some (.string x) ∧ V.cell? ⟨w.heap.size, 4, none⟩ = some (.string y) ∧ V.cell? ⟨w.heap.size, 5, none⟩ = some (.int .i64 of) ∧ V.cell? ⟨g, 0, none⟩ = some (.string ⟨#[103, 114, 111, 117, 112]⟩) ∧ V.cell? ⟨g, 2, none⟩ = some (.func (.func 148) #[] #[]))) (by kernel_rfl) ?_ (fun hHeld => ?_)
        · exact HSS.out _ (Below.refl _ _).drew
        refine tk 0 12 ?_
        refine tk 1 13 ?_
        refine tk 3 15 ?_
        refine tk 4 16 ?_
        refine tk 6 18 ?_
        refine tk 7 19 ?_
        refine tk 9 21 ?_
        refine tk 10 22 ?_
        refine tk 11 23 ?_
        have hb_w3 : Below wc.heap.size wc wc.drew := (Below.refl _ _).drew
        generalize wc.drew = w3 at *
        (refine held_call 2 (some 14) 84 _ rfl (by kernel_rfl) (by rfl) ?_ ((HIT.out w3 hb_w3 id HBD.out.1)) ?_; rotate_left; rotate_left; (simp only [List.getElem?_toArray, List.getElem?_cons_zero, List.getElem?_cons_succ, Option.map_some]; refine congrArg some ?_; go_simp))
        rintro e w4 ⟨rfl, c4⟩
        have hb_w4 : Below wc.heap.size wc w4 := hb_w3.trans (c4.mono hb_w3.size)
        refine ⟨_, rfl, HSS.out _ hb_w4, fun hHeld => ?_⟩
        (try simp only [Act.put, List.setIfInBounds_toArray, List.set_cons_zero, List.set_cons_succ])
        (refine held_call 5 (some 17) 84 _ rfl (by kernel_rfl) (by rfl) ?_ ((HIT.out w4 hb_w4 kn HBD.out.2.1)) ?_; rotate_left; rotate_left; (simp only [List.getElem?_toArray, List.getElem?_cons_zero, List.getElem?_cons_succ, Option.map_some]; refine congrArg some ?_; go_simp))
        rintro e w5 ⟨rfl, c5⟩
        have hb_w5 : Below wc.heap.size wc w5 := hb_w4.trans (c5.mono hb_w4.size)
        refine ⟨_, rfl, HSS.out _ hb_w5, fun hHeld => ?_⟩
        (try simp only [Act.put, List.setIfInBounds_toArray, List.set_cons_zero, List.set_cons_succ])
        clear c4 c5
        refine held_two 8 12 ⟨some 20, .buildSlice 34 3 #[(0, .tmp 14), (1, .tmp 17), (2, .tmp 19)], 34, _, _, none⟩ ⟨some 24, .call { callee := .value (.tmp 22), args := #[.tmp 23], argTypes := #[50] }, 34, _, _, none⟩ rfl rfl (by kernel_rfl) (by rfl) (by rfl) ?_ ?_
        · unfold Oper.wp
          go_simp
          have hb_w6 : Below wc.heap.size wc (w5.alloc (.cells #[.string (itoB id), .string (itoB kn), .string ⟨#[103, 114, 111, 117, 112]⟩] 9)) := hb_w5.alloc hb_w5.size _
          have bx : Bk (w5.alloc (.cells #[.string (itoB id), .string (itoB kn), .string ⟨#[103, 114, 111, 117, 112]⟩] 9)) w5.heap.size 9 #[.string (itoB id), .string (itoB kn), .string ⟨#[103, 114, 111, 117, 112]⟩] := Bk.new _ _ _
          refine ⟨HSS.out _ hb_w6, ?_⟩
          (try simp only [Act.put, List.setIfInBounds_toArray, List.set_cons_zero, List.set_cons_succ])
          have hb16 := HBC.out.trans (hb_w6.mono hcs)
          generalize w5.alloc (.cells #[.string (itoB id), .string (itoB kn), .string ⟨#[103, 114, 111, 117, 112]⟩] 9) = w6 at *
          refine held_one 12 ⟨some 24, .call { callee := .value (.tmp 22), args := #[.tmp 23], argTypes := #[50] }, 34, _, _, none⟩ rfl (by kernel_rfl) (by rfl) ?_
          refine wp_call (f := 148) (args := #[(Rul.mk id kn 5 x y of).agg]) (by go_simp) (HTL.out w6 hb16) ?_
          rintro e w7 ⟨gt, rfl, hlt7, c7⟩
          have hb_w7 : Below wc.heap.size wc w7 := hb_w6.trans (c7.mono hb_w6.size)
          have bx7 := bx.below c7 bx.lt
          refine ⟨_, rfl, HSS.out _ hb_w7, ?_⟩
          (try simp only [Act.put, List.setIfInBounds_toArray, List.set_cons_zero, List.set_cons_succ])
          clear bx c7 hb16
          refine held_one 13 ⟨some 25, .call { callee := .builtin .append, args := #[.tmp 20, .tmp 24], argTypes := #[34, 34] }, 34, _, _, none⟩ rfl (by kernel_rfl) (by rfl) ?_
          refine wp_append_grows _ (.tmp 20) (.tmp 24) 34 rfl 9 i0 (.string ByteArray.empty) 1 16 Tryz.underlying34 I9.out.1 I9.out.2.1 I9.out.2.2.1 I9.out.2.2.2 rfl (by decide) (some ⟨w5.heap.size, 0, none⟩) 3 3 [.string (itoB id), .string (itoB kn), .string ⟨#[103, 114, 111, 117, 112]⟩] rfl (fun e => by cases e) rfl (fun b hb j u hj => by cases hb; exact bk_cells bx7 j u hj) ⟨gt, 0, none⟩ 2 2 (strsC [x, y]) rfl rfl (fun j u hj => by
            obtain ⟨ad, e, _, hc⟩ := hlt7 (by simp [strsC])
            cases e; exact hc j u hj) ?_ (by omega) ?_ ?_ ?_
          · intro u hu; simp [strsC] at hu; (try rcases hu with rfl | rfl) <;> (try subst hu) <;> rfl
          · unfold maxLen; omega
          · omega
          intro v8 w8 ow8 hg8
          have hb_w8 : Below wc.heap.size wc w8 := Below.grown hb_w7 hg8 hb_w7.size (fun g e => by cases e)
          obtain ⟨A8, c8, rfl, hc8, hcm8⟩ := ownsSlice ow8
          obtain ⟨g8, rfl, hge8⟩ := own_some ow8 (Nat.succ_pos _)
          have HJ := Lib.hid (Tryz.strings_Join g8 0 c8 (wordsB (Rul.mk id kn 5 x y of)) ⟨#[32]⟩ w8 (fun j z hz => by
            obtain ⟨ad, e, _, hc⟩ := ownsRow_lies ow8 (by simp)
            cases e
            have h2 := hc j (.string z) (by
              have : ((wordsB (Rul.mk id kn 5 x y of)).map Value.string)[j]? = some (.string z) := by rw [List.getElem?_map, hz]; rfl
              exact this)
            unfold Addr.add at h2
            split at h2
            · rename_i h0; subst h0; exact h2
            · exact h2) (by have := hge8; have h3 := (ow8.lt g8 rfl).2; exact h3) (by show _ ≤ 140737488355328; simp [wordsB, tellB]) (by simpa [wordsB, tellB] using hc8) (by have := HLEN.out; unfold wrL at this; exact Nat.le_trans this (by decide)))
          have hwl : (wordsB (Rul.mk id kn 5 x y of)).length = 5 := by simp [wordsB, tellB]
          rw [hwl] at HJ
          clear ow8 hg8 bx7 hlt7 hwl
          refine ⟨HSS.out _ hb_w8, ?_⟩
          (try simp only [Act.put, List.setIfInBounds_toArray, List.set_cons_zero, List.set_cons_succ])
          (refine held_call 14 (some 26) 83 _ rfl (by kernel_rfl) (by rfl) ?_ (HJ.out) ?_; rotate_left; rotate_left; (simp only [List.getElem?_toArray, List.getElem?_cons_zero, List.getElem?_cons_succ, Option.map_some]; refine congrArg some ?_; go_simp))
          rintro e w9 ⟨rfl, c9⟩
          have hb_w9 : Below wc.heap.size wc w9 := hb_w8.trans (c9.mono hb_w8.size)
          refine ⟨_, rfl, HSS.out _ hb_w9, fun hHeld => ?_⟩
          (try simp only [Act.put, List.setIfInBounds_toArray, List.set_cons_zero, List.set_cons_succ])
          refine tk 15 2 ?_
          refine tk 16 3 ?_
          refine wpAnyH_done (by kernel_rfl) ?_ _
          have HEND : Hid (WriteE (Rul.mk id kn 5 x y of) w (.returned (.tuple #[.string ⟨(Lib.join (List.map (fun z => z.data.toList) (wordsB (Rul.mk id kn 5 x y of))) [32]).toArray⟩, .int .i64 0])) w9) := by
            refine ⟨?_, HBW.out _ (HBC.out.trans (hb_w9.mono hcs))⟩
            unfold wrB wrE
            rw [if_pos H1.out, if_pos H1.out]; rfl
          clear hHeld HJ
          go_wp2
          go_ret2
          exact HEND.out
        · have hb16 := HBC.out.trans (hb_w5.mono hcs)
          refine wp_call (f := 148) (args := #[(Rul.mk id kn 5 x y of).agg]) (by go_simp) (HTL.out w5 hb16) ?_
          rintro e w6 ⟨gt, rfl, hlt6, c6⟩
          have hb_w6 : Below wc.heap.size wc w6 := hb_w5.trans (c6.mono hb_w5.size)
          refine ⟨_, rfl, HSS.out _ hb_w6, ?_⟩
          (try simp only [Act.put, List.setIfInBounds_toArray, List.set_cons_zero, List.set_cons_succ])
          refine held_one 8 ⟨some 20, .buildSlice 34 3 #[(0, .tmp 14), (1, .tmp 17), (2, .tmp 19)], 34, _, _, none⟩ rfl (by kernel_rfl) (by rfl) ?_
          unfold Oper.wp
          go_simp
          have hb_w7 : Below wc.heap.size wc (w6.alloc (.cells #[.string (itoB id), .string (itoB kn), .string ⟨#[103, 114, 111, 117, 112]⟩] 9)) := hb_w6.alloc hb_w6.size _
          have bx7 : Bk (w6.alloc (.cells #[.string (itoB id), .string (itoB kn), .string ⟨#[103, 114, 111, 117, 112]⟩] 9)) w6.heap.size 9 #[.string (itoB id), .string (itoB kn), .string ⟨#[103, 114, 111, 117, 112]⟩] := Bk.new _ _ _
          have hlt7 : Lies (w6.alloc (.cells #[.string (itoB id), .string (itoB kn), .string ⟨#[103, 114, 111, 117, 112]⟩] 9)) (w6.alloc (.cells #[.string (itoB id), .string (itoB kn), .string ⟨#[103, 114, 111, 117, 112]⟩] 9)).heap.size (some ⟨gt, 0, none⟩) (strsC [x, y]) := (hlt6.below ((Below.refl _ _).alloc (Nat.le_refl _) _) (Nat.le_refl _)).more (by simp)
          refine ⟨HSS.out _ hb_w7, ?_⟩
          (try simp only [Act.put, List.setIfInBounds_toArray, List.set_cons_zero, List.set_cons_succ])
          generalize w6.alloc (.cells #[.string (itoB id), .string (itoB kn), .string ⟨#[103, 114, 111, 117, 112]⟩] 9) = w7 at *
          clear hlt6 c6 hb16
          refine held_one 13 ⟨some 25, .call { callee := .builtin .append, args := #[.tmp 20, .tmp 24], argTypes := #[34, 34] }, 34, _, _, none⟩ rfl (by kernel_rfl) (by rfl) ?_
          refine wp_append_grows _ (.tmp 20) (.tmp 24) 34 rfl 9 i0 (.string ByteArray.empty) 1 16 Tryz.underlying34 I9.out.1 I9.out.2.1 I9.out.2.2.1 I9.out.2.2.2 rfl (by decide) (some ⟨w6.heap.size, 0, none⟩) 3 3 [.string (itoB id), .string (itoB kn), .string ⟨#[103, 114, 111, 117, 112]⟩] rfl (fun e => by cases e) rfl (fun b hb j u hj => by cases hb; exact bk_cells bx7 j u hj) ⟨gt, 0, none⟩ 2 2 (strsC [x, y]) rfl rfl (fun j u hj => by
            obtain ⟨ad, e, _, hc⟩ := hlt7 (by simp [strsC])
            cases e; exact hc j u hj) ?_ (by omega) ?_ ?_ ?_
          · intro u hu; simp [strsC] at hu; (try rcases hu with rfl | rfl) <;> (try subst hu) <;> rfl
          · unfold maxLen; omega
          · omega
          intro v8 w8 ow8 hg8
          have hb_w8 : Below wc.heap.size wc w8 := Below.grown hb_w7 hg8 hb_w7.size (fun g e => by cases e)
          obtain ⟨A8, c8, rfl, hc8, hcm8⟩ := ownsSlice ow8
          obtain ⟨g8, rfl, hge8⟩ := own_some ow8 (Nat.succ_pos _)
          have HJ := Lib.hid (Tryz.strings_Join g8 0 c8 (wordsB (Rul.mk id kn 5 x y of)) ⟨#[32]⟩ w8 (fun j z hz => by
            obtain ⟨ad, e, _, hc⟩ := ownsRow_lies ow8 (by simp)
            cases e
            have h2 := hc j (.string z) (by
              have : ((wordsB (Rul.mk id kn 5 x y of)).map Value.string)[j]? = some (.string z) := by rw [List.getElem?_map, hz]; rfl
              exact this)
            unfold Addr.add at h2
            split at h2
            · rename_i h0; subst h0; exact h2
            · exact h2) (by have := hge8; have h3 := (ow8.lt g8 rfl).2; exact h3) (by show _ ≤ 140737488355328; simp [wordsB, tellB]) (by simpa [wordsB, tellB] using hc8) (by have := HLEN.out; unfold wrL at this; exact Nat.le_trans this (by decide)))
          have hwl : (wordsB (Rul.mk id kn 5 x y of)).length = 5 := by simp [wordsB, tellB]
          rw [hwl] at HJ
          clear ow8 hg8 bx7 hlt7 hwl
          refine ⟨HSS.out _ hb_w8, ?_⟩
          (try simp only [Act.put, List.setIfInBounds_toArray, List.set_cons_zero, List.set_cons_succ])
          (refine held_call 14 (some 26) 83 _ rfl (by kernel_rfl) (by rfl) ?_ (HJ.out) ?_; rotate_left; rotate_left; (simp only [List.getElem?_toArray, List.getElem?_cons_zero, List.getElem?_cons_succ, Option.map_some]; refine congrArg some ?_; go_simp))
          rintro e w9 ⟨rfl, c9⟩
          have hb_w9 : Below wc.heap.size wc w9 := hb_w8.trans (c9.mono hb_w8.size)
          refine ⟨_, rfl, HSS.out _ hb_w9, fun hHeld => ?_⟩
          (try simp only [Act.put, List.setIfInBounds_toArray, List.set_cons_zero, List.set_cons_succ])
          refine tk 15 2 ?_
          refine tk 16 3 ?_
          refine wpAnyH_done (by kernel_rfl) ?_ _
          have HEND : Hid (WriteE (Rul.mk id kn 5 x y of) w (.returned (.tuple #[.string ⟨(Lib.join (List.map (fun z => z.data.toList) (wordsB (Rul.mk id kn 5 x y of))) [32]).toArray⟩, .int .i64 0])) w9) := by
            refine ⟨?_, HBW.out _ (HBC.out.trans (hb_w9.mono hcs))⟩
            unfold wrB wrE
            rw [if_pos H1.out, if_pos H1.out]; rfl
          clear hHeld HJ
          go_wp2
          go_ret2
          exact HEND.out
    · have HOF := Lib.hid (HOF0.out H1.out rfl)
      go_upto_region 3 with (first | (go_at_call 81; refine (HF.out _).mono ?_; rintro e w1 ⟨rfl, hb1⟩; rw [H1.out]; have hs1 := hb1.size; try simp at hs1))
      have hb1' : Below (w.heap.size + 1) (w.alloc (.cells #[.int .i64 id, .int .i64 kn, .int .u8 6, .string x, .string y, .int .i64 of] 50)) w1 := hb1.mono (by simp)
      have HBX : Hid (∀ V, Below w1.heap.size w1 V → Bk V w.heap.size 50 #[.int .i64 id, .int .i64 kn, .int .u8 6, .string x, .string y, .int .i64 of]) := fun V hV => ((Bk.new w 50 #[.int .i64 id, .int .i64 kn, .int .u8 6, .string x, .string y, .int .i64 of]).below hb1' (Nat.lt_succ_self _)).below hV (by omega)
      have HBW : Hid (∀ V, Below w1.heap.size w1 V → Below w.heap.size w V) := fun V hV => (((Below.refl _ _).alloc (Nat.le_refl _) _).trans (hb1'.mono (by omega))).trans (hV.mono (by omega))
      have HGL : Hid (∀ V, Below w1.heap.size w1 V → Glob V) := fun V hV => HG.out.step (HBW.out V hV)
      clear hb1 hb1'
      go_cut [4] (fun s4 wx => ∃ g b0 : Nat, s4 = .pointer (some ⟨g, 0, none⟩) ∧ w1.heap.size ≤ g ∧ Hid (Bk wx g 106 #[.string ⟨#[118, 111, 105, 100]⟩, .func (.func 122) #[] #[], .func (.func 123) #[] #[], .func (.func 124) #[] #[]]) ∧ Hid (Below w1.heap.size w1 wx))
      case first =>
        refine wp_region_held_drew (S := (fun V => V.cell? ⟨w.heap.size, 2, none⟩ = some (.int .u8 6))) (by kernel_rfl) ?_ (fun hHeld => ?_)
        · exact (HBX.out _ (Below.refl _ _).drew).cell 2 rfl
        refine tk 1 9 ?_
        refine tk 2 10 ?_
        have hb_w3 : Below w1.heap.size w1 w1.drew := (Below.refl _ _).drew
        have hz_w3 : w1.heap.size ≤ w1.drew.heap.size := Nat.le_refl _
        generalize w1.drew = w3 at *
        refine held_two 0 4 ⟨some 8, .call { callee := .value (.func 82), args := #[], argTypes := #[] }, 107, _, _, none⟩ ⟨some 4, .alloc 106, 0, _, _, none⟩ rfl rfl (by kernel_rfl) (by rfl) (by rfl) ?_ ?_
        · refine wp_call (f := 82) (args := #[]) (by go_simp) (forms_any _) ?_
          rintro e w4 ⟨b, rfl, hb0, hb2, hbc, hb4⟩
          have hB4 : Below w1.heap.size w1 w4 := hb_w3.trans (hb4.mono hz_w3)
          have hS0 : w4.cell? ⟨w.heap.size, 2, none⟩ = some (.int .u8 6) := (HBX.out _ hB4).cell 2 rfl
          refine ⟨_, rfl, hS0, ?_⟩
          (try simp only [Act.put, List.setIfInBounds_toArray, List.set_cons_zero, List.set_cons_succ])
          have hix := fun V => idx107_6 b V
          unfold formsC at hix ⊢
          refine tk 3 11 ?_
          clear hS0
          refine held_one 4 ⟨some 4, .alloc 106, 0, _, _, none⟩ rfl (by kernel_rfl) (by rfl) ?_
          unfold Oper.wp
          go_simp
          have hB5 : Below w1.heap.size w1 (w4.alloc (.cells #[.string ⟨#[]⟩, .nilFunc, .nilFunc, .nilFunc] 106)) := hB4.alloc hB4.size _
          have k5 : Bk (w4.alloc (.cells #[.string ⟨#[]⟩, .nilFunc, .nilFunc, .nilFunc] 106)) w4.heap.size 106 #[.string ⟨#[]⟩, .nilFunc, .nilFunc, .nilFunc] := Bk.new _ _ _
          refine ⟨(HBX.out _ hB5).cell 2 rfl, ?_⟩
          (try simp only [Act.put, List.setIfInBounds_toArray, List.set_cons_zero, List.set_cons_succ])
          refine held_one 5 ⟨none, .store 106 (.tmp 4) (.tmp 11), _, _, _, none⟩ rfl (by kernel_rfl) (by rfl) ?_
          refine wp_store_blk 106 (.tmp 4) (.tmp 11) rfl w4.heap.size #[.string ⟨#[]⟩, .nilFunc, .nilFunc, .nilFunc] #[.string ⟨#[118, 111, 105, 100]⟩, .func (.func 122) #[] #[], .func (.func 123) #[] #[], .func (.func 124) #[] #[]] rfl rfl k5 rfl info106 (by intro v hv; simp at hv; rcases hv with rfl | rfl | rfl | rfl <;> rfl) ?_
          intro u4 k4 f4
          have hB6 := f4.bel _ _ hB4.size hB5
          refine ⟨(HBX.out _ hB6).cell 2 rfl, ?_⟩
          (try simp only [Act.put, List.setIfInBounds_toArray, List.set_cons_zero, List.set_cons_succ])
          refine wpAnyH_done (by kernel_rfl) ?_ _
          clear hHeld hix
          go_wp2_with fail
          go_meet
          exact ⟨w4.heap.size, b, rfl, hB4.size, k4, hB6⟩
        · unfold Oper.wp
          go_simp
          have hB5 : Below w1.heap.size w1 (w3.alloc (.cells #[.string ⟨#[]⟩, .nilFunc, .nilFunc, .nilFunc] 106)) := hb_w3.alloc hz_w3 _
          have k5 : Bk (w3.alloc (.cells #[.string ⟨#[]⟩, .nilFunc, .nilFunc, .nilFunc] 106)) w3.heap.size 106 #[.string ⟨#[]⟩, .nilFunc, .nilFunc, .nilFunc] := Bk.new _ _ _
          refine ⟨(HBX.out _ hB5).cell 2 rfl, ?_⟩
          (try simp only [Act.put, List.setIfInBounds_toArray, List.set_cons_zero, List.set_cons_succ])
          refine held_one 0 ⟨some 8, .call { callee := .value (.func 82), args := #[], argTypes := #[] }, 107, _, _, none⟩ rfl (by kernel_rfl) (by rfl) ?_
          refine wp_call (f := 82) (args := #[]) (by go_simp) (forms_any _) ?_
          rintro e w4 ⟨b, rfl, hb0, hb2, hbc, hb4⟩
          have hB4 : Below w1.heap.size w1 w4 := hB5.trans (hb4.mono hB5.size)
          have k6 := k5.below hb4 k5.lt
          have hS0 : w4.cell? ⟨w.heap.size, 2, none⟩ = some (.int .u8 6) := (HBX.out _ hB4).cell 2 rfl
          refine ⟨_, rfl, hS0, ?_⟩
          (try simp only [Act.put, List.setIfInBounds_toArray, List.set_cons_zero, List.set_cons_succ])
          have hix := fun V => idx107_6 b V
          unfold formsC at hix ⊢
          refine tk 3 11 ?_
          refine held_one 5 ⟨none, .store 106 (.tmp 4) (.tmp 11), _, _, _, none⟩ rfl (by kernel_rfl) (by rfl) ?_
          refine wp_store_blk 106 (.tmp 4) (.tmp 11) rfl w3.heap.size #[.string ⟨#[]⟩, .nilFunc, .nilFunc, .nilFunc] #[.string ⟨#[118, 111, 105, 100]⟩, .func (.func 122) #[] #[], .func (.func 123) #[] #[], .func (.func 124) #[] #[]] rfl rfl k6 rfl info106 (by intro v hv; simp at hv; rcases hv with rfl | rfl | rfl | rfl <;> rfl) ?_
          intro u4 k4 f4
          have hB6 := f4.bel _ _ hz_w3 hB4
          refine ⟨(HBX.out _ hB6).cell 2 rfl, ?_⟩
          (try simp only [Act.put, List.setIfInBounds_toArray, List.set_cons_zero, List.set_cons_succ])
          refine wpAnyH_done (by kernel_rfl) ?_ _
          clear hHeld hix
          go_wp2_with fail
          go_meet
          exact ⟨w3.heap.size, b, rfl, hz_w3, k4, hB6⟩
      case rest =>
        obtain ⟨g, b0, rfl, hgz, HKG, HBC⟩ := hcut
        have hgl := HKG.out.lt
        have hcs := HBC.out.size
        have HSS : Hid (∀ V, Below wc.heap.size wc V → V.cell? ⟨w.heap.size, 0, none⟩ = some (.int .i64 id) ∧ V.cell? ⟨w.heap.size, 1, none⟩ = some (.int .i64 kn) ∧ V.cell? ⟨w.heap.size, 2, none⟩ = some (.int .u8 6) ∧ V.cell? ⟨w.heap.size, 3, none⟩ = some (.string x) ∧ V.cell? ⟨w.heap.size, 4, none⟩ = some (.string y) ∧ V.cell? ⟨w.heap.size, 5, none⟩ = some (.int .i64 of) ∧ V.cell? ⟨g, 0, none⟩ = some (.string ⟨#[118, 111, 105, 100]⟩) ∧ V.cell? ⟨g, 2, none⟩ = some (.func (.func 123) #[] #[])) := fun V hV => by
          have k1 := HBX.out V (HBC.out.trans (hV.mono hcs))
          have k2 := HKG.out.below hV hgl
          exact ⟨k1.cell 0 rfl, k1.cell 1 rfl, k1.cell 2 rfl, k1.cell 3 rfl, k1.cell 4 rfl, k1.cell 5 rfl, k2.cell 0 rfl, k2.cell 2 rfl⟩
        have HIT : Hid (∀ V, Below wc.heap.size wc V → ∀ n, i64v n → Calls Tryz.prog 84 #[.int .i64 n] V (ValEnd (.string (itoB n)) V)) := fun V hV n hn => itoa_any n V (HGL.out V (HBC.out.trans (hV.mono hcs))) hn
        have HTL : Hid (∀ V, Below w1.heap.size w1 V → Calls Tryz.prog 123 #[(Rul.mk id kn 6 x y of).agg] V (TellE [itoB of] V)) := fun V hV => tell6_any ⟨id, kn, 6, x, y, of⟩ V (HGL.out V hV) HOF.out
        obtain ⟨i0, hi0, hz0, hz1, hz2⟩ := info_parts info9
        have I9 := Lib.hid (And.intro hi0 (And.intro hz0 (And.intro hz1 hz2))); clear hi0 hz0 hz1 hz2
        go_upto_region 4 with fail
        refine wp_region_held_drew (S := (fun V => V.cell? ⟨w.heap.size, 0, none⟩ = some (.int .i64 id) ∧ V.cell? ⟨w.heap.size, 1, none⟩ = some (.int .i64 kn) ∧ V.cell? ⟨w.heap.size, 2, none⟩ = some (.int .u8 6) ∧ V.cell? ⟨w.heap.size, 3, none⟩ = some (.string x) ∧ V.cell? ⟨w.heap.size, 4, none⟩ = some (.string y) ∧ V.cell? ⟨w.heap.size, 5, none⟩ = some (.int .i64 of) ∧ V.cell? ⟨g, 0, none⟩ = some (.string ⟨#[118, 111, 105, 100]⟩) ∧ V.cell? ⟨g, 2, none⟩ = some (.func (.func 123) #[] #[]))) (by kernel_rfl) ?_ (fun hHeld => ?_)
        · exact HSS.out _ (Below.refl _ _).drew
        refine tk 0 12 ?_
        refine tk 1 13 ?_
        refine tk 3 15 ?_
        refine tk 4 16 ?_
        refine tk 6 18 ?_
        refine tk 7 19 ?_
        refine tk 9 21 ?_
        refine tk 10 22 ?_
        refine tk 11 23 ?_
        have hb_w3 : Below wc.heap.size wc wc.drew := (Below.refl _ _).drew
        generalize wc.drew = w3 at *
        (refine held_call 2 (some 14) 84 _ rfl (by kernel_rfl) (by rfl) ?_ ((HIT.out w3 hb_w3 id HBD.out.1)) ?_; rotate_left; rotate_left; (simp only [List.getElem?_toArray, List.getElem?_cons_zero, List.getElem?_cons_succ, Option.map_some]; refine congrArg some ?_; go_simp))
        rintro e w4 ⟨rfl, c4⟩
        have hb_w4 : Below wc.heap.size wc w4 := hb_w3.trans (c4.mono hb_w3.size)
        refine ⟨_, rfl, HSS.out _ hb_w4, fun hHeld => ?_⟩
        (try simp only [Act.put, List.setIfInBounds_toArray, List.set_cons_zero, List.set_cons_succ])
        (refine held_call 5 (some 17) 84 _ rfl (by kernel_rfl) (by rfl) ?_ ((HIT.out w4 hb_w4 kn HBD.out.2.1)) ?_; rotate_left; rotate_left; (simp only [List.getElem?_toArray, List.getElem?_cons_zero, List.getElem?_cons_succ, Option.map_some]; refine congrArg some ?_; go_simp))
        rintro e w5 ⟨rfl, c5⟩
        have hb_w5 : Below wc.heap.size wc w5 := hb_w4.trans (c5.mono hb_w4.size)
        refine ⟨_, rfl, HSS.out _ hb_w5, fun hHeld => ?_⟩
        (try simp only [Act.put, List.setIfInBounds_toArray, List.set_cons_zero, List.set_cons_succ])
        clear c4 c5
        refine held_two 8 12 ⟨some 20, .buildSlice 34 3 #[(0, .tmp 14), (1, .tmp 17), (2, .tmp 19)], 34, _, _, none⟩ ⟨some 24, .call { callee := .value (.tmp 22), args := #[.tmp 23], argTypes := #[50] }, 34, _, _, none⟩ rfl rfl (by kernel_rfl) (by rfl) (by rfl) ?_ ?_
        · unfold Oper.wp
          go_simp
          have hb_w6 : Below wc.heap.size wc (w5.alloc (.cells #[.string (itoB id), .string (itoB kn), .string ⟨#[118, 111, 105, 100]⟩] 9)) := hb_w5.alloc hb_w5.size _
          have bx : Bk (w5.alloc (.cells #[.string (itoB id), .string (itoB kn), .string ⟨#[118, 111, 105, 100]⟩] 9)) w5.heap.size 9 #[.string (itoB id), .string (itoB kn), .string ⟨#[118, 111, 105, 100]⟩] := Bk.new _ _ _
          refine ⟨HSS.out _ hb_w6, ?_⟩
          (try simp only [Act.put, List.setIfInBounds_toArray, List.set_cons_zero, List.set_cons_succ])
          have hb16 := HBC.out.trans (hb_w6.mono hcs)
          generalize w5.alloc (.cells #[.string (itoB id), .string (itoB kn), .string ⟨#[118, 111, 105, 100]⟩] 9) = w6 at *
          refine held_one 12 ⟨some 24, .call { callee := .value (.tmp 22), args := #[.tmp 23], argTypes := #[50] }, 34, _, _, none⟩ rfl (by kernel_rfl) (by rfl) ?_
          refine wp_call (f := 123) (args := #[(Rul.mk id kn 6 x y of).agg]) (by go_simp) (HTL.out w6 hb16) ?_
          rintro e w7 ⟨gt, rfl, hlt7, c7⟩
          have hb_w7 : Below wc.heap.size wc w7 := hb_w6.trans (c7.mono hb_w6.size)
          have bx7 := bx.below c7 bx.lt
          refine ⟨_, rfl, HSS.out _ hb_w7, ?_⟩
          (try simp only [Act.put, List.setIfInBounds_toArray, List.set_cons_zero, List.set_cons_succ])
          clear bx c7 hb16
          refine held_one 13 ⟨some 25, .call { callee := .builtin .append, args := #[.tmp 20, .tmp 24], argTypes := #[34, 34] }, 34, _, _, none⟩ rfl (by kernel_rfl) (by rfl) ?_
          refine wp_append_grows _ (.tmp 20) (.tmp 24) 34 rfl 9 i0 (.string ByteArray.empty) 1 16 Tryz.underlying34 I9.out.1 I9.out.2.1 I9.out.2.2.1 I9.out.2.2.2 rfl (by decide) (some ⟨w5.heap.size, 0, none⟩) 3 3 [.string (itoB id), .string (itoB kn), .string ⟨#[118, 111, 105, 100]⟩] rfl (fun e => by cases e) rfl (fun b hb j u hj => by cases hb; exact bk_cells bx7 j u hj) ⟨gt, 0, none⟩ 1 1 (strsC [itoB of]) rfl rfl (fun j u hj => by
            obtain ⟨ad, e, _, hc⟩ := hlt7 (by simp [strsC])
            cases e; exact hc j u hj) ?_ (by omega) ?_ ?_ ?_
          · intro u hu; simp [strsC] at hu; (try rcases hu with rfl | rfl) <;> (try subst hu) <;> rfl
          · unfold maxLen; omega
          · omega
          intro v8 w8 ow8 hg8
          have hb_w8 : Below wc.heap.size wc w8 := Below.grown hb_w7 hg8 hb_w7.size (fun g e => by cases e)
          obtain ⟨A8, c8, rfl, hc8, hcm8⟩ := ownsSlice ow8
          obtain ⟨g8, rfl, hge8⟩ := own_some ow8 (Nat.succ_pos _)
          have HJ := Lib.hid (Tryz.strings_Join g8 0 c8 (wordsB (Rul.mk id kn 6 x y of)) ⟨#[32]⟩ w8 (fun j z hz => by
            obtain ⟨ad, e, _, hc⟩ := ownsRow_lies ow8 (by simp)
            cases e
            have h2 := hc j (.string z) (by
              have : ((wordsB (Rul.mk id kn 6 x y of)).map Value.string)[j]? = some (.string z) := by rw [List.getElem?_map, hz]; rfl
              exact this)
            unfold Addr.add at h2
            split at h2
            · rename_i h0; subst h0; exact h2
            · exact h2) (by have := hge8; have h3 := (ow8.lt g8 rfl).2; exact h3) (by show _ ≤ 140737488355328; simp [wordsB, tellB]) (by simpa [wordsB, tellB] using hc8) (by have := HLEN.out; unfold wrL at this; exact Nat.le_trans this (by decide)))
          have hwl : (wordsB (Rul.mk id kn 6 x y of)).length = 4 := by simp [wordsB, tellB]
          rw [hwl] at HJ
          clear ow8 hg8 bx7 hlt7 hwl
          refine ⟨HSS.out _ hb_w8, ?_⟩
          (try simp only [Act.put, List.setIfInBounds_toArray, List.set_cons_zero, List.set_cons_succ])
          (refine held_call 14 (some 26) 83 _ rfl (by kernel_rfl) (by rfl) ?_ (HJ.out) ?_; rotate_left; rotate_left; (simp only [List.getElem?_toArray, List.getElem?_cons_zero, List.getElem?_cons_succ, Option.map_some]; refine congrArg some ?_; go_simp))
          rintro e w9 ⟨rfl, c9⟩
          have hb_w9 : Below wc.heap.size wc w9 := hb_w8.trans (c9.mono hb_w8.size)
          refine ⟨_, rfl, HSS.out _ hb_w9, fun hHeld => ?_⟩
          (try simp only [Act.put, List.setIfInBounds_toArray, List.set_cons_zero, List.set_cons_succ])
          refine tk 15 2 ?_
          refine tk 16 3 ?_
          refine wpAnyH_done (by kernel_rfl) ?_ _
          have HEND : Hid (WriteE (Rul.mk id kn 6 x y of) w (.returned (.tuple #[.string ⟨(Lib.join (List.map (fun z => z.data.toList) (wordsB (Rul.mk id kn 6 x y of))) [32]).toArray⟩, .int .i64 0])) w9) := by
            refine ⟨?_, HBW.out _ (HBC.out.trans (hb_w9.mono hcs))⟩
            unfold wrB wrE
            rw [if_pos H1.out, if_pos H1.out]; rfl
          clear hHeld HJ
          go_wp2
          go_ret2
          exact HEND.out
        · have hb16 := HBC.out.trans (hb_w5.mono hcs)
          refine wp_call (f := 123) (args := #[(Rul.mk id kn 6 x y of).agg]) (by go_simp) (HTL.out w5 hb16) ?_
          rintro e w6 ⟨gt, rfl, hlt6, c6⟩
          have hb_w6 : Below wc.heap.size wc w6 := hb_w5.trans (c6.mono hb_w5.size)
          refine ⟨_, rfl, HSS.out _ hb_w6, ?_⟩
          (try simp only [Act.put, List.setIfInBounds_toArray, List.set_cons_zero, List.set_cons_succ])
          refine held_one 8 ⟨some 20, .buildSlice 34 3 #[(0, .tmp 14), (1, .tmp 17), (2, .tmp 19)], 34, _, _, none⟩ rfl (by kernel_rfl) (by rfl) ?_
          unfold Oper.wp
          go_simp
          have hb_w7 : Below wc.heap.size wc (w6.alloc (.cells #[.string (itoB id), .string (itoB kn), .string ⟨#[118, 111, 105, 100]⟩] 9)) := hb_w6.alloc hb_w6.size _
          have bx7 : Bk (w6.alloc (.cells #[.string (itoB id), .string (itoB kn), .string ⟨#[118, 111, 105, 100]⟩] 9)) w6.heap.size 9 #[.string (itoB id), .string (itoB kn), .string ⟨#[118, 111, 105, 100]⟩] := Bk.new _ _ _
          have hlt7 : Lies (w6.alloc (.cells #[.string (itoB id), .string (itoB kn), .string ⟨#[118, 111, 105, 100]⟩] 9)) (w6.alloc (.cells #[.string (itoB id), .string (itoB kn), .string ⟨#[118, 111, 105, 100]⟩] 9)).heap.size (some ⟨gt, 0, none⟩) (strsC [itoB of]) := (hlt6.below ((Below.refl _ _).alloc (Nat.le_refl _) _) (Nat.le_refl _)).more (by simp)
          refine ⟨HSS.out _ hb_w7, ?_⟩
          (try simp only [Act.put, List.setIfInBounds_toArray, List.set_cons_zero, List.set_cons_succ])
          generalize w6.alloc (.cells #[.string (itoB id), .string (itoB kn), .string ⟨#[118, 111, 105, 100]⟩] 9) = w7 at *
          clear hlt6 c6 hb16
          refine held_one 13 ⟨some 25, .call { callee := .builtin .append, args := #[.tmp 20, .tmp 24], argTypes := #[34, 34] }, 34, _, _, none⟩ rfl (by kernel_rfl) (by rfl) ?_
          refine wp_append_grows _ (.tmp 20) (.tmp 24) 34 rfl 9 i0 (.string ByteArray.empty) 1 16 Tryz.underlying34 I9.out.1 I9.out.2.1 I9.out.2.2.1 I9.out.2.2.2 rfl (by decide) (some ⟨w6.heap.size, 0, none⟩) 3 3 [.string (itoB id), .string (itoB kn), .string ⟨#[118, 111, 105, 100]⟩] rfl (fun e => by cases e) rfl (fun b hb j u hj => by cases hb; exact bk_cells bx7 j u hj) ⟨gt, 0, none⟩ 1 1 (strsC [itoB of]) rfl rfl (fun j u hj => by
            obtain ⟨ad, e, _, hc⟩ := hlt7 (by simp [strsC])
            cases e; exact hc j u hj) ?_ (by omega) ?_ ?_ ?_
          · intro u hu; simp [strsC] at hu; (try rcases hu with rfl | rfl) <;> (try subst hu) <;> rfl
          · unfold maxLen; omega
          · omega
          intro v8 w8 ow8 hg8
          have hb_w8 : Below wc.heap.size wc w8 := Below.grown hb_w7 hg8 hb_w7.size (fun g e => by cases e)
          obtain ⟨A8, c8, rfl, hc8, hcm8⟩ := ownsSlice ow8
          obtain ⟨g8, rfl, hge8⟩ := own_some ow8 (Nat.succ_pos _)
          have HJ := Lib.hid (Tryz.strings_Join g8 0 c8 (wordsB (Rul.mk id kn 6 x y of)) ⟨#[32]⟩ w8 (fun j z hz => by
            obtain ⟨ad, e, _, hc⟩ := ownsRow_lies ow8 (by simp)
            cases e
            have h2 := hc j (.string z) (by
              have : ((wordsB (Rul.mk id kn 6 x y of)).map Value.string)[j]? = some (.string z) := by rw [List.getElem?_map, hz]; rfl
              exact this)
            unfold Addr.add at h2
            split at h2
            · rename_i h0; subst h0; exact h2
            · exact h2) (by have := hge8; have h3 := (ow8.lt g8 rfl).2; exact h3) (by show _ ≤ 140737488355328; simp [wordsB, tellB]) (by simpa [wordsB, tellB] using hc8) (by have := HLEN.out; unfold wrL at this; exact Nat.le_trans this (by decide)))
          have hwl : (wordsB (Rul.mk id kn 6 x y of)).length = 4 := by simp [wordsB, tellB]
          rw [hwl] at HJ
          clear ow8 hg8 bx7 hlt7 hwl
          refine ⟨HSS.out _ hb_w8, ?_⟩
          (try simp only [Act.put, List.setIfInBounds_toArray, List.set_cons_zero, List.set_cons_succ])
          (refine held_call 14 (some 26) 83 _ rfl (by kernel_rfl) (by rfl) ?_ (HJ.out) ?_; rotate_left; rotate_left; (simp only [List.getElem?_toArray, List.getElem?_cons_zero, List.getElem?_cons_succ, Option.map_some]; refine congrArg some ?_; go_simp))
          rintro e w9 ⟨rfl, c9⟩
          have hb_w9 : Below wc.heap.size wc w9 := hb_w8.trans (c9.mono hb_w8.size)
          refine ⟨_, rfl, HSS.out _ hb_w9, fun hHeld => ?_⟩
          (try simp only [Act.put, List.setIfInBounds_toArray, List.set_cons_zero, List.set_cons_succ])
          refine tk 15 2 ?_
          refine tk 16 3 ?_
          refine wpAnyH_done (by kernel_rfl) ?_ _
          have HEND : Hid (WriteE (Rul.mk id kn 6 x y of) w (.returned (.tuple #[.string ⟨(Lib.join (List.map (fun z => z.data.toList) (wordsB (Rul.mk id kn 6 x y of))) [32]).toArray⟩, .int .i64 0])) w9) := by
            refine ⟨?_, HBW.out _ (HBC.out.trans (hb_w9.mono hcs))⟩
            unfold wrB wrE
            rw [if_pos H1.out, if_pos H1.out]; rfl
          clear hHeld HJ
          go_wp2
          go_ret2
          exact HEND.out
  · have h1' : frm ⟨id, kn, kd, x, y, of⟩ = false := by simpa using h1
    have H1 := Lib.hid h1'
    clear h1 h1'
    go_enter Tryz.func34, Tryz.ntmps34
    go_wp2_with (first | (go_at_call 81; refine (HF.out _).mono ?_; rintro e w1 ⟨rfl, hb1⟩; rw [H1.out]))
    go_ret2
    refine ⟨?_, ((Below.refl _ _).alloc (Nat.le_refl _) _).trans (hb1.mono (by simp))⟩
    unfold wrB wrE
    rw [H1.out]; rfl
theorem write_any (r : Rul) (w : World) (hg : Glob w) (hx : r.x.size ≤ 100) (hy : r.y.size ≤ 100) : Calls Tryz.prog 34 #[r.agg] w (WriteE r w) := write_big r w hg (by omega) (by omega)
end Go.Proofs.YtkfeagokmcakgaaGreatDoor
