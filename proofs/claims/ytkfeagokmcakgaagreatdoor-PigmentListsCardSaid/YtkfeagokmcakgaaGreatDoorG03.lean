/- Well-formed rules: the forms of the kinds (fns 125, 120, 82). -/
import Derived.Test.YtkfeagokmcakgaaGreatDoorG02

set_option linter.unusedVariables false
set_option linter.unusedSimpArgs false

namespace Go.Proofs.YtkfeagokmcakgaaGreatDoor
open Go.RowKit

def fnV (n : Nat) : Value := .func (.func n) #[] #[]
def ValEnd (v : Value) (w : World) (e : Ending) (w' : World) : Prop := e = .returned v ∧ Below w.heap.size w w'
set_option maxHeartbeats 400000 in
theorem single_any (s : ByteArray) (w : World) : Calls Tryz.prog 125 #[.string s] w (ValEnd (.agg #[.string s, .func (.func 150) #[] #[], .func (.func 151) #[] #[], .func (.func 152) #[] #[]]) w) := by
  have hrs := fun f cs a m W => run_store Tryz.prog W a (.func (.func f) #[] cs) m rfl
  go_enter Tryz.func125, Tryz.ntmps125
  go_wp2
  refine bodyPost_ret (v := .agg #[.string s, .func (.func 150) #[] #[], .func (.func 151) #[] #[], .func (.func 152) #[] #[]]) ?_ rfl ⟨rfl, (by repeat (first | with_reducible exact Below.refl _ _ | with_reducible assumption | with_reducible refine Below.drew ?_ | with_reducible refine below_drewN ?_ _ | (with_reducible refine Below.alloc ?_ ?_ _; rotate_left; (try simp) <;> omega) | (with_reducible refine Below.setCell ?_ ?_ _; rotate_left; (try simp) <;> omega)))⟩
  simp [results, Tryz.results125, go_sem]
set_option maxHeartbeats 400000 in
theorem double_any (s : ByteArray) (w : World) : Calls Tryz.prog 120 #[.string s] w (ValEnd (.agg #[.string s, .func (.func 147) #[] #[], .func (.func 148) #[] #[], .func (.func 149) #[] #[]]) w) := by
  have hrs := fun f cs a m W => run_store Tryz.prog W a (.func (.func f) #[] cs) m rfl
  go_enter Tryz.func120, Tryz.ntmps120
  go_wp2
  refine bodyPost_ret (v := .agg #[.string s, .func (.func 147) #[] #[], .func (.func 148) #[] #[], .func (.func 149) #[] #[]]) ?_ rfl ⟨rfl, (by repeat (first | with_reducible exact Below.refl _ _ | with_reducible assumption | with_reducible refine Below.drew ?_ | with_reducible refine below_drewN ?_ _ | (with_reducible refine Below.alloc ?_ ?_ _; rotate_left; (try simp) <;> omega) | (with_reducible refine Below.setCell ?_ ?_ _; rotate_left; (try simp) <;> omega)))⟩
  simp [results, Tryz.results120, go_sem]
def B_ (l : List UInt8) : ByteArray := ⟨l.toArray⟩
def formsC (b : Nat) : Array Value := #[.string ⟨#[]⟩, .nilFunc, .nilFunc, .nilFunc,
  .string ⟨#[102, 97, 115, 116]⟩, .func (.func 150) #[] #[], .func (.func 151) #[] #[], .func (.func 152) #[] #[],
  .string ⟨#[100, 114, 121]⟩, .func (.func 150) #[] #[], .func (.func 151) #[] #[], .func (.func 152) #[] #[],
  .string ⟨#[98, 101, 115, 105, 100, 101]⟩, .func (.func 147) #[] #[], .func (.func 148) #[] #[], .func (.func 149) #[] #[],
  .string ⟨#[111, 118, 101, 114]⟩, .func (.func 147) #[] #[], .func (.func 148) #[] #[], .func (.func 149) #[] #[],
  .string ⟨#[103, 114, 111, 117, 112]⟩, .func (.func 121) #[] #[.pointer (some ⟨b, 0, none⟩)], .func (.func 148) #[] #[], .func (.func 149) #[] #[],
  .string ⟨#[118, 111, 105, 100]⟩, .func (.func 122) #[] #[], .func (.func 123) #[] #[], .func (.func 124) #[] #[]]
theorem forms_one (b : Nat) : ∀ v ∈ (formsC b).toList, v.oneCell' = true := List.all_eq_true.1 (by rfl)
def FormsE (w : World) (e : Ending) (w' : World) : Prop := ∃ b, e = .returned (.agg (formsC b)) ∧ w.heap.size ≤ b ∧ b < w'.heap.size ∧ w'.cell? ⟨b, 0, none⟩ = some (.func (.func 147) #[] #[]) ∧ Below w.heap.size w w'
def zero28 : Array Value := (List.flatten (List.replicate 7 [.string ⟨#[]⟩, .nilFunc, .nilFunc, .nilFunc])).toArray
theorem info107 : (Tryz.prog.info? 107).map (·.size) = some 28 := by kernel_rfl
theorem row107 : ∃ d, Tryz.prog.underlying 107 = some d ∧ d.isRow = true := ⟨_, Tryz.underlying107, rfl⟩
set_option maxRecDepth 100000 in
set_option maxHeartbeats 1000000 in
theorem forms_any (w : World) : Calls Tryz.prog 82 #[] w (FormsE w) := by
  have HD := Lib.hid double_any
  have HS := Lib.hid single_any
  have hrs := fun f cs a m W => run_store Tryz.prog W a (.func (.func f) #[] cs) m rfl
  go_enter Tryz.func82, Tryz.ntmps82
  go_upto_region 5 with (first | (go_at_call 120; refine (HD.out _ _).mono ?_; rintro e w1 ⟨rfl, hb1⟩; obtain ⟨hcc, hff⟩ := bcell hb1; have hz := hb1.size; have hk0 : Bk w1 w.heap.size 107 zero28 := Bk.below (Bk.new w 107 zero28) hb1 (by simp); try simp at hz))
  have hb1' := hb1.mono (show w.heap.size ≤ _ from (by simp))
  generalize hW : (((w1.alloc (Obj.cells #[Value.string { data := #[103, 114, 111, 117, 112] }, Value.func (Fn.func 121) #[] #[Value.pointer (some { block := w1.heap.size + 1, off := 0 })], Value.func (Fn.func 148) #[] #[], Value.func (Fn.func 149) #[] #[]] 106)).alloc (Obj.cells #[Value.func (Fn.func 147) #[] #[]] 102)).alloc (Obj.cells #[Value.string { data := #[118, 111, 105, 100] }, Value.func (Fn.func 122) #[] #[], Value.func (Fn.func 123) #[] #[], Value.func (Fn.func 124) #[] #[]] 106)) = W
  have k1 : Bk W w1.heap.size 106 #[Value.string { data := #[103, 114, 111, 117, 112] }, Value.func (Fn.func 121) #[] #[Value.pointer (some { block := w1.heap.size + 1, off := 0 })], Value.func (Fn.func 148) #[] #[], Value.func (Fn.func 149) #[] #[]] := by rw [← hW]; exact ((Bk.new _ _ _).alloc _).alloc _
  have k2 : Bk W (w1.heap.size + 1) 102 #[Value.func (Fn.func 147) #[] #[]] := by rw [← hW]; simpa using (Bk.new (w1.alloc (Obj.cells #[Value.string { data := #[103, 114, 111, 117, 112] }, Value.func (Fn.func 121) #[] #[Value.pointer (some { block := w1.heap.size + 1, off := 0 })], Value.func (Fn.func 148) #[] #[], Value.func (Fn.func 149) #[] #[]] 106)) 102 #[Value.func (Fn.func 147) #[] #[]]).alloc _
  have k3 : Bk W (w1.heap.size + 1 + 1) 106 #[Value.string { data := #[118, 111, 105, 100] }, Value.func (Fn.func 122) #[] #[], Value.func (Fn.func 123) #[] #[], Value.func (Fn.func 124) #[] #[]] := by rw [← hW]; simpa using (Bk.new ((w1.alloc (Obj.cells #[Value.string { data := #[103, 114, 111, 117, 112] }, Value.func (Fn.func 121) #[] #[Value.pointer (some { block := w1.heap.size + 1, off := 0 })], Value.func (Fn.func 148) #[] #[], Value.func (Fn.func 149) #[] #[]] 106)).alloc (Obj.cells #[Value.func (Fn.func 147) #[] #[]] 102)) 106 #[Value.string { data := #[118, 111, 105, 100] }, Value.func (Fn.func 122) #[] #[], Value.func (Fn.func 123) #[] #[], Value.func (Fn.func 124) #[] #[]])
  have k0 : Bk W w.heap.size 107 zero28 := by rw [← hW]; exact ((hk0.alloc _).alloc _).alloc _
  have hBW : Below w.heap.size w W := by
    rw [← hW]
    have : Below w.heap.size w w1 := ((Below.refl _ _).alloc (Nat.le_refl _) _).trans hb1'
    exact ((this.alloc (by omega) _).alloc (by simp; omega) _).alloc (by simp; omega) _
  have HD2 := HD
  have HS2 := Lib.hid (And.intro k1 (And.intro k2 (And.intro k3 (And.intro k0 hBW))))
  have hs1 := k1.lt
  have hs2 := k2.lt
  have hs3 := k3.lt
  have hs0 := k0.lt
  have hs01 := hk0.lt
  have hall : ∀ w', Below W.heap.size W w' → w'.cell? ⟨w1.heap.size, 0, none⟩ = some (Value.string { data := #[103, 114, 111, 117, 112] }) ∧ w'.cell? ⟨w1.heap.size, 1, none⟩ = some (Value.func (Fn.func 121) #[] #[Value.pointer (some { block := w1.heap.size + 1, off := 0 })]) ∧ w'.cell? ⟨w1.heap.size, 2, none⟩ = some (Value.func (Fn.func 148) #[] #[]) ∧ w'.cell? ⟨w1.heap.size, 3, none⟩ = some (Value.func (Fn.func 149) #[] #[]) ∧ w'.cell? ⟨w1.heap.size + 1 + 1, 0, none⟩ = some (Value.string { data := #[118, 111, 105, 100] }) ∧ w'.cell? ⟨w1.heap.size + 1 + 1, 1, none⟩ = some (Value.func (Fn.func 122) #[] #[]) ∧ w'.cell? ⟨w1.heap.size + 1 + 1, 2, none⟩ = some (Value.func (Fn.func 123) #[] #[]) ∧ w'.cell? ⟨w1.heap.size + 1 + 1, 3, none⟩ = some (Value.func (Fn.func 124) #[] #[]) := fun w' hb => ⟨(k1.below hb hs1).cell 0 rfl, (k1.below hb hs1).cell 1 rfl, (k1.below hb hs1).cell 2 rfl, (k1.below hb hs1).cell 3 rfl, (k3.below hb hs3).cell 0 rfl, (k3.below hb hs3).cell 1 rfl, (k3.below hb hs3).cell 2 rfl, (k3.below hb hs3).cell 3 rfl⟩
  have HALL := Lib.hid hall
  clear hall k1 k2 k3 k0 hBW hk0 hb1 hb1' hcc hff hz HD hW
  refine wp_region_held_drew (S := (fun w' => w'.cell? ⟨w1.heap.size, 0, none⟩ = some (Value.string { data := #[103, 114, 111, 117, 112] }) ∧ w'.cell? ⟨w1.heap.size, 1, none⟩ = some (Value.func (Fn.func 121) #[] #[Value.pointer (some { block := w1.heap.size + 1, off := 0 })]) ∧ w'.cell? ⟨w1.heap.size, 2, none⟩ = some (Value.func (Fn.func 148) #[] #[]) ∧ w'.cell? ⟨w1.heap.size, 3, none⟩ = some (Value.func (Fn.func 149) #[] #[]) ∧ w'.cell? ⟨w1.heap.size + 1 + 1, 0, none⟩ = some (Value.string { data := #[118, 111, 105, 100] }) ∧ w'.cell? ⟨w1.heap.size + 1 + 1, 1, none⟩ = some (Value.func (Fn.func 122) #[] #[]) ∧ w'.cell? ⟨w1.heap.size + 1 + 1, 2, none⟩ = some (Value.func (Fn.func 123) #[] #[]) ∧ w'.cell? ⟨w1.heap.size + 1 + 1, 3, none⟩ = some (Value.func (Fn.func 124) #[] #[]))) (by kernel_rfl) ?_ (fun hHeld => ?_)
  · exact HALL.out _ (Below.refl _ _).drew
  (refine held_take 0 (some 10) ?_ rfl (by kernel_rfl) (by kernel_rfl) (by kernel_rfl) (by rfl) (fun _ _ _ h => h) (by assumption) (fun w hSw => ?_) ?_; rotate_left; ((try dsimp only at hSw); simp only [List.getElem?_toArray, List.getElem?_cons_zero, List.getElem?_cons_succ, Option.map_some]; refine congrArg some ?_; go_simp; (try with_reducible rfl)); (try simp only [Act.put, List.setIfInBounds_toArray, List.set_cons_zero, List.set_cons_succ]))
  (refine held_take 5 (some 15) ?_ rfl (by kernel_rfl) (by kernel_rfl) (by kernel_rfl) (by rfl) (fun _ _ _ h => h) (by assumption) (fun w hSw => ?_) ?_; rotate_left; ((try dsimp only at hSw); simp only [List.getElem?_toArray, List.getElem?_cons_zero, List.getElem?_cons_succ, Option.map_some]; refine congrArg some ?_; go_simp; (try with_reducible rfl)); (try simp only [Act.put, List.setIfInBounds_toArray, List.set_cons_zero, List.set_cons_succ]))
  (refine held_take 6 (some 16) ?_ rfl (by kernel_rfl) (by kernel_rfl) (by kernel_rfl) (by rfl) (fun _ _ _ h => h) (by assumption) (fun w hSw => ?_) ?_; rotate_left; ((try dsimp only at hSw); simp only [List.getElem?_toArray, List.getElem?_cons_zero, List.getElem?_cons_succ, Option.map_some]; refine congrArg some ?_; go_simp; (try with_reducible rfl)); (try simp only [Act.put, List.setIfInBounds_toArray, List.set_cons_zero, List.set_cons_succ]))
  (refine held_call 1 (some 11) 125 _ rfl (by kernel_rfl) (by rfl) ?_ (HS.out ⟨#[102, 97, 115, 116]⟩ _) ?_; rotate_left; rotate_left; (simp only [List.getElem?_toArray, List.getElem?_cons_zero, List.getElem?_cons_succ, Option.map_some]; refine congrArg some ?_; go_simp))
  rintro e u0 ⟨rfl, c0⟩
  have d0 : Below W.heap.size W u0 := (Below.refl _ _).drew.trans (c0.mono (Nat.le_refl _))
  refine ⟨_, rfl, HALL.out _ d0, fun hHeld => ?_⟩
  (try simp only [Act.put, List.setIfInBounds_toArray, List.set_cons_zero, List.set_cons_succ])
  (refine held_call 2 (some 12) 125 _ rfl (by kernel_rfl) (by rfl) ?_ (HS.out ⟨#[100, 114, 121]⟩ _) ?_; rotate_left; rotate_left; (simp only [List.getElem?_toArray, List.getElem?_cons_zero, List.getElem?_cons_succ, Option.map_some]; refine congrArg some ?_; go_simp))
  rintro e u1 ⟨rfl, c1⟩
  have d1 : Below W.heap.size W u1 := d0.trans (c1.mono d0.size)
  refine ⟨_, rfl, HALL.out _ d1, fun hHeld => ?_⟩
  (try simp only [Act.put, List.setIfInBounds_toArray, List.set_cons_zero, List.set_cons_succ])
  (refine held_call 3 (some 13) 120 _ rfl (by kernel_rfl) (by rfl) ?_ (HD2.out ⟨#[98, 101, 115, 105, 100, 101]⟩ _) ?_; rotate_left; rotate_left; (simp only [List.getElem?_toArray, List.getElem?_cons_zero, List.getElem?_cons_succ, Option.map_some]; refine congrArg some ?_; go_simp))
  rintro e u2 ⟨rfl, c2⟩
  have d2 : Below W.heap.size W u2 := d1.trans (c2.mono d1.size)
  refine ⟨_, rfl, HALL.out _ d2, fun hHeld => ?_⟩
  (try simp only [Act.put, List.setIfInBounds_toArray, List.set_cons_zero, List.set_cons_succ])
  (refine held_call 4 (some 14) 120 _ rfl (by kernel_rfl) (by rfl) ?_ (HD2.out ⟨#[111, 118, 101, 114]⟩ _) ?_; rotate_left; rotate_left; (simp only [List.getElem?_toArray, List.getElem?_cons_zero, List.getElem?_cons_succ, Option.map_some]; refine congrArg some ?_; go_simp))
  rintro e u3 ⟨rfl, c3⟩
  have d3 : Below W.heap.size W u3 := d2.trans (c3.mono d2.size)
  refine ⟨_, rfl, HALL.out _ d3, fun hHeld => ?_⟩
  (try simp only [Act.put, List.setIfInBounds_toArray, List.set_cons_zero, List.set_cons_succ])
  (refine held_take 7 (some 17) ?_ rfl (by kernel_rfl) (by kernel_rfl) (by kernel_rfl) (by rfl) (fun _ _ _ h => h) (by assumption) (fun w hSw => ?_) ?_; rotate_left; ((try dsimp only at hSw); simp only [List.getElem?_toArray, List.getElem?_cons_zero, List.getElem?_cons_succ, Option.map_some]; refine congrArg some ?_; go_simp; (try with_reducible rfl)); (try simp only [Act.put, List.setIfInBounds_toArray, List.set_cons_zero, List.set_cons_succ]))
  have k0 : Bk u3 w.heap.size 107 zero28 := HS2.out.2.2.2.1.below d3 hs0
  have k2 := HS2.out.2.1.below d3 hs2
  have hB3 : Below w.heap.size w u3 := HS2.out.2.2.2.2.trans (d3.mono (Nat.le_of_lt hs0))
  refine held_one 8 ⟨none, .store 107 (.tmp 0) (.tmp 17), _, _, _, none⟩ rfl (by kernel_rfl) (by rfl) ?_
  refine wp_store_blk 107 (.tmp 0) (.tmp 17) rfl w.heap.size zero28 (formsC (w1.heap.size + 1)) rfl rfl k0 rfl info107 (forms_one _) ?_
  intro u4 k4 f4
  have j1 := f4.bk (show w1.heap.size ≠ w.heap.size by omega) (HS2.out.1.below d3 hs1)
  have j3 := f4.bk (show w1.heap.size + 1 + 1 ≠ w.heap.size by omega) (HS2.out.2.2.1.below d3 hs3)
  have j2 := f4.bk (show w1.heap.size + 1 ≠ w.heap.size by omega) k2
  have hB4 := f4.bel _ _ (Nat.le_refl _) hB3
  refine ⟨⟨j1.cell 0 rfl, j1.cell 1 rfl, j1.cell 2 rfl, j1.cell 3 rfl, j3.cell 0 rfl, j3.cell 1 rfl, j3.cell 2 rfl, j3.cell 3 rfl⟩, ?_⟩
  (try simp only [Act.put, List.setIfInBounds_toArray, List.set_cons_zero, List.set_cons_succ])
  refine wpAnyH_done (by kernel_rfl) ?_ _
  clear hHeld
  go_wp2
  refine bodyPost_ret (v := .agg (formsC (w1.heap.size + 1))) ?_ rfl ⟨w1.heap.size + 1, rfl, by omega, j2.lt, j2.cell 0 rfl, hB4⟩
  have hl := run_loadVar_mid (P := Tryz.prog) u4 w.heap.size 0 107 (formsC (w1.heap.size + 1)).toList _ k4.range Tryz.underlying107 rfl info107
  simp [results, Tryz.results82, asAddr, hl]
theorem idx107_1 (b : Nat) (w : World) : (Instr.index 107 (.agg (formsC b)) (.int .u8 1)).run Tryz.prog w = .ok (.agg #[.string ⟨#[102, 97, 115, 116]⟩, .func (.func 150) #[] #[], .func (.func 151) #[] #[], .func (.func 152) #[] #[]]) w := by kernel_rfl
theorem idx107_2 (b : Nat) (w : World) : (Instr.index 107 (.agg (formsC b)) (.int .u8 2)).run Tryz.prog w = .ok (.agg #[.string ⟨#[100, 114, 121]⟩, .func (.func 150) #[] #[], .func (.func 151) #[] #[], .func (.func 152) #[] #[]]) w := by kernel_rfl
theorem idx107_3 (b : Nat) (w : World) : (Instr.index 107 (.agg (formsC b)) (.int .u8 3)).run Tryz.prog w = .ok (.agg #[.string ⟨#[98, 101, 115, 105, 100, 101]⟩, .func (.func 147) #[] #[], .func (.func 148) #[] #[], .func (.func 149) #[] #[]]) w := by kernel_rfl
theorem idx107_4 (b : Nat) (w : World) : (Instr.index 107 (.agg (formsC b)) (.int .u8 4)).run Tryz.prog w = .ok (.agg #[.string ⟨#[111, 118, 101, 114]⟩, .func (.func 147) #[] #[], .func (.func 148) #[] #[], .func (.func 149) #[] #[]]) w := by kernel_rfl
theorem idx107_5 (b : Nat) (w : World) : (Instr.index 107 (.agg (formsC b)) (.int .u8 5)).run Tryz.prog w = .ok (.agg #[.string ⟨#[103, 114, 111, 117, 112]⟩, .func (.func 121) #[] #[.pointer (some ⟨b, 0, none⟩)], .func (.func 148) #[] #[], .func (.func 149) #[] #[]]) w := by kernel_rfl
theorem idx107_6 (b : Nat) (w : World) : (Instr.index 107 (.agg (formsC b)) (.int .u8 6)).run Tryz.prog w = .ok (.agg #[.string ⟨#[118, 111, 105, 100]⟩, .func (.func 122) #[] #[], .func (.func 123) #[] #[], .func (.func 124) #[] #[]]) w := by kernel_rfl
theorem field106_0 (a b c d : Value) (w : World) : (Instr.field 106 (.agg #[a, b, c, d]) 0).run Tryz.prog w = .ok a w := by kernel_rfl
theorem field106_1 (a b c d : Value) (w : World) : (Instr.field 106 (.agg #[a, b, c, d]) 1).run Tryz.prog w = .ok b w := by kernel_rfl
theorem field106_2 (a b c d : Value) (w : World) : (Instr.field 106 (.agg #[a, b, c, d]) 2).run Tryz.prog w = .ok c w := by kernel_rfl
theorem field106_3 (a b c d : Value) (w : World) : (Instr.field 106 (.agg #[a, b, c, d]) 3).run Tryz.prog w = .ok d w := by kernel_rfl
end Go.Proofs.YtkfeagokmcakgaaGreatDoor

namespace Go.Proofs.YtkfeagokmcakgaaGreatDoor
open Go.RowKit

theorem frm_eq (r : Rul) : frm r = (idB r.id && (decide (0 ≤ r.known) && (decide (r.known ≤ 100000) && shpB r))) := by
  unfold frm idB; simp only [Bool.and_assoc]
theorem shpB_1 (r : Rul) (h : r.kind = 1 ∨ r.kind = 2) : shpB r = shp1 r := by unfold shpB shp1; rw [if_pos h]; simp only [Bool.and_assoc]
theorem shpB_3 (r : Rul) (h : r.kind = 3 ∨ r.kind = 4) : shpB r = shp2 r := by unfold shpB shp2; rw [if_neg (by omega), if_pos h]; simp only [Bool.and_assoc]
theorem shpB_5 (r : Rul) (h : r.kind = 5) : shpB r = shp5 r := by unfold shpB shp5 shp2; rw [if_neg (by omega), if_neg (by omega), if_pos h]; simp only [Bool.and_assoc]
theorem shpB_6 (r : Rul) (h : r.kind = 6) : shpB r = shp6 r := by unfold shpB shp6 idB; rw [if_neg (by omega), if_neg (by omega), if_neg (by omega), if_pos h]; simp only [Bool.and_assoc]
theorem shpB_0 (r : Rul) (h : ¬ (1 ≤ r.kind ∧ r.kind ≤ 6)) : shpB r = false := by unfold shpB; rw [if_neg (by omega), if_neg (by omega), if_neg (by omega), if_neg (by omega)]

set_option maxRecDepth 100000 in
set_option maxHeartbeats 2000000 in
theorem formed_big (r : Rul) (w : World) (hs : r.x.size ≤ 1000) (hs2 : r.y.size ≤ 1000) : Calls Tryz.prog 81 #[r.agg] w (ShEnd (frm r) w) := by
  have H0 := Lib.hid (frm_eq r)
  have HS0 := Lib.hid (shpB_0 r)
  have HA1 := Lib.hid (fun V => single1_any r V hs)
  have HA2 := Lib.hid (fun V => double1_any r V hs hs2)
  have HA5 := Lib.hid (fun b V => group1_any r b V hs hs2)
  have HA6 := Lib.hid (fun V => void1_any r V)
  obtain ⟨id, kn, kd, x, y, of⟩ := r
  dsimp only at *
  have HAL : Hid (∀ w', Below (w.heap.size + 1) (w.alloc (Obj.cells #[.int .i64 id, .int .i64 kn, .int .u8 kd, .string x, .string y, .int .i64 of] 50)) w' → w'.cell? ⟨w.heap.size, 0, none⟩ = some (.int .i64 id) ∧ w'.cell? ⟨w.heap.size, 1, none⟩ = some (.int .i64 kn) ∧ w'.cell? ⟨w.heap.size, 2, none⟩ = some (.int .u8 kd) ∧ w'.cell? ⟨w.heap.size, 3, none⟩ = some (.string x) ∧ w'.cell? ⟨w.heap.size, 4, none⟩ = some (.string y) ∧ w'.cell? ⟨w.heap.size, 5, none⟩ = some (.int .i64 of)) := fun w' hb => by
    have k := (Bk.new w 50 #[.int .i64 id, .int .i64 kn, .int .u8 kd, .string x, .string y, .int .i64 of]).below hb (Nat.lt_succ_self _)
    exact ⟨k.cell 0 rfl, k.cell 1 rfl, k.cell 2 rfl, k.cell 3 rfl, k.cell 4 rfl, k.cell 5 rfl⟩
  have HBW : Hid (∀ w', Below (w.heap.size + 1) (w.alloc (Obj.cells #[.int .i64 id, .int .i64 kn, .int .u8 kd, .string x, .string y, .int .i64 of] 50)) w' → Below w.heap.size w w') := fun w' hb => ((Below.refl _ _).alloc (Nat.le_refl _) _).trans (hb.mono (by omega))
  by_cases h1 : idB id = true
  · have H1 := Lib.hid h1; clear h1
    by_cases h2 : 0 ≤ kn
    · by_cases h3 : kn ≤ 100000
      · by_cases h4 : 1 ≤ kd
        · by_cases h5 : kd ≤ 6
          · have h6 : kd = 1 ∨ kd = 2 ∨ kd = 3 ∨ kd = 4 ∨ kd = 5 ∨ kd = 6 := by omega
            have H2 : Hid (decide (0 ≤ kn) = true ∧ decide (kn ≤ 100000) = true) := ⟨decide_eq_true h2, decide_eq_true h3⟩
            clear h4 h5
            rcases h6 with rfl | rfl | rfl | rfl | rfl | rfl
            · go_enter Tryz.func81, Tryz.ntmps81
              go_upto_region 1 with fail
              refine wp_region_held_drew (S := (fun w' => w'.cell? ⟨w.heap.size, 0, none⟩ = some (.int .i64 id) ∧ w'.cell? ⟨w.heap.size, 1, none⟩ = some (.int .i64 kn) ∧ w'.cell? ⟨w.heap.size, 2, none⟩ = some (.int .u8 1) ∧ w'.cell? ⟨w.heap.size, 3, none⟩ = some (.string x) ∧ w'.cell? ⟨w.heap.size, 4, none⟩ = some (.string y) ∧ w'.cell? ⟨w.heap.size, 5, none⟩ = some (.int .i64 of))) (by kernel_rfl) ?_ (fun hHeld => ?_)
              · exact HAL.out _ (Below.refl _ _).drew
              refine tk 0 3 ?_
              refine tk 1 4 ?_
              (refine held_call 2 (some 5) 119 _ rfl (by kernel_rfl) (by rfl) ?_ (isId_any id _) ?_; rotate_left; rotate_left; (simp only [List.getElem?_toArray, List.getElem?_cons_zero, List.getElem?_cons_succ, Option.map_some]; refine congrArg some ?_; go_simp))
              rintro e u0 ⟨rfl, rfl⟩
              rw [H1.out]
              refine ⟨_, rfl, HAL.out _ (Below.refl _ _).drew, fun hHeld => ?_⟩
              (try simp only [Act.put, List.setIfInBounds_toArray, List.set_cons_zero, List.set_cons_succ])
              refine tk 3 6 ?_
              refine tk 4 7 ?_
              refine tk 5 8 ?_
              refine tk 6 9 ?_
              refine tk 7 10 ?_
              refine tk 8 11 ?_
              refine tk 9 12 ?_
              refine tk 10 13 ?_
              refine tk 11 14 ?_
              refine tk 12 15 ?_
              refine tk 13 16 ?_
              refine tk 14 17 ?_
              refine tk 15 18 ?_
              refine tk 16 19 ?_
              refine tk 17 20 ?_
              refine tk 18 21 ?_
              refine tk 19 22 ?_
              refine tk 20 23 ?_
              refine tk 21 24 ?_
              refine tk 22 25 ?_
              refine tk 23 26 ?_
              refine tk 25 28 ?_
              refine tk 26 29 ?_
              refine tk 29 32 ?_
              (refine held_call 24 (some 27) 82 _ rfl (by kernel_rfl) (by rfl) ?_ (forms_any _) ?_; rotate_left; rotate_left; (simp only [List.getElem?_toArray, List.getElem?_cons_zero, List.getElem?_cons_succ, Option.map_some]; refine congrArg some ?_; go_simp))
              rintro e u1 ⟨b, rfl, hb0, hb1, hbc, hbe⟩
              have hbl : Below (w.heap.size + 1) (w.alloc (Obj.cells #[.int .i64 id, .int .i64 kn, .int .u8 1, .string x, .string y, .int .i64 of] 50)) u1 := (Below.refl _ _).drew.trans (hbe.mono (by simp))
              refine ⟨_, rfl, HAL.out _ hbl, fun hHeld => ?_⟩
              (try simp only [Act.put, List.setIfInBounds_toArray, List.set_cons_zero, List.set_cons_succ])
              have hix := fun V => idx107_1 b V
              unfold formsC at hix ⊢
              have hfi := fun a b c d V => field106_1 a b c d V
              refine tk 27 30 ?_
              refine tk 28 31 ?_
              (refine held_call 30 (some 33) 150 _ rfl (by kernel_rfl) (by rfl) ?_ (HA1.out _) ?_; rotate_left; rotate_left; (simp only [List.getElem?_toArray, List.getElem?_cons_zero, List.getElem?_cons_succ, Option.map_some]; refine congrArg some ?_; go_simp))
              rintro e u2 ⟨rfl, hc2⟩
              have hb2 : Below (w.heap.size + 1) (w.alloc (Obj.cells #[.int .i64 id, .int .i64 kn, .int .u8 1, .string x, .string y, .int .i64 of] 50)) u2 := hbl.trans (hc2.mono (by have := hbl.size; simpa using this))
              refine ⟨_, rfl, HAL.out _ hb2, fun hHeld => ?_⟩
              (try simp only [Act.put, List.setIfInBounds_toArray, List.set_cons_zero, List.set_cons_succ])
              refine tk 31 34 ?_
              refine tk 32 2 ?_
              refine wpAnyH_done (by kernel_rfl) ?_ _
              clear hHeld
              go_wp2
              go_ret
              exact sh_ret (by rw [H0.out, H1.out, H2.out.1, H2.out.2, shpB_1 _ (.inl rfl)]; simp) (HBW.out _ hb2)
            · go_enter Tryz.func81, Tryz.ntmps81
              go_upto_region 1 with fail
              refine wp_region_held_drew (S := (fun w' => w'.cell? ⟨w.heap.size, 0, none⟩ = some (.int .i64 id) ∧ w'.cell? ⟨w.heap.size, 1, none⟩ = some (.int .i64 kn) ∧ w'.cell? ⟨w.heap.size, 2, none⟩ = some (.int .u8 2) ∧ w'.cell? ⟨w.heap.size, 3, none⟩ = some (.string x) ∧ w'.cell? ⟨w.heap.size, 4, none⟩ = some (.string y) ∧ w'.cell? ⟨w.heap.size, 5, none⟩ = some (.int .i64 of))) (by kernel_rfl) ?_ (fun hHeld => ?_)
              · exact HAL.out _ (Below.refl _ _).drew
              refine tk 0 3 ?_
              refine tk 1 4 ?_
              (refine held_call 2 (some 5) 119 _ rfl (by kernel_rfl) (by rfl) ?_ (isId_any id _) ?_; rotate_left; rotate_left; (simp only [List.getElem?_toArray, List.getElem?_cons_zero, List.getElem?_cons_succ, Option.map_some]; refine congrArg some ?_; go_simp))
              rintro e u0 ⟨rfl, rfl⟩
              rw [H1.out]
              refine ⟨_, rfl, HAL.out _ (Below.refl _ _).drew, fun hHeld => ?_⟩
              (try simp only [Act.put, List.setIfInBounds_toArray, List.set_cons_zero, List.set_cons_succ])
              refine tk 3 6 ?_
              refine tk 4 7 ?_
              refine tk 5 8 ?_
              refine tk 6 9 ?_
              refine tk 7 10 ?_
              refine tk 8 11 ?_
              refine tk 9 12 ?_
              refine tk 10 13 ?_
              refine tk 11 14 ?_
              refine tk 12 15 ?_
              refine tk 13 16 ?_
              refine tk 14 17 ?_
              refine tk 15 18 ?_
              refine tk 16 19 ?_
              refine tk 17 20 ?_
              refine tk 18 21 ?_
              refine tk 19 22 ?_
              refine tk 20 23 ?_
              refine tk 21 24 ?_
              refine tk 22 25 ?_
              refine tk 23 26 ?_
              refine tk 25 28 ?_
              refine tk 26 29 ?_
              refine tk 29 32 ?_
              (refine held_call 24 (some 27) 82 _ rfl (by kernel_rfl) (by rfl) ?_ (forms_any _) ?_; rotate_left; rotate_left; (simp only [List.getElem?_toArray, List.getElem?_cons_zero, List.getElem?_cons_succ, Option.map_some]; refine congrArg some ?_; go_simp))
              rintro e u1 ⟨b, rfl, hb0, hb1, hbc, hbe⟩
              have hbl : Below (w.heap.size + 1) (w.alloc (Obj.cells #[.int .i64 id, .int .i64 kn, .int .u8 2, .string x, .string y, .int .i64 of] 50)) u1 := (Below.refl _ _).drew.trans (hbe.mono (by simp))
              refine ⟨_, rfl, HAL.out _ hbl, fun hHeld => ?_⟩
              (try simp only [Act.put, List.setIfInBounds_toArray, List.set_cons_zero, List.set_cons_succ])
              have hix := fun V => idx107_2 b V
              unfold formsC at hix ⊢
              have hfi := fun a b c d V => field106_1 a b c d V
              refine tk 27 30 ?_
              refine tk 28 31 ?_
              (refine held_call 30 (some 33) 150 _ rfl (by kernel_rfl) (by rfl) ?_ (HA1.out _) ?_; rotate_left; rotate_left; (simp only [List.getElem?_toArray, List.getElem?_cons_zero, List.getElem?_cons_succ, Option.map_some]; refine congrArg some ?_; go_simp))
              rintro e u2 ⟨rfl, hc2⟩
              have hb2 : Below (w.heap.size + 1) (w.alloc (Obj.cells #[.int .i64 id, .int .i64 kn, .int .u8 2, .string x, .string y, .int .i64 of] 50)) u2 := hbl.trans (hc2.mono (by have := hbl.size; simpa using this))
              refine ⟨_, rfl, HAL.out _ hb2, fun hHeld => ?_⟩
              (try simp only [Act.put, List.setIfInBounds_toArray, List.set_cons_zero, List.set_cons_succ])
              refine tk 31 34 ?_
              refine tk 32 2 ?_
              refine wpAnyH_done (by kernel_rfl) ?_ _
              clear hHeld
              go_wp2
              go_ret
              exact sh_ret (by rw [H0.out, H1.out, H2.out.1, H2.out.2, shpB_1 _ (.inr rfl)]; simp) (HBW.out _ hb2)
            · go_enter Tryz.func81, Tryz.ntmps81
              go_upto_region 1 with fail
              refine wp_region_held_drew (S := (fun w' => w'.cell? ⟨w.heap.size, 0, none⟩ = some (.int .i64 id) ∧ w'.cell? ⟨w.heap.size, 1, none⟩ = some (.int .i64 kn) ∧ w'.cell? ⟨w.heap.size, 2, none⟩ = some (.int .u8 3) ∧ w'.cell? ⟨w.heap.size, 3, none⟩ = some (.string x) ∧ w'.cell? ⟨w.heap.size, 4, none⟩ = some (.string y) ∧ w'.cell? ⟨w.heap.size, 5, none⟩ = some (.int .i64 of))) (by kernel_rfl) ?_ (fun hHeld => ?_)
              · exact HAL.out _ (Below.refl _ _).drew
              refine tk 0 3 ?_
              refine tk 1 4 ?_
              (refine held_call 2 (some 5) 119 _ rfl (by kernel_rfl) (by rfl) ?_ (isId_any id _) ?_; rotate_left; rotate_left; (simp only [List.getElem?_toArray, List.getElem?_cons_zero, List.getElem?_cons_succ, Option.map_some]; refine congrArg some ?_; go_simp))
              rintro e u0 ⟨rfl, rfl⟩
              rw [H1.out]
              refine ⟨_, rfl, HAL.out _ (Below.refl _ _).drew, fun hHeld => ?_⟩
              (try simp only [Act.put, List.setIfInBounds_toArray, List.set_cons_zero, List.set_cons_succ])
              refine tk 3 6 ?_
              refine tk 4 7 ?_
              refine tk 5 8 ?_
              refine tk 6 9 ?_
              refine tk 7 10 ?_
              refine tk 8 11 ?_
              refine tk 9 12 ?_
              refine tk 10 13 ?_
              refine tk 11 14 ?_
              refine tk 12 15 ?_
              refine tk 13 16 ?_
              refine tk 14 17 ?_
              refine tk 15 18 ?_
              refine tk 16 19 ?_
              refine tk 17 20 ?_
              refine tk 18 21 ?_
              refine tk 19 22 ?_
              refine tk 20 23 ?_
              refine tk 21 24 ?_
              refine tk 22 25 ?_
              refine tk 23 26 ?_
              refine tk 25 28 ?_
              refine tk 26 29 ?_
              refine tk 29 32 ?_
              (refine held_call 24 (some 27) 82 _ rfl (by kernel_rfl) (by rfl) ?_ (forms_any _) ?_; rotate_left; rotate_left; (simp only [List.getElem?_toArray, List.getElem?_cons_zero, List.getElem?_cons_succ, Option.map_some]; refine congrArg some ?_; go_simp))
              rintro e u1 ⟨b, rfl, hb0, hb1, hbc, hbe⟩
              have hbl : Below (w.heap.size + 1) (w.alloc (Obj.cells #[.int .i64 id, .int .i64 kn, .int .u8 3, .string x, .string y, .int .i64 of] 50)) u1 := (Below.refl _ _).drew.trans (hbe.mono (by simp))
              refine ⟨_, rfl, HAL.out _ hbl, fun hHeld => ?_⟩
              (try simp only [Act.put, List.setIfInBounds_toArray, List.set_cons_zero, List.set_cons_succ])
              have hix := fun V => idx107_3 b V
              unfold formsC at hix ⊢
              have hfi := fun a b c d V => field106_1 a b c d V
              refine tk 27 30 ?_
              refine tk 28 31 ?_
              (refine held_call 30 (some 33) 147 _ rfl (by kernel_rfl) (by rfl) ?_ (HA2.out _) ?_; rotate_left; rotate_left; (simp only [List.getElem?_toArray, List.getElem?_cons_zero, List.getElem?_cons_succ, Option.map_some]; refine congrArg some ?_; go_simp))
              rintro e u2 ⟨rfl, hc2⟩
              have hb2 : Below (w.heap.size + 1) (w.alloc (Obj.cells #[.int .i64 id, .int .i64 kn, .int .u8 3, .string x, .string y, .int .i64 of] 50)) u2 := hbl.trans (hc2.mono (by have := hbl.size; simpa using this))
              refine ⟨_, rfl, HAL.out _ hb2, fun hHeld => ?_⟩
              (try simp only [Act.put, List.setIfInBounds_toArray, List.set_cons_zero, List.set_cons_succ])
              refine tk 31 34 ?_
              refine tk 32 2 ?_
              refine wpAnyH_done (by kernel_rfl) ?_ _
              clear hHeld
              go_wp2
              go_ret
              exact sh_ret (by rw [H0.out, H1.out, H2.out.1, H2.out.2, shpB_3 _ (.inl rfl)]; simp) (HBW.out _ hb2)
            · go_enter Tryz.func81, Tryz.ntmps81
              go_upto_region 1 with fail
              refine wp_region_held_drew (S := (fun w' => w'.cell? ⟨w.heap.size, 0, none⟩ = some (.int .i64 id) ∧ w'.cell? ⟨w.heap.size, 1, none⟩ = some (.int .i64 kn) ∧ w'.cell? ⟨w.heap.size, 2, none⟩ = some (.int .u8 4) ∧ w'.cell? ⟨w.heap.size, 3, none⟩ = some (.string x) ∧ w'.cell? ⟨w.heap.size, 4, none⟩ = some (.string y) ∧ w'.cell? ⟨w.heap.size, 5, none⟩ = some (.int .i64 of))) (by kernel_rfl) ?_ (fun hHeld => ?_)
              · exact HAL.out _ (Below.refl _ _).drew
              refine tk 0 3 ?_
              refine tk 1 4 ?_
              (refine held_call 2 (some 5) 119 _ rfl (by kernel_rfl) (by rfl) ?_ (isId_any id _) ?_; rotate_left; rotate_left; (simp only [List.getElem?_toArray, List.getElem?_cons_zero, List.getElem?_cons_succ, Option.map_some]; refine congrArg some ?_; go_simp))
              rintro e u0 ⟨rfl, rfl⟩
              rw [H1.out]
              refine ⟨_, rfl, HAL.out _ (Below.refl _ _).drew, fun hHeld => ?_⟩
              (try simp only [Act.put, List.setIfInBounds_toArray, List.set_cons_zero, List.set_cons_succ])
              refine tk 3 6 ?_
              refine tk 4 7 ?_
              refine tk 5 8 ?_
              refine tk 6 9 ?_
              refine tk 7 10 ?_
              refine tk 8 11 ?_
              refine tk 9 12 ?_
              refine tk 10 13 ?_
              refine tk 11 14 ?_
              refine tk 12 15 ?_
              refine tk 13 16 ?_
              refine tk 14 17 ?_
              refine tk 15 18 ?_
              refine tk 16 19 ?_
              refine tk 17 20 ?_
              refine tk 18 21 ?_
              refine tk 19 22 ?_
              refine tk 20 23 ?_
              refine tk 21 24 ?_
              refine tk 22 25 ?_
              refine tk 23 26 ?_
              refine tk 25 28 ?_
              refine tk 26 29 ?_
              refine tk 29 32 ?_
              (refine held_call 24 (some 27) 82 _ rfl (by kernel_rfl) (by rfl) ?_ (forms_any _) ?_; rotate_left; rotate_left; (simp only [List.getElem?_toArray, List.getElem?_cons_zero, List.getElem?_cons_succ, Option.map_some]; refine congrArg some ?_; go_simp))
              rintro e u1 ⟨b, rfl, hb0, hb1, hbc, hbe⟩
              have hbl : Below (w.heap.size + 1) (w.alloc (Obj.cells #[.int .i64 id, .int .i64 kn, .int .u8 4, .string x, .string y, .int .i64 of] 50)) u1 := (Below.refl _ _).drew.trans (hbe.mono (by simp))
              refine ⟨_, rfl, HAL.out _ hbl, fun hHeld => ?_⟩
              (try simp only [Act.put, List.setIfInBounds_toArray, List.set_cons_zero, List.set_cons_succ])
              have hix := fun V => idx107_4 b V
              unfold formsC at hix ⊢
              have hfi := fun a b c d V => field106_1 a b c d V
              refine tk 27 30 ?_
              refine tk 28 31 ?_
              (refine held_call 30 (some 33) 147 _ rfl (by kernel_rfl) (by rfl) ?_ (HA2.out _) ?_; rotate_left; rotate_left; (simp only [List.getElem?_toArray, List.getElem?_cons_zero, List.getElem?_cons_succ, Option.map_some]; refine congrArg some ?_; go_simp))
              rintro e u2 ⟨rfl, hc2⟩
              have hb2 : Below (w.heap.size + 1) (w.alloc (Obj.cells #[.int .i64 id, .int .i64 kn, .int .u8 4, .string x, .string y, .int .i64 of] 50)) u2 := hbl.trans (hc2.mono (by have := hbl.size; simpa using this))
              refine ⟨_, rfl, HAL.out _ hb2, fun hHeld => ?_⟩
              (try simp only [Act.put, List.setIfInBounds_toArray, List.set_cons_zero, List.set_cons_succ])
              refine tk 31 34 ?_
              refine tk 32 2 ?_
              refine wpAnyH_done (by kernel_rfl) ?_ _
              clear hHeld
              go_wp2
              go_ret
              exact sh_ret (by rw [H0.out, H1.out, H2.out.1, H2.out.2, shpB_3 _ (.inr rfl)]; simp) (HBW.out _ hb2)
            · go_enter Tryz.func81, Tryz.ntmps81
              go_upto_region 1 with fail
              refine wp_region_held_drew (S := (fun w' => w'.cell? ⟨w.heap.size, 0, none⟩ = some (.int .i64 id) ∧ w'.cell? ⟨w.heap.size, 1, none⟩ = some (.int .i64 kn) ∧ w'.cell? ⟨w.heap.size, 2, none⟩ = some (.int .u8 5) ∧ w'.cell? ⟨w.heap.size, 3, none⟩ = some (.string x) ∧ w'.cell? ⟨w.heap.size, 4, none⟩ = some (.string y) ∧ w'.cell? ⟨w.heap.size, 5, none⟩ = some (.int .i64 of))) (by kernel_rfl) ?_ (fun hHeld => ?_)
              · exact HAL.out _ (Below.refl _ _).drew
              refine tk 0 3 ?_
              refine tk 1 4 ?_
              (refine held_call 2 (some 5) 119 _ rfl (by kernel_rfl) (by rfl) ?_ (isId_any id _) ?_; rotate_left; rotate_left; (simp only [List.getElem?_toArray, List.getElem?_cons_zero, List.getElem?_cons_succ, Option.map_some]; refine congrArg some ?_; go_simp))
              rintro e u0 ⟨rfl, rfl⟩
              rw [H1.out]
              refine ⟨_, rfl, HAL.out _ (Below.refl _ _).drew, fun hHeld => ?_⟩
              (try simp only [Act.put, List.setIfInBounds_toArray, List.set_cons_zero, List.set_cons_succ])
              refine tk 3 6 ?_
              refine tk 4 7 ?_
              refine tk 5 8 ?_
              refine tk 6 9 ?_
              refine tk 7 10 ?_
              refine tk 8 11 ?_
              refine tk 9 12 ?_
              refine tk 10 13 ?_
              refine tk 11 14 ?_
              refine tk 12 15 ?_
              refine tk 13 16 ?_
              refine tk 14 17 ?_
              refine tk 15 18 ?_
              refine tk 16 19 ?_
              refine tk 17 20 ?_
              refine tk 18 21 ?_
              refine tk 19 22 ?_
              refine tk 20 23 ?_
              refine tk 21 24 ?_
              refine tk 22 25 ?_
              refine tk 23 26 ?_
              refine tk 25 28 ?_
              refine tk 26 29 ?_
              refine tk 29 32 ?_
              (refine held_call 24 (some 27) 82 _ rfl (by kernel_rfl) (by rfl) ?_ (forms_any _) ?_; rotate_left; rotate_left; (simp only [List.getElem?_toArray, List.getElem?_cons_zero, List.getElem?_cons_succ, Option.map_some]; refine congrArg some ?_; go_simp))
              rintro e u1 ⟨b, rfl, hb0, hb1, hbc, hbe⟩
              have hbl : Below (w.heap.size + 1) (w.alloc (Obj.cells #[.int .i64 id, .int .i64 kn, .int .u8 5, .string x, .string y, .int .i64 of] 50)) u1 := (Below.refl _ _).drew.trans (hbe.mono (by simp))
              refine ⟨_, rfl, HAL.out _ hbl, fun hHeld => ?_⟩
              (try simp only [Act.put, List.setIfInBounds_toArray, List.set_cons_zero, List.set_cons_succ])
              have hix := fun V => idx107_5 b V
              unfold formsC at hix ⊢
              have hfi := fun a b c d V => field106_1 a b c d V
              refine tk 27 30 ?_
              refine tk 28 31 ?_
              (refine held_call 30 (some 33) 121 _ rfl (by kernel_rfl) (by rfl) ?_ (HA5.out b _ hb1 hbc) ?_; rotate_left; rotate_left; (simp only [List.getElem?_toArray, List.getElem?_cons_zero, List.getElem?_cons_succ, Option.map_some]; refine congrArg some ?_; go_simp))
              rintro e u2 ⟨rfl, hc2⟩
              have hb2 : Below (w.heap.size + 1) (w.alloc (Obj.cells #[.int .i64 id, .int .i64 kn, .int .u8 5, .string x, .string y, .int .i64 of] 50)) u2 := hbl.trans (hc2.mono (by have := hbl.size; simpa using this))
              refine ⟨_, rfl, HAL.out _ hb2, fun hHeld => ?_⟩
              (try simp only [Act.put, List.setIfInBounds_toArray, List.set_cons_zero, List.set_cons_succ])
              refine tk 31 34 ?_
              refine tk 32 2 ?_
              refine wpAnyH_done (by kernel_rfl) ?_ _
              clear hHeld
              go_wp2
              go_ret
              exact sh_ret (by rw [H0.out, H1.out, H2.out.1, H2.out.2, shpB_5 _ rfl]; simp) (HBW.out _ hb2)
            · go_enter Tryz.func81, Tryz.ntmps81
              go_upto_region 1 with fail
              refine wp_region_held_drew (S := (fun w' => w'.cell? ⟨w.heap.size, 0, none⟩ = some (.int .i64 id) ∧ w'.cell? ⟨w.heap.size, 1, none⟩ = some (.int .i64 kn) ∧ w'.cell? ⟨w.heap.size, 2, none⟩ = some (.int .u8 6) ∧ w'.cell? ⟨w.heap.size, 3, none⟩ = some (.string x) ∧ w'.cell? ⟨w.heap.size, 4, none⟩ = some (.string y) ∧ w'.cell? ⟨w.heap.size, 5, none⟩ = some (.int .i64 of))) (by kernel_rfl) ?_ (fun hHeld => ?_)
              · exact HAL.out _ (Below.refl _ _).drew
              refine tk 0 3 ?_
              refine tk 1 4 ?_
              (refine held_call 2 (some 5) 119 _ rfl (by kernel_rfl) (by rfl) ?_ (isId_any id _) ?_; rotate_left; rotate_left; (simp only [List.getElem?_toArray, List.getElem?_cons_zero, List.getElem?_cons_succ, Option.map_some]; refine congrArg some ?_; go_simp))
              rintro e u0 ⟨rfl, rfl⟩
              rw [H1.out]
              refine ⟨_, rfl, HAL.out _ (Below.refl _ _).drew, fun hHeld => ?_⟩
              (try simp only [Act.put, List.setIfInBounds_toArray, List.set_cons_zero, List.set_cons_succ])
              refine tk 3 6 ?_
              refine tk 4 7 ?_
              refine tk 5 8 ?_
              refine tk 6 9 ?_
              refine tk 7 10 ?_
              refine tk 8 11 ?_
              refine tk 9 12 ?_
              refine tk 10 13 ?_
              refine tk 11 14 ?_
              refine tk 12 15 ?_
              refine tk 13 16 ?_
              refine tk 14 17 ?_
              refine tk 15 18 ?_
              refine tk 16 19 ?_
              refine tk 17 20 ?_
              refine tk 18 21 ?_
              refine tk 19 22 ?_
              refine tk 20 23 ?_
              refine tk 21 24 ?_
              refine tk 22 25 ?_
              refine tk 23 26 ?_
              refine tk 25 28 ?_
              refine tk 26 29 ?_
              refine tk 29 32 ?_
              (refine held_call 24 (some 27) 82 _ rfl (by kernel_rfl) (by rfl) ?_ (forms_any _) ?_; rotate_left; rotate_left; (simp only [List.getElem?_toArray, List.getElem?_cons_zero, List.getElem?_cons_succ, Option.map_some]; refine congrArg some ?_; go_simp))
              rintro e u1 ⟨b, rfl, hb0, hb1, hbc, hbe⟩
              have hbl : Below (w.heap.size + 1) (w.alloc (Obj.cells #[.int .i64 id, .int .i64 kn, .int .u8 6, .string x, .string y, .int .i64 of] 50)) u1 := (Below.refl _ _).drew.trans (hbe.mono (by simp))
              refine ⟨_, rfl, HAL.out _ hbl, fun hHeld => ?_⟩
              (try simp only [Act.put, List.setIfInBounds_toArray, List.set_cons_zero, List.set_cons_succ])
              have hix := fun V => idx107_6 b V
              unfold formsC at hix ⊢
              have hfi := fun a b c d V => field106_1 a b c d V
              refine tk 27 30 ?_
              refine tk 28 31 ?_
              (refine held_call 30 (some 33) 122 _ rfl (by kernel_rfl) (by rfl) ?_ (HA6.out _) ?_; rotate_left; rotate_left; (simp only [List.getElem?_toArray, List.getElem?_cons_zero, List.getElem?_cons_succ, Option.map_some]; refine congrArg some ?_; go_simp))
              rintro e u2 ⟨rfl, hc2⟩
              have hb2 : Below (w.heap.size + 1) (w.alloc (Obj.cells #[.int .i64 id, .int .i64 kn, .int .u8 6, .string x, .string y, .int .i64 of] 50)) u2 := hbl.trans (hc2.mono (by have := hbl.size; simpa using this))
              refine ⟨_, rfl, HAL.out _ hb2, fun hHeld => ?_⟩
              (try simp only [Act.put, List.setIfInBounds_toArray, List.set_cons_zero, List.set_cons_succ])
              refine tk 31 34 ?_
              refine tk 32 2 ?_
              refine wpAnyH_done (by kernel_rfl) ?_ _
              clear hHeld
              go_wp2
              go_ret
              exact sh_ret (by rw [H0.out, H1.out, H2.out.1, H2.out.2, shpB_6 _ rfl]; simp) (HBW.out _ hb2)
          · have H5 := Lib.hid (HS0.out (fun h => h5 h.2))
            go_enter Tryz.func81, Tryz.ntmps81
            go_upto_region 1 with fail
            refine wp_region_held_drew (S := (fun w' => w'.cell? ⟨w.heap.size, 0, none⟩ = some (.int .i64 id) ∧ w'.cell? ⟨w.heap.size, 1, none⟩ = some (.int .i64 kn) ∧ w'.cell? ⟨w.heap.size, 2, none⟩ = some (.int .u8 kd) ∧ w'.cell? ⟨w.heap.size, 3, none⟩ = some (.string x) ∧ w'.cell? ⟨w.heap.size, 4, none⟩ = some (.string y) ∧ w'.cell? ⟨w.heap.size, 5, none⟩ = some (.int .i64 of))) (by kernel_rfl) ?_ (fun hHeld => ?_)
            · exact HAL.out _ (Below.refl _ _).drew
            refine tk 0 3 ?_
            refine tk 1 4 ?_
            (refine held_call 2 (some 5) 119 _ rfl (by kernel_rfl) (by rfl) ?_ (isId_any id _) ?_; rotate_left; rotate_left; (simp only [List.getElem?_toArray, List.getElem?_cons_zero, List.getElem?_cons_succ, Option.map_some]; refine congrArg some ?_; go_simp))
            rintro e u0 ⟨rfl, rfl⟩
            rw [H1.out]
            refine ⟨_, rfl, HAL.out _ (Below.refl _ _).drew, fun hHeld => ?_⟩
            (try simp only [Act.put, List.setIfInBounds_toArray, List.set_cons_zero, List.set_cons_succ])
            refine tk 3 6 ?_
            refine tk 4 7 ?_
            refine tk 5 8 ?_
            refine tk 6 9 ?_
            refine tk 7 10 ?_
            refine tk 8 11 ?_
            refine tk 9 12 ?_
            refine tk 10 13 ?_
            refine tk 11 14 ?_
            refine tk 12 15 ?_
            refine tk 13 16 ?_
            refine tk 14 17 ?_
            refine tk 15 18 ?_
            refine tk 16 19 ?_
            refine tk 17 20 ?_
            refine tk 18 21 ?_
            refine tk 19 22 ?_
            refine tk 20 23 ?_
            refine tk 21 24 ?_
            refine tk 22 25 ?_
            refine tk 23 26 ?_
            refine sk 24 27 ?_
            refine sk 25 28 ?_
            refine sk 26 29 ?_
            refine sk 27 30 ?_
            refine sk 28 31 ?_
            refine sk 29 32 ?_
            refine sk 30 33 ?_
            refine tk 31 34 ?_
            refine tk 32 2 ?_
            refine wpAnyH_done (by kernel_rfl) ?_ _
            clear hHeld
            go_wp2
            go_ret
            exact sh_ret (by rw [H0.out]; rw [H5.out]; simp) (HBW.out _ (Below.refl _ _).drew)
        · have H5 := Lib.hid (HS0.out (fun h => h4 h.1))
          go_enter Tryz.func81, Tryz.ntmps81
          go_upto_region 1 with fail
          refine wp_region_held_drew (S := (fun w' => w'.cell? ⟨w.heap.size, 0, none⟩ = some (.int .i64 id) ∧ w'.cell? ⟨w.heap.size, 1, none⟩ = some (.int .i64 kn) ∧ w'.cell? ⟨w.heap.size, 2, none⟩ = some (.int .u8 kd) ∧ w'.cell? ⟨w.heap.size, 3, none⟩ = some (.string x) ∧ w'.cell? ⟨w.heap.size, 4, none⟩ = some (.string y) ∧ w'.cell? ⟨w.heap.size, 5, none⟩ = some (.int .i64 of))) (by kernel_rfl) ?_ (fun hHeld => ?_)
          · exact HAL.out _ (Below.refl _ _).drew
          refine tk 0 3 ?_
          refine tk 1 4 ?_
          (refine held_call 2 (some 5) 119 _ rfl (by kernel_rfl) (by rfl) ?_ (isId_any id _) ?_; rotate_left; rotate_left; (simp only [List.getElem?_toArray, List.getElem?_cons_zero, List.getElem?_cons_succ, Option.map_some]; refine congrArg some ?_; go_simp))
          rintro e u0 ⟨rfl, rfl⟩
          rw [H1.out]
          refine ⟨_, rfl, HAL.out _ (Below.refl _ _).drew, fun hHeld => ?_⟩
          (try simp only [Act.put, List.setIfInBounds_toArray, List.set_cons_zero, List.set_cons_succ])
          refine tk 3 6 ?_
          refine tk 4 7 ?_
          refine tk 5 8 ?_
          refine tk 6 9 ?_
          refine tk 7 10 ?_
          refine tk 8 11 ?_
          refine tk 9 12 ?_
          refine tk 10 13 ?_
          refine tk 11 14 ?_
          refine tk 12 15 ?_
          refine tk 13 16 ?_
          refine tk 14 17 ?_
          refine tk 15 18 ?_
          refine tk 16 19 ?_
          refine tk 17 20 ?_
          refine tk 18 21 ?_
          refine sk 19 22 ?_
          refine sk 20 23 ?_
          refine sk 21 24 ?_
          refine tk 22 25 ?_
          refine tk 23 26 ?_
          refine sk 24 27 ?_
          refine sk 25 28 ?_
          refine sk 26 29 ?_
          refine sk 27 30 ?_
          refine sk 28 31 ?_
          refine sk 29 32 ?_
          refine sk 30 33 ?_
          refine tk 31 34 ?_
          refine tk 32 2 ?_
          refine wpAnyH_done (by kernel_rfl) ?_ _
          clear hHeld
          go_wp2
          go_ret
          exact sh_ret (by rw [H0.out]; rw [H5.out]; simp) (HBW.out _ (Below.refl _ _).drew)
      · have H5 := Lib.hid h3
        go_enter Tryz.func81, Tryz.ntmps81
        go_upto_region 1 with fail
        refine wp_region_held_drew (S := (fun w' => w'.cell? ⟨w.heap.size, 0, none⟩ = some (.int .i64 id) ∧ w'.cell? ⟨w.heap.size, 1, none⟩ = some (.int .i64 kn) ∧ w'.cell? ⟨w.heap.size, 2, none⟩ = some (.int .u8 kd) ∧ w'.cell? ⟨w.heap.size, 3, none⟩ = some (.string x) ∧ w'.cell? ⟨w.heap.size, 4, none⟩ = some (.string y) ∧ w'.cell? ⟨w.heap.size, 5, none⟩ = some (.int .i64 of))) (by kernel_rfl) ?_ (fun hHeld => ?_)
        · exact HAL.out _ (Below.refl _ _).drew
        refine tk 0 3 ?_
        refine tk 1 4 ?_
        (refine held_call 2 (some 5) 119 _ rfl (by kernel_rfl) (by rfl) ?_ (isId_any id _) ?_; rotate_left; rotate_left; (simp only [List.getElem?_toArray, List.getElem?_cons_zero, List.getElem?_cons_succ, Option.map_some]; refine congrArg some ?_; go_simp))
        rintro e u0 ⟨rfl, rfl⟩
        rw [H1.out]
        refine ⟨_, rfl, HAL.out _ (Below.refl _ _).drew, fun hHeld => ?_⟩
        (try simp only [Act.put, List.setIfInBounds_toArray, List.set_cons_zero, List.set_cons_succ])
        refine tk 3 6 ?_
        refine tk 4 7 ?_
        refine tk 5 8 ?_
        refine tk 6 9 ?_
        refine tk 7 10 ?_
        refine tk 8 11 ?_
        refine tk 9 12 ?_
        refine tk 10 13 ?_
        refine tk 11 14 ?_
        refine tk 12 15 ?_
        refine tk 13 16 ?_
        refine sk 14 17 ?_
        refine sk 15 18 ?_
        refine sk 16 19 ?_
        refine tk 17 20 ?_
        refine tk 18 21 ?_
        refine sk 19 22 ?_
        refine sk 20 23 ?_
        refine sk 21 24 ?_
        refine tk 22 25 ?_
        refine tk 23 26 ?_
        refine sk 24 27 ?_
        refine sk 25 28 ?_
        refine sk 26 29 ?_
        refine sk 27 30 ?_
        refine sk 28 31 ?_
        refine sk 29 32 ?_
        refine sk 30 33 ?_
        refine tk 31 34 ?_
        refine tk 32 2 ?_
        refine wpAnyH_done (by kernel_rfl) ?_ _
        clear hHeld
        go_wp2
        go_ret
        exact sh_ret (by rw [H0.out]; rw [decide_eq_false (by have := H5.out; omega : ¬ kn ≤ 100000)]; simp) (HBW.out _ (Below.refl _ _).drew)
    · have H5 := Lib.hid h2
      go_enter Tryz.func81, Tryz.ntmps81
      go_upto_region 1 with fail
      refine wp_region_held_drew (S := (fun w' => w'.cell? ⟨w.heap.size, 0, none⟩ = some (.int .i64 id) ∧ w'.cell? ⟨w.heap.size, 1, none⟩ = some (.int .i64 kn) ∧ w'.cell? ⟨w.heap.size, 2, none⟩ = some (.int .u8 kd) ∧ w'.cell? ⟨w.heap.size, 3, none⟩ = some (.string x) ∧ w'.cell? ⟨w.heap.size, 4, none⟩ = some (.string y) ∧ w'.cell? ⟨w.heap.size, 5, none⟩ = some (.int .i64 of))) (by kernel_rfl) ?_ (fun hHeld => ?_)
      · exact HAL.out _ (Below.refl _ _).drew
      refine tk 0 3 ?_
      refine tk 1 4 ?_
      (refine held_call 2 (some 5) 119 _ rfl (by kernel_rfl) (by rfl) ?_ (isId_any id _) ?_; rotate_left; rotate_left; (simp only [List.getElem?_toArray, List.getElem?_cons_zero, List.getElem?_cons_succ, Option.map_some]; refine congrArg some ?_; go_simp))
      rintro e u0 ⟨rfl, rfl⟩
      rw [H1.out]
      refine ⟨_, rfl, HAL.out _ (Below.refl _ _).drew, fun hHeld => ?_⟩
      (try simp only [Act.put, List.setIfInBounds_toArray, List.set_cons_zero, List.set_cons_succ])
      refine tk 3 6 ?_
      refine tk 4 7 ?_
      refine tk 5 8 ?_
      refine tk 6 9 ?_
      refine tk 7 10 ?_
      refine tk 8 11 ?_
      refine sk 9 12 ?_
      refine sk 10 13 ?_
      refine sk 11 14 ?_
      refine tk 12 15 ?_
      refine tk 13 16 ?_
      refine sk 14 17 ?_
      refine sk 15 18 ?_
      refine sk 16 19 ?_
      refine tk 17 20 ?_
      refine tk 18 21 ?_
      refine sk 19 22 ?_
      refine sk 20 23 ?_
      refine sk 21 24 ?_
      refine tk 22 25 ?_
      refine tk 23 26 ?_
      refine sk 24 27 ?_
      refine sk 25 28 ?_
      refine sk 26 29 ?_
      refine sk 27 30 ?_
      refine sk 28 31 ?_
      refine sk 29 32 ?_
      refine sk 30 33 ?_
      refine tk 31 34 ?_
      refine tk 32 2 ?_
      refine wpAnyH_done (by kernel_rfl) ?_ _
      clear hHeld
      go_wp2
      go_ret
      exact sh_ret (by rw [H0.out]; rw [decide_eq_false (by have := H5.out; omega : ¬ 0 ≤ kn)]; simp) (HBW.out _ (Below.refl _ _).drew)
  · have h1' : idB id = false := by simpa using h1
    have H1 := Lib.hid h1'; clear h1 h1'
    go_enter Tryz.func81, Tryz.ntmps81
    go_upto_region 1 with fail
    refine wp_region_held_drew (S := (fun w' => w'.cell? ⟨w.heap.size, 0, none⟩ = some (.int .i64 id) ∧ w'.cell? ⟨w.heap.size, 1, none⟩ = some (.int .i64 kn) ∧ w'.cell? ⟨w.heap.size, 2, none⟩ = some (.int .u8 kd) ∧ w'.cell? ⟨w.heap.size, 3, none⟩ = some (.string x) ∧ w'.cell? ⟨w.heap.size, 4, none⟩ = some (.string y) ∧ w'.cell? ⟨w.heap.size, 5, none⟩ = some (.int .i64 of))) (by kernel_rfl) ?_ (fun hHeld => ?_)
    · exact HAL.out _ (Below.refl _ _).drew
    refine tk 0 3 ?_
    refine tk 1 4 ?_
    (refine held_call 2 (some 5) 119 _ rfl (by kernel_rfl) (by rfl) ?_ (isId_any id _) ?_; rotate_left; rotate_left; (simp only [List.getElem?_toArray, List.getElem?_cons_zero, List.getElem?_cons_succ, Option.map_some]; refine congrArg some ?_; go_simp))
    rintro e u0 ⟨rfl, rfl⟩
    rw [H1.out]
    refine ⟨_, rfl, HAL.out _ (Below.refl _ _).drew, fun hHeld => ?_⟩
    (try simp only [Act.put, List.setIfInBounds_toArray, List.set_cons_zero, List.set_cons_succ])
    refine tk 3 6 ?_
    refine sk 4 7 ?_
    refine sk 5 8 ?_
    refine sk 6 9 ?_
    refine tk 7 10 ?_
    refine tk 8 11 ?_
    refine sk 9 12 ?_
    refine sk 10 13 ?_
    refine sk 11 14 ?_
    refine tk 12 15 ?_
    refine tk 13 16 ?_
    refine sk 14 17 ?_
    refine sk 15 18 ?_
    refine sk 16 19 ?_
    refine tk 17 20 ?_
    refine tk 18 21 ?_
    refine sk 19 22 ?_
    refine sk 20 23 ?_
    refine sk 21 24 ?_
    refine tk 22 25 ?_
    refine tk 23 26 ?_
    refine sk 24 27 ?_
    refine sk 25 28 ?_
    refine sk 26 29 ?_
    refine sk 27 30 ?_
    refine sk 28 31 ?_
    refine sk 29 32 ?_
    refine sk 30 33 ?_
    refine tk 31 34 ?_
    refine tk 32 2 ?_
    refine wpAnyH_done (by kernel_rfl) ?_ _
    clear hHeld
    go_wp2
    go_ret
    exact sh_ret (by rw [H0.out]; rw [H1.out]; simp) (HBW.out _ (Below.refl _ _).drew)
theorem formed_any (r : Rul) (w : World) (hs : r.x.size ≤ 100) (hs2 : r.y.size ≤ 100) : Calls Tryz.prog 81 #[r.agg] w (ShEnd (frm r) w) := formed_big r w (by omega) (by omega)
end Go.Proofs.YtkfeagokmcakgaaGreatDoor
