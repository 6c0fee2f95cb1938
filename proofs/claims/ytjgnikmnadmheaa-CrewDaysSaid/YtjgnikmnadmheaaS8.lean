/- The four conditions of crew.suits, and suits itself. -/
import Derived.Test.YtjgnikmnadmheaaS7
import Derived.Test.YtjgnikmnadmheaaD2a
import Derived.Deep.RegionHeld3
import Derived.Deep.DrawnRows
namespace Go.Proofs.Ytjgnikmnadmheaa
open Go.RowKit
attribute [local go_sem ↓] Go.wp_at_zero Go.wp_at_succ

theorem ownsSlice {w : World} {b : Nat} {e : TypeId} {size n : Nat} {v : Value} {xs : List Value} (h : w.ownsRow b e size v n xs) : ∃ A c, v = .slice A n c ∧ n ≤ c ∧ c ≤ maxLen := by
  rcases h.2 with ⟨rfl, rfl⟩ | ⟨g, cap, cur, rfl, _, _, h1, h2, _⟩
  · exact ⟨none, 0, rfl, Nat.le_refl _, Nat.zero_le _⟩
  · exact ⟨_, _, rfl, h1, h2⟩
set_option maxHeartbeats 400000 in
theorem cond1_any (C : Array Value) (Y : Yd) (d : Int) (b0 b2 : Nat) (w : World) (hY : YardAt w w.heap.size C Y) (hv : Valid Y) (hK : Bk w b0 29 C) (hd : w.cell? ⟨b2, 0, none⟩ = some (.int .i64 d)) :
    Calls Try.prog 124 #[.pointer (some ⟨b0, 0, none⟩), .pointer (some ⟨b2, 0, none⟩)] w (ShEnd (openB Y d) w) := by
  have HO := Lib.hid (open_any C Y d w hY hv)
  have HC28 := Lib.hid hY.len
  have HR := Lib.hid hK.range
  clear hY hv hK
  go_enter Try.func124, Try.ntmps124
  go_wp2_with (first | (refine wpList_load_guard (P := Try.prog) (by rfl) 29 (.tmp 0) rfl b0 0 rfl C.toList _ HR.out Try.underlying29 rfl (by rw [HC28.out]; exact info29) ?_) | (go_at_call 106; refine HO.out.mono ?_; rintro e w1 ⟨rfl, hb⟩))
  go_ret
  exact ⟨rfl, hb⟩

set_option maxRecDepth 100000 in
set_option maxHeartbeats 1000000 in
theorem cond2_any (C : Array Value) (Y : Yd) (d x : Int) (b0 b2 b3 : Nat) (w : World) (hY : YardAt w w.heap.size C Y) (hv : Valid Y) (hK : Bk w b0 29 C) (hd : w.cell? ⟨b2, 0, none⟩ = some (.int .i64 d)) (hx : w.cell? ⟨b3, 0, none⟩ = some (.int .i64 x)) :
    Calls Try.prog 125 #[.pointer (some ⟨b0, 0, none⟩), .pointer (some ⟨b2, 0, none⟩), .pointer (some ⟨b3, 0, none⟩)] w (ShEnd (decide (x ≤ minOf Y d)) w) := by
  have HO := Lib.hid (fun W (hb : Below w.heap.size w W) => minutes_any C Y d W ((hY.below hb (Nat.le_refl _)).more hb.size) hv)
  have h28 := hY.len
  have hi : (Try.prog.info? 29).map (·.size) = some C.toList.length := by rw [h28]; exact info29
  have hu := Try.underlying29
  have l2 := block_lt_of_cell hd
  have l3 := block_lt_of_cell hx
  have l0 := hK.lt
  have HR := hK.range
  dsimp only at l2 l3
  clear hY hv
  generalize minOf Y d = m at *
  go_enter Try.func125, Try.ntmps125
  go_wp2
  refine wp_region_held_drew (S := (fun w' => w'.rangeAt b0 0 C.toList ∧ w'.cell? ⟨b2, 0, none⟩ = some (.int .i64 d) ∧ w'.cell? ⟨b3, 0, none⟩ = some (.int .i64 x))) (by kernel_rfl) ?_ (fun hHeld => ?_)
  · (refine ⟨?_, ?_, ?_⟩ <;> first | assumption | go_keep)
  (refine held_row 0 (some 4) 29 (.tmp 0) (b0) 0 C.toList _ rfl rfl (by kernel_rfl) (by kernel_rfl) (by kernel_rfl) (by rfl) rfl (fun _ _ _ h => h) (by assumption) (fun _ hS => hS.1) Try.underlying29 rfl (by assumption) ?_; (try simp only [Act.put, List.setIfInBounds_toArray, List.set_cons_zero, List.set_cons_succ]))
  (refine held_take 1 (some 5) ?_ rfl (by kernel_rfl) (by kernel_rfl) (by kernel_rfl) (by rfl) (fun _ _ _ h => h) (by assumption) (fun w hSw => ?_) ?_; rotate_left; ((try dsimp only at hSw); simp only [List.getElem?_toArray, List.getElem?_cons_zero, List.getElem?_cons_succ, Option.map_some]; refine congrArg some ?_; go_simp; (try with_reducible rfl)); (try simp only [Act.put, List.setIfInBounds_toArray, List.set_cons_zero, List.set_cons_succ]))
  (refine held_take 3 (some 7) ?_ rfl (by kernel_rfl) (by kernel_rfl) (by kernel_rfl) (by rfl) (fun _ _ _ h => h) (by assumption) (fun w hSw => ?_) ?_; rotate_left; ((try dsimp only at hSw); simp only [List.getElem?_toArray, List.getElem?_cons_zero, List.getElem?_cons_succ, Option.map_some]; refine congrArg some ?_; go_simp; (try with_reducible rfl)); (try simp only [Act.put, List.setIfInBounds_toArray, List.set_cons_zero, List.set_cons_succ]))
  (refine held_take 4 (some 8) ?_ rfl (by kernel_rfl) (by kernel_rfl) (by kernel_rfl) (by rfl) (fun _ _ _ h => h) (by assumption) (fun w hSw => ?_) ?_; rotate_left; ((try dsimp only at hSw); simp only [List.getElem?_toArray, List.getElem?_cons_zero, List.getElem?_cons_succ, Option.map_some]; refine congrArg some ?_; go_simp; (try with_reducible rfl)); (try simp only [Act.put, List.setIfInBounds_toArray, List.set_cons_zero, List.set_cons_succ]))
  (refine held_call 2 (some 6) 107 _ rfl (by kernel_rfl) (by rfl) ?_ (HO.out _ (by exact (by repeat (first | with_reducible exact Below.refl _ _ | with_reducible assumption | with_reducible refine Below.drew ?_ | with_reducible refine below_drewN ?_ _ | (with_reducible refine Below.alloc ?_ ?_ _; rotate_left; (try simp) <;> omega) | (with_reducible refine Below.setCell ?_ ?_ _; rotate_left; (try simp) <;> omega))))) ?_; rotate_left; rotate_left; (simp only [List.getElem?_toArray, List.getElem?_cons_zero, List.getElem?_cons_succ, Option.map_some]; refine congrArg some ?_; go_simp))
  rintro e w5 ⟨rfl, hb5'⟩
  have hb5 : Below w.heap.size w w5 := Below.trans (by exact (by repeat (first | with_reducible exact Below.refl _ _ | with_reducible assumption | with_reducible refine Below.drew ?_ | with_reducible refine below_drewN ?_ _ | (with_reducible refine Below.alloc ?_ ?_ _; rotate_left; (try simp) <;> omega) | (with_reducible refine Below.setCell ?_ ?_ _; rotate_left; (try simp) <;> omega)))) (hb5'.mono (by first | omega | simp))
  refine ⟨_, rfl, ⟨hK.below hb5 l0 |>.range, (hb5.cell (p := ⟨b2, 0, none⟩) l2).trans hd, (hb5.cell (p := ⟨b3, 0, none⟩) l3).trans hx⟩, fun hHeld => ?_⟩
  (try simp only [Act.put, List.setIfInBounds_toArray, List.set_cons_zero, List.set_cons_succ])
  (refine held_take 5 (some 9) ?_ rfl (by kernel_rfl) (by kernel_rfl) (by kernel_rfl) (by rfl) (fun _ _ _ h => h) (by assumption) (fun w hSw => ?_) ?_; rotate_left; ((try dsimp only at hSw); simp only [List.getElem?_toArray, List.getElem?_cons_zero, List.getElem?_cons_succ, Option.map_some]; refine congrArg some ?_; go_simp; (try with_reducible rfl)); (try simp only [Act.put, List.setIfInBounds_toArray, List.set_cons_zero, List.set_cons_succ]))
  (refine held_take 6 (some 3) ?_ rfl (by kernel_rfl) (by kernel_rfl) (by kernel_rfl) (by rfl) (fun _ _ _ h => h) (by assumption) (fun w hSw => ?_) ?_; rotate_left; ((try dsimp only at hSw); simp only [List.getElem?_toArray, List.getElem?_cons_zero, List.getElem?_cons_succ, Option.map_some]; refine congrArg some ?_; go_simp; (try with_reducible rfl)); (try simp only [Act.put, List.setIfInBounds_toArray, List.set_cons_zero, List.set_cons_succ]))
  refine wpAnyH_done (by kernel_rfl) ?_ _
  go_wp2
  go_ret
  exact ⟨rfl, hb5⟩

set_option maxRecDepth 100000 in
set_option maxHeartbeats 1000000 in
theorem cond3_any (C : Array Value) (Y : Yd) (d : Int) (k : Nat) (b0 b2 b3 : Nat) (w : World) (hk : k ≤ 1000) (hY : YardAt w w.heap.size C Y) (hv : Valid Y) (hK : Bk w b0 29 C) (hd : w.cell? ⟨b2, 0, none⟩ = some (.int .i64 d)) (hx : w.cell? ⟨b3, 0, none⟩ = some (.int .i64 k)) :
    Calls Try.prog 126 #[.pointer (some ⟨b0, 0, none⟩), .pointer (some ⟨b2, 0, none⟩), .pointer (some ⟨b3, 0, none⟩)] w (ShEnd (decide ((k : Int) + 1 ≤ batOf Y.pi d)) w) := by
  have HO := Lib.hid (fun W (hb : Below w.heap.size w W) => batches_any C Y d W ((hY.below hb (Nat.le_refl _)).more hb.size) hv)
  have h28 := hY.len
  have hi : (Try.prog.info? 29).map (·.size) = some C.toList.length := by rw [h28]; exact info29
  have l2 := block_lt_of_cell hd
  have l3 := block_lt_of_cell hx
  have l0 := hK.lt
  have HR := hK.range
  dsimp only at l2 l3
  clear hY hv
  generalize batOf Y.pi d = m at *
  have WW : Hid (IntKind.i64.wrap ((k : Int) + 1) = (k : Int) + 1) := IntWalk.i64_in _ (by omega)
  go_enter Try.func126, Try.ntmps126
  go_wp2
  refine wp_region_held_drew (S := (fun w' => w'.rangeAt b0 0 C.toList ∧ w'.cell? ⟨b2, 0, none⟩ = some (.int .i64 d) ∧ w'.cell? ⟨b3, 0, none⟩ = some (.int .i64 k))) (by kernel_rfl) ?_ (fun hHeld => ?_)
  · (refine ⟨?_, ?_, ?_⟩ <;> first | assumption | go_keep)
  (refine held_row 0 (some 4) 29 (.tmp 0) (b0) 0 C.toList _ rfl rfl (by kernel_rfl) (by kernel_rfl) (by kernel_rfl) (by rfl) rfl (fun _ _ _ h => h) (by assumption) (fun _ hS => hS.1) Try.underlying29 rfl (by assumption) ?_; (try simp only [Act.put, List.setIfInBounds_toArray, List.set_cons_zero, List.set_cons_succ]))
  (refine held_take 1 (some 5) ?_ rfl (by kernel_rfl) (by kernel_rfl) (by kernel_rfl) (by rfl) (fun _ _ _ h => h) (by assumption) (fun w hSw => ?_) ?_; rotate_left; ((try dsimp only at hSw); simp only [List.getElem?_toArray, List.getElem?_cons_zero, List.getElem?_cons_succ, Option.map_some]; refine congrArg some ?_; go_simp; (try with_reducible rfl)); (try simp only [Act.put, List.setIfInBounds_toArray, List.set_cons_zero, List.set_cons_succ]))
  (refine held_take 3 (some 7) ?_ rfl (by kernel_rfl) (by kernel_rfl) (by kernel_rfl) (by rfl) (fun _ _ _ h => h) (by assumption) (fun w hSw => ?_) ?_; rotate_left; ((try dsimp only at hSw); simp only [List.getElem?_toArray, List.getElem?_cons_zero, List.getElem?_cons_succ, Option.map_some]; refine congrArg some ?_; go_simp; (try with_reducible rfl)); (try simp only [Act.put, List.setIfInBounds_toArray, List.set_cons_zero, List.set_cons_succ]))
  (refine held_take 4 (some 8) ?_ rfl (by kernel_rfl) (by kernel_rfl) (by kernel_rfl) (by rfl) (fun _ _ _ h => h) (by assumption) (fun w hSw => ?_) ?_; rotate_left; ((try dsimp only at hSw); simp only [List.getElem?_toArray, List.getElem?_cons_zero, List.getElem?_cons_succ, Option.map_some]; refine congrArg some ?_; go_simp; (try with_reducible rfl)); (try simp only [Act.put, List.setIfInBounds_toArray, List.set_cons_zero, List.set_cons_succ]))
  (refine held_call 2 (some 6) 108 _ rfl (by kernel_rfl) (by rfl) ?_ (HO.out _ (by exact (by repeat (first | with_reducible exact Below.refl _ _ | with_reducible assumption | with_reducible refine Below.drew ?_ | with_reducible refine below_drewN ?_ _ | (with_reducible refine Below.alloc ?_ ?_ _; rotate_left; (try simp) <;> omega) | (with_reducible refine Below.setCell ?_ ?_ _; rotate_left; (try simp) <;> omega))))) ?_; rotate_left; rotate_left; (simp only [List.getElem?_toArray, List.getElem?_cons_zero, List.getElem?_cons_succ, Option.map_some]; refine congrArg some ?_; go_simp))
  rintro e w5 ⟨rfl, hb5'⟩
  have hb5 : Below w.heap.size w w5 := Below.trans (by exact (by repeat (first | with_reducible exact Below.refl _ _ | with_reducible assumption | with_reducible refine Below.drew ?_ | with_reducible refine below_drewN ?_ _ | (with_reducible refine Below.alloc ?_ ?_ _; rotate_left; (try simp) <;> omega) | (with_reducible refine Below.setCell ?_ ?_ _; rotate_left; (try simp) <;> omega)))) (hb5'.mono (by first | omega | simp))
  refine ⟨_, rfl, ⟨hK.below hb5 l0 |>.range, (hb5.cell (p := ⟨b2, 0, none⟩) l2).trans hd, (hb5.cell (p := ⟨b3, 0, none⟩) l3).trans hx⟩, fun hHeld => ?_⟩
  (try simp only [Act.put, List.setIfInBounds_toArray, List.set_cons_zero, List.set_cons_succ])
  (refine held_take 5 (some 9) ?_ rfl (by kernel_rfl) (by kernel_rfl) (by kernel_rfl) (by rfl) (fun _ _ _ h => h) (by assumption) (fun w hSw => ?_) ?_; rotate_left; ((try dsimp only at hSw); simp only [List.getElem?_toArray, List.getElem?_cons_zero, List.getElem?_cons_succ, Option.map_some]; refine congrArg some ?_; go_simp; (try with_reducible rfl)); (try simp only [Act.put, List.setIfInBounds_toArray, List.set_cons_zero, List.set_cons_succ]))
  (refine held_take 6 (some 3) ?_ rfl (by kernel_rfl) (by kernel_rfl) (by kernel_rfl) (by rfl) (fun _ _ _ h => h) (by assumption) (fun w hSw => ?_) ?_; rotate_left; ((try dsimp only at hSw); simp only [List.getElem?_toArray, List.getElem?_cons_zero, List.getElem?_cons_succ, Option.map_some]; refine congrArg some ?_; go_simp; (try with_reducible rfl)); (try simp only [Act.put, List.setIfInBounds_toArray, List.set_cons_zero, List.set_cons_succ]))
  refine wpAnyH_done (by kernel_rfl) ?_ _
  go_wp2
  go_ret
  exact ⟨congrArg (fun z : Int => Ending.returned (.bool (decide (z ≤ m)))) WW.out, hb5⟩

set_option maxRecDepth 100000 in
set_option maxHeartbeats 1000000 in
theorem cond4_any (C : Array Value) (Y : Yd) (d x : Int) (b0 b2 b3 : Nat) (w : World) (hY : YardAt w w.heap.size C Y) (hv : Valid Y) (hK : Bk w b0 29 C) (hd : w.cell? ⟨b2, 0, none⟩ = some (.int .i64 d)) (hx : w.cell? ⟨b3, 1, none⟩ = some (.int .i64 x)) :
    Calls Try.prog 127 #[.pointer (some ⟨b0, 0, none⟩), .pointer (some ⟨b2, 0, none⟩), .pointer (some ⟨b3, 0, none⟩)] w (ShEnd (decide (0 < (skL Y.ma d x).length)) w) := by
  have HO := Lib.hid (skilled_any C Y d x w hY hv)
  have HC28 := Lib.hid hY.len
  have HR := Lib.hid hK.range
  clear hY hv hK
  generalize skL Y.ma d x = L at *
  go_enter Try.func127, Try.ntmps127
  go_wp2_with (first | (refine wpList_load_guard (P := Try.prog) (by rfl) 29 (.tmp 0) rfl b0 0 rfl C.toList _ HR.out Try.underlying29 rfl (by rw [HC28.out]; exact info29) ?_) | (go_at_call 98; refine HO.out.mono ?_; rintro e w1 ⟨v, rfl, ho, hb⟩; obtain ⟨A1, c1, rfl, _, _⟩ := ownsSlice ho))
  go_ret
  exact ⟨by simp, hb⟩

/-- the conditions of suits, in the program's order -/
def suitB (Y : Yd) (t : Tk) (i : Nat) (d : Int) : Bool := openB Y d && (decide (t.work ≤ minOf Y d) && (decide ((i : Int) + 1 ≤ batOf Y.pi d) && decide (0 < (skL Y.ma d t.need).length)))
def condN (Y : Yd) (t : Tk) (i : Nat) (d : Int) (k : Nat) : Bool := match k with
  | 0 => openB Y d
  | 1 => decide (t.work ≤ minOf Y d)
  | 2 => decide ((i : Int) + 1 ≤ batOf Y.pi d)
  | _ => decide (0 < (skL Y.ma d t.need).length)
theorem suitB_no {Y : Yd} {t : Tk} {i : Nat} {d : Int} {k : Nat} (hk : k < 4) (h : condN Y t i d k = false) : suitB Y t i d = false := by
  unfold suitB
  match k, hk, h with
  | 0, _, h => rw [show openB Y d = false from h]; rfl
  | 1, _, h => rw [show decide (t.work ≤ minOf Y d) = false from h]; simp
  | 2, _, h => rw [show decide ((i : Int) + 1 ≤ batOf Y.pi d) = false from h]; simp
  | 3, _, h => rw [show decide (0 < (skL Y.ma d t.need).length) = false from h]; simp
theorem suitB_yes {Y : Yd} {t : Tk} {i : Nat} {d : Int} (h : ∀ k, k < 4 → condN Y t i d k = true) : suitB Y t i d = true := by
  unfold suitB
  have h0 : openB Y d = true := h 0 (by omega)
  have h1 : decide (t.work ≤ minOf Y d) = true := h 1 (by omega)
  have h2 : decide ((i : Int) + 1 ≤ batOf Y.pi d) = true := h 2 (by omega)
  have h3 : decide (0 < (skL Y.ma d t.need).length) = true := h 3 (by omega)
  rw [h0, h1, h2, h3]; rfl
def fnOfK (b : Nat) (k : Nat) : Value := match k with
  | 0 => .func (.func 124) #[] #[.pointer (some ⟨b, 0, none⟩), .pointer (some ⟨b + 2, 0, none⟩)]
  | 1 => .func (.func 125) #[] #[.pointer (some ⟨b, 0, none⟩), .pointer (some ⟨b + 2, 0, none⟩), .pointer (some ⟨b + 3, 0, none⟩)]
  | 2 => .func (.func 126) #[] #[.pointer (some ⟨b, 0, none⟩), .pointer (some ⟨b + 2, 0, none⟩), .pointer (some ⟨b + 1, 0, none⟩)]
  | _ => .func (.func 127) #[] #[.pointer (some ⟨b, 0, none⟩), .pointer (some ⟨b + 2, 0, none⟩), .pointer (some ⟨b + 3, 0, none⟩)]

end Go.Proofs.Ytjgnikmnadmheaa
