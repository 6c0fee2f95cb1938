/- Comparisons with a new row; the calls of ruled() that make rows. -/
import Derived.Test.YtkfeagokmcakgaaGreatDoorG02
import Derived.Test.YtkfeagokmcakgaaGreatDoorG13
import Derived.Test.YtkfeagokmcakgaaGreatDoorG16

set_option linter.unusedVariables false
set_option linter.unusedSimpArgs false

namespace Go.Proofs.YtkfeagokmcakgaaGreatDoor
open Go.RowKit

theorem same_c (l : List ByteArray) (A : Option Addr) (c : Nat) (W : World) (hl : Lies W W.heap.size A (strsC l)) (hn : l.length ≤ 1000) {V : World} (hV : Below W.heap.size W V) :
    Calls Tryz.prog 40 #[.slice A l.length c, .slice (some ⟨V.heap.size, 0, none⟩) l.length l.length] (V.alloc (.cells (strsC l).toArray 9)) (fun e w' => e = .returned (.bool true) ∧ Below V.heap.size V w') := by
  have hb : Below V.heap.size V (V.alloc (.cells (strsC l).toArray 9)) := (Below.refl _ _).alloc (Nat.le_refl _) _
  have hs : V.heap.size < (V.alloc (.cells (strsC l).toArray 9)).heap.size := by simp
  have h1 : Lies (V.alloc (.cells (strsC l).toArray 9)) (V.alloc (.cells (strsC l).toArray 9)).heap.size A (strsC l) := ((hl.below hV (Nat.le_refl _)).more hV.size |>.below hb (Nat.le_refl _)).more hb.size
  have h2 := (Bk.new V 9 (strsC l).toArray).lies hs
  rw [List.toList_toArray] at h2
  refine (sameStrs_any l l A (some ⟨V.heap.size, 0, none⟩) c l.length _ h1 h2 (by omega) (by omega)).mono ?_
  rintro e w' ⟨rfl, hb2⟩
  refine ⟨?_, hb.trans (hb2.mono hb.size)⟩
  unfold sameS
  rw [decide_eq_true rfl]
theorem samei_c (l : List Int) (A : Option Addr) (c : Nat) (W : World) (hl : Lies W W.heap.size A (ints l)) (hn : l.length ≤ 1000) {V : World} (hV : Below W.heap.size W V) :
    Calls Tryz.prog 33 #[.slice A l.length c, .slice (some ⟨V.heap.size, 0, none⟩) l.length l.length] (V.alloc (.cells (ints l).toArray 3)) (fun e w' => e = .returned (.bool true) ∧ Below V.heap.size V w') := by
  have hb : Below V.heap.size V (V.alloc (.cells (ints l).toArray 3)) := (Below.refl _ _).alloc (Nat.le_refl _) _
  have hs : V.heap.size < (V.alloc (.cells (ints l).toArray 3)).heap.size := by simp
  have h1 : Lies (V.alloc (.cells (ints l).toArray 3)) (V.alloc (.cells (ints l).toArray 3)).heap.size A (ints l) := ((hl.below hV (Nat.le_refl _)).more hV.size |>.below hb (Nat.le_refl _)).more hb.size
  have h2 := (Bk.new V 3 (ints l).toArray).lies hs
  rw [List.toList_toArray] at h2
  refine (sameInts_any l l A (some ⟨V.heap.size, 0, none⟩) c l.length _ h1 h2 (by omega) (by omega)).mono ?_
  rintro e w' ⟨rfl, hb2⟩
  refine ⟨?_, hb.trans (hb2.mono hb.size)⟩
  unfold sameB
  rw [decide_eq_true rfl]
theorem strokes_d {A : Option Addr} {c : Nat} {V : World} (h : CB A c V) : Calls Tryz.prog 24 #[.agg #[.slice A 7 c], .int .i64 0, .slice (some ⟨V.heap.size, 0, none⟩) 2 2] (V.alloc (.cells #[.string ⟨#[111, 99, 104, 114, 101]⟩, .string ⟨#[97, 122, 117, 114, 105, 116, 101]⟩] 9)) (fun e w' => ∃ A1 c1 A2 c2, e = .returned (.tuple #[.slice A1 1 c1, .slice A2 1 c2, .int .i64 0]) ∧ Lies w' w'.heap.size A1 (strsC [och]) ∧ Lies w' w'.heap.size A2 (strsC [azu]) ∧ Below V.heap.size V w') := by
  have hb : Below V.heap.size V (V.alloc (.cells #[.string ⟨#[111, 99, 104, 114, 101]⟩, .string ⟨#[97, 122, 117, 114, 105, 116, 101]⟩] 9)) := (Below.refl _ _).alloc (Nat.le_refl _) _
  refine (strokes_c (h.step hb) V.heap.size (Bk.new V 9 _)).mono ?_
  rintro e w' ⟨A1, c1, A2, c2, rfl, h1, h2, hb2⟩
  exact ⟨A1, c1, A2, c2, rfl, h1, h2, hb.trans (hb2.mono hb.size)⟩
theorem arrange_d {A : Option Addr} {c : Nat} {V : World} (h : CB A c V) : Calls Tryz.prog 54 #[.agg #[.slice A 7 c], .int .i64 5, .slice (some ⟨V.heap.size, 0, none⟩) 2 2] (V.alloc (.cells #[.string ⟨#[111, 99, 104, 114, 101]⟩, .string ⟨#[97, 122, 117, 114, 105, 116, 101]⟩] 9)) (fun e w' => ∃ A1 c1, e = .returned (.tuple #[.slice A1 2 c1, .bool true, .int .i64 0]) ∧ Lies w' w'.heap.size A1 (strsC [azu, och]) ∧ Below V.heap.size V w') := by
  have hb : Below V.heap.size V (V.alloc (.cells #[.string ⟨#[111, 99, 104, 114, 101]⟩, .string ⟨#[97, 122, 117, 114, 105, 116, 101]⟩] 9)) := (Below.refl _ _).alloc (Nat.le_refl _) _
  refine (arrange_c (h.step hb) V.heap.size (Bk.new V 9 _)).mono ?_
  rintro e w' ⟨A1, c1, rfl, h1, hb2⟩
  exact ⟨A1, c1, rfl, h1, hb.trans (hb2.mono hb.size)⟩
theorem lies_on {W V : World} {A : Option Addr} {cs : List Value} (h : Lies W W.heap.size A cs) (hb : Below W.heap.size W V) : Lies V V.heap.size A cs := (h.below hb (Nat.le_refl _)).more hb.size
def sttZ (k : Int) (x : ByteArray) : Int := ((stt (cntL cbook k) x : Nat) : Int)
theorem state_z {A : Option Addr} {c : Nat} {w : World} (h : CB A c w) (k : Int) (x : ByteArray) (hx : x.size ≤ 100) : Calls Tryz.prog 25 #[.agg #[.slice A 7 c], .int .i64 k, .string x] w (fun e w' => e = .returned (.int .u8 (sttZ k x)) ∧ Below w.heap.size w w') := state_c h hx rfl
theorem z_st0 : sttZ 0 ⟨#[111, 99, 104, 114, 101]⟩ = 1 := by show ((stt (cntL cbook 0) och : Nat) : Int) = 1; rw [c_st0]; rfl
theorem z_st9 : sttZ 9 ⟨#[111, 99, 104, 114, 101]⟩ = 3 := by show ((stt (cntL cbook 9) och : Nat) : Int) = 3; rw [c_st9]; rfl
theorem z_st20 : sttZ 20 ⟨#[111, 99, 104, 114, 101]⟩ = 1 := by show ((stt (cntL cbook 20) och : Nat) : Int) = 1; rw [c_st20]; rfl
theorem z_sta : sttZ 0 ⟨#[97, 122, 117, 114, 105, 116, 101]⟩ = 2 := by show ((stt (cntL cbook 0) azu : Nat) : Int) = 2; rw [c_sta]; rfl
/-- a row of names, known by the cells of a like one -/
def Kn (W : World) (A : Option Addr) (n : Nat) (C : Array Value) : Prop := ∃ l : List ByteArray, C = (strsC l).toArray ∧ l.length = n ∧ n ≤ 1000 ∧ Lies W W.heap.size A (strsC l)
def KnI (W : World) (A : Option Addr) (n : Nat) (C : Array Value) : Prop := ∃ l : List Int, C = (ints l).toArray ∧ l.length = n ∧ n ≤ 1000 ∧ Lies W W.heap.size A (ints l)
theorem Kn.step {W V : World} {A : Option Addr} {n : Nat} {C : Array Value} (h : Kn W A n C) (hb : Below W.heap.size W V) : Kn V A n C := by
  obtain ⟨l, h1, h2, h3, h4⟩ := h
  exact ⟨l, h1, h2, h3, lies_on h4 hb⟩
theorem KnI.step {W V : World} {A : Option Addr} {n : Nat} {C : Array Value} (h : KnI W A n C) (hb : Below W.heap.size W V) : KnI V A n C := by
  obtain ⟨l, h1, h2, h3, h4⟩ := h
  exact ⟨l, h1, h2, h3, lies_on h4 hb⟩
theorem same_k {W V : World} {A : Option Addr} {n c : Nat} {C : Array Value} (h : Kn W A n C) (hV : Below W.heap.size W V) :
    Calls Tryz.prog 40 #[.slice A n c, .slice (some ⟨V.heap.size, 0, none⟩) n n] (V.alloc (.cells C 9)) (fun e w' => e = .returned (.bool true) ∧ Below V.heap.size V w') := by
  obtain ⟨l, rfl, rfl, h3, h4⟩ := h
  exact same_c l A c W h4 h3 hV
theorem samei_k {W V : World} {A : Option Addr} {n c : Nat} {C : Array Value} (h : KnI W A n C) (hV : Below W.heap.size W V) :
    Calls Tryz.prog 33 #[.slice A n c, .slice (some ⟨V.heap.size, 0, none⟩) n n] (V.alloc (.cells C 3)) (fun e w' => e = .returned (.bool true) ∧ Below V.heap.size V w') := by
  obtain ⟨l, rfl, rfl, h3, h4⟩ := h
  exact samei_c l A c W h4 h3 hV
end Go.Proofs.YtkfeagokmcakgaaGreatDoor

namespace Go.Proofs.YtkfeagokmcakgaaGreatDoor
open Go.RowKit

set_option maxHeartbeats 4000000 in
set_option maxRecDepth 100000 in
theorem ruled_any (w : World) (hg : Glob w) : Calls Tryz.prog 17 #[] w (fun e w' => e = .returned (.bool true) ∧ Below w.heap.size w w') := by
  have HP := Lib.hid (parse_c w hg)
  clear hg
  go_enter Tryz.func17, Tryz.ntmps17
  go_upto_region 2 with (first | (go_at_call 18; refine HP.out.mono ?_; rintro e w1 ⟨A, c, rfl, hcb, hb1⟩))
  have kb : Bk ((w1.alloc (.cells #[.slice A 7 c] 25)).alloc (.cells #[.int .i64 0, .int .i64 0, .int .i64 0] 28)) w1.heap.size 25 #[.slice A 7 c] := (Bk.new w1 25 _).alloc _
  have kf : Bk ((w1.alloc (.cells #[.slice A 7 c] 25)).alloc (.cells #[.int .i64 0, .int .i64 0, .int .i64 0] 28)) (w1.heap.size + 1) 28 #[.int .i64 0, .int .i64 0, .int .i64 0] := by have h := Bk.new (w1.alloc (.cells #[.slice A 7 c] 25)) 28 #[.int .i64 0, .int .i64 0, .int .i64 0]; simpa using h
  have hb0 : Below w1.heap.size w1 ((w1.alloc (.cells #[.slice A 7 c] 25)).alloc (.cells #[.int .i64 0, .int .i64 0, .int .i64 0] 28)) := ((Below.refl _ _).alloc (Nat.le_refl _) _).alloc (by simp) _
  have HXX := Lib.hid (And.intro (hcb.step hb0) (And.intro kb (hb1.trans (hb0.mono hb1.size))))
  have x0 : ((w1.alloc (.cells #[.slice A 7 c] 25)).alloc (.cells #[.int .i64 0, .int .i64 0, .int .i64 0] 28)).cell? ⟨w1.heap.size, 0, none⟩ = some (.slice A 7 c) := kb.cell 0 rfl
  have x1 : ((w1.alloc (.cells #[.slice A 7 c] 25)).alloc (.cells #[.int .i64 0, .int .i64 0, .int .i64 0] 28)).cell? ⟨w1.heap.size + 1, 0, none⟩ = some (.int .i64 0) := kf.cell 0 rfl
  have x2 : ((w1.alloc (.cells #[.slice A 7 c] 25)).alloc (.cells #[.int .i64 0, .int .i64 0, .int .i64 0] 28)).cell? ⟨w1.heap.size + 1, 1, none⟩ = some (.int .i64 0) := kf.cell 1 rfl
  have x3 : ((w1.alloc (.cells #[.slice A 7 c] 25)).alloc (.cells #[.int .i64 0, .int .i64 0, .int .i64 0] 28)).cell? ⟨w1.heap.size + 1, 2, none⟩ = some (.int .i64 0) := kf.cell 2 rfl
  have HPR := Lib.hid (print_c HXX.out.1)
  have hq28 : ∀ V : World, (binOp .neq 28 (.agg #[.int .i64 0, .int .i64 0, .int .i64 0]) (.agg #[.int .i64 0, .int .i64 0, .int .i64 0])).run Tryz.prog V = .ok (.bool false) V := fun V => by kernel_rfl
  have hq9 : (csrc.toList == ([49, 32, 48, 32, 103, 114, 111, 117, 112, 32, 111, 99, 104, 114, 101, 32, 101, 97, 114, 116, 104, 10, 50, 32, 48, 32, 102, 97, 115, 116, 32, 101, 97, 114, 116, 104, 10, 51, 32, 48, 32, 100, 114, 121, 32, 97, 122, 117, 114, 105, 116, 101, 10, 52, 32, 53, 32, 111, 118, 101, 114, 32, 97, 122, 117, 114, 105, 116, 101, 32, 101, 97, 114, 116, 104, 10, 53, 32, 57, 32, 100, 114, 121, 32, 111, 99, 104, 114, 101, 10, 54, 32, 50, 48, 32, 118, 111, 105, 100, 32, 53, 10, 55, 32, 50, 48, 32, 98, 101, 115, 105, 100, 101, 32, 118, 101, 114, 100, 105, 103, 114, 105, 115, 32, 119, 104, 105, 116, 101, 10] : List UInt8)) = true := by rw [ByteArray.toList_eq]; decide +kernel
  clear hcb hb1 hb0 kb kf HP
  generalize ((w1.alloc (.cells #[.slice A 7 c] 25)).alloc (.cells #[.int .i64 0, .int .i64 0, .int .i64 0] 28)) = W0 at *
  generalize w1.heap.size = b1 at *
  go_upto_region 4 with (first | (go_at_call 21; refine HPR.out.mono ?_; rintro e w2 ⟨rfl, hb2⟩))
  have HV : Hid (∀ V, Below W0.heap.size W0 V → CB A c V) := fun V hV => HXX.out.1.step hV
  have HY : Hid (∀ V, Below W0.heap.size W0 V → V.cell? ⟨b1, 0, none⟩ = some (.slice A 7 c)) := fun V hV => (HXX.out.2.1.below hV HXX.out.2.1.lt).cell 0 rfl
  have HW : Hid (Below w.heap.size w W0) := HXX.out.2.2
  have HS : Hid (∀ V, Below W0.heap.size W0 V → ∀ (k : Int) (x : ByteArray), x.size ≤ 100 → Calls Tryz.prog 25 #[.agg #[.slice A 7 c], .int .i64 k, .string x] V (fun e w' => e = .returned (.int .u8 (sttZ k x)) ∧ Below V.heap.size V w')) := fun V hV k x hx => state_z (HV.out V hV) k x hx
  have HZ0 := Lib.hid z_st0
  have HZ9 := Lib.hid z_st9
  have HZ2 := Lib.hid z_st20
  have HZA := Lib.hid z_sta
  have hB2 : Below W0.heap.size W0 w2 := hb2
  have y2 := HY.out w2 hB2
  clear x0 x1 x2 x3 HXX HPR hq28 hq9 hb2
  go_upto_region 6 with (first | (go_at_call 25; refine (HS.out _ (by assumption) _ _ (by decide +kernel)).mono ?_; rintro e V ⟨rfl, hb⟩; (first | rw [HZ0.out] | rw [HZ9.out] | rw [HZ2.out] | rw [HZA.out]); have hB : Below W0.heap.size W0 V := Below.trans (by assumption) (hb.mono (Below.size (by assumption))); have y := HY.out V hB; clear hb))
  have HO : Hid (∀ V, Below W0.heap.size W0 V → Calls Tryz.prog 31 #[.agg #[.slice A 7 c], .int .i64 5, .string ⟨#[97, 122, 117, 114, 105, 116, 101]⟩, .string ⟨#[111, 99, 104, 114, 101]⟩] V (fun e w' => e = .returned (.tuple #[.bool false, .int .i64 4]) ∧ Below V.heap.size V w')) := fun V hV => over_c (HV.out V hV)
  have HK : Hid (∀ V, Below W0.heap.size W0 V → Calls Tryz.prog 24 #[.agg #[.slice A 7 c], .int .i64 0, .slice (some ⟨V.heap.size, 0, none⟩) 2 2] (V.alloc (.cells #[.string ⟨#[111, 99, 104, 114, 101]⟩, .string ⟨#[97, 122, 117, 114, 105, 116, 101]⟩] 9)) (fun e w' => ∃ A1 c1 A2 c2, e = .returned (.tuple #[.slice A1 1 c1, .slice A2 1 c2, .int .i64 0]) ∧ Lies w' w'.heap.size A1 (strsC [och]) ∧ Lies w' w'.heap.size A2 (strsC [azu]) ∧ Below V.heap.size V w')) := fun V hV => strokes_d (HV.out V hV)
  have HR : Hid (∀ V, Below W0.heap.size W0 V → Calls Tryz.prog 54 #[.agg #[.slice A 7 c], .int .i64 5, .slice (some ⟨V.heap.size, 0, none⟩) 2 2] (V.alloc (.cells #[.string ⟨#[111, 99, 104, 114, 101]⟩, .string ⟨#[97, 122, 117, 114, 105, 116, 101]⟩] 9)) (fun e w' => ∃ A1 c1, e = .returned (.tuple #[.slice A1 2 c1, .bool true, .int .i64 0]) ∧ Lies w' w'.heap.size A1 (strsC [azu, och]) ∧ Below V.heap.size V w')) := fun V hV => arrange_d (HV.out V hV)
  have HC : Hid (∀ V, Below W0.heap.size W0 V → Calls Tryz.prog 27 #[.agg #[.slice A 7 c], .int .i64 0, .string ⟨#[111, 99, 104, 114, 101]⟩, .string ⟨#[101, 97, 114, 116, 104]⟩] V (fun e w' => ∃ A2 c2, e = .returned (.tuple #[.slice A2 1 c2, .bool true]) ∧ Lies w' w'.heap.size A2 (ints [1]) ∧ Below V.heap.size V w')) := fun V hV => chain_c (HV.out V hV)
  have HH : Hid (∀ V, Below W0.heap.size W0 V → Calls Tryz.prog 44 #[.agg #[.slice A 7 c], .int .i64 9, .string ⟨#[111, 99, 104, 114, 101]⟩] V (fun e w' => ∃ A2 c2, e = .returned (.slice A2 2 c2) ∧ Lies w' w'.heap.size A2 (ints [2, 5]) ∧ Below V.heap.size V w')) := fun V hV => why_c (HV.out V hV)
  clear HS HZ0 HZ9 HZ2 HZA HV
  go_upto_region 7 with (first | (go_at_call 31; refine (HO.out _ (by assumption)).mono ?_; rintro e V5 ⟨rfl, hb⟩; have hB5 : Below W0.heap.size W0 V5 := Below.trans (by assumption) (hb.mono (Below.size (by assumption))); have y5 := HY.out V5 hB5; clear hb))
  go_upto_region 8 with (first | (go_at_call 24; refine (HK.out _ (by assumption)).mono ?_; rintro e V7 ⟨A1, c1, A2, c2, rfl, l1, l2, hb⟩; have hB7 : Below W0.heap.size W0 V7 := Below.trans (by assumption) (hb.mono (Below.size (by assumption))); have y7 := HY.out V7 hB7; clear hb))
  have n1 : Kn V7 A1 1 #[.string ⟨#[111, 99, 104, 114, 101]⟩] := ⟨[och], rfl, rfl, by decide, l1⟩
  have n2 : Kn V7 A2 1 #[.string ⟨#[97, 122, 117, 114, 105, 116, 101]⟩] := ⟨[azu], rfl, rfl, by decide, l2⟩
  clear l1 l2
  go_upto_region 9 with (first | (go_at_call 54; refine (HR.out _ (by assumption)).mono ?_; rintro e V8 ⟨A3, c3, rfl, l1, hb⟩; have hB8 : Below W0.heap.size W0 V8 := Below.trans (by assumption) (hb.mono (Below.size (by assumption))); have y8 := HY.out V8 hB8; replace n1 := n1.step hb; replace n2 := n2.step hb; clear hb))
  have n3 : Kn V8 A3 2 #[.string ⟨#[97, 122, 117, 114, 105, 116, 101]⟩, .string ⟨#[111, 99, 104, 114, 101]⟩] := ⟨[azu, och], rfl, rfl, by decide, l1⟩
  clear l1
  go_upto_region 10 with (first | (go_at_call 27; refine (HC.out _ (by assumption)).mono ?_; rintro e V9 ⟨A4, c4, rfl, l1, hb⟩; have hB9 : Below W0.heap.size W0 V9 := Below.trans (by assumption) (hb.mono (Below.size (by assumption))); replace n1 := n1.step hb; replace n2 := n2.step hb; replace n3 := n3.step hb; clear hb))
  have n4 : KnI V9 A4 1 #[.int .i64 1] := ⟨[1], rfl, rfl, by decide, l1⟩
  have HY9 : Hid (∀ V, Below V9.heap.size V9 V → V.cell? ⟨b1, 0, none⟩ = some (.slice A 7 c)) := fun V hV => HY.out V (hB9.trans (hV.mono hB9.size))
  have HH9 : Hid (∀ V, Below V9.heap.size V9 V → Calls Tryz.prog 44 #[.agg #[.slice A 7 c], .int .i64 9, .string ⟨#[111, 99, 104, 114, 101]⟩] V (fun e w' => ∃ A2 c2, e = .returned (.slice A2 2 c2) ∧ Lies w' w'.heap.size A2 (ints [2, 5]) ∧ Below V.heap.size V w')) := fun V hV => HH.out V (hB9.trans (hV.mono hB9.size))
  have HE9 : Hid (∀ V, Below V9.heap.size V9 V → Below w.heap.size w V) := fun V hV => HW.out.trans ((hB9.trans (hV.mono hB9.size)).mono HW.out.size)
  have hBB : Below V9.heap.size V9 V9 := Below.refl _ _
  have yy := HY9.out V9 hBB
  clear l1 HO HK HR HC HH HY HW
  clear y2 hB2 hB5 y5 hB7 y7 hB8 y8 hB9
  go_upto_region 12 with fail
  go_wp2_with (first | (go_at_call 40; refine (same_k (by assumption) (by assumption)).mono ?_; rintro e V ⟨rfl, hb⟩; have hB : Below V9.heap.size V9 V := Below.trans (by assumption) (hb.mono (Below.size (by assumption))); have y := HY9.out V hB; clear hb) | (go_at_call 33; refine (samei_k (by assumption) (by assumption)).mono ?_; rintro e V ⟨rfl, hb⟩; have hB : Below V9.heap.size V9 V := Below.trans (by assumption) (hb.mono (Below.size (by assumption))); have y := HY9.out V hB; clear hb) | (go_at_call 44; refine (HH9.out _ (by assumption)).mono ?_; rintro e V ⟨A5, c5, rfl, l1, hb⟩; have hB : Below V9.heap.size V9 V := Below.trans (by assumption) (hb.mono (Below.size (by assumption))); have y := HY9.out V hB; have n5 : KnI V A5 2 #[.int .i64 2, .int .i64 5] := ⟨[2, 5], rfl, rfl, by decide, l1⟩; clear hb l1; have hBw : Below V.heap.size V V := Below.refl _ _))
  go_ret
  exact ⟨rfl, HE9.out _ (by assumption)⟩
end Go.Proofs.YtkfeagokmcakgaaGreatDoor

namespace Go.Proofs.YtkfeagokmcakgaaGreatDoor
open Go.RowKit

/-- whether a name is in a row, from a world on -/
structure KnH (W : World) (A : Option Addr) (n c : Nat) (s : ByteArray) (b : Bool) : Prop where
  run : ∀ V, Below W.heap.size W V → Calls Tryz.prog 26 #[.slice A n c, .string s] V (ShEnd b V)
theorem KnH.go {W V : World} {A : Option Addr} {n c : Nat} {s : ByteArray} {b : Bool} (h : KnH W A n c s b) (hV : Below W.heap.size W V) : Calls Tryz.prog 26 #[.slice A n c, .string s] V (ShEnd b V) := h.run V hV
theorem isSt_eq (l : List Rul) (n : Nat) (s : ByteArray) : isSt l n s = decide (stt l s = n) := rfl
theorem stt_four (l : List Rul) (s : ByteArray) : stt l s = 0 ∨ stt l s = 1 ∨ stt l s = 2 ∨ stt l s = 3 := sttA_bd _
theorem skE_st {l : List Rul} {col : List ByteArray} (h : skE l col = 0) {s : ByteArray} (hs : s ∈ col) : stt l s = 1 ∨ stt l s = 2 := by
  have h1 := skE_zero h
  unfold stOK at h1
  have h2 := List.all_eq_true.1 h1 s hs
  simpa [isSt] using h2
theorem badB_pre {l : List Rul} {col : List ByteArray} (h : badB l col = false) (k : Nat) : badB l (col.take k) = false := by
  unfold badB at h ⊢
  rw [List.any_eq_false] at h ⊢
  exact fun x hx => h x (List.mem_of_mem_take hx)
theorem small_ok {l : List Rul} (h : smallB l = true) (hk : ∀ r ∈ l, 0 ≤ r.kind ∧ r.kind ≤ 255) : RulOK l ∧ l.length ≤ 25 := by
  unfold smallB at h
  rw [Bool.and_eq_true, decide_eq_true_eq, List.all_eq_true] at h
  refine ⟨fun r hr => ?_, h.1⟩
  have := h.2 r hr
  unfold smlB at this
  simp at this
  exact ⟨by omega, by omega, hk r hr⟩
theorem brief_ok {l : List ByteArray} {n : Int} (h : briefB l n = true) : (∀ s ∈ l, s.size ≤ 100) ∧ (l.length : Int) ≤ n := by
  unfold briefB at h
  rw [Bool.and_eq_true, decide_eq_true_eq, List.all_eq_true] at h
  refine ⟨fun s hs => ?_, h.1⟩
  have := h.2 s hs
  unfold shortB at this
  simp at this
  omega
theorem skE_in (l : List Rul) (col : List ByteArray) : skE l col = 0 ∨ skE l col = 1 ∨ skE l col = 2 ∨ skE l col = 6 ∨ skE l col = 8 := by
  unfold skE
  repeat' split
  all_goals omega
set_option maxHeartbeats 1000000 in
set_option maxRecDepth 100000 in
theorem lawStrokes_any (l : List Rul) (A : Option Addr) (c : Nat) (known : Int) (col : List ByteArray) (Ac : Option Addr) (cc : Nat) (w : World) (hg : Glob w) (hl : Lies w w.heap.size A (rulesC l)) (hc : l.length ≤ c ∧ c ≤ maxLen)
    (hlw : ∀ r ∈ l, (r.x.size ≤ maxLen ∧ r.y.size ≤ maxLen) ∧ (0 ≤ r.kind ∧ r.kind ≤ 255)) (hlc : Lies w w.heap.size Ac (strsC col)) (hcs : ∀ s ∈ col, s.size ≤ maxLen) (hcc : col.length ≤ cc ∧ cc ≤ maxLen) :
    Calls Tryz.prog 4 #[.agg #[.slice A l.length c], .int .i64 known, .slice Ac col.length cc] w (fun e w' => e = .returned (.bool true) ∧ Below w.heap.size w w') := by
  have HW : Hid (Below w.heap.size w (w.alloc (.cells #[.slice A l.length c] 25))) := (Below.refl _ _).alloc (Nat.le_refl _) _
  have HK0 : Hid (Bk (w.alloc (.cells #[.slice A l.length c] 25)) w.heap.size 25 #[.slice A l.length c]) := Bk.new _ _ _
  have HL : Hid (∀ V, Below (w.alloc (.cells #[.slice A l.length c] 25)).heap.size (w.alloc (.cells #[.slice A l.length c] 25)) V → Lies V V.heap.size A (rulesC l)) := fun V hV => lies_on hl (HW.out.trans (hV.mono HW.out.size))
  have HC : Hid (∀ V, Below (w.alloc (.cells #[.slice A l.length c] 25)).heap.size (w.alloc (.cells #[.slice A l.length c] 25)) V → Lies V V.heap.size Ac (strsC col)) := fun V hV => lies_on hlc (HW.out.trans (hV.mono HW.out.size))
  have HR : Hid (∀ V, Below (w.alloc (.cells #[.slice A l.length c] 25)).heap.size (w.alloc (.cells #[.slice A l.length c] 25)) V → Calls Tryz.prog 17 #[] V (fun e w' => e = .returned (.bool true) ∧ Below V.heap.size V w')) := fun V hV => ruled_any V (hg.step (HW.out.trans (hV.mono HW.out.size)))
  go_enter Tryz.func4, Tryz.ntmps4
  go_upto_region 1 with fail
  have hBW0 : Below (w.alloc (.cells #[.slice A l.length c] 25)).heap.size (w.alloc (.cells #[.slice A l.length c] 25)) (w.alloc (.cells #[.slice A l.length c] 25)) := Below.refl _ _
  have HY : Hid (∀ V, Below (w.alloc (.cells #[.slice A l.length c] 25)).heap.size (w.alloc (.cells #[.slice A l.length c] 25)) V → V.cell? ⟨w.heap.size, 0, none⟩ = some (.slice A l.length c)) := fun V hV => (HK0.out.below hV HK0.out.lt).cell 0 rfl
  clear hg hl hlc HK0
  generalize (w.alloc (.cells #[.slice A l.length c] 25)) = W0 at *
  have y0 := HY.out W0 hBW0
  generalize hb0 : w.heap.size = b0 at *
  have HSM : Hid (∀ V, Below W0.heap.size W0 V → Calls Tryz.prog 22 #[.agg #[.slice A l.length c]] V (ShEnd (smallB l) V)) := fun V hV => small_any l A c V (HL.out V hV) (fun r hr => (hlw r hr).1) (Nat.le_trans hc.1 hc.2)
  have HBR : Hid (∀ V, Below W0.heap.size W0 V → Calls Tryz.prog 23 #[.slice Ac col.length cc, .int .i64 8] V (ShEnd (briefB col 8) V)) := fun V hV => brief_any col Ac cc 8 V (HC.out V hV) hcs (Nat.le_trans hcc.1 hcc.2)
  cases hsm : smallB l
  · rw [hsm] at HSM
    clear HBR HC HL hsm
    go_wp2_with (first | (go_at_call 22; refine (HSM.out _ (by assumption)).mono ?_; rintro e w1 ⟨rfl, hb⟩; have hBw1 : Below W0.heap.size W0 w1 := Below.trans (by assumption) (hb.mono (Below.size (by assumption))); have yw1 := HY.out w1 hBw1; clear hb) | (go_at_call 17; refine (HR.out _ (by assumption)).mono ?_; rintro e z ⟨rfl, hb⟩; have hBz : Below W0.heap.size W0 z := Below.trans (by assumption) (hb.mono (Below.size (by assumption))); clear hb))
    go_ret
    subst hb0; exact ⟨rfl, HW.out.trans (hBz.mono (by have := HW.out.size; omega))⟩
  rw [hsm] at HSM
  have hO := small_ok hsm (fun r hr => (hlw r hr).2)
  clear hsm hlw
  cases hbr : briefB col 8
  · rw [hbr] at HBR
    clear HC HL hbr hO
    go_wp2_with (first | (go_at_call 22; refine (HSM.out _ (by assumption)).mono ?_; rintro e w1 ⟨rfl, hb⟩; have hBw1 : Below W0.heap.size W0 w1 := Below.trans (by assumption) (hb.mono (Below.size (by assumption))); have yw1 := HY.out w1 hBw1; clear hb) | (go_at_call 23; refine (HBR.out _ (by assumption)).mono ?_; rintro e w2 ⟨rfl, hb⟩; have hBw2 : Below W0.heap.size W0 w2 := Below.trans (by assumption) (hb.mono (Below.size (by assumption))); have yw2 := HY.out w2 hBw2; clear hb) | (go_at_call 17; refine (HR.out _ (by assumption)).mono ?_; rintro e z ⟨rfl, hb⟩; have hBz : Below W0.heap.size W0 z := Below.trans (by assumption) (hb.mono (Below.size (by assumption))); clear hb))
    go_ret
    subst hb0; exact ⟨rfl, HW.out.trans (hBz.mono (by have := HW.out.size; omega))⟩
  rw [hbr] at HBR
  have hB := brief_ok hbr
  clear hbr
  have HSZ := Lib.hid hB.1
  have h8 : col.length ≤ 8 := by have := hB.2; omega
  have HT : Hid (∀ V, Below W0.heap.size W0 V → ∀ s : ByteArray, s.size ≤ 100 → Calls Tryz.prog 25 #[.agg #[.slice A l.length c], .int .i64 known, .string s] V (U8End (stt (cntL l known) s) V)) := fun V hV s hs => State_any l A c known s V (HL.out V hV) hO.1 (by have := hO.2; omega) hs
  have HSK : Hid (∀ V, Below W0.heap.size W0 V → Calls Tryz.prog 24 #[.agg #[.slice A l.length c], .int .i64 known, .slice Ac col.length cc] V (SkEnd (cntL l known) col V)) := fun V hV => strokes_any l A c known col Ac cc V (HL.out V hV) hO.1 (by have := hO.2; omega) (HC.out V hV) hB.1 (by omega) hcc
  clear hO hB HL hcs
  generalize cntL l known = L at *
  unfold SkEnd at HSK
  have hsk := skE_in L col
  go_upto_region 4 with (first | (go_at_call 22; refine (HSM.out _ (by assumption)).mono ?_; rintro e w1 ⟨rfl, hb⟩; have hBw1 : Below W0.heap.size W0 w1 := Below.trans (by assumption) (hb.mono (Below.size (by assumption))); have yw1 := HY.out w1 hBw1; clear hb) | (go_at_call 23; refine (HBR.out _ (by assumption)).mono ?_; rintro e w2 ⟨rfl, hb⟩; have hBw2 : Below W0.heap.size W0 w2 := Below.trans (by assumption) (hb.mono (Below.size (by assumption))); have yw2 := HY.out w2 hBw2; clear hb) | (go_at_call 24; refine (HSK.out _ (by assumption)).mono ?_; rintro e w3 ⟨A1, c1, A2, c2, rfl, l1, l2, hb⟩; have hBw3 : Below W0.heap.size W0 w3 := Below.trans (by assumption) (hb.mono (Below.size (by assumption))); clear hb))
  have HX1 := Lib.hid l1
  have HX2 := Lib.hid l2
  clear l1 l2 HSM HBR HSK y0
  by_cases he0 : skE L col = 0
  · have HE0 := Lib.hid he0
    have HBD := Lib.hid (skE_fine he0)
    have HLE : Hid (((skF L col 1).length : Int) + ((skF L col 2).length : Int) = (col.length : Int)) := by have := skF_len he0; show (_ : Int) + _ = _; omega
    have HHX : Hid (∀ V, Below w3.heap.size w3 V → ∀ s, Calls Tryz.prog 26 #[.slice A1 (skF L col 1).length c1, .string s] V (ShEnd (decide (s ∈ skF L col 1)) V)) := fun V hV s => has_any _ A1 c1 s V (lies_on HX1.out hV) (by have := skF_len he0; unfold maxLen; omega)
    have HHY : Hid (∀ V, Below w3.heap.size w3 V → ∀ s, Calls Tryz.prog 26 #[.slice A2 (skF L col 2).length c2, .string s] V (ShEnd (decide (s ∈ skF L col 2)) V)) := fun V hV s => has_any _ A2 c2 s V (lies_on HX2.out hV) (by have := skF_len he0; unfold maxLen; omega)
    have hn1 : (skF L col 1).length ≤ 8 := by have := skF_len he0; omega
    have hn2 : (skF L col 2).length ≤ 8 := by have := skF_len he0; omega
    rw [he0]
    clear he0 hsk HX1 HX2
    have HY := Lib.hid (fun V (hV : Below w3.heap.size w3 V) => HY.out V (hBw3.trans (hV.mono hBw3.size)))
    have HT := Lib.hid (fun V (hV : Below w3.heap.size w3 V) => HT.out V (hBw3.trans (hV.mono hBw3.size)))
    have HC := Lib.hid (fun V (hV : Below w3.heap.size w3 V) => HC.out V (hBw3.trans (hV.mono hBw3.size)))
    have HR := Lib.hid (fun V (hV : Below w3.heap.size w3 V) => HR.out V (hBw3.trans (hV.mono hBw3.size)))
    have HW : Hid (Below b0 w w3) := HW.out.trans (hBw3.mono (by have := HW.out.size; omega))
    have hBw4 : Below w3.heap.size w3 w3 := Below.refl _ _
    clear hBw3
    go_upto_region 8 with fail
    have HI0 : Hid (badB L (col.take 0) = false) := rfl
    go_loopw [10, 11] (fun z y wr => ∃ k : Nat, k ≤ col.length ∧ z = .bool (badB L (col.take k)) ∧ y = .int .i64 k ∧ Below w3.heap.size w3 wr) (fun _ y _ => col.length - (intOf y).toNat)
    case atStart => exact ⟨0, by omega, rfl, rfl, by assumption⟩
    case round =>
      obtain ⟨k, hk, rfl, rfl, hBwr⟩ := hrel
      by_cases hlt : k < col.length
      · obtain ⟨ad, rfl, _, _⟩ := str_at (HC.out wr hBwr) hlt
        have HS : Hid (∀ V, Below w3.heap.size w3 V → V.cell? ⟨b0, 0, none⟩ = some (.slice A l.length c) ∧ V.cell? (ad.add k) = some (.string col[k])) := fun V hV => by
          obtain ⟨ad2, e2, _, h2⟩ := str_at (HC.out V hV) hlt
          cases e2
          exact ⟨HY.out V hV, h2⟩
        have HST : Hid (∀ N : Nat, stt L col[k] = N → ∀ V, Below w3.heap.size w3 V → Calls Tryz.prog 25 #[.agg #[.slice A l.length c], .int .i64 known, .string col[k]] V (fun e w' => e = .returned (.int .u8 N) ∧ Below V.heap.size V w')) := fun N hN V hV => by
          subst hN
          exact HT.out V hV col[k] (HSZ.out _ (List.getElem_mem hlt))
        have HBT : Hid (badB L (col.take (k + 1)) = (badB L (col.take k) || (!isSt L 1 col[k] && !isSt L 2 col[k]))) := badB_take hlt
        have hok : stt L col[k] = 1 ∨ stt L col[k] = 2 := skE_st HE0.out (List.getElem_mem hlt)
        have hB0 : badB L (col.take k) = false := badB_pre HBD.out k
        have HHA : Hid (∀ V, Below w3.heap.size w3 V → Calls Tryz.prog 26 #[.slice A1 (skF L col 1).length c1, .string col[k]] V (ShEnd (isSt L 1 col[k]) V)) := fun V hV => by
          have h := HHX.out V hV col[k]
          rw [skF_has HE0.out (List.getElem_mem hlt)] at h; exact h
        have HHB : Hid (∀ V, Below w3.heap.size w3 V → Calls Tryz.prog 26 #[.slice A2 (skF L col 2).length c2, .string col[k]] V (ShEnd (isSt L 2 col[k]) V)) := fun V hV => by
          have h := HHY.out V hV col[k]
          rw [skF_has HE0.out (List.getElem_mem hlt)] at h; exact h
        clear HC HT HSZ HI0 HR HHX HHY HE0 HBD
        generalize col[k] = s at *
        rcases hok with hN | hN
        · have HSS := Lib.hid (HST.out 1 hN)
          have HBN : Hid (badB L (col.take (k + 1)) = false) := by show _ = _; rw [HBT.out, hB0, isSt_eq, isSt_eq, hN]; rfl
          have q1 : KnH w3 A1 (skF L col 1).length c1 s true := ⟨fun V hV => by have h := HHA.out V hV; rw [isSt_eq, hN] at h; exact h⟩
          have q2 : KnH w3 A2 (skF L col 2).length c2 s false := ⟨fun V hV => by have h := HHB.out V hV; rw [isSt_eq, hN] at h; exact h⟩
          clear HHA HHB
          clear HST HBT hN
          rw [hB0]
          clear hB0
          go_upto_region 10 with fail
          refine wp_region_held_drew (S := fun V => V.cell? ⟨b0, 0, none⟩ = some (.slice A l.length c) ∧ V.cell? (ad.add k) = some (.string s)) (by kernel_rfl) ?_ (fun hHeld => ?_)
          · exact HS.out _ hBwr.drew
          have hBdr : Below w3.heap.size w3 wr.drew := hBwr.drew
          refine tk 0 53 ?_
          refine tk 1 54 ?_
          refine tk 2 55 ?_
          refine tk 3 56 ?_
          refine tk 4 57 ?_
          refine tk 5 58 ?_
          (refine held_call 6 (some 59) 25 _ rfl (by kernel_rfl) (by rfl) ?_ ((HSS.out _ hBdr)) ?_; rotate_left; rotate_left; (simp only [List.getElem?_toArray, List.getElem?_cons_zero, List.getElem?_cons_succ, Option.map_some]; refine congrArg some ?_; go_simp))
          rintro e u0 ⟨rfl, hb⟩
          have hBu0 : Below w3.heap.size w3 u0 := hBdr.trans (hb.mono hBdr.size)
          refine ⟨_, rfl, HS.out _ hBu0, fun hHeld => ?_⟩
          (try simp only [Act.put, List.setIfInBounds_toArray, List.set_cons_zero, List.set_cons_succ])
          refine tk 7 12 ?_
          refine wpAnyH_done (by kernel_rfl) ?_ _
          have y1 := (HS.out _ hBu0).2
          clear hb hBdr hBwr hHeld
          go_wp2_with (first | (go_at_call 26; refine (KnH.go (by assumption) (by assumption)).mono ?_; rintro e u2 ⟨rfl, hb⟩; have hBu2 : Below w3.heap.size w3 u2 := Below.trans (by assumption) (hb.mono (Below.size (by assumption))); have yu2 := (HS.out u2 hBu2).2; clear hb))
          go_roundw
          case rel => exact ⟨k + 1, by omega, by rw [HBN.out], by go_num, by assumption⟩
          case measure => simp [intOf]; omega
        · have HSS := Lib.hid (HST.out 2 hN)
          have HBN : Hid (badB L (col.take (k + 1)) = false) := by show _ = _; rw [HBT.out, hB0, isSt_eq, isSt_eq, hN]; rfl
          have q1 : KnH w3 A1 (skF L col 1).length c1 s false := ⟨fun V hV => by have h := HHA.out V hV; rw [isSt_eq, hN] at h; exact h⟩
          have q2 : KnH w3 A2 (skF L col 2).length c2 s true := ⟨fun V hV => by have h := HHB.out V hV; rw [isSt_eq, hN] at h; exact h⟩
          clear HHA HHB
          clear HST HBT hN
          rw [hB0]
          clear hB0
          go_upto_region 10 with fail
          refine wp_region_held_drew (S := fun V => V.cell? ⟨b0, 0, none⟩ = some (.slice A l.length c) ∧ V.cell? (ad.add k) = some (.string s)) (by kernel_rfl) ?_ (fun hHeld => ?_)
          · exact HS.out _ hBwr.drew
          have hBdr : Below w3.heap.size w3 wr.drew := hBwr.drew
          refine tk 0 53 ?_
          refine tk 1 54 ?_
          refine tk 2 55 ?_
          refine tk 3 56 ?_
          refine tk 4 57 ?_
          refine tk 5 58 ?_
          (refine held_call 6 (some 59) 25 _ rfl (by kernel_rfl) (by rfl) ?_ ((HSS.out _ hBdr)) ?_; rotate_left; rotate_left; (simp only [List.getElem?_toArray, List.getElem?_cons_zero, List.getElem?_cons_succ, Option.map_some]; refine congrArg some ?_; go_simp))
          rintro e u0 ⟨rfl, hb⟩
          have hBu0 : Below w3.heap.size w3 u0 := hBdr.trans (hb.mono hBdr.size)
          refine ⟨_, rfl, HS.out _ hBu0, fun hHeld => ?_⟩
          (try simp only [Act.put, List.setIfInBounds_toArray, List.set_cons_zero, List.set_cons_succ])
          refine tk 7 12 ?_
          refine wpAnyH_done (by kernel_rfl) ?_ _
          have y1 := (HS.out _ hBu0).2
          clear hb hBdr hBwr hHeld
          go_wp2_with (first | (go_at_call 26; refine (KnH.go (by assumption) (by assumption)).mono ?_; rintro e u2 ⟨rfl, hb⟩; have hBu2 : Below w3.heap.size w3 u2 := Below.trans (by assumption) (hb.mono (Below.size (by assumption))); have yu2 := (HS.out u2 hBu2).2; clear hb))
          go_roundw
          case rel => exact ⟨k + 1, by omega, by rw [HBN.out], by go_num, by assumption⟩
          case measure => simp [intOf]; omega
      · obtain rfl : k = col.length := by omega
        rw [List.take_length]
        rw [HBD.out]
        clear HC HT HSZ HI0 HHX HHY HE0
        have HLN := HLE.out
        go_wp2_with (first | (go_at_call 17; refine (HR.out _ (by assumption)).mono ?_; rintro e z ⟨rfl, hb⟩; have hBz : Below w3.heap.size w3 z := Below.trans (by assumption) (hb.mono (Below.size (by assumption))); have yz := HY.out z hBz; clear hb))
        go_ret
        subst hb0; exact ⟨rfl, (HW.out.trans (hBz.mono (by have := HW.out.size; omega)))⟩
  · by_cases he8 : skE L col = 8
    · have HBD := Lib.hid (skE_eight he8)
      rw [he8]
      clear he0 he8 hsk HX1 HX2
      have HY := Lib.hid (fun V (hV : Below w3.heap.size w3 V) => HY.out V (hBw3.trans (hV.mono hBw3.size)))
      have HT := Lib.hid (fun V (hV : Below w3.heap.size w3 V) => HT.out V (hBw3.trans (hV.mono hBw3.size)))
      have HC := Lib.hid (fun V (hV : Below w3.heap.size w3 V) => HC.out V (hBw3.trans (hV.mono hBw3.size)))
      have HR := Lib.hid (fun V (hV : Below w3.heap.size w3 V) => HR.out V (hBw3.trans (hV.mono hBw3.size)))
      have HW : Hid (Below b0 w w3) := HW.out.trans (hBw3.mono (by have := HW.out.size; omega))
      have hBw4 : Below w3.heap.size w3 w3 := Below.refl _ _
      clear hBw3
      go_upto_region 8 with fail
      have HI0 : Hid (badB L (col.take 0) = false) := rfl
      go_loopw [10, 11] (fun z y wr => ∃ k : Nat, k ≤ col.length ∧ z = .bool (badB L (col.take k)) ∧ y = .int .i64 k ∧ Below w3.heap.size w3 wr) (fun _ y _ => col.length - (intOf y).toNat)
      case atStart => exact ⟨0, by omega, rfl, rfl, by assumption⟩
      case round =>
        obtain ⟨k, hk, rfl, rfl, hBwr⟩ := hrel
        by_cases hlt : k < col.length
        · obtain ⟨ad, rfl, _, _⟩ := str_at (HC.out wr hBwr) hlt
          have HS : Hid (∀ V, Below w3.heap.size w3 V → V.cell? ⟨b0, 0, none⟩ = some (.slice A l.length c) ∧ V.cell? (ad.add k) = some (.string col[k])) := fun V hV => by
            obtain ⟨ad2, e2, _, h2⟩ := str_at (HC.out V hV) hlt
            cases e2
            exact ⟨HY.out V hV, h2⟩
          have HST : Hid (∀ N : Nat, stt L col[k] = N → ∀ V, Below w3.heap.size w3 V → Calls Tryz.prog 25 #[.agg #[.slice A l.length c], .int .i64 known, .string col[k]] V (fun e w' => e = .returned (.int .u8 N) ∧ Below V.heap.size V w')) := fun N hN V hV => by
            subst hN
            exact HT.out V hV col[k] (HSZ.out _ (List.getElem_mem hlt))
          have HBT : Hid (badB L (col.take (k + 1)) = (badB L (col.take k) || (!isSt L 1 col[k] && !isSt L 2 col[k]))) := badB_take hlt
          have hok := stt_four L col[k]
          clear HC HT HSZ HI0 HR
          generalize col[k] = s at *
          rcases hok with hN | hN | hN | hN
          · cases hB0 : badB L (col.take k)
            · have HSS := Lib.hid (HST.out 0 hN)
              have HBN : Hid (badB L (col.take (k + 1)) = true) := by show _ = _; rw [HBT.out, hB0, isSt_eq, isSt_eq, hN]; rfl
              clear HST HBT hN
              clear hB0
              go_upto_region 10 with fail
              refine wp_region_held_drew (S := fun V => V.cell? ⟨b0, 0, none⟩ = some (.slice A l.length c) ∧ V.cell? (ad.add k) = some (.string s)) (by kernel_rfl) ?_ (fun hHeld => ?_)
              · exact HS.out _ hBwr.drew
              have hBdr : Below w3.heap.size w3 wr.drew := hBwr.drew
              refine tk 0 53 ?_
              refine tk 1 54 ?_
              refine tk 2 55 ?_
              refine tk 3 56 ?_
              refine tk 4 57 ?_
              refine tk 5 58 ?_
              (refine held_call 6 (some 59) 25 _ rfl (by kernel_rfl) (by rfl) ?_ ((HSS.out _ hBdr)) ?_; rotate_left; rotate_left; (simp only [List.getElem?_toArray, List.getElem?_cons_zero, List.getElem?_cons_succ, Option.map_some]; refine congrArg some ?_; go_simp))
              rintro e u0 ⟨rfl, hb⟩
              have hBu0 : Below w3.heap.size w3 u0 := hBdr.trans (hb.mono hBdr.size)
              refine ⟨_, rfl, HS.out _ hBu0, fun hHeld => ?_⟩
              (try simp only [Act.put, List.setIfInBounds_toArray, List.set_cons_zero, List.set_cons_succ])
              refine tk 7 12 ?_
              refine wpAnyH_done (by kernel_rfl) ?_ _
              have y1 := (HS.out _ hBu0).2
              clear hb hBdr hBwr hHeld
              go_wp2
              go_roundw
              case rel => exact ⟨k + 1, by omega, by rw [HBN.out], by go_num, by assumption⟩
              case measure => simp [intOf]; omega
            · have HSS := Lib.hid (HST.out 0 hN)
              have HBN : Hid (badB L (col.take (k + 1)) = true) := by show _ = _; rw [HBT.out, hB0, isSt_eq, isSt_eq, hN]; rfl
              clear HST HBT hN
              clear hB0
              go_upto_region 10 with fail
              refine wp_region_held_drew (S := fun V => V.cell? ⟨b0, 0, none⟩ = some (.slice A l.length c) ∧ V.cell? (ad.add k) = some (.string s)) (by kernel_rfl) ?_ (fun hHeld => ?_)
              · exact HS.out _ hBwr.drew
              have hBdr : Below w3.heap.size w3 wr.drew := hBwr.drew
              refine tk 0 53 ?_
              refine tk 1 54 ?_
              refine tk 2 55 ?_
              refine tk 3 56 ?_
              refine tk 4 57 ?_
              refine tk 5 58 ?_
              (refine held_call 6 (some 59) 25 _ rfl (by kernel_rfl) (by rfl) ?_ ((HSS.out _ hBdr)) ?_; rotate_left; rotate_left; (simp only [List.getElem?_toArray, List.getElem?_cons_zero, List.getElem?_cons_succ, Option.map_some]; refine congrArg some ?_; go_simp))
              rintro e u0 ⟨rfl, hb⟩
              have hBu0 : Below w3.heap.size w3 u0 := hBdr.trans (hb.mono hBdr.size)
              refine ⟨_, rfl, HS.out _ hBu0, fun hHeld => ?_⟩
              (try simp only [Act.put, List.setIfInBounds_toArray, List.set_cons_zero, List.set_cons_succ])
              refine tk 7 12 ?_
              refine wpAnyH_done (by kernel_rfl) ?_ _
              have y1 := (HS.out _ hBu0).2
              clear hb hBdr hBwr hHeld
              go_wp2
              go_roundw
              case rel => exact ⟨k + 1, by omega, by rw [HBN.out], by go_num, by assumption⟩
              case measure => simp [intOf]; omega
          · cases hB0 : badB L (col.take k)
            · have HSS := Lib.hid (HST.out 1 hN)
              have HBN : Hid (badB L (col.take (k + 1)) = false) := by show _ = _; rw [HBT.out, hB0, isSt_eq, isSt_eq, hN]; rfl
              clear HST HBT hN
              clear hB0
              go_upto_region 10 with fail
              refine wp_region_held_drew (S := fun V => V.cell? ⟨b0, 0, none⟩ = some (.slice A l.length c) ∧ V.cell? (ad.add k) = some (.string s)) (by kernel_rfl) ?_ (fun hHeld => ?_)
              · exact HS.out _ hBwr.drew
              have hBdr : Below w3.heap.size w3 wr.drew := hBwr.drew
              refine tk 0 53 ?_
              refine tk 1 54 ?_
              refine tk 2 55 ?_
              refine tk 3 56 ?_
              refine tk 4 57 ?_
              refine tk 5 58 ?_
              (refine held_call 6 (some 59) 25 _ rfl (by kernel_rfl) (by rfl) ?_ ((HSS.out _ hBdr)) ?_; rotate_left; rotate_left; (simp only [List.getElem?_toArray, List.getElem?_cons_zero, List.getElem?_cons_succ, Option.map_some]; refine congrArg some ?_; go_simp))
              rintro e u0 ⟨rfl, hb⟩
              have hBu0 : Below w3.heap.size w3 u0 := hBdr.trans (hb.mono hBdr.size)
              refine ⟨_, rfl, HS.out _ hBu0, fun hHeld => ?_⟩
              (try simp only [Act.put, List.setIfInBounds_toArray, List.set_cons_zero, List.set_cons_succ])
              refine tk 7 12 ?_
              refine wpAnyH_done (by kernel_rfl) ?_ _
              have y1 := (HS.out _ hBu0).2
              clear hb hBdr hBwr hHeld
              go_wp2
              go_roundw
              case rel => exact ⟨k + 1, by omega, by rw [HBN.out], by go_num, by assumption⟩
              case measure => simp [intOf]; omega
            · have HSS := Lib.hid (HST.out 1 hN)
              have HBN : Hid (badB L (col.take (k + 1)) = true) := by show _ = _; rw [HBT.out, hB0, isSt_eq, isSt_eq, hN]; rfl
              clear HST HBT hN
              clear hB0
              go_upto_region 10 with fail
              refine wp_region_held_drew (S := fun V => V.cell? ⟨b0, 0, none⟩ = some (.slice A l.length c) ∧ V.cell? (ad.add k) = some (.string s)) (by kernel_rfl) ?_ (fun hHeld => ?_)
              · exact HS.out _ hBwr.drew
              have hBdr : Below w3.heap.size w3 wr.drew := hBwr.drew
              refine tk 0 53 ?_
              refine tk 1 54 ?_
              refine tk 2 55 ?_
              refine tk 3 56 ?_
              refine tk 4 57 ?_
              refine tk 5 58 ?_
              (refine held_call 6 (some 59) 25 _ rfl (by kernel_rfl) (by rfl) ?_ ((HSS.out _ hBdr)) ?_; rotate_left; rotate_left; (simp only [List.getElem?_toArray, List.getElem?_cons_zero, List.getElem?_cons_succ, Option.map_some]; refine congrArg some ?_; go_simp))
              rintro e u0 ⟨rfl, hb⟩
              have hBu0 : Below w3.heap.size w3 u0 := hBdr.trans (hb.mono hBdr.size)
              refine ⟨_, rfl, HS.out _ hBu0, fun hHeld => ?_⟩
              (try simp only [Act.put, List.setIfInBounds_toArray, List.set_cons_zero, List.set_cons_succ])
              refine tk 7 12 ?_
              refine wpAnyH_done (by kernel_rfl) ?_ _
              have y1 := (HS.out _ hBu0).2
              clear hb hBdr hBwr hHeld
              go_wp2
              go_roundw
              case rel => exact ⟨k + 1, by omega, by rw [HBN.out], by go_num, by assumption⟩
              case measure => simp [intOf]; omega
          · cases hB0 : badB L (col.take k)
            · have HSS := Lib.hid (HST.out 2 hN)
              have HBN : Hid (badB L (col.take (k + 1)) = false) := by show _ = _; rw [HBT.out, hB0, isSt_eq, isSt_eq, hN]; rfl
              clear HST HBT hN
              clear hB0
              go_upto_region 10 with fail
              refine wp_region_held_drew (S := fun V => V.cell? ⟨b0, 0, none⟩ = some (.slice A l.length c) ∧ V.cell? (ad.add k) = some (.string s)) (by kernel_rfl) ?_ (fun hHeld => ?_)
              · exact HS.out _ hBwr.drew
              have hBdr : Below w3.heap.size w3 wr.drew := hBwr.drew
              refine tk 0 53 ?_
              refine tk 1 54 ?_
              refine tk 2 55 ?_
              refine tk 3 56 ?_
              refine tk 4 57 ?_
              refine tk 5 58 ?_
              (refine held_call 6 (some 59) 25 _ rfl (by kernel_rfl) (by rfl) ?_ ((HSS.out _ hBdr)) ?_; rotate_left; rotate_left; (simp only [List.getElem?_toArray, List.getElem?_cons_zero, List.getElem?_cons_succ, Option.map_some]; refine congrArg some ?_; go_simp))
              rintro e u0 ⟨rfl, hb⟩
              have hBu0 : Below w3.heap.size w3 u0 := hBdr.trans (hb.mono hBdr.size)
              refine ⟨_, rfl, HS.out _ hBu0, fun hHeld => ?_⟩
              (try simp only [Act.put, List.setIfInBounds_toArray, List.set_cons_zero, List.set_cons_succ])
              refine tk 7 12 ?_
              refine wpAnyH_done (by kernel_rfl) ?_ _
              have y1 := (HS.out _ hBu0).2
              clear hb hBdr hBwr hHeld
              go_wp2
              go_roundw
              case rel => exact ⟨k + 1, by omega, by rw [HBN.out], by go_num, by assumption⟩
              case measure => simp [intOf]; omega
            · have HSS := Lib.hid (HST.out 2 hN)
              have HBN : Hid (badB L (col.take (k + 1)) = true) := by show _ = _; rw [HBT.out, hB0, isSt_eq, isSt_eq, hN]; rfl
              clear HST HBT hN
              clear hB0
              go_upto_region 10 with fail
              refine wp_region_held_drew (S := fun V => V.cell? ⟨b0, 0, none⟩ = some (.slice A l.length c) ∧ V.cell? (ad.add k) = some (.string s)) (by kernel_rfl) ?_ (fun hHeld => ?_)
              · exact HS.out _ hBwr.drew
              have hBdr : Below w3.heap.size w3 wr.drew := hBwr.drew
              refine tk 0 53 ?_
              refine tk 1 54 ?_
              refine tk 2 55 ?_
              refine tk 3 56 ?_
              refine tk 4 57 ?_
              refine tk 5 58 ?_
              (refine held_call 6 (some 59) 25 _ rfl (by kernel_rfl) (by rfl) ?_ ((HSS.out _ hBdr)) ?_; rotate_left; rotate_left; (simp only [List.getElem?_toArray, List.getElem?_cons_zero, List.getElem?_cons_succ, Option.map_some]; refine congrArg some ?_; go_simp))
              rintro e u0 ⟨rfl, hb⟩
              have hBu0 : Below w3.heap.size w3 u0 := hBdr.trans (hb.mono hBdr.size)
              refine ⟨_, rfl, HS.out _ hBu0, fun hHeld => ?_⟩
              (try simp only [Act.put, List.setIfInBounds_toArray, List.set_cons_zero, List.set_cons_succ])
              refine tk 7 12 ?_
              refine wpAnyH_done (by kernel_rfl) ?_ _
              have y1 := (HS.out _ hBu0).2
              clear hb hBdr hBwr hHeld
              go_wp2
              go_roundw
              case rel => exact ⟨k + 1, by omega, by rw [HBN.out], by go_num, by assumption⟩
              case measure => simp [intOf]; omega
          · cases hB0 : badB L (col.take k)
            · have HSS := Lib.hid (HST.out 3 hN)
              have HBN : Hid (badB L (col.take (k + 1)) = true) := by show _ = _; rw [HBT.out, hB0, isSt_eq, isSt_eq, hN]; rfl
              clear HST HBT hN
              clear hB0
              go_upto_region 10 with fail
              refine wp_region_held_drew (S := fun V => V.cell? ⟨b0, 0, none⟩ = some (.slice A l.length c) ∧ V.cell? (ad.add k) = some (.string s)) (by kernel_rfl) ?_ (fun hHeld => ?_)
              · exact HS.out _ hBwr.drew
              have hBdr : Below w3.heap.size w3 wr.drew := hBwr.drew
              refine tk 0 53 ?_
              refine tk 1 54 ?_
              refine tk 2 55 ?_
              refine tk 3 56 ?_
              refine tk 4 57 ?_
              refine tk 5 58 ?_
              (refine held_call 6 (some 59) 25 _ rfl (by kernel_rfl) (by rfl) ?_ ((HSS.out _ hBdr)) ?_; rotate_left; rotate_left; (simp only [List.getElem?_toArray, List.getElem?_cons_zero, List.getElem?_cons_succ, Option.map_some]; refine congrArg some ?_; go_simp))
              rintro e u0 ⟨rfl, hb⟩
              have hBu0 : Below w3.heap.size w3 u0 := hBdr.trans (hb.mono hBdr.size)
              refine ⟨_, rfl, HS.out _ hBu0, fun hHeld => ?_⟩
              (try simp only [Act.put, List.setIfInBounds_toArray, List.set_cons_zero, List.set_cons_succ])
              refine tk 7 12 ?_
              refine wpAnyH_done (by kernel_rfl) ?_ _
              have y1 := (HS.out _ hBu0).2
              clear hb hBdr hBwr hHeld
              go_wp2
              go_roundw
              case rel => exact ⟨k + 1, by omega, by rw [HBN.out], by go_num, by assumption⟩
              case measure => simp [intOf]; omega
            · have HSS := Lib.hid (HST.out 3 hN)
              have HBN : Hid (badB L (col.take (k + 1)) = true) := by show _ = _; rw [HBT.out, hB0, isSt_eq, isSt_eq, hN]; rfl
              clear HST HBT hN
              clear hB0
              go_upto_region 10 with fail
              refine wp_region_held_drew (S := fun V => V.cell? ⟨b0, 0, none⟩ = some (.slice A l.length c) ∧ V.cell? (ad.add k) = some (.string s)) (by kernel_rfl) ?_ (fun hHeld => ?_)
              · exact HS.out _ hBwr.drew
              have hBdr : Below w3.heap.size w3 wr.drew := hBwr.drew
              refine tk 0 53 ?_
              refine tk 1 54 ?_
              refine tk 2 55 ?_
              refine tk 3 56 ?_
              refine tk 4 57 ?_
              refine tk 5 58 ?_
              (refine held_call 6 (some 59) 25 _ rfl (by kernel_rfl) (by rfl) ?_ ((HSS.out _ hBdr)) ?_; rotate_left; rotate_left; (simp only [List.getElem?_toArray, List.getElem?_cons_zero, List.getElem?_cons_succ, Option.map_some]; refine congrArg some ?_; go_simp))
              rintro e u0 ⟨rfl, hb⟩
              have hBu0 : Below w3.heap.size w3 u0 := hBdr.trans (hb.mono hBdr.size)
              refine ⟨_, rfl, HS.out _ hBu0, fun hHeld => ?_⟩
              (try simp only [Act.put, List.setIfInBounds_toArray, List.set_cons_zero, List.set_cons_succ])
              refine tk 7 12 ?_
              refine wpAnyH_done (by kernel_rfl) ?_ _
              have y1 := (HS.out _ hBu0).2
              clear hb hBdr hBwr hHeld
              go_wp2
              go_roundw
              case rel => exact ⟨k + 1, by omega, by rw [HBN.out], by go_num, by assumption⟩
              case measure => simp [intOf]; omega
        · obtain rfl : k = col.length := by omega
          rw [List.take_length]
          rw [HBD.out]
          clear HC HT HSZ HI0
          go_wp2_with (first | (go_at_call 17; refine (HR.out _ (by assumption)).mono ?_; rintro e z ⟨rfl, hb⟩; have hBz : Below w3.heap.size w3 z := Below.trans (by assumption) (hb.mono (Below.size (by assumption))); have yz := HY.out z hBz; clear hb))
          go_ret
          subst hb0; exact ⟨rfl, (HW.out.trans (hBz.mono (by have := HW.out.size; omega)))⟩
    · have hf1 : (skF L col 1).length = 0 := by rw [skF_none he0]; rfl
      have hf2 : (skF L col 2).length = 0 := by rw [skF_none he0]; rfl
      rw [hf1, hf2]
      have hk : skE L col = 1 ∨ skE L col = 2 ∨ skE L col = 6 := by omega
      clear he0 he8 hsk HX1 HX2 hf1 hf2 HT HC HSZ
      rcases hk with hk | hk | hk
      all_goals (rw [hk]; clear hk; go_wp2_with (first | (go_at_call 17; refine (HR.out _ (by assumption)).mono ?_; rintro e z ⟨rfl, hb⟩; have hBz : Below W0.heap.size W0 z := Below.trans (by assumption) (hb.mono (Below.size (by assumption))); clear hb)); go_ret; subst hb0; exact ⟨rfl, HW.out.trans (hBz.mono (by have := HW.out.size; omega))⟩)
end Go.Proofs.YtkfeagokmcakgaaGreatDoor
