/- Comparisons with a new row; the calls of ruled() that make rows. -/
import Derived.Test.YtkfeagokmcakgaaGreatDoorG12
import Derived.Test.YtkfeagokmcakgaaGreatDoorG41
import Derived.Test.YtkfeagokmcakgaaGreatDoorG44

set_option linter.unusedVariables false
set_option linter.unusedSimpArgs false

namespace Go.Proofs.YtkfeagokmcakgaaGreatDoor
open Go.RowKit

theorem same_c (l : List ByteArray) (A : Option Addr) (c : Nat) (W : World) (hl : Lies W W.heap.size A (strsC l)) (hn : l.length ≤ 1000) {V : World} (hV : Below W.heap.size W V) :
    Calls Tryz.prog 40 #[.slice A l.length c, .slice (some ⟨V.heap.size, 0, none⟩) l.length l.length] (V.alloc (.cells (strsC l).toArray 9)) (fun e w' => e = .returned (.bool true) ∧ Below V.heap.size V w') := by
  have hb : Below V.heap.size V (V.alloc (.cells (strsC l).toArray 9)) := (Below.refl _ _).alloc (Nat.le_refl _) _
  have hs : V.heap.size < (V.alloc (.cells (strsC l).toArray 9)).heap.size := by simp
  have h1 : Lies (V.alloc (.cells (strsC l).toArray 9)) (V.alloc (.cells (strsC l).toArray 9)).heap.size A (strsC l) := ((hl.below hV (Nat.le_refl _)).more hV.size |>.below hb (Nat.le_refl _)).more hb.size
  have h2 := (Bk.new V 9 (strsC l).toArray).lies hs
  rw [List.toList_toArray] at h2
  refine (sameStrs_any l l A (some ⟨V.heap.size, 0, none⟩) c l.length _ h1 h2 (by omega) (by omega)).mono ?_
  rintro e w' ⟨rfl, hb2⟩
  refine ⟨?_, hb.trans (hb2.mono hb.size)⟩
  unfold sameS
  rw [decide_eq_true rfl]
theorem samei_c (l : List Int) (A : Option Addr) (c : Nat) (W : World) (hl : Lies W W.heap.size A (ints l)) (hn : l.length ≤ 1000) {V : World} (hV : Below W.heap.size W V) :
    Calls Tryz.prog 33 #[.slice A l.length c, .slice (some ⟨V.heap.size, 0, none⟩) l.length l.length] (V.alloc (.cells (ints l).toArray 3)) (fun e w' => e = .returned (.bool true) ∧ Below V.heap.size V w') := by
  have hb : Below V.heap.size V (V.alloc (.cells (ints l).toArray 3)) := (Below.refl _ _).alloc (Nat.le_refl _) _
  have hs : V.heap.size < (V.alloc (.cells (ints l).toArray 3)).heap.size := by simp
  have h1 : Lies (V.alloc (.cells (ints l).toArray 3)) (V.alloc (.cells (ints l).toArray 3)).heap.size A (ints l) := ((hl.below hV (Nat.le_refl _)).more hV.size |>.below hb (Nat.le_refl _)).more hb.size
  have h2 := (Bk.new V 3 (ints l).toArray).lies hs
  rw [List.toList_toArray] at h2
  refine (sameInts_any l l A (some ⟨V.heap.size, 0, none⟩) c l.length _ h1 h2 (by omega) (by omega)).mono ?_
  rintro e w' ⟨rfl, hb2⟩
  refine ⟨?_, hb.trans (hb2.mono hb.size)⟩
  unfold sameB
  rw [decide_eq_true rfl]
theorem strokes_d {A : Option Addr} {c : Nat} {V : World} (h : CB A c V) : Calls Tryz.prog 24 #[.agg #[.slice A 7 c], .int .i64 0, .slice (some ⟨V.heap.size, 0, none⟩) 2 2] (V.alloc (.cells #[.string ⟨#[111, 99, 104, 114, 101]⟩, .string ⟨#[97, 122, 117, 114, 105, 116, 101]⟩] 9)) (fun e w' => ∃ A1 c1 A2 c2, e = .returned (.tuple #[.slice A1 1 c1, .slice A2 1 c2, .int .i64 0]) ∧ Lies w' w'.heap.size A1 (strsC [och]) ∧ Lies w' w'.heap.size A2 (strsC [azu]) ∧ Below V.heap.size V w') := by
  have hb : Below V.heap.size V (V.alloc (.cells #[.string ⟨#[111, 99, 104, 114, 101]⟩, .string ⟨#[97, 122, 117, 114, 105, 116, 101]⟩] 9)) := (Below.refl _ _).alloc (Nat.le_refl _) _
  refine (strokes_c (h.step hb) V.heap.size (Bk.new V 9 _)).mono ?_
  rintro e w' ⟨A1, c1, A2, c2, rfl, h1, h2, hb2⟩
  exact ⟨A1, c1, A2, c2, rfl, h1, h2, hb.trans (hb2.mono hb.size)⟩
theorem arrange_d {A : Option Addr} {c : Nat} {V : World} (h : CB A c V) : Calls Tryz.prog 54 #[.agg #[.slice A 7 c], .int .i64 5, .slice (some ⟨V.heap.size, 0, none⟩) 2 2] (V.alloc (.cells #[.string ⟨#[111, 99, 104, 114, 101]⟩, .string ⟨#[97, 122, 117, 114, 105, 116, 101]⟩] 9)) (fun e w' => ∃ A1 c1, e = .returned (.tuple #[.slice A1 2 c1, .bool true, .int .i64 0]) ∧ Lies w' w'.heap.size A1 (strsC [azu, och]) ∧ Below V.heap.size V w') := by
  have hb : Below V.heap.size V (V.alloc (.cells #[.string ⟨#[111, 99, 104, 114, 101]⟩, .string ⟨#[97, 122, 117, 114, 105, 116, 101]⟩] 9)) := (Below.refl _ _).alloc (Nat.le_refl _) _
  refine (arrange_c (h.step hb) V.heap.size (Bk.new V 9 _)).mono ?_
  rintro e w' ⟨A1, c1, rfl, h1, hb2⟩
  exact ⟨A1, c1, rfl, h1, hb.trans (hb2.mono hb.size)⟩
theorem lies_on {W V : World} {A : Option Addr} {cs : List Value} (h : Lies W W.heap.size A cs) (hb : Below W.heap.size W V) : Lies V V.heap.size A cs := (h.below hb (Nat.le_refl _)).more hb.size
def sttZ (k : Int) (x : ByteArray) : Int := ((stt (cntL cbook k) x : Nat) : Int)
theorem state_z {A : Option Addr} {c : Nat} {w : World} (h : CB A c w) (k : Int) (x : ByteArray) (hx : x.size ≤ 100) : Calls Tryz.prog 25 #[.agg #[.slice A 7 c], .int .i64 k, .string x] w (fun e w' => e = .returned (.int .u8 (sttZ k x)) ∧ Below w.heap.size w w') := state_c h hx rfl
theorem z_st0 : sttZ 0 ⟨#[111, 99, 104, 114, 101]⟩ = 1 := by show ((stt (cntL cbook 0) och : Nat) : Int) = 1; rw [c_st0]; rfl
theorem z_st9 : sttZ 9 ⟨#[111, 99, 104, 114, 101]⟩ = 3 := by show ((stt (cntL cbook 9) och : Nat) : Int) = 3; rw [c_st9]; rfl
theorem z_st20 : sttZ 20 ⟨#[111, 99, 104, 114, 101]⟩ = 1 := by show ((stt (cntL cbook 20) och : Nat) : Int) = 1; rw [c_st20]; rfl
theorem z_sta : sttZ 0 ⟨#[97, 122, 117, 114, 105, 116, 101]⟩ = 2 := by show ((stt (cntL cbook 0) azu : Nat) : Int) = 2; rw [c_sta]; rfl
/-- a row of names, known by the cells of a like one -/
def Kn (W : World) (A : Option Addr) (n : Nat) (C : Array Value) : Prop := ∃ l : List ByteArray, C = (strsC l).toArray ∧ l.length = n ∧ n ≤ 1000 ∧ Lies W W.heap.size A (strsC l)
def KnI (W : World) (A : Option Addr) (n : Nat) (C : Array Value) : Prop := ∃ l : List Int, C = (ints l).toArray ∧ l.length = n ∧ n ≤ 1000 ∧ Lies W W.heap.size A (ints l)
theorem Kn.step {W V : World} {A : Option Addr} {n : Nat} {C : Array Value} (h : Kn W A n C) (hb : Below W.heap.size W V) : Kn V A n C := by
  obtain ⟨l, h1, h2, h3, h4⟩ := h
  exact ⟨l, h1, h2, h3, lies_on h4 hb⟩
theorem KnI.step {W V : World} {A : Option Addr} {n : Nat} {C : Array Value} (h : KnI W A n C) (hb : Below W.heap.size W V) : KnI V A n C := by
  obtain ⟨l, h1, h2, h3, h4⟩ := h
  exact ⟨l, h1, h2, h3, lies_on h4 hb⟩
theorem same_k {W V : World} {A : Option Addr} {n c : Nat} {C : Array Value} (h : Kn W A n C) (hV : Below W.heap.size W V) :
    Calls Tryz.prog 40 #[.slice A n c, .slice (some ⟨V.heap.size, 0, none⟩) n n] (V.alloc (.cells C 9)) (fun e w' => e = .returned (.bool true) ∧ Below V.heap.size V w') := by
  obtain ⟨l, rfl, rfl, h3, h4⟩ := h
  exact same_c l A c W h4 h3 hV
theorem samei_k {W V : World} {A : Option Addr} {n c : Nat} {C : Array Value} (h : KnI W A n C) (hV : Below W.heap.size W V) :
    Calls Tryz.prog 33 #[.slice A n c, .slice (some ⟨V.heap.size, 0, none⟩) n n] (V.alloc (.cells C 3)) (fun e w' => e = .returned (.bool true) ∧ Below V.heap.size V w') := by
  obtain ⟨l, rfl, rfl, h3, h4⟩ := h
  exact samei_c l A c W h4 h3 hV
end Go.Proofs.YtkfeagokmcakgaaGreatDoor

namespace Go.Proofs.YtkfeagokmcakgaaGreatDoor
open Go.RowKit

set_option maxHeartbeats 4000000 in
set_option maxRecDepth 100000 in
theorem ruled_any (w : World) (hg : Glob w) : Calls Tryz.prog 17 #[] w (fun e w' => e = .returned (.bool true) ∧ Below w.heap.size w w') := by
  have HP := Lib.hid (parse_c w hg)
  clear hg
  go_enter Tryz.func17, Tryz.ntmps17
  go_upto_region 2 with (first | (go_at_call 18; refine HP.out.mono ?_; rintro e w1 ⟨A, c, rfl, hcb, hb1⟩))
  have kb : Bk ((w1.alloc (.cells #[.slice A 7 c] 25)).alloc (.cells #[.int .i64 0, .int .i64 0, .int .i64 0] 28)) w1.heap.size 25 #[.slice A 7 c] := (Bk.new w1 25 _).alloc _
  have kf : Bk ((w1.alloc (.cells #[.slice A 7 c] 25)).alloc (.cells #[.int .i64 0, .int .i64 0, .int .i64 0] 28)) (w1.heap.size + 1) 28 #[.int .i64 0, .int .i64 0, .int .i64 0] := by have h := Bk.new (w1.alloc (.cells #[.slice A 7 c] 25)) 28 #[.int .i64 0, .int .i64 0, .int .i64 0]; simpa using h
  have hb0 : Below w1.heap.size w1 ((w1.alloc (.cells #[.slice A 7 c] 25)).alloc (.cells #[.int .i64 0, .int .i64 0, .int .i64 0] 28)) := ((Below.refl _ _).alloc (Nat.le_refl _) _).alloc (by simp) _
  have HXX := Lib.hid (And.intro (hcb.step hb0) (And.intro kb (hb1.trans (hb0.mono hb1.size))))
  have x0 : ((w1.alloc (.cells #[.slice A 7 c] 25)).alloc (.cells #[.int .i64 0, .int .i64 0, .int .i64 0] 28)).cell? ⟨w1.heap.size, 0, none⟩ = some (.slice A 7 c) := kb.cell 0 rfl
  have x1 : ((w1.alloc (.cells #[.slice A 7 c] 25)).alloc (.cells #[.int .i64 0, .int .i64 0, .int .i64 0] 28)).cell? ⟨w1.heap.size + 1, 0, none⟩ = some (.int .i64 0) := kf.cell 0 rfl
  have x2 : ((w1.alloc (.cells #[.slice A 7 c] 25)).alloc (.cells #[.int .i64 0, .int .i64 0, .int .i64 0] 28)).cell? ⟨w1.heap.size + 1, 1, none⟩ = some (.int .i64 0) := kf.cell 1 rfl
  have x3 : ((w1.alloc (.cells #[.slice A 7 c] 25)).alloc (.cells #[.int .i64 0, .int .i64 0, .int .i64 0] 28)).cell? ⟨w1.heap.size + 1, 2, none⟩ = some (.int .i64 0) := kf.cell 2 rfl
  have HPR := Lib.hid (print_c HXX.out.1)
  have hq28 : ∀ V : World, (binOp .neq 28 (.agg #[.int .i64 0, .int .i64 0, .int .i64 0]) (.agg #[.int .i64 0, .int .i64 0, .int .i64 0])).run Tryz.prog V = .ok (.bool false) V := fun V => by kernel_rfl
  have hq9 : (csrc.toList == ([49, 32, 48, 32, 103, 114, 111, 117, 112, 32, 111, 99, 104, 114, 101, 32, 101, 97, 114, 116, 104, 10, 50, 32, 48, 32, 102, 97, 115, 116, 32, 101, 97, 114, 116, 104, 10, 51, 32, 48, 32, 100, 114, 121, 32, 97, 122, 117, 114, 105, 116, 101, 10, 52, 32, 53, 32, 111, 118, 101, 114, 32, 97, 122, 117, 114, 105, 116, 101, 32, 101, 97, 114, 116, 104, 10, 53, 32, 57, 32, 100, 114, 121, 32, 111, 99, 104, 114, 101, 10, 54, 32, 50, 48, 32, 118, 111, 105, 100, 32, 53, 10, 55, 32, 50, 48, 32, 98, 101, 115, 105, 100, 101, 32, 118, 101, 114, 100, 105, 103, 114, 105, 115, 32, 119, 104, 105, 116, 101, 10] : List UInt8)) = true := by rw [ByteArray.toList_eq]; decide +kernel
  clear hcb hb1 hb0 kb kf HP
  generalize ((w1.alloc (.cells #[.slice A 7 c] 25)).alloc (.cells #[.int .i64 0, .int .i64 0, .int .i64 0] 28)) = W0 at *
  generalize w1.heap.size = b1 at *
  go_upto_region 4 with (first | (go_at_call 21; refine HPR.out.mono ?_; rintro e w2 ⟨rfl, hb2⟩))
  have HV : Hid (∀ V, Below W0.heap.size W0 V → CB A c V) := fun V hV => HXX.out.1.step hV
  have HY : Hid (∀ V, Below W0.heap.size W0 V → V.cell? ⟨b1, 0, none⟩ = some (.slice A 7 c)) := fun V hV => (HXX.out.2.1.below hV HXX.out.2.1.lt).cell 0 rfl
  have HW : Hid (Below w.heap.size w W0) := HXX.out.2.2
  have HS : Hid (∀ V, Below W0.heap.size W0 V → ∀ (k : Int) (x : ByteArray), x.size ≤ 100 → Calls Tryz.prog 25 #[.agg #[.slice A 7 c], .int .i64 k, .string x] V (fun e w' => e = .returned (.int .u8 (sttZ k x)) ∧ Below V.heap.size V w')) := fun V hV k x hx => state_z (HV.out V hV) k x hx
  have HZ0 := Lib.hid z_st0
  have HZ9 := Lib.hid z_st9
  have HZ2 := Lib.hid z_st20
  have HZA := Lib.hid z_sta
  have hB2 : Below W0.heap.size W0 w2 := hb2
  have y2 := HY.out w2 hB2
  clear x0 x1 x2 x3 HXX HPR hq28 hq9 hb2
  go_upto_region 6 with (first | (go_at_call 25; refine (HS.out _ (by assumption) _ _ (by decide +kernel)).mono ?_; rintro e V ⟨rfl, hb⟩; (first | rw [HZ0.out] | rw [HZ9.out] | rw [HZ2.out] | rw [HZA.out]); have hB : Below W0.heap.size W0 V := Below.trans (by assumption) (hb.mono (Below.size (by assumption))); have y := HY.out V hB; clear hb))
  have HO : Hid (∀ V, Below W0.heap.size W0 V → Calls Tryz.prog 31 #[.agg #[.slice A 7 c], .int .i64 5, .string ⟨#[97, 122, 117, 114, 105, 116, 101]⟩, .string ⟨#[111, 99, 104, 114, 101]⟩] V (fun e w' => e = .returned (.tuple #[.bool false, .int .i64 4]) ∧ Below V.heap.size V w')) := fun V hV => over_c (HV.out V hV)
  have HK : Hid (∀ V, Below W0.heap.size W0 V → Calls Tryz.prog 24 #[.agg #[.slice A 7 c], .int .i64 0, .slice (some ⟨V.heap.size, 0, none⟩) 2 2] (V.alloc (.cells #[.string ⟨#[111, 99, 104, 114, 101]⟩, .string ⟨#[97, 122, 117, 114, 105, 116, 101]⟩] 9)) (fun e w' => ∃ A1 c1 A2 c2, e = .returned (.tuple #[.slice A1 1 c1, .slice A2 1 c2, .int .i64 0]) ∧ Lies w' w'.heap.size A1 (strsC [och]) ∧ Lies w' w'.heap.size A2 (strsC [azu]) ∧ Below V.heap.size V w')) := fun V hV => strokes_d (HV.out V hV)
  have HR : Hid (∀ V, Below W0.heap.size W0 V → Calls Tryz.prog 54 #[.agg #[.slice A 7 c], .int .i64 5, .slice (some ⟨V.heap.size, 0, none⟩) 2 2] (V.alloc (.cells #[.string ⟨#[111, 99, 104, 114, 101]⟩, .string ⟨#[97, 122, 117, 114, 105, 116, 101]⟩] 9)) (fun e w' => ∃ A1 c1, e = .returned (.tuple #[.slice A1 2 c1, .bool true, .int .i64 0]) ∧ Lies w' w'.heap.size A1 (strsC [azu, och]) ∧ Below V.heap.size V w')) := fun V hV => arrange_d (HV.out V hV)
  have HC : Hid (∀ V, Below W0.heap.size W0 V → Calls Tryz.prog 27 #[.agg #[.slice A 7 c], .int .i64 0, .string ⟨#[111, 99, 104, 114, 101]⟩, .string ⟨#[101, 97, 114, 116, 104]⟩] V (fun e w' => ∃ A2 c2, e = .returned (.tuple #[.slice A2 1 c2, .bool true]) ∧ Lies w' w'.heap.size A2 (ints [1]) ∧ Below V.heap.size V w')) := fun V hV => chain_c (HV.out V hV)
  have HH : Hid (∀ V, Below W0.heap.size W0 V → Calls Tryz.prog 44 #[.agg #[.slice A 7 c], .int .i64 9, .string ⟨#[111, 99, 104, 114, 101]⟩] V (fun e w' => ∃ A2 c2, e = .returned (.slice A2 2 c2) ∧ Lies w' w'.heap.size A2 (ints [2, 5]) ∧ Below V.heap.size V w')) := fun V hV => why_c (HV.out V hV)
  clear HS HZ0 HZ9 HZ2 HZA HV
  go_upto_region 7 with (first | (go_at_call 31; refine (HO.out _ (by assumption)).mono ?_; rintro e V5 ⟨rfl, hb⟩; have hB5 : Below W0.heap.size W0 V5 := Below.trans (by assumption) (hb.mono (Below.size (by assumption))); have y5 := HY.out V5 hB5; clear hb))
  go_upto_region 8 with (first | (go_at_call 24; refine (HK.out _ (by assumption)).mono ?_; rintro e V7 ⟨A1, c1, A2, c2, rfl, l1, l2, hb⟩; have hB7 : Below W0.heap.size W0 V7 := Below.trans (by assumption) (hb.mono (Below.size (by assumption))); have y7 := HY.out V7 hB7; clear hb))
  have n1 : Kn V7 A1 1 #[.string ⟨#[111, 99, 104, 114, 101]⟩] := ⟨[och], rfl, rfl, by decide, l1⟩
  have n2 : Kn V7 A2 1 #[.string ⟨#[97, 122, 117, 114, 105, 116, 101]⟩] := ⟨[azu], rfl, rfl, by decide, l2⟩
  clear l1 l2
  go_upto_region 9 with (first | (go_at_call 54; refine (HR.out _ (by assumption)).mono ?_; rintro e V8 ⟨A3, c3, rfl, l1, hb⟩; have hB8 : Below W0.heap.size W0 V8 := Below.trans (by assumption) (hb.mono (Below.size (by assumption))); have y8 := HY.out V8 hB8; replace n1 := n1.step hb; replace n2 := n2.step hb; clear hb))
  have n3 : Kn V8 A3 2 #[.string ⟨#[97, 122, 117, 114, 105, 116, 101]⟩, .string ⟨#[111, 99, 104, 114, 101]⟩] := ⟨[azu, och], rfl, rfl, by decide, l1⟩
  clear l1
  go_upto_region 10 with (first | (go_at_call 27; refine (HC.out _ (by assumption)).mono ?_; rintro e V9 ⟨A4, c4, rfl, l1, hb⟩; have hB9 : Below W0.heap.size W0 V9 := Below.trans (by assumption) (hb.mono (Below.size (by assumption))); replace n1 := n1.step hb; replace n2 := n2.step hb; replace n3 := n3.step hb; clear hb))
  have n4 : KnI V9 A4 1 #[.int .i64 1] := ⟨[1], rfl, rfl, by decide, l1⟩
  have HY9 : Hid (∀ V, Below V9.heap.size V9 V → V.cell? ⟨b1, 0, none⟩ = some (.slice A 7 c)) := fun V hV => HY.out V (hB9.trans (hV.mono hB9.size))
  have HH9 : Hid (∀ V, Below V9.heap.size V9 V → Calls Tryz.prog 44 #[.agg #[.slice A 7 c], .int .i64 9, .string ⟨#[111, 99, 104, 114, 101]⟩] V (fun e w' => ∃ A2 c2, e = .returned (.slice A2 2 c2) ∧ Lies w' w'.heap.size A2 (ints [2, 5]) ∧ Below V.heap.size V w')) := fun V hV => HH.out V (hB9.trans (hV.mono hB9.size))
  have HE9 : Hid (∀ V, Below V9.heap.size V9 V → Below w.heap.size w V) := fun V hV => HW.out.trans ((hB9.trans (hV.mono hB9.size)).mono HW.out.size)
  have hBB : Below V9.heap.size V9 V9 := Below.refl _ _
  have yy := HY9.out V9 hBB
  clear l1 HO HK HR HC HH HY HW
  clear y2 hB2 hB5 y5 hB7 y7 hB8 y8 hB9
  go_upto_region 12 with fail
  go_wp2_with (first | (go_at_call 40; refine (same_k (by assumption) (by assumption)).mono ?_; rintro e V ⟨rfl, hb⟩; have hB : Below V9.heap.size V9 V := Below.trans (by assumption) (hb.mono (Below.size (by assumption))); have y := HY9.out V hB; clear hb) | (go_at_call 33; refine (samei_k (by assumption) (by assumption)).mono ?_; rintro e V ⟨rfl, hb⟩; have hB : Below V9.heap.size V9 V := Below.trans (by assumption) (hb.mono (Below.size (by assumption))); have y := HY9.out V hB; clear hb) | (go_at_call 44; refine (HH9.out _ (by assumption)).mono ?_; rintro e V ⟨A5, c5, rfl, l1, hb⟩; have hB : Below V9.heap.size V9 V := Below.trans (by assumption) (hb.mono (Below.size (by assumption))); have y := HY9.out V hB; have n5 : KnI V A5 2 #[.int .i64 2, .int .i64 5] := ⟨[2, 5], rfl, rfl, by decide, l1⟩; clear hb l1; have hBw : Below V.heap.size V V := Below.refl _ _))
  go_ret
  exact ⟨rfl, HE9.out _ (by assumption)⟩
end Go.Proofs.YtkfeagokmcakgaaGreatDoor

namespace Go.Proofs.YtkfeagokmcakgaaGreatDoor

def limR (k : Nat) : Rul := ⟨(k : Int) + 1, 0, 1, ⟨#[111, 99, 104, 114, 101]⟩, ByteArray.empty, 0⟩
def limL (n : Nat) : List Rul := (List.range n).map limR
theorem limL_length (n : Nat) : (limL n).length = n := by simp [limL]
theorem limL_succ (n : Nat) : limL (n + 1) = limL n ++ [limR n] := by simp [limL, List.range_succ]
theorem limL_take {n k : Nat} (h : k ≤ n) : (limL n).take k = limL k := by
  unfold limL; rw [← List.map_take, List.take_range, Nat.min_eq_left h]
theorem limL_get {n k : Nat} (h : k < (limL n).length) : (limL n)[k] = limR k := by simp [limL]
theorem lim_shp (k : Nat) : shpB (limR k) = true := by
  have h : nameB ⟨#[111, 99, 104, 114, 101]⟩ = true := by decide +kernel
  unfold shpB limR
  simp [h]
theorem lim_frm {k : Nat} (h : k < 1000000) : frm (limR k) = true := by
  have h1 := lim_shp k
  unfold frm
  rw [h1, decide_eq_true (show (1 : Int) ≤ (limR k).id from (by show (1 : Int) ≤ (k : Int) + 1; omega)), decide_eq_true (show (limR k).id ≤ 1000000 from (by show (k : Int) + 1 ≤ 1000000; omega))]
  rfl
theorem limL_mem {n : Nat} {r : Rul} (h : r ∈ limL n) : ∃ k, k < n ∧ r = limR k := by
  obtain ⟨k, hk, e⟩ := List.mem_map.1 h
  exact ⟨k, List.mem_range.1 hk, e.symm⟩
theorem limL_ok (n : Nat) : RulOK (limL n) := fun r hr => by
  obtain ⟨k, _, rfl⟩ := limL_mem hr
  exact ⟨by show (5 : Nat) ≤ 100; decide, by show (0 : Nat) ≤ 100; decide, by show (0 : Int) ≤ 1 ∧ (1 : Int) ≤ 255; decide⟩
theorem limL_dup (n : Nat) : dupB (limL n) (limR n).id = false := by
  unfold dupB
  rw [List.any_eq_false]
  intro r hr
  obtain ⟨k, hk, rfl⟩ := limL_mem hr
  simp [limR]
  omega
theorem limL_time (n : Nat) : timeB (limL n) (limR n) = false := by
  unfold timeB
  split
  · rfl
  · rename_i p hp
    obtain ⟨k, hk, rfl⟩ := limL_mem (List.mem_of_getLast? hp)
    rfl
theorem lim_ref {n : Nat} (h : n < 200) : refE (limL n) (limR n) = 0 := by
  unfold refE refG
  rw [limL_length, if_neg (by omega), lim_frm (by omega), limL_dup, limL_time]
  simp [limR]
theorem lim_ref2 {n : Nat} (h : 200 ≤ n) : refE (limL n) (limR n) = 2 := by
  unfold refE refG
  rw [limL_length, if_pos h]
theorem limL_fine {n : Nat} (h : n ≤ 200) : Fine (limL n) := fun i hi => by
  have hi2 : i < n := by simpa [limL_length] using hi
  rw [limL_get hi, limL_take (by omega)]
  exact lim_ref (by omega)
theorem lim_chk : chkL (limL 200) = (0, 0) := chkL_ok (limL_fine (Nat.le_refl _))
theorem lim_chk1 : chkL (limL 201) = (200, 2) := by
  have hk : 200 < (limL 201).length := by rw [limL_length]; omega
  have h := chkL_bad hk (by rw [limL_take (by omega)]; exact limL_fine (Nat.le_refl _)) (by rw [limL_take (by omega), limL_get hk, lim_ref2 (Nat.le_refl _)]; decide)
  rw [limL_take (by omega), limL_get hk, lim_ref2 (Nat.le_refl _)] at h
  exact h
theorem lim_apd : apdE (limL 200) (limR 200) = 2 := by
  unfold apdE
  rw [lim_chk, if_pos rfl, lim_ref2 (Nat.le_refl _)]
theorem lim_apl : apdL (limL 200) (limR 200) = [] := by
  unfold apdL
  rw [lim_apd, if_neg (by decide)]
end Go.Proofs.YtkfeagokmcakgaaGreatDoor

namespace Go.Proofs.YtkfeagokmcakgaaGreatDoor
open Go.RowKit
attribute [local go_sem] Oper.semAt_some

/-- append of one element: the row that grows is named -/
theorem wpList_append1h {P : Program} {ops : Array Oper} {rest : List Oper} {o : Oper} {a : Act} {w : World} {Q : Exit → Act → World → Prop} (hgd : o.guard = none) (s x : Operand) (t : TypeId)
    (ho : o.op = .call { callee := .builtin .append, args := #[s, x], argTypes := #[t, t] })
    (base : Nat) (e : TypeId) (z : Value) (size bytes : Nat) (ht : P.underlying t = some (.slice e)) (hi : (P.info? e).map (fun i => (i.zero, i.size, i.bytes)) = some (some z, size, bytes)) (hzs : z.cells.size = size) (hsz : 0 < size)
    (v : Value) (n : Nat) (xs : List Value) (hs : a.eval s = v) (hown : w.ownsRow base e size v n xs)
    (b : Nat) (C : Array Value) (tt : TypeId) (hx : a.eval x = .slice (some ⟨b, 0, none⟩) 1 1) (hbk : Bk w b tt C) (hl : C.size = size) (h1 : ∀ u ∈ C.toList, u.oneCell' = true)
    (h63 : n < 100000) (hbytes : bytes ≤ 1000) (hbase : base ≤ w.heap.size)
    (h : ∀ v' w', w'.ownsRow base e size v' (n + 1) (xs ++ C.toList) → w.grownBy w' v.ownBlock → Below base w w' → wpList P ops Q rest (a.put o.dst v') w') : wpList P ops Q (o :: rest) a w := by
  obtain ⟨i0, hi0, hz0, hz1, hz2⟩ := info_parts hi
  refine wpList_append_own w hgd s x t ho base e i0 z size bytes ht hi0 hz0 hz1 hz2 hzs hsz v n xs hs hown ⟨b, 0, none⟩ 1 1 C.toList hx (by simpa using hl) (bk_cells hbk) h1 (by unfold maxLen; omega) ?_ hbase ?_
  · calc (n + 1) * bytes ≤ 100000 * 1000 := Nat.mul_le_mul (by omega) hbytes
      _ ≤ 140737488355328 := by decide
  · intro v' w' ho' hg _
    have hge : ∀ k, v.ownBlock = some k → base ≤ k := fun k hk => (hown.lt k hk).1
    exact h v' w' ho' hg (Below.grown (Below.refl _ _) hg hbase fun k hk => hge k hk)
/-- a book that grows in a box -/
structure Bx (b : Nat) (A : Option Addr) (c n : Nat) (l : List Rul) (W : World) : Prop where
  bk : Bk W b 25 #[.slice A n c]
  own : W.ownsRow (b + 1) 50 6 (.slice A n c) n (rulesC l)
  len : l.length = n
theorem Bx.put {b c c2 n : Nat} {A A2 : Option Addr} {l : List Rul} {r : Rul} {W W2 : World} (h : Bx b A c n l W) (hb : Below (b + 1) W W2) (ho : W2.ownsRow (b + 1) 50 6 (.slice A2 (n + 1) c2) (n + 1) (rulesC (l ++ [r]))) :
    Bx b A2 c2 (n + 1) (l ++ [r]) (W2.setCell ⟨b, 0, none⟩ (.slice A2 (n + 1) c2)) := by
  have hk := h.bk.below hb (Nat.lt_succ_self b)
  refine ⟨?_, ?_, by simp [h.len]⟩
  · have := hk.set 0 (.slice A2 (n + 1) c2)
    simpa using this
  · exact (far_setCells b [.slice A2 (n + 1) c2] 0 W2).own ho (Nat.lt_succ_self b)
theorem Bx.lies {b c n : Nat} {A : Option Addr} {l : List Rul} {W : World} (h : Bx b A c n l W) : Lies W W.heap.size A (rulesC l) := ownsRow_lies h.own
theorem Bx.cap {b c n : Nat} {A : Option Addr} {l : List Rul} {W : World} (h : Bx b A c n l W) : n ≤ c ∧ c ≤ maxLen := by
  obtain ⟨A2, c2, e, h1, h2⟩ := ownsSlice h.own
  cases e
  exact ⟨h1, h2⟩
theorem Bx.below {b c n : Nat} {A : Option Addr} {l : List Rul} {W V : World} (h : Bx b A c n l W) (hb : Below W.heap.size W V) : Bx b A c n l V := ⟨h.bk.below hb h.bk.lt, ownsRow_below h.own hb (Nat.le_refl _), h.len⟩
theorem Bx.check {b c n : Nat} {A : Option Addr} {l : List Rul} {W : World} (h : Bx b A c n l W) (hok : RulOK l) (hm : n ≤ 1000) : Calls Tryz.prog 46 #[.agg #[.slice A n c]] W (Int2End (chkL l) W) := by
  have h1 := check_any l A c W h.lies hok (by rw [h.len]; exact hm) (by rw [h.len]; exact h.cap.1) h.cap.2
  rwa [h.len] at h1
theorem Bx.append {b c n : Nat} {A : Option Addr} {l : List Rul} {W : World} (h : Bx b A c n l W) (r : Rul) (hok : RulOK (l ++ [r])) (hm : n ≤ 999) : Calls Tryz.prog 51 #[.agg #[.slice A n c], r.agg] W (AppEnd l r W) := by
  have h1 := append_any l r A c W h.lies hok (by rw [h.len]; exact hm) (by rw [h.len]; exact h.cap.1) h.cap.2
  rwa [h.len] at h1
theorem below_set {b B : Nat} {W V : World} {v : Value} (h : Below B W V) (hB : B ≤ b) : Below B W (V.setCell ⟨b, 0, none⟩ v) := h.trans ((far_setCells b [v] 0 V).bel B V hB (Below.refl _ _))

abbrev lcells (k : Int) : Array Value := #[.int .i64 k, .int .i64 0, .int .u8 1, .string ⟨#[111, 99, 104, 114, 101]⟩, .string ByteArray.empty, .int .i64 0]
theorem lsnoc (k : Nat) : rulesC (limL k) ++ (lcells ((k : Int) + 1)).toList = rulesC (limL (k + 1)) := by rw [limL_succ]; exact rulesC_snoc (limL k) (limR k)
theorem lone_c (k : Int) : ∀ u ∈ (lcells k).toList, u.oneCell' = true := by intro u hu; simp [lcells] at hu; rcases hu with rfl | rfl | rfl | rfl | rfl | rfl <;> rfl
theorem Bx.one {b c c2 k : Nat} {A A2 : Option Addr} {W W2 : World} (h : Bx b A c k (limL k) W) (hb : Below (b + 1) W W2) (ho : W2.ownsRow (b + 1) 50 6 (.slice A2 (k + 1) c2) (k + 1) (rulesC (limL (k + 1)))) :
    Bx b A2 c2 (k + 1) (limL (k + 1)) (W2.setCell ⟨b, 0, none⟩ (.slice A2 (k + 1) c2)) := by
  rw [limL_succ] at ho ⊢
  exact h.put hb ho
set_option maxHeartbeats 1000000 in
set_option maxRecDepth 100000 in
theorem limit_any (w : World) (hg : Glob w) : Calls Tryz.prog 11 #[] w (fun e w' => e = .returned (.bool true) ∧ Below w.heap.size w w') := by
  have HR : Hid (∀ V, Below w.heap.size w V → Calls Tryz.prog 17 #[] V (fun e w' => e = .returned (.bool true) ∧ Below V.heap.size V w')) := fun V hV => ruled_any V (hg.step hV)
  clear hg
  go_enter Tryz.func11, Tryz.ntmps11
  go_wp2
  go_loopw [2] (fun y wr => ∃ (k : Nat) (A : Option Addr) (c : Nat), k ≤ 200 ∧ y = .int .i64 ((k : Int) + 1) ∧ Hid (Bx w.heap.size A c k (limL k) wr) ∧ Below w.heap.size w wr) (fun y _ => 201 - (intOf y).toNat)
  case atStart => exact ⟨0, none, 0, by omega, rfl, ⟨Bk.new _ _ _, World.ownsRow_nil _ _ _ _, rfl⟩, (Below.refl _ _).alloc (Nat.le_refl _) _⟩
  case round =>
    obtain ⟨k, A, c, hk, rfl, hX, hbw⟩ := hrel
    have x0 := hX.out.bk.cell 0 rfl
    have hbl := hX.out.bk.lt
    by_cases hlt : k < 200
    · have hX1 := Lib.hid (hX.out.below ((Below.refl _ _).alloc (Nat.le_refl _) (.cells (lcells ((k : Int) + 1)) 50)))
      have HSN := Lib.hid (lsnoc k)
      have HON := Lib.hid (lone_c ((k : Int) + 1))
      go_wp2_with (at_builtin; refine wpList_append1h (P := Tryz.prog) rfl (.tmp 14) (.tmp 17) 23 rfl (w.heap.size + 1) 50 zeroRul 6 64 Tryz.underlying23 info50 (by decide) (by decide) (.slice A k c) k (rulesC (limL k)) rfl hX1.out.own wr.heap.size (lcells ((k : Int) + 1)) 50 rfl (Bk.new _ _ _) (by simp) HON.out ?c1 (by decide) ?c2 ?_)
      case c1 => omega
      case c2 => first | omega | (simp; omega)
      intro v' w4 ho4 _ hb4
      rw [HSN.out] at ho4
      obtain ⟨A4, c4, rfl, _, _⟩ := ownsSlice ho4
      have hk4 := hX1.out.bk.below hb4 (Nat.lt_succ_self _)
      have x4 := hk4.cell 0 rfl
      have f4 := hk4.fro 0
      have HXN := Lib.hid (hX1.out.one hb4 ho4)
      have HBN : Hid (Below w.heap.size w (w4.setCell ⟨w.heap.size, 0, none⟩ (.slice A4 (k + 1) c4))) := below_set ((hbw.alloc hbw.size _).trans (hb4.mono (by omega))) (Nat.le_refl _)
      clear ho4 hb4 hk4 hX1 hX x0 HSN HON
      go_wp2
      go_roundw
      case rel => exact ⟨k + 1, A4, c4, by omega, by go_num, HXN, HBN.out⟩
      case measure => simp [intOf]; omega
    · obtain rfl : k = 200 := by omega
      have HCK := Lib.hid (hX.out.check (limL_ok _) (by omega))
      rw [lim_chk] at HCK
      clear hk hlt
      go_upto_region 7 with (first | (go_at_call 46; refine HCK.out.mono ?_; rintro e w1 ⟨rfl, hb1⟩))
      have hX2 := Lib.hid (hX.out.below hb1)
      have hbw1 : Below w.heap.size w w1 := hbw.trans (hb1.mono hbw.size)
      have HAP := Lib.hid (hX2.out.append (limR 200) (by rw [← limL_succ]; exact limL_ok _) (by omega))
      unfold AppEnd at HAP
      rw [lim_apl, lim_apd] at HAP
      have x1 := hX2.out.bk.cell 0 rfl
      have hbl1 := hX2.out.bk.lt
      clear hb1 HCK hX x0 hbl hbw
      go_upto_region 8 with (first | (go_at_call 51; refine HAP.out.mono ?_; rintro e w2 ⟨A2, c2, rfl, _, _, hb2⟩))
      have hb3 : Below w1.heap.size w1 (w2.alloc (.cells #[.slice A2 0 c2] 25)) := hb2.alloc hb2.size _
      have hX3 := Lib.hid (hX2.out.below hb3)
      have hbw3 : Below w.heap.size w (w2.alloc (.cells #[.slice A2 0 c2] 25)) := hbw1.trans (hb3.mono hbw1.size)
      clear hb2 hb3 HAP hX2 x1 hbl1 hbw1
      have x3 := hX3.out.bk.cell 0 rfl
      have hbl3 := hX3.out.bk.lt
      generalize (w2.alloc (.cells #[.slice A2 0 c2] 25)) = w3 at *
      have hX4 := Lib.hid (hX3.out.below ((Below.refl _ _).alloc (Nat.le_refl _) (.cells (lcells 201) 50)))
      have HSN : Hid (rulesC (limL 200) ++ (lcells 201).toList = rulesC (limL 201)) := lsnoc 200
      have HON := Lib.hid (lone_c 201)
      go_upto_region 9 with (at_builtin; refine wpList_append1h (P := Tryz.prog) rfl (.tmp 32) (.tmp 34) 23 rfl (w.heap.size + 1) 50 zeroRul 6 64 Tryz.underlying23 info50 (by decide) (by decide) (.slice A 200 c) 200 (rulesC (limL 200)) rfl hX4.out.own w3.heap.size (lcells 201) 50 rfl (Bk.new _ _ _) (by simp) HON.out ?c1 (by decide) ?c2 ?_)
      case c2 => first | omega | (simp; omega)
      intro v' w4 ho4 _ hb4
      rw [HSN.out] at ho4
      obtain ⟨A4, c4, rfl, _, _⟩ := ownsSlice ho4
      have hk4 := hX4.out.bk.below hb4 (Nat.lt_succ_self _)
      have x4 := hk4.cell 0 rfl
      have f4 := hk4.fro 0
      have HXN : Hid (Bx w.heap.size A4 c4 201 (limL 201) (w4.setCell ⟨w.heap.size, 0, none⟩ (.slice A4 201 c4))) := hX4.out.one hb4 ho4
      have HBN : Hid (Below w.heap.size w (w4.setCell ⟨w.heap.size, 0, none⟩ (.slice A4 201 c4))) := below_set ((hbw3.alloc hbw3.size _).trans (hb4.mono (by omega))) (Nat.le_refl _)
      clear ho4 hb4 hk4 hX4 hX3 HSN HON
      go_upto_region 9 with fail
      generalize (w4.setCell ⟨w.heap.size, 0, none⟩ (.slice A4 201 c4)) = w5 at *
      have x5 := HXN.out.bk.cell 0 rfl
      have HCK := Lib.hid (HXN.out.check (limL_ok _) (by omega))
      rw [lim_chk1] at HCK
      have HRR : Hid (∀ V, Below w5.heap.size w5 V → Calls Tryz.prog 17 #[] V (fun e w' => e = .returned (.bool true) ∧ Below V.heap.size V w')) := fun V hV => HR.out V (HBN.out.trans (hV.mono HBN.out.size))
      clear x4 f4 HR HXN
      go_wp2_with (first | (go_at_call 46; refine HCK.out.mono ?_; rintro e w6 ⟨rfl, hb6⟩) | (go_at_call 17; refine (HRR.out _ hb6).mono ?_; rintro e w7 ⟨rfl, hb7⟩))
      go_ret
      exact ⟨rfl, HBN.out.trans ((hb6.trans (hb7.mono hb6.size)).mono HBN.out.size)⟩
end Go.Proofs.YtkfeagokmcakgaaGreatDoor

namespace Go.Proofs.YtkfeagokmcakgaaGreatDoor
open Go.RowKit

set_option maxHeartbeats 400000 in
set_option maxRecDepth 100000 in
theorem rhas_any (l : List ByteArray) (A : Option Addr) (c : Nat) (s : ByteArray) (w : World) (hl : Lies w w.heap.size A (strsC l)) (hn : l.length ≤ maxLen) :
    Calls Tryz.prog 77 #[.slice A l.length c, .string s] w (ShEnd (decide (s ∈ l)) w) := by
  have HS1 : Hid (∀ k (hk : k < l.length), l[k] = s → decide (s ∈ l) = true) := fun k hk h => by rw [decide_eq_true]; subst h; exact List.getElem_mem hk
  have HS2 : Hid ((∀ j (hj : j < l.length), l[j] ≠ s) → decide (s ∈ l) = false) := fun h => by
    rw [decide_eq_false]
    intro hm
    obtain ⟨j, hj, e⟩ := List.mem_iff_getElem.1 hm
    exact h j hj e
  have hn2 : (l.length : Int) ≤ 9223372036854775807 := by unfold maxLen at hn; omega
  generalize decide (s ∈ l) = R at *
  clear hn
  go_enter Tryz.func77, Tryz.ntmps77
  go_wp2
  go_loopw [5] (fun y wr => ∃ k : Nat, k ≤ l.length ∧ y = .int .i64 k ∧ Hid (∀ j, j < k → ∀ (hj : j < l.length), l[j] ≠ s) ∧ Below w.heap.size w wr) (fun y _ => l.length - (intOf y).toNat)
  case atStart => exact ⟨0, by omega, rfl, fun j hj => absurd hj (by omega), Below.refl _ _⟩
  case round =>
    obtain ⟨k, hk, rfl, hf, hbw⟩ := hrel
    by_cases hlt : k < l.length
    · have HB := Lib.hid (HS1.out k hlt)
      have HT := Lib.hid (fun (h : l[k] ≠ s) => show Hid (∀ j, j < k + 1 → ∀ (hj : j < l.length), l[j] ≠ s) from fun j hj h1 => by
        by_cases e : j = k
        · subst e; exact h
        · exact hf.out j (by omega) h1)
      obtain ⟨ad, rfl, _, c0⟩ := str_at (hl.below hbw (Nat.le_refl _)) hlt
      clear hf hl HS1 HS2
      generalize l[k] = x at *
      by_cases hx : x = s
      · have hx1 : (x.toList == s.toList) = true := by rw [str_eq]; exact decide_eq_true hx
        have H := Lib.hid (HB.out hx)
        clear HB HT hx
        go_wp2
        go_ret
        exact sh_ret H.out.symm hbw
      · have hx1 : (x.toList == s.toList) = false := by rw [str_eq]; exact decide_eq_false hx
        have H := Lib.hid (HT.out hx)
        clear HB HT hx
        go_wp2
        go_roundw
        case rel => exact ⟨k + 1, by omega, by go_num, H, hbw⟩
        case measure => simp [intOf]; omega
    · obtain rfl : k = l.length := by omega
      have H := Lib.hid (HS2.out (fun j hj => hf.out j hj hj))
      clear hf hl HS1 HS2
      go_wp2
      go_ret
      exact sh_ret H.out.symm hbw
end Go.Proofs.YtkfeagokmcakgaaGreatDoor
