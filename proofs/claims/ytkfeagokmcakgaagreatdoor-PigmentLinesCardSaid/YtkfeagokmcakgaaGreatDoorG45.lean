/- Comparisons with a new row; the calls of ruled() that make rows. -/
import Derived.Test.YtkfeagokmcakgaaGreatDoorG41
import Derived.Test.YtkfeagokmcakgaaGreatDoorG44

set_option linter.unusedVariables false
set_option linter.unusedSimpArgs false

namespace Go.Proofs.YtkfeagokmcakgaaGreatDoor
open Go.RowKit

theorem same_c (l : List ByteArray) (A : Option Addr) (c : Nat) (W : World) (hl : Lies W W.heap.size A (strsC l)) (hn : l.length ≤ 1000) {V : World} (hV : Below W.heap.size W V) :
    Calls Tryz.prog 40 #[.slice A l.length c, .slice (some ⟨V.heap.size, 0, none⟩) l.length l.length] (V.alloc (.cells (strsC l).toArray 9)) (fun e w' => e = .returned (.bool true) ∧ Below V.heap.size V w') := by
  have hb : Below V.heap.size V (V.alloc (.cells (strsC l).toArray 9)) := (Below.refl _ _).alloc (Nat.le_refl _) _
  have hs : V.heap.size < (V.alloc (.cells (strsC l).toArray 9)).heap.size := by simp
  have h1 : Lies (V.alloc (.cells (strsC l).toArray 9)) (V.alloc (.cells (strsC l).toArray 9)).heap.size A (strsC l) := ((hl.below hV (Nat.le_refl _)).more hV.size |>.below hb (Nat.le_refl _)).more hb.size
  have h2 := (Bk.new V 9 (strsC l).toArray).lies hs
  rw [List.toList_toArray] at h2
  refine (sameStrs_any l l A (some ⟨V.heap.size, 0, none⟩) c l.length _ h1 h2 (by omega) (by omega)).mono ?_
  rintro e w' ⟨rfl, hb2⟩
  refine ⟨?_, hb.trans (hb2.mono hb.size)⟩
  unfold sameS
  rw [decide_eq_true rfl]
theorem samei_c (l : List Int) (A : Option Addr) (c : Nat) (W : World) (hl : Lies W W.heap.size A (ints l)) (hn : l.length ≤ 1000) {V : World} (hV : Below W.heap.size W V) :
    Calls Tryz.prog 33 #[.slice A l.length c, .slice (some ⟨V.heap.size, 0, none⟩) l.length l.length] (V.alloc (.cells (ints l).toArray 3)) (fun e w' => e = .returned (.bool true) ∧ Below V.heap.size V w') := by
  have hb : Below V.heap.size V (V.alloc (.cells (ints l).toArray 3)) := (Below.refl _ _).alloc (Nat.le_refl _) _
  have hs : V.heap.size < (V.alloc (.cells (ints l).toArray 3)).heap.size := by simp
  have h1 : Lies (V.alloc (.cells (ints l).toArray 3)) (V.alloc (.cells (ints l).toArray 3)).heap.size A (ints l) := ((hl.below hV (Nat.le_refl _)).more hV.size |>.below hb (Nat.le_refl _)).more hb.size
  have h2 := (Bk.new V 3 (ints l).toArray).lies hs
  rw [List.toList_toArray] at h2
  refine (sameInts_any l l A (some ⟨V.heap.size, 0, none⟩) c l.length _ h1 h2 (by omega) (by omega)).mono ?_
  rintro e w' ⟨rfl, hb2⟩
  refine ⟨?_, hb.trans (hb2.mono hb.size)⟩
  unfold sameB
  rw [decide_eq_true rfl]
theorem strokes_d {A : Option Addr} {c : Nat} {V : World} (h : CB A c V) : Calls Tryz.prog 24 #[.agg #[.slice A 7 c], .int .i64 0, .slice (some ⟨V.heap.size, 0, none⟩) 2 2] (V.alloc (.cells #[.string ⟨#[111, 99, 104, 114, 101]⟩, .string ⟨#[97, 122, 117, 114, 105, 116, 101]⟩] 9)) (fun e w' => ∃ A1 c1 A2 c2, e = .returned (.tuple #[.slice A1 1 c1, .slice A2 1 c2, .int .i64 0]) ∧ Lies w' w'.heap.size A1 (strsC [och]) ∧ Lies w' w'.heap.size A2 (strsC [azu]) ∧ Below V.heap.size V w') := by
  have hb : Below V.heap.size V (V.alloc (.cells #[.string ⟨#[111, 99, 104, 114, 101]⟩, .string ⟨#[97, 122, 117, 114, 105, 116, 101]⟩] 9)) := (Below.refl _ _).alloc (Nat.le_refl _) _
  refine (strokes_c (h.step hb) V.heap.size (Bk.new V 9 _)).mono ?_
  rintro e w' ⟨A1, c1, A2, c2, rfl, h1, h2, hb2⟩
  exact ⟨A1, c1, A2, c2, rfl, h1, h2, hb.trans (hb2.mono hb.size)⟩
theorem arrange_d {A : Option Addr} {c : Nat} {V : World} (h : CB A c V) : Calls Tryz.prog 54 #[.agg #[.slice A 7 c], .int .i64 5, .slice (some ⟨V.heap.size, 0, none⟩) 2 2] (V.alloc (.cells #[.string ⟨#[111, 99, 104, 114, 101]⟩, .string ⟨#[97, 122, 117, 114, 105, 116, 101]⟩] 9)) (fun e w' => ∃ A1 c1, e = .returned (.tuple #[.slice A1 2 c1, .bool true, .int .i64 0]) ∧ Lies w' w'.heap.size A1 (strsC [azu, och]) ∧ Below V.heap.size V w') := by
  have hb : Below V.heap.size V (V.alloc (.cells #[.string ⟨#[111, 99, 104, 114, 101]⟩, .string ⟨#[97, 122, 117, 114, 105, 116, 101]⟩] 9)) := (Below.refl _ _).alloc (Nat.le_refl _) _
  refine (arrange_c (h.step hb) V.heap.size (Bk.new V 9 _)).mono ?_
  rintro e w' ⟨A1, c1, rfl, h1, hb2⟩
  exact ⟨A1, c1, rfl, h1, hb.trans (hb2.mono hb.size)⟩
theorem lies_on {W V : World} {A : Option Addr} {cs : List Value} (h : Lies W W.heap.size A cs) (hb : Below W.heap.size W V) : Lies V V.heap.size A cs := (h.below hb (Nat.le_refl _)).more hb.size
def sttZ (k : Int) (x : ByteArray) : Int := ((stt (cntL cbook k) x : Nat) : Int)
theorem state_z {A : Option Addr} {c : Nat} {w : World} (h : CB A c w) (k : Int) (x : ByteArray) (hx : x.size ≤ 100) : Calls Tryz.prog 25 #[.agg #[.slice A 7 c], .int .i64 k, .string x] w (fun e w' => e = .returned (.int .u8 (sttZ k x)) ∧ Below w.heap.size w w') := state_c h hx rfl
theorem z_st0 : sttZ 0 ⟨#[111, 99, 104, 114, 101]⟩ = 1 := by show ((stt (cntL cbook 0) och : Nat) : Int) = 1; rw [c_st0]; rfl
theorem z_st9 : sttZ 9 ⟨#[111, 99, 104, 114, 101]⟩ = 3 := by show ((stt (cntL cbook 9) och : Nat) : Int) = 3; rw [c_st9]; rfl
theorem z_st20 : sttZ 20 ⟨#[111, 99, 104, 114, 101]⟩ = 1 := by show ((stt (cntL cbook 20) och : Nat) : Int) = 1; rw [c_st20]; rfl
theorem z_sta : sttZ 0 ⟨#[97, 122, 117, 114, 105, 116, 101]⟩ = 2 := by show ((stt (cntL cbook 0) azu : Nat) : Int) = 2; rw [c_sta]; rfl
/-- a row of names, known by the cells of a like one -/
def Kn (W : World) (A : Option Addr) (n : Nat) (C : Array Value) : Prop := ∃ l : List ByteArray, C = (strsC l).toArray ∧ l.length = n ∧ n ≤ 1000 ∧ Lies W W.heap.size A (strsC l)
def KnI (W : World) (A : Option Addr) (n : Nat) (C : Array Value) : Prop := ∃ l : List Int, C = (ints l).toArray ∧ l.length = n ∧ n ≤ 1000 ∧ Lies W W.heap.size A (ints l)
theorem Kn.step {W V : World} {A : Option Addr} {n : Nat} {C : Array Value} (h : Kn W A n C) (hb : Below W.heap.size W V) : Kn V A n C := by
  obtain ⟨l, h1, h2, h3, h4⟩ := h
  exact ⟨l, h1, h2, h3, lies_on h4 hb⟩
theorem KnI.step {W V : World} {A : Option Addr} {n : Nat} {C : Array Value} (h : KnI W A n C) (hb : Below W.heap.size W V) : KnI V A n C := by
  obtain ⟨l, h1, h2, h3, h4⟩ := h
  exact ⟨l, h1, h2, h3, lies_on h4 hb⟩
theorem same_k {W V : World} {A : Option Addr} {n c : Nat} {C : Array Value} (h : Kn W A n C) (hV : Below W.heap.size W V) :
    Calls Tryz.prog 40 #[.slice A n c, .slice (some ⟨V.heap.size, 0, none⟩) n n] (V.alloc (.cells C 9)) (fun e w' => e = .returned (.bool true) ∧ Below V.heap.size V w') := by
  obtain ⟨l, rfl, rfl, h3, h4⟩ := h
  exact same_c l A c W h4 h3 hV
theorem samei_k {W V : World} {A : Option Addr} {n c : Nat} {C : Array Value} (h : KnI W A n C) (hV : Below W.heap.size W V) :
    Calls Tryz.prog 33 #[.slice A n c, .slice (some ⟨V.heap.size, 0, none⟩) n n] (V.alloc (.cells C 3)) (fun e w' => e = .returned (.bool true) ∧ Below V.heap.size V w') := by
  obtain ⟨l, rfl, rfl, h3, h4⟩ := h
  exact samei_c l A c W h4 h3 hV
end Go.Proofs.YtkfeagokmcakgaaGreatDoor

namespace Go.Proofs.YtkfeagokmcakgaaGreatDoor
open Go.RowKit

set_option maxHeartbeats 4000000 in
set_option maxRecDepth 100000 in
theorem ruled_any (w : World) (hg : Glob w) : Calls Tryz.prog 17 #[] w (fun e w' => e = .returned (.bool true) ∧ Below w.heap.size w w') := by
  have HP := Lib.hid (parse_c w hg)
  clear hg
  go_enter Tryz.func17, Tryz.ntmps17
  go_upto_region 2 with (first | (go_at_call 18; refine HP.out.mono ?_; rintro e w1 ⟨A, c, rfl, hcb, hb1⟩))
  have kb : Bk ((w1.alloc (.cells #[.slice A 7 c] 25)).alloc (.cells #[.int .i64 0, .int .i64 0, .int .i64 0] 28)) w1.heap.size 25 #[.slice A 7 c] := (Bk.new w1 25 _).alloc _
  have kf : Bk ((w1.alloc (.cells #[.slice A 7 c] 25)).alloc (.cells #[.int .i64 0, .int .i64 0, .int .i64 0] 28)) (w1.heap.size + 1) 28 #[.int .i64 0, .int .i64 0, .int .i64 0] := by have h := Bk.new (w1.alloc (.cells #[.slice A 7 c] 25)) 28 #[.int .i64 0, .int .i64 0, .int .i64 0]; simpa using h
  have hb0 : Below w1.heap.size w1 ((w1.alloc (.cells #[.slice A 7 c] 25)).alloc (.cells #[.int .i64 0, .int .i64 0, .int .i64 0] 28)) := ((Below.refl _ _).alloc (Nat.le_refl _) _).alloc (by simp) _
  have HXX := Lib.hid (And.intro (hcb.step hb0) (And.intro kb (hb1.trans (hb0.mono hb1.size))))
  have x0 : ((w1.alloc (.cells #[.slice A 7 c] 25)).alloc (.cells #[.int .i64 0, .int .i64 0, .int .i64 0] 28)).cell? ⟨w1.heap.size, 0, none⟩ = some (.slice A 7 c) := kb.cell 0 rfl
  have x1 : ((w1.alloc (.cells #[.slice A 7 c] 25)).alloc (.cells #[.int .i64 0, .int .i64 0, .int .i64 0] 28)).cell? ⟨w1.heap.size + 1, 0, none⟩ = some (.int .i64 0) := kf.cell 0 rfl
  have x2 : ((w1.alloc (.cells #[.slice A 7 c] 25)).alloc (.cells #[.int .i64 0, .int .i64 0, .int .i64 0] 28)).cell? ⟨w1.heap.size + 1, 1, none⟩ = some (.int .i64 0) := kf.cell 1 rfl
  have x3 : ((w1.alloc (.cells #[.slice A 7 c] 25)).alloc (.cells #[.int .i64 0, .int .i64 0, .int .i64 0] 28)).cell? ⟨w1.heap.size + 1, 2, none⟩ = some (.int .i64 0) := kf.cell 2 rfl
  have HPR := Lib.hid (print_c HXX.out.1)
  have hq28 : ∀ V : World, (binOp .neq 28 (.agg #[.int .i64 0, .int .i64 0, .int .i64 0]) (.agg #[.int .i64 0, .int .i64 0, .int .i64 0])).run Tryz.prog V = .ok (.bool false) V := fun V => by kernel_rfl
  have hq9 : (csrc.toList == ([49, 32, 48, 32, 103, 114, 111, 117, 112, 32, 111, 99, 104, 114, 101, 32, 101, 97, 114, 116, 104, 10, 50, 32, 48, 32, 102, 97, 115, 116, 32, 101, 97, 114, 116, 104, 10, 51, 32, 48, 32, 100, 114, 121, 32, 97, 122, 117, 114, 105, 116, 101, 10, 52, 32, 53, 32, 111, 118, 101, 114, 32, 97, 122, 117, 114, 105, 116, 101, 32, 101, 97, 114, 116, 104, 10, 53, 32, 57, 32, 100, 114, 121, 32, 111, 99, 104, 114, 101, 10, 54, 32, 50, 48, 32, 118, 111, 105, 100, 32, 53, 10, 55, 32, 50, 48, 32, 98, 101, 115, 105, 100, 101, 32, 118, 101, 114, 100, 105, 103, 114, 105, 115, 32, 119, 104, 105, 116, 101, 10] : List UInt8)) = true := by rw [ByteArray.toList_eq]; decide +kernel
  clear hcb hb1 hb0 kb kf HP
  generalize ((w1.alloc (.cells #[.slice A 7 c] 25)).alloc (.cells #[.int .i64 0, .int .i64 0, .int .i64 0] 28)) = W0 at *
  generalize w1.heap.size = b1 at *
  go_upto_region 4 with (first | (go_at_call 21; refine HPR.out.mono ?_; rintro e w2 ⟨rfl, hb2⟩))
  have HV : Hid (∀ V, Below W0.heap.size W0 V → CB A c V) := fun V hV => HXX.out.1.step hV
  have HY : Hid (∀ V, Below W0.heap.size W0 V → V.cell? ⟨b1, 0, none⟩ = some (.slice A 7 c)) := fun V hV => (HXX.out.2.1.below hV HXX.out.2.1.lt).cell 0 rfl
  have HW : Hid (Below w.heap.size w W0) := HXX.out.2.2
  have HS : Hid (∀ V, Below W0.heap.size W0 V → ∀ (k : Int) (x : ByteArray), x.size ≤ 100 → Calls Tryz.prog 25 #[.agg #[.slice A 7 c], .int .i64 k, .string x] V (fun e w' => e = .returned (.int .u8 (sttZ k x)) ∧ Below V.heap.size V w')) := fun V hV k x hx => state_z (HV.out V hV) k x hx
  have HZ0 := Lib.hid z_st0
  have HZ9 := Lib.hid z_st9
  have HZ2 := Lib.hid z_st20
  have HZA := Lib.hid z_sta
  have hB2 : Below W0.heap.size W0 w2 := hb2
  have y2 := HY.out w2 hB2
  clear x0 x1 x2 x3 HXX HPR hq28 hq9 hb2
  go_upto_region 6 with (first | (go_at_call 25; refine (HS.out _ (by assumption) _ _ (by decide +kernel)).mono ?_; rintro e V ⟨rfl, hb⟩; (first | rw [HZ0.out] | rw [HZ9.out] | rw [HZ2.out] | rw [HZA.out]); have hB : Below W0.heap.size W0 V := Below.trans (by assumption) (hb.mono (Below.size (by assumption))); have y := HY.out V hB; clear hb))
  have HO : Hid (∀ V, Below W0.heap.size W0 V → Calls Tryz.prog 31 #[.agg #[.slice A 7 c], .int .i64 5, .string ⟨#[97, 122, 117, 114, 105, 116, 101]⟩, .string ⟨#[111, 99, 104, 114, 101]⟩] V (fun e w' => e = .returned (.tuple #[.bool false, .int .i64 4]) ∧ Below V.heap.size V w')) := fun V hV => over_c (HV.out V hV)
  have HK : Hid (∀ V, Below W0.heap.size W0 V → Calls Tryz.prog 24 #[.agg #[.slice A 7 c], .int .i64 0, .slice (some ⟨V.heap.size, 0, none⟩) 2 2] (V.alloc (.cells #[.string ⟨#[111, 99, 104, 114, 101]⟩, .string ⟨#[97, 122, 117, 114, 105, 116, 101]⟩] 9)) (fun e w' => ∃ A1 c1 A2 c2, e = .returned (.tuple #[.slice A1 1 c1, .slice A2 1 c2, .int .i64 0]) ∧ Lies w' w'.heap.size A1 (strsC [och]) ∧ Lies w' w'.heap.size A2 (strsC [azu]) ∧ Below V.heap.size V w')) := fun V hV => strokes_d (HV.out V hV)
  have HR : Hid (∀ V, Below W0.heap.size W0 V → Calls Tryz.prog 54 #[.agg #[.slice A 7 c], .int .i64 5, .slice (some ⟨V.heap.size, 0, none⟩) 2 2] (V.alloc (.cells #[.string ⟨#[111, 99, 104, 114, 101]⟩, .string ⟨#[97, 122, 117, 114, 105, 116, 101]⟩] 9)) (fun e w' => ∃ A1 c1, e = .returned (.tuple #[.slice A1 2 c1, .bool true, .int .i64 0]) ∧ Lies w' w'.heap.size A1 (strsC [azu, och]) ∧ Below V.heap.size V w')) := fun V hV => arrange_d (HV.out V hV)
  have HC : Hid (∀ V, Below W0.heap.size W0 V → Calls Tryz.prog 27 #[.agg #[.slice A 7 c], .int .i64 0, .string ⟨#[111, 99, 104, 114, 101]⟩, .string ⟨#[101, 97, 114, 116, 104]⟩] V (fun e w' => ∃ A2 c2, e = .returned (.tuple #[.slice A2 1 c2, .bool true]) ∧ Lies w' w'.heap.size A2 (ints [1]) ∧ Below V.heap.size V w')) := fun V hV => chain_c (HV.out V hV)
  have HH : Hid (∀ V, Below W0.heap.size W0 V → Calls Tryz.prog 44 #[.agg #[.slice A 7 c], .int .i64 9, .string ⟨#[111, 99, 104, 114, 101]⟩] V (fun e w' => ∃ A2 c2, e = .returned (.slice A2 2 c2) ∧ Lies w' w'.heap.size A2 (ints [2, 5]) ∧ Below V.heap.size V w')) := fun V hV => why_c (HV.out V hV)
  clear HS HZ0 HZ9 HZ2 HZA HV
  go_upto_region 7 with (first | (go_at_call 31; refine (HO.out _ (by assumption)).mono ?_; rintro e V5 ⟨rfl, hb⟩; have hB5 : Below W0.heap.size W0 V5 := Below.trans (by assumption) (hb.mono (Below.size (by assumption))); have y5 := HY.out V5 hB5; clear hb))
  go_upto_region 8 with (first | (go_at_call 24; refine (HK.out _ (by assumption)).mono ?_; rintro e V7 ⟨A1, c1, A2, c2, rfl, l1, l2, hb⟩; have hB7 : Below W0.heap.size W0 V7 := Below.trans (by assumption) (hb.mono (Below.size (by assumption))); have y7 := HY.out V7 hB7; clear hb))
  have n1 : Kn V7 A1 1 #[.string ⟨#[111, 99, 104, 114, 101]⟩] := ⟨[och], rfl, rfl, by decide, l1⟩
  have n2 : Kn V7 A2 1 #[.string ⟨#[97, 122, 117, 114, 105, 116, 101]⟩] := ⟨[azu], rfl, rfl, by decide, l2⟩
  clear l1 l2
  go_upto_region 9 with (first | (go_at_call 54; refine (HR.out _ (by assumption)).mono ?_; rintro e V8 ⟨A3, c3, rfl, l1, hb⟩; have hB8 : Below W0.heap.size W0 V8 := Below.trans (by assumption) (hb.mono (Below.size (by assumption))); have y8 := HY.out V8 hB8; replace n1 := n1.step hb; replace n2 := n2.step hb; clear hb))
  have n3 : Kn V8 A3 2 #[.string ⟨#[97, 122, 117, 114, 105, 116, 101]⟩, .string ⟨#[111, 99, 104, 114, 101]⟩] := ⟨[azu, och], rfl, rfl, by decide, l1⟩
  clear l1
  go_upto_region 10 with (first | (go_at_call 27; refine (HC.out _ (by assumption)).mono ?_; rintro e V9 ⟨A4, c4, rfl, l1, hb⟩; have hB9 : Below W0.heap.size W0 V9 := Below.trans (by assumption) (hb.mono (Below.size (by assumption))); replace n1 := n1.step hb; replace n2 := n2.step hb; replace n3 := n3.step hb; clear hb))
  have n4 : KnI V9 A4 1 #[.int .i64 1] := ⟨[1], rfl, rfl, by decide, l1⟩
  have HY9 : Hid (∀ V, Below V9.heap.size V9 V → V.cell? ⟨b1, 0, none⟩ = some (.slice A 7 c)) := fun V hV => HY.out V (hB9.trans (hV.mono hB9.size))
  have HH9 : Hid (∀ V, Below V9.heap.size V9 V → Calls Tryz.prog 44 #[.agg #[.slice A 7 c], .int .i64 9, .string ⟨#[111, 99, 104, 114, 101]⟩] V (fun e w' => ∃ A2 c2, e = .returned (.slice A2 2 c2) ∧ Lies w' w'.heap.size A2 (ints [2, 5]) ∧ Below V.heap.size V w')) := fun V hV => HH.out V (hB9.trans (hV.mono hB9.size))
  have HE9 : Hid (∀ V, Below V9.heap.size V9 V → Below w.heap.size w V) := fun V hV => HW.out.trans ((hB9.trans (hV.mono hB9.size)).mono HW.out.size)
  have hBB : Below V9.heap.size V9 V9 := Below.refl _ _
  have yy := HY9.out V9 hBB
  clear l1 HO HK HR HC HH HY HW
  clear y2 hB2 hB5 y5 hB7 y7 hB8 y8 hB9
  go_upto_region 12 with fail
  go_wp2_with (first | (go_at_call 40; refine (same_k (by assumption) (by assumption)).mono ?_; rintro e V ⟨rfl, hb⟩; have hB : Below V9.heap.size V9 V := Below.trans (by assumption) (hb.mono (Below.size (by assumption))); have y := HY9.out V hB; clear hb) | (go_at_call 33; refine (samei_k (by assumption) (by assumption)).mono ?_; rintro e V ⟨rfl, hb⟩; have hB : Below V9.heap.size V9 V := Below.trans (by assumption) (hb.mono (Below.size (by assumption))); have y := HY9.out V hB; clear hb) | (go_at_call 44; refine (HH9.out _ (by assumption)).mono ?_; rintro e V ⟨A5, c5, rfl, l1, hb⟩; have hB : Below V9.heap.size V9 V := Below.trans (by assumption) (hb.mono (Below.size (by assumption))); have y := HY9.out V hB; have n5 : KnI V A5 2 #[.int .i64 2, .int .i64 5] := ⟨[2, 5], rfl, rfl, by decide, l1⟩; clear hb l1; have hBw : Below V.heap.size V V := Below.refl _ _))
  go_ret
  exact ⟨rfl, HE9.out _ (by assumption)⟩
end Go.Proofs.YtkfeagokmcakgaaGreatDoor

namespace Go.Proofs.YtkfeagokmcakgaaGreatDoor
open Go.RowKit

set_option maxHeartbeats 400000 in
set_option maxRecDepth 100000 in
theorem rhas_any (l : List ByteArray) (A : Option Addr) (c : Nat) (s : ByteArray) (w : World) (hl : Lies w w.heap.size A (strsC l)) (hn : l.length ≤ maxLen) :
    Calls Tryz.prog 77 #[.slice A l.length c, .string s] w (ShEnd (decide (s ∈ l)) w) := by
  have HS1 : Hid (∀ k (hk : k < l.length), l[k] = s → decide (s ∈ l) = true) := fun k hk h => by rw [decide_eq_true]; subst h; exact List.getElem_mem hk
  have HS2 : Hid ((∀ j (hj : j < l.length), l[j] ≠ s) → decide (s ∈ l) = false) := fun h => by
    rw [decide_eq_false]
    intro hm
    obtain ⟨j, hj, e⟩ := List.mem_iff_getElem.1 hm
    exact h j hj e
  have hn2 : (l.length : Int) ≤ 9223372036854775807 := by unfold maxLen at hn; omega
  generalize decide (s ∈ l) = R at *
  clear hn
  go_enter Tryz.func77, Tryz.ntmps77
  go_wp2
  go_loopw [5] (fun y wr => ∃ k : Nat, k ≤ l.length ∧ y = .int .i64 k ∧ Hid (∀ j, j < k → ∀ (hj : j < l.length), l[j] ≠ s) ∧ Below w.heap.size w wr) (fun y _ => l.length - (intOf y).toNat)
  case atStart => exact ⟨0, by omega, rfl, fun j hj => absurd hj (by omega), Below.refl _ _⟩
  case round =>
    obtain ⟨k, hk, rfl, hf, hbw⟩ := hrel
    by_cases hlt : k < l.length
    · have HB := Lib.hid (HS1.out k hlt)
      have HT := Lib.hid (fun (h : l[k] ≠ s) => show Hid (∀ j, j < k + 1 → ∀ (hj : j < l.length), l[j] ≠ s) from fun j hj h1 => by
        by_cases e : j = k
        · subst e; exact h
        · exact hf.out j (by omega) h1)
      obtain ⟨ad, rfl, _, c0⟩ := str_at (hl.below hbw (Nat.le_refl _)) hlt
      clear hf hl HS1 HS2
      generalize l[k] = x at *
      by_cases hx : x = s
      · have hx1 : (x.toList == s.toList) = true := by rw [str_eq]; exact decide_eq_true hx
        have H := Lib.hid (HB.out hx)
        clear HB HT hx
        go_wp2
        go_ret
        exact sh_ret H.out.symm hbw
      · have hx1 : (x.toList == s.toList) = false := by rw [str_eq]; exact decide_eq_false hx
        have H := Lib.hid (HT.out hx)
        clear HB HT hx
        go_wp2
        go_roundw
        case rel => exact ⟨k + 1, by omega, by go_num, H, hbw⟩
        case measure => simp [intOf]; omega
    · obtain rfl : k = l.length := by omega
      have H := Lib.hid (HS2.out (fun j hj => hf.out j hj hj))
      clear hf hl HS1 HS2
      go_wp2
      go_ret
      exact sh_ret H.out.symm hbw
end Go.Proofs.YtkfeagokmcakgaaGreatDoor

namespace Go.Proofs.YtkfeagokmcakgaaGreatDoor
open Go.RowKit

structure NmK (s : ByteArray) (b : Bool) : Prop where
  run : ∀ V, Calls Tryz.prog 97 #[.string s] V (BoolEnd b V)
theorem NmK.go {s : ByteArray} {b : Bool} (h : NmK s b) (V : World) : Calls Tryz.prog 97 #[.string s] V (BoolEnd b V) := h.run V
theorem size_nil (y : ByteArray) (h : y.size = 0) : (y.toList == ([] : List UInt8)) = true := by
  rw [ByteArray.toList_eq]
  have : y.data.toList.length = 0 := by rw [Array.length_toList]; exact h
  rw [List.eq_nil_of_length_eq_zero this]; rfl
theorem size_cons (y : ByteArray) (h : ¬ y.size = 0) : (y.toList == ([] : List UInt8)) = false := by
  rw [ByteArray.toList_eq]
  cases hl : y.data.toList with
  | nil => exact absurd (by have : y.data.toList.length = y.size := by rw [Array.length_toList]; rfl
                            rw [← this, hl]; rfl) h
  | cons a b => rfl
set_option maxHeartbeats 1000000 in
set_option maxRecDepth 100000 in
theorem rformed_any (r : Rul) (w : World) (hx : r.x.size ≤ 100) (hy : r.y.size ≤ 100) : Calls Tryz.prog 85 #[r.agg] w (ShEnd (frm r) w) := by
  obtain ⟨id, kn, kd, x, y, of⟩ := r
  have hxs : x.size ≤ 100 := hx
  have hys : y.size ≤ 100 := hy
  clear hx hy
  have HB : Hid (frm ⟨id, kn, kd, x, y, of⟩ = (decide (1 ≤ id) && decide (id ≤ 1000000) && decide (0 ≤ kn) && decide (kn ≤ 100000) && shpB ⟨id, kn, kd, x, y, of⟩)) := rfl
  show Calls Tryz.prog 85 #[.agg #[.int .i64 id, .int .i64 kn, .int .u8 kd, .string x, .string y, .int .i64 of]] w _
  by_cases h1 : 1 ≤ id
  case neg =>
    have R : Hid (frm ⟨id, kn, kd, x, y, of⟩ = false) := by show _ = _; rw [HB.out]; simp [h1]
    have g1 : id < 1 := by omega
    clear HB
    go_enter Tryz.func85, Tryz.ntmps85
    go_wp2_with (first | (go_at_call 97; refine (NmK.go (by assumption) _).mono ?_; rintro e u ⟨rfl, rfl⟩))
    go_ret
    exact sh_ret R.out.symm (by exact (by repeat (first | with_reducible exact Below.refl _ _ | with_reducible assumption | with_reducible refine Below.drew ?_ | with_reducible refine below_drewN ?_ _ | (with_reducible refine Below.alloc ?_ ?_ _; rotate_left; (try simp) <;> omega) | (with_reducible refine Below.setCell ?_ ?_ _; rotate_left; (try simp) <;> omega))))
  have g1 : ¬ id < 1 := by omega
  by_cases h2 : id ≤ 1000000
  case neg =>
    have R : Hid (frm ⟨id, kn, kd, x, y, of⟩ = false) := by show _ = _; rw [HB.out]; simp [h2]
    have g2 : (1000000 : Int) < id := by omega
    clear HB
    go_enter Tryz.func85, Tryz.ntmps85
    go_wp2_with (first | (go_at_call 97; refine (NmK.go (by assumption) _).mono ?_; rintro e u ⟨rfl, rfl⟩))
    go_ret
    exact sh_ret R.out.symm (by exact (by repeat (first | with_reducible exact Below.refl _ _ | with_reducible assumption | with_reducible refine Below.drew ?_ | with_reducible refine below_drewN ?_ _ | (with_reducible refine Below.alloc ?_ ?_ _; rotate_left; (try simp) <;> omega) | (with_reducible refine Below.setCell ?_ ?_ _; rotate_left; (try simp) <;> omega))))
  have g2 : ¬ (1000000 : Int) < id := by omega
  by_cases h3 : 0 ≤ kn
  case neg =>
    have R : Hid (frm ⟨id, kn, kd, x, y, of⟩ = false) := by show _ = _; rw [HB.out]; simp [h3]
    have g3 : kn < 0 := by omega
    clear HB
    go_enter Tryz.func85, Tryz.ntmps85
    go_wp2_with (first | (go_at_call 97; refine (NmK.go (by assumption) _).mono ?_; rintro e u ⟨rfl, rfl⟩))
    go_ret
    exact sh_ret R.out.symm (by exact (by repeat (first | with_reducible exact Below.refl _ _ | with_reducible assumption | with_reducible refine Below.drew ?_ | with_reducible refine below_drewN ?_ _ | (with_reducible refine Below.alloc ?_ ?_ _; rotate_left; (try simp) <;> omega) | (with_reducible refine Below.setCell ?_ ?_ _; rotate_left; (try simp) <;> omega))))
  have g3 : ¬ kn < 0 := by omega
  by_cases h4 : kn ≤ 100000
  case neg =>
    have R : Hid (frm ⟨id, kn, kd, x, y, of⟩ = false) := by show _ = _; rw [HB.out]; simp [h4]
    have g4 : (100000 : Int) < kn := by omega
    clear HB
    go_enter Tryz.func85, Tryz.ntmps85
    go_wp2_with (first | (go_at_call 97; refine (NmK.go (by assumption) _).mono ?_; rintro e u ⟨rfl, rfl⟩))
    go_ret
    exact sh_ret R.out.symm (by exact (by repeat (first | with_reducible exact Below.refl _ _ | with_reducible assumption | with_reducible refine Below.drew ?_ | with_reducible refine below_drewN ?_ _ | (with_reducible refine Below.alloc ?_ ?_ _; rotate_left; (try simp) <;> omega) | (with_reducible refine Below.setCell ?_ ?_ _; rotate_left; (try simp) <;> omega))))
  have g4 : ¬ (100000 : Int) < kn := by omega
  have HB : Hid (frm ⟨id, kn, kd, x, y, of⟩ = shpB ⟨id, kn, kd, x, y, of⟩) := by show _ = _; rw [HB.out]; simp [h1, h2, h3, h4]
  clear h1 h2 h3 h4
  by_cases hk : 1 ≤ kd ∧ kd ≤ 6
  case neg =>
    have R : Hid (frm ⟨id, kn, kd, x, y, of⟩ = false) := by show _ = _; rw [HB.out]; exact shpB_0 _ hk
    have nx : NmK x (nameB x) := ⟨fun V => rName_any x V hxs⟩
    have ny : NmK y (nameB y) := ⟨fun V => rName_any y V hys⟩
    have k1 : (kd == 1) = false := by rw [beq_eq_false_iff_ne]; omega
    have k2 : (kd == 2) = false := by rw [beq_eq_false_iff_ne]; omega
    have k3 : (kd == 3) = false := by rw [beq_eq_false_iff_ne]; omega
    have k4 : (kd == 4) = false := by rw [beq_eq_false_iff_ne]; omega
    have k5 : (kd == 5) = false := by rw [beq_eq_false_iff_ne]; omega
    have k6 : (kd == 6) = false := by rw [beq_eq_false_iff_ne]; omega
    clear HB hk
    go_enter Tryz.func85, Tryz.ntmps85
    go_wp2_with (first | (go_at_call 97; refine (NmK.go (by assumption) _).mono ?_; rintro e u ⟨rfl, rfl⟩))
    go_ret
    exact sh_ret R.out.symm (by exact (by repeat (first | with_reducible exact Below.refl _ _ | with_reducible assumption | with_reducible refine Below.drew ?_ | with_reducible refine below_drewN ?_ _ | (with_reducible refine Below.alloc ?_ ?_ _; rotate_left; (try simp) <;> omega) | (with_reducible refine Below.setCell ?_ ?_ _; rotate_left; (try simp) <;> omega))))
  have hk6 : kd = 1 ∨ kd = 2 ∨ kd = 3 ∨ kd = 4 ∨ kd = 5 ∨ kd = 6 := by omega
  clear hk
  rcases hk6 with rfl | rfl | rfl | rfl | rfl | rfl
  · have HB : Hid (frm ⟨id, kn, 1, x, y, of⟩ = shp1 ⟨id, kn, 1, x, y, of⟩) := by show _ = _; rw [HB.out]; exact shpB_1 _ (.inl rfl)
    have ny : NmK y (nameB y) := ⟨fun V => rName_any y V hys⟩
    cases hx : nameB x
    · have R : Hid (frm ⟨id, kn, 1, x, y, of⟩ = false) := by show _ = _; rw [HB.out]; simp [shp1, hx]
      have nx : NmK x false := ⟨fun V => by have h := rName_any x V hxs; rw [hx] at h; exact h⟩
      clear HB hx
      go_enter Tryz.func85, Tryz.ntmps85
      go_wp2_with (first | (go_at_call 97; refine (NmK.go (by assumption) _).mono ?_; rintro e u ⟨rfl, rfl⟩))
      go_ret
      exact sh_ret R.out.symm (by exact (by repeat (first | with_reducible exact Below.refl _ _ | with_reducible assumption | with_reducible refine Below.drew ?_ | with_reducible refine below_drewN ?_ _ | (with_reducible refine Below.alloc ?_ ?_ _; rotate_left; (try simp) <;> omega) | (with_reducible refine Below.setCell ?_ ?_ _; rotate_left; (try simp) <;> omega))))
    · have nx : NmK x true := ⟨fun V => by have h := rName_any x V hxs; rw [hx] at h; exact h⟩
      by_cases hye : y.size = 0
      case neg =>
        have R : Hid (frm ⟨id, kn, 1, x, y, of⟩ = false) := by show _ = _; rw [HB.out]; simp [shp1, hx, hye]
        have gye : (y.toList == ([] : List UInt8)) = false := size_cons y hye
        clear HB
        go_enter Tryz.func85, Tryz.ntmps85
        go_wp2_with (first | (go_at_call 97; refine (NmK.go (by assumption) _).mono ?_; rintro e u ⟨rfl, rfl⟩))
        go_ret
        exact sh_ret R.out.symm (by exact (by repeat (first | with_reducible exact Below.refl _ _ | with_reducible assumption | with_reducible refine Below.drew ?_ | with_reducible refine below_drewN ?_ _ | (with_reducible refine Below.alloc ?_ ?_ _; rotate_left; (try simp) <;> omega) | (with_reducible refine Below.setCell ?_ ?_ _; rotate_left; (try simp) <;> omega))))
      have gye : (y.toList == ([] : List UInt8)) = true := size_nil y hye
      by_cases hof : of = 0
      case neg =>
        have R : Hid (frm ⟨id, kn, 1, x, y, of⟩ = false) := by show _ = _; rw [HB.out]; simp [shp1, hx, hye, hof]
        have gof : (of == 0) = false := by rw [beq_eq_false_iff_ne]; exact hof
        clear HB
        go_enter Tryz.func85, Tryz.ntmps85
        go_wp2_with (first | (go_at_call 97; refine (NmK.go (by assumption) _).mono ?_; rintro e u ⟨rfl, rfl⟩))
        go_ret
        exact sh_ret R.out.symm (by exact (by repeat (first | with_reducible exact Below.refl _ _ | with_reducible assumption | with_reducible refine Below.drew ?_ | with_reducible refine below_drewN ?_ _ | (with_reducible refine Below.alloc ?_ ?_ _; rotate_left; (try simp) <;> omega) | (with_reducible refine Below.setCell ?_ ?_ _; rotate_left; (try simp) <;> omega))))
      have gof : (of == 0) = true := by rw [beq_iff_eq]; exact hof
      have R : Hid (frm ⟨id, kn, 1, x, y, of⟩ = true) := by show _ = _; rw [HB.out]; simp [shp1, hx, hye, hof]
      clear HB
      go_enter Tryz.func85, Tryz.ntmps85
      go_wp2_with (first | (go_at_call 97; refine (NmK.go (by assumption) _).mono ?_; rintro e u ⟨rfl, rfl⟩))
      go_ret
      exact sh_ret R.out.symm (by exact (by repeat (first | with_reducible exact Below.refl _ _ | with_reducible assumption | with_reducible refine Below.drew ?_ | with_reducible refine below_drewN ?_ _ | (with_reducible refine Below.alloc ?_ ?_ _; rotate_left; (try simp) <;> omega) | (with_reducible refine Below.setCell ?_ ?_ _; rotate_left; (try simp) <;> omega))))
  · have HB : Hid (frm ⟨id, kn, 2, x, y, of⟩ = shp1 ⟨id, kn, 2, x, y, of⟩) := by show _ = _; rw [HB.out]; exact shpB_1 _ (.inr rfl)
    have ny : NmK y (nameB y) := ⟨fun V => rName_any y V hys⟩
    cases hx : nameB x
    · have R : Hid (frm ⟨id, kn, 2, x, y, of⟩ = false) := by show _ = _; rw [HB.out]; simp [shp1, hx]
      have nx : NmK x false := ⟨fun V => by have h := rName_any x V hxs; rw [hx] at h; exact h⟩
      clear HB hx
      go_enter Tryz.func85, Tryz.ntmps85
      go_wp2_with (first | (go_at_call 97; refine (NmK.go (by assumption) _).mono ?_; rintro e u ⟨rfl, rfl⟩))
      go_ret
      exact sh_ret R.out.symm (by exact (by repeat (first | with_reducible exact Below.refl _ _ | with_reducible assumption | with_reducible refine Below.drew ?_ | with_reducible refine below_drewN ?_ _ | (with_reducible refine Below.alloc ?_ ?_ _; rotate_left; (try simp) <;> omega) | (with_reducible refine Below.setCell ?_ ?_ _; rotate_left; (try simp) <;> omega))))
    · have nx : NmK x true := ⟨fun V => by have h := rName_any x V hxs; rw [hx] at h; exact h⟩
      by_cases hye : y.size = 0
      case neg =>
        have R : Hid (frm ⟨id, kn, 2, x, y, of⟩ = false) := by show _ = _; rw [HB.out]; simp [shp1, hx, hye]
        have gye : (y.toList == ([] : List UInt8)) = false := size_cons y hye
        clear HB
        go_enter Tryz.func85, Tryz.ntmps85
        go_wp2_with (first | (go_at_call 97; refine (NmK.go (by assumption) _).mono ?_; rintro e u ⟨rfl, rfl⟩))
        go_ret
        exact sh_ret R.out.symm (by exact (by repeat (first | with_reducible exact Below.refl _ _ | with_reducible assumption | with_reducible refine Below.drew ?_ | with_reducible refine below_drewN ?_ _ | (with_reducible refine Below.alloc ?_ ?_ _; rotate_left; (try simp) <;> omega) | (with_reducible refine Below.setCell ?_ ?_ _; rotate_left; (try simp) <;> omega))))
      have gye : (y.toList == ([] : List UInt8)) = true := size_nil y hye
      by_cases hof : of = 0
      case neg =>
        have R : Hid (frm ⟨id, kn, 2, x, y, of⟩ = false) := by show _ = _; rw [HB.out]; simp [shp1, hx, hye, hof]
        have gof : (of == 0) = false := by rw [beq_eq_false_iff_ne]; exact hof
        clear HB
        go_enter Tryz.func85, Tryz.ntmps85
        go_wp2_with (first | (go_at_call 97; refine (NmK.go (by assumption) _).mono ?_; rintro e u ⟨rfl, rfl⟩))
        go_ret
        exact sh_ret R.out.symm (by exact (by repeat (first | with_reducible exact Below.refl _ _ | with_reducible assumption | with_reducible refine Below.drew ?_ | with_reducible refine below_drewN ?_ _ | (with_reducible refine Below.alloc ?_ ?_ _; rotate_left; (try simp) <;> omega) | (with_reducible refine Below.setCell ?_ ?_ _; rotate_left; (try simp) <;> omega))))
      have gof : (of == 0) = true := by rw [beq_iff_eq]; exact hof
      have R : Hid (frm ⟨id, kn, 2, x, y, of⟩ = true) := by show _ = _; rw [HB.out]; simp [shp1, hx, hye, hof]
      clear HB
      go_enter Tryz.func85, Tryz.ntmps85
      go_wp2_with (first | (go_at_call 97; refine (NmK.go (by assumption) _).mono ?_; rintro e u ⟨rfl, rfl⟩))
      go_ret
      exact sh_ret R.out.symm (by exact (by repeat (first | with_reducible exact Below.refl _ _ | with_reducible assumption | with_reducible refine Below.drew ?_ | with_reducible refine below_drewN ?_ _ | (with_reducible refine Below.alloc ?_ ?_ _; rotate_left; (try simp) <;> omega) | (with_reducible refine Below.setCell ?_ ?_ _; rotate_left; (try simp) <;> omega))))
  · have HB : Hid (frm ⟨id, kn, 3, x, y, of⟩ = shp2 ⟨id, kn, 3, x, y, of⟩) := by show _ = _; rw [HB.out]; exact shpB_3 _ (.inl rfl)
    cases hx : nameB x
    · have R : Hid (frm ⟨id, kn, 3, x, y, of⟩ = false) := by show _ = _; rw [HB.out]; simp [shp2, hx]
      have nx : NmK x false := ⟨fun V => by have h := rName_any x V hxs; rw [hx] at h; exact h⟩
      have ny : NmK y (nameB y) := ⟨fun V => rName_any y V hys⟩
      clear HB hx
      go_enter Tryz.func85, Tryz.ntmps85
      go_wp2_with (first | (go_at_call 97; refine (NmK.go (by assumption) _).mono ?_; rintro e u ⟨rfl, rfl⟩))
      go_ret
      exact sh_ret R.out.symm (by exact (by repeat (first | with_reducible exact Below.refl _ _ | with_reducible assumption | with_reducible refine Below.drew ?_ | with_reducible refine below_drewN ?_ _ | (with_reducible refine Below.alloc ?_ ?_ _; rotate_left; (try simp) <;> omega) | (with_reducible refine Below.setCell ?_ ?_ _; rotate_left; (try simp) <;> omega))))
    · have nx : NmK x true := ⟨fun V => by have h := rName_any x V hxs; rw [hx] at h; exact h⟩
      cases hy : nameB y
      · have R : Hid (frm ⟨id, kn, 3, x, y, of⟩ = false) := by show _ = _; rw [HB.out]; simp [shp2, hx, hy]
        have ny : NmK y false := ⟨fun V => by have h := rName_any y V hys; rw [hy] at h; exact h⟩
        clear HB hy
        go_enter Tryz.func85, Tryz.ntmps85
        go_wp2_with (first | (go_at_call 97; refine (NmK.go (by assumption) _).mono ?_; rintro e u ⟨rfl, rfl⟩))
        go_ret
        exact sh_ret R.out.symm (by exact (by repeat (first | with_reducible exact Below.refl _ _ | with_reducible assumption | with_reducible refine Below.drew ?_ | with_reducible refine below_drewN ?_ _ | (with_reducible refine Below.alloc ?_ ?_ _; rotate_left; (try simp) <;> omega) | (with_reducible refine Below.setCell ?_ ?_ _; rotate_left; (try simp) <;> omega))))
      · have ny : NmK y true := ⟨fun V => by have h := rName_any y V hys; rw [hy] at h; exact h⟩
        by_cases hof : of = 0
        case neg =>
          have R : Hid (frm ⟨id, kn, 3, x, y, of⟩ = false) := by show _ = _; rw [HB.out]; simp [shp2, hx, hy, hof]
          have gof : (of == 0) = false := by rw [beq_eq_false_iff_ne]; exact hof
          clear HB
          go_enter Tryz.func85, Tryz.ntmps85
          go_wp2_with (first | (go_at_call 97; refine (NmK.go (by assumption) _).mono ?_; rintro e u ⟨rfl, rfl⟩))
          go_ret
          exact sh_ret R.out.symm (by exact (by repeat (first | with_reducible exact Below.refl _ _ | with_reducible assumption | with_reducible refine Below.drew ?_ | with_reducible refine below_drewN ?_ _ | (with_reducible refine Below.alloc ?_ ?_ _; rotate_left; (try simp) <;> omega) | (with_reducible refine Below.setCell ?_ ?_ _; rotate_left; (try simp) <;> omega))))
        have gof : (of == 0) = true := by rw [beq_iff_eq]; exact hof
        have R : Hid (frm ⟨id, kn, 3, x, y, of⟩ = true) := by show _ = _; rw [HB.out]; simp [shp2, hx, hy, hof]
        clear HB
        go_enter Tryz.func85, Tryz.ntmps85
        go_wp2_with (first | (go_at_call 97; refine (NmK.go (by assumption) _).mono ?_; rintro e u ⟨rfl, rfl⟩))
        go_ret
        exact sh_ret R.out.symm (by exact (by repeat (first | with_reducible exact Below.refl _ _ | with_reducible assumption | with_reducible refine Below.drew ?_ | with_reducible refine below_drewN ?_ _ | (with_reducible refine Below.alloc ?_ ?_ _; rotate_left; (try simp) <;> omega) | (with_reducible refine Below.setCell ?_ ?_ _; rotate_left; (try simp) <;> omega))))
  · have HB : Hid (frm ⟨id, kn, 4, x, y, of⟩ = shp2 ⟨id, kn, 4, x, y, of⟩) := by show _ = _; rw [HB.out]; exact shpB_3 _ (.inr rfl)
    cases hx : nameB x
    · have R : Hid (frm ⟨id, kn, 4, x, y, of⟩ = false) := by show _ = _; rw [HB.out]; simp [shp2, hx]
      have nx : NmK x false := ⟨fun V => by have h := rName_any x V hxs; rw [hx] at h; exact h⟩
      have ny : NmK y (nameB y) := ⟨fun V => rName_any y V hys⟩
      clear HB hx
      go_enter Tryz.func85, Tryz.ntmps85
      go_wp2_with (first | (go_at_call 97; refine (NmK.go (by assumption) _).mono ?_; rintro e u ⟨rfl, rfl⟩))
      go_ret
      exact sh_ret R.out.symm (by exact (by repeat (first | with_reducible exact Below.refl _ _ | with_reducible assumption | with_reducible refine Below.drew ?_ | with_reducible refine below_drewN ?_ _ | (with_reducible refine Below.alloc ?_ ?_ _; rotate_left; (try simp) <;> omega) | (with_reducible refine Below.setCell ?_ ?_ _; rotate_left; (try simp) <;> omega))))
    · have nx : NmK x true := ⟨fun V => by have h := rName_any x V hxs; rw [hx] at h; exact h⟩
      cases hy : nameB y
      · have R : Hid (frm ⟨id, kn, 4, x, y, of⟩ = false) := by show _ = _; rw [HB.out]; simp [shp2, hx, hy]
        have ny : NmK y false := ⟨fun V => by have h := rName_any y V hys; rw [hy] at h; exact h⟩
        clear HB hy
        go_enter Tryz.func85, Tryz.ntmps85
        go_wp2_with (first | (go_at_call 97; refine (NmK.go (by assumption) _).mono ?_; rintro e u ⟨rfl, rfl⟩))
        go_ret
        exact sh_ret R.out.symm (by exact (by repeat (first | with_reducible exact Below.refl _ _ | with_reducible assumption | with_reducible refine Below.drew ?_ | with_reducible refine below_drewN ?_ _ | (with_reducible refine Below.alloc ?_ ?_ _; rotate_left; (try simp) <;> omega) | (with_reducible refine Below.setCell ?_ ?_ _; rotate_left; (try simp) <;> omega))))
      · have ny : NmK y true := ⟨fun V => by have h := rName_any y V hys; rw [hy] at h; exact h⟩
        by_cases hof : of = 0
        case neg =>
          have R : Hid (frm ⟨id, kn, 4, x, y, of⟩ = false) := by show _ = _; rw [HB.out]; simp [shp2, hx, hy, hof]
          have gof : (of == 0) = false := by rw [beq_eq_false_iff_ne]; exact hof
          clear HB
          go_enter Tryz.func85, Tryz.ntmps85
          go_wp2_with (first | (go_at_call 97; refine (NmK.go (by assumption) _).mono ?_; rintro e u ⟨rfl, rfl⟩))
          go_ret
          exact sh_ret R.out.symm (by exact (by repeat (first | with_reducible exact Below.refl _ _ | with_reducible assumption | with_reducible refine Below.drew ?_ | with_reducible refine below_drewN ?_ _ | (with_reducible refine Below.alloc ?_ ?_ _; rotate_left; (try simp) <;> omega) | (with_reducible refine Below.setCell ?_ ?_ _; rotate_left; (try simp) <;> omega))))
        have gof : (of == 0) = true := by rw [beq_iff_eq]; exact hof
        have R : Hid (frm ⟨id, kn, 4, x, y, of⟩ = true) := by show _ = _; rw [HB.out]; simp [shp2, hx, hy, hof]
        clear HB
        go_enter Tryz.func85, Tryz.ntmps85
        go_wp2_with (first | (go_at_call 97; refine (NmK.go (by assumption) _).mono ?_; rintro e u ⟨rfl, rfl⟩))
        go_ret
        exact sh_ret R.out.symm (by exact (by repeat (first | with_reducible exact Below.refl _ _ | with_reducible assumption | with_reducible refine Below.drew ?_ | with_reducible refine below_drewN ?_ _ | (with_reducible refine Below.alloc ?_ ?_ _; rotate_left; (try simp) <;> omega) | (with_reducible refine Below.setCell ?_ ?_ _; rotate_left; (try simp) <;> omega))))
  · have HB : Hid (frm ⟨id, kn, 5, x, y, of⟩ = shp5 ⟨id, kn, 5, x, y, of⟩) := by show _ = _; rw [HB.out]; exact shpB_5 _ rfl
    cases hx : nameB x
    · have R : Hid (frm ⟨id, kn, 5, x, y, of⟩ = false) := by show _ = _; rw [HB.out]; simp [shp5, shp2, hx]
      have nx : NmK x false := ⟨fun V => by have h := rName_any x V hxs; rw [hx] at h; exact h⟩
      have ny : NmK y (nameB y) := ⟨fun V => rName_any y V hys⟩
      clear HB hx
      go_enter Tryz.func85, Tryz.ntmps85
      go_wp2_with (first | (go_at_call 97; refine (NmK.go (by assumption) _).mono ?_; rintro e u ⟨rfl, rfl⟩))
      go_ret
      exact sh_ret R.out.symm (by exact (by repeat (first | with_reducible exact Below.refl _ _ | with_reducible assumption | with_reducible refine Below.drew ?_ | with_reducible refine below_drewN ?_ _ | (with_reducible refine Below.alloc ?_ ?_ _; rotate_left; (try simp) <;> omega) | (with_reducible refine Below.setCell ?_ ?_ _; rotate_left; (try simp) <;> omega))))
    · have nx : NmK x true := ⟨fun V => by have h := rName_any x V hxs; rw [hx] at h; exact h⟩
      cases hy : nameB y
      · have R : Hid (frm ⟨id, kn, 5, x, y, of⟩ = false) := by show _ = _; rw [HB.out]; simp [shp5, shp2, hx, hy]
        have ny : NmK y false := ⟨fun V => by have h := rName_any y V hys; rw [hy] at h; exact h⟩
        clear HB hy
        go_enter Tryz.func85, Tryz.ntmps85
        go_wp2_with (first | (go_at_call 97; refine (NmK.go (by assumption) _).mono ?_; rintro e u ⟨rfl, rfl⟩))
        go_ret
        exact sh_ret R.out.symm (by exact (by repeat (first | with_reducible exact Below.refl _ _ | with_reducible assumption | with_reducible refine Below.drew ?_ | with_reducible refine below_drewN ?_ _ | (with_reducible refine Below.alloc ?_ ?_ _; rotate_left; (try simp) <;> omega) | (with_reducible refine Below.setCell ?_ ?_ _; rotate_left; (try simp) <;> omega))))
      · have ny : NmK y true := ⟨fun V => by have h := rName_any y V hys; rw [hy] at h; exact h⟩
        by_cases hne : ¬ x = y
        case neg =>
          have ene : x = y := Classical.not_not.1 hne
          have R : Hid (frm ⟨id, kn, 5, x, y, of⟩ = false) := by show _ = _; rw [HB.out]; simp [shp5, shp2, hx, hy, ene]
          have gne : (x.toList == y.toList) = true := by rw [str_eq]; exact decide_eq_true (Classical.not_not.1 hne)
          clear HB ene
          go_enter Tryz.func85, Tryz.ntmps85
          go_wp2_with (first | (go_at_call 97; refine (NmK.go (by assumption) _).mono ?_; rintro e u ⟨rfl, rfl⟩))
          go_ret
          exact sh_ret R.out.symm (by exact (by repeat (first | with_reducible exact Below.refl _ _ | with_reducible assumption | with_reducible refine Below.drew ?_ | with_reducible refine below_drewN ?_ _ | (with_reducible refine Below.alloc ?_ ?_ _; rotate_left; (try simp) <;> omega) | (with_reducible refine Below.setCell ?_ ?_ _; rotate_left; (try simp) <;> omega))))
        have gne : (x.toList == y.toList) = false := by rw [str_eq]; exact decide_eq_false hne
        by_cases hof : of = 0
        case neg =>
          have R : Hid (frm ⟨id, kn, 5, x, y, of⟩ = false) := by show _ = _; rw [HB.out]; simp [shp5, shp2, hx, hy, hne, hof]
          have gof : (of == 0) = false := by rw [beq_eq_false_iff_ne]; exact hof
          clear HB
          go_enter Tryz.func85, Tryz.ntmps85
          go_wp2_with (first | (go_at_call 97; refine (NmK.go (by assumption) _).mono ?_; rintro e u ⟨rfl, rfl⟩))
          go_ret
          exact sh_ret R.out.symm (by exact (by repeat (first | with_reducible exact Below.refl _ _ | with_reducible assumption | with_reducible refine Below.drew ?_ | with_reducible refine below_drewN ?_ _ | (with_reducible refine Below.alloc ?_ ?_ _; rotate_left; (try simp) <;> omega) | (with_reducible refine Below.setCell ?_ ?_ _; rotate_left; (try simp) <;> omega))))
        have gof : (of == 0) = true := by rw [beq_iff_eq]; exact hof
        have R : Hid (frm ⟨id, kn, 5, x, y, of⟩ = true) := by show _ = _; rw [HB.out]; simp [shp5, shp2, hx, hy, hne, hof]
        clear HB
        go_enter Tryz.func85, Tryz.ntmps85
        go_wp2_with (first | (go_at_call 97; refine (NmK.go (by assumption) _).mono ?_; rintro e u ⟨rfl, rfl⟩))
        go_ret
        exact sh_ret R.out.symm (by exact (by repeat (first | with_reducible exact Below.refl _ _ | with_reducible assumption | with_reducible refine Below.drew ?_ | with_reducible refine below_drewN ?_ _ | (with_reducible refine Below.alloc ?_ ?_ _; rotate_left; (try simp) <;> omega) | (with_reducible refine Below.setCell ?_ ?_ _; rotate_left; (try simp) <;> omega))))
  · have HB : Hid (frm ⟨id, kn, 6, x, y, of⟩ = shp6 ⟨id, kn, 6, x, y, of⟩) := by show _ = _; rw [HB.out]; exact shpB_6 _ rfl
    have nx : NmK x (nameB x) := ⟨fun V => rName_any x V hxs⟩
    have ny : NmK y (nameB y) := ⟨fun V => rName_any y V hys⟩
    by_cases hxe : x.size = 0
    case neg =>
      have R : Hid (frm ⟨id, kn, 6, x, y, of⟩ = false) := by show _ = _; rw [HB.out]; simp [shp6, idB, hxe]
      have gxe : (x.toList == ([] : List UInt8)) = false := size_cons x hxe
      clear HB
      go_enter Tryz.func85, Tryz.ntmps85
      go_wp2_with (first | (go_at_call 97; refine (NmK.go (by assumption) _).mono ?_; rintro e u ⟨rfl, rfl⟩))
      go_ret
      exact sh_ret R.out.symm (by exact (by repeat (first | with_reducible exact Below.refl _ _ | with_reducible assumption | with_reducible refine Below.drew ?_ | with_reducible refine below_drewN ?_ _ | (with_reducible refine Below.alloc ?_ ?_ _; rotate_left; (try simp) <;> omega) | (with_reducible refine Below.setCell ?_ ?_ _; rotate_left; (try simp) <;> omega))))
    have gxe : (x.toList == ([] : List UInt8)) = true := size_nil x hxe
    by_cases hye : y.size = 0
    case neg =>
      have R : Hid (frm ⟨id, kn, 6, x, y, of⟩ = false) := by show _ = _; rw [HB.out]; simp [shp6, idB, hxe, hye]
      have gye : (y.toList == ([] : List UInt8)) = false := size_cons y hye
      clear HB
      go_enter Tryz.func85, Tryz.ntmps85
      go_wp2_with (first | (go_at_call 97; refine (NmK.go (by assumption) _).mono ?_; rintro e u ⟨rfl, rfl⟩))
      go_ret
      exact sh_ret R.out.symm (by exact (by repeat (first | with_reducible exact Below.refl _ _ | with_reducible assumption | with_reducible refine Below.drew ?_ | with_reducible refine below_drewN ?_ _ | (with_reducible refine Below.alloc ?_ ?_ _; rotate_left; (try simp) <;> omega) | (with_reducible refine Below.setCell ?_ ?_ _; rotate_left; (try simp) <;> omega))))
    have gye : (y.toList == ([] : List UInt8)) = true := size_nil y hye
    by_cases ho1 : 1 ≤ of
    case neg =>
      have R : Hid (frm ⟨id, kn, 6, x, y, of⟩ = false) := by show _ = _; rw [HB.out]; simp [shp6, idB, hxe, hye, ho1]
      have go1 : ¬ (1 : Int) ≤ of := ho1
      clear HB
      go_enter Tryz.func85, Tryz.ntmps85
      go_wp2_with (first | (go_at_call 97; refine (NmK.go (by assumption) _).mono ?_; rintro e u ⟨rfl, rfl⟩))
      go_ret
      exact sh_ret R.out.symm (by exact (by repeat (first | with_reducible exact Below.refl _ _ | with_reducible assumption | with_reducible refine Below.drew ?_ | with_reducible refine below_drewN ?_ _ | (with_reducible refine Below.alloc ?_ ?_ _; rotate_left; (try simp) <;> omega) | (with_reducible refine Below.setCell ?_ ?_ _; rotate_left; (try simp) <;> omega))))
    by_cases ho2 : of ≤ 1000000
    case neg =>
      have R : Hid (frm ⟨id, kn, 6, x, y, of⟩ = false) := by show _ = _; rw [HB.out]; simp [shp6, idB, hxe, hye, ho1, ho2]
      have go2 : ¬ of ≤ 1000000 := ho2
      clear HB
      go_enter Tryz.func85, Tryz.ntmps85
      go_wp2_with (first | (go_at_call 97; refine (NmK.go (by assumption) _).mono ?_; rintro e u ⟨rfl, rfl⟩))
      go_ret
      exact sh_ret R.out.symm (by exact (by repeat (first | with_reducible exact Below.refl _ _ | with_reducible assumption | with_reducible refine Below.drew ?_ | with_reducible refine below_drewN ?_ _ | (with_reducible refine Below.alloc ?_ ?_ _; rotate_left; (try simp) <;> omega) | (with_reducible refine Below.setCell ?_ ?_ _; rotate_left; (try simp) <;> omega))))
    by_cases ho3 : ¬ of = id
    case neg =>
      have eo3 : of = id := Classical.not_not.1 ho3
      have R : Hid (frm ⟨id, kn, 6, x, y, of⟩ = false) := by show _ = _; rw [HB.out]; simp [shp6, idB, hxe, hye, ho1, ho2, eo3]
      have go3 : (of != id) = false := by rw [bne_eq_false_iff_eq]; exact Classical.not_not.1 ho3
      clear HB eo3
      go_enter Tryz.func85, Tryz.ntmps85
      go_wp2_with (first | (go_at_call 97; refine (NmK.go (by assumption) _).mono ?_; rintro e u ⟨rfl, rfl⟩))
      go_ret
      exact sh_ret R.out.symm (by exact (by repeat (first | with_reducible exact Below.refl _ _ | with_reducible assumption | with_reducible refine Below.drew ?_ | with_reducible refine below_drewN ?_ _ | (with_reducible refine Below.alloc ?_ ?_ _; rotate_left; (try simp) <;> omega) | (with_reducible refine Below.setCell ?_ ?_ _; rotate_left; (try simp) <;> omega))))
    have go3 : (of != id) = true := by rw [bne_iff_ne]; exact ho3
    have R : Hid (frm ⟨id, kn, 6, x, y, of⟩ = true) := by show _ = _; rw [HB.out]; simp [shp6, idB, hxe, hye, ho1, ho2, ho3]
    clear HB
    go_enter Tryz.func85, Tryz.ntmps85
    go_wp2_with (first | (go_at_call 97; refine (NmK.go (by assumption) _).mono ?_; rintro e u ⟨rfl, rfl⟩))
    go_ret
    exact sh_ret R.out.symm (by exact (by repeat (first | with_reducible exact Below.refl _ _ | with_reducible assumption | with_reducible refine Below.drew ?_ | with_reducible refine below_drewN ?_ _ | (with_reducible refine Below.alloc ?_ ?_ _; rotate_left; (try simp) <;> omega) | (with_reducible refine Below.setCell ?_ ?_ _; rotate_left; (try simp) <;> omega))))
end Go.Proofs.YtkfeagokmcakgaaGreatDoor
