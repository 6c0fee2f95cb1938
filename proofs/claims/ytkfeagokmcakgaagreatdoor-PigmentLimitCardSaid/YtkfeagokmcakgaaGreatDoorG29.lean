/- pigment.Strokes (fn 24). -/
import Derived.RangeFuncWrites
import Derived.RangeFuncNested
import Derived.ArgAppend
import Derived.Shelf.Abstract
import Derived.RangeFuncBound
import Derived.RangeFuncCalls
import Derived.RangeFuncLeaves
import Derived.OwnWalkIn
import Derived.TacticsInMore
import Derived.LoopNIn
import Derived.LoopIn
import Derived.Test.YtkfeagokmcakgaaGreatDoorG17
import Derived.Test.YtkfeagokmcakgaaGreatDoorG20
import Derived.Test.YtkfeagokmcakgaaGreatDoorG22
import Derived.Test.YtkfeagokmcakgaaGreatDoorG23
import Derived.Test.YtkfeagokmcakgaaGreatDoorG26

set_option linter.unusedVariables false
set_option linter.unusedSimpArgs false

namespace Go.Proofs.YtkfeagokmcakgaaGreatDoor
open Go.RowKit

set_option maxHeartbeats 400000 in
theorem notName_any (s : ByteArray) (w : World) (hs : s.size ≤ 100) : Calls Tryz.prog 72 #[.string s] w (BoolEnd (!nameB s) w) := by
  have HC := Lib.hid (isName_any s w hs)
  cases hb : nameB s
  all_goals
    rw [hb] at HC
    clear hb
    go_enter Tryz.func72, Tryz.ntmps72
    go_wp2_with (go_at_call 73; refine HC.out.mono ?_; rintro e w' ⟨rfl, rfl⟩)
    go_ret
    exact ⟨rfl, rfl⟩
set_option maxHeartbeats 400000 in
theorem idxNN_any (l : List ByteArray) (A : Option Addr) (c : Nat) (w : World) (hl : Lies w w.heap.size A (strsC l)) (hm : l.length ≤ 1000) (hs : ∀ s ∈ l, s.size ≤ 100) :
    Calls Tryz.prog 117 #[.slice A l.length c, .func (.func 72) #[] #[]] w fun e w' => e = .returned (.int .i64 (idxL (fun x => !nameB x) l)) ∧ w = w' := by
  go_enter Tryz.func117, Tryz.ntmps117
  go_wp2
  go_loop [8] (fun y => ∃ k : Nat, k ≤ l.length ∧ y = .int .i64 k ∧ Hid (∀ j (hj : j < k) (h' : j < l.length), (!nameB l[j]) = false)) (fun y => l.length - (intOf y).toNat)
  case atStart => exact ⟨0, by omega, rfl, fun j hj => absurd hj (by omega)⟩
  case round =>
    obtain ⟨k, hk, rfl, hg⟩ := hrel
    by_cases hlt : k < l.length
    · obtain ⟨ad, u, rfl, _, hu, hcell⟩ := hl.at_ (k := k) (by simpa [strsC] using hlt)
      obtain rfl : u = .string l[k] := by simp [strsC, List.getElem?_eq_getElem hlt] at hu; exact hu.symm
      have HC := Lib.hid (notName_any l[k] w (hs _ (List.getElem_mem hlt)))
      clear hu hl hs
      by_cases h0 : (!nameB l[k]) = true
      · have H : Hid (idxL (fun x => !nameB x) l = (k : Int)) := by
          have := idxL_drop (fun x => !nameB x) l k hk hg.out (.inr ⟨hlt, h0⟩)
          rw [if_pos hlt] at this; exact this
        rw [h0] at HC
        clear h0
        go_wp2_with (go_at_call 72; refine HC.out.mono ?_; rintro e w' ⟨rfl, rfl⟩)
        go_ret
        exact ⟨ret_int H.out.symm, rfl⟩
      · have h0' : (!nameB l[k]) = false := by simpa using h0
        have H : Hid (∀ j (hj : j < k + 1) (h' : j < l.length), (!nameB l[j]) = false) := fun j hj h' => by
          by_cases e : j = k
          · subst e; exact h0'
          · exact hg.out j (by omega) h'
        rw [h0'] at HC
        clear h0 h0'
        go_wp2_with (go_at_call 72; refine HC.out.mono ?_; rintro e w' ⟨rfl, rfl⟩)
        go_round
        case rel => exact ⟨k + 1, by omega, by go_num, H⟩
        case measure => simp [intOf]; omega
    · obtain rfl : k = l.length := by omega
      have H : Hid (idxL (fun x => !nameB x) l = -1) := by
        have := idxL_drop (fun x => !nameB x) l _ hk hg.out (.inl rfl)
        rw [if_neg (by omega)] at this; exact this
      go_wp2
      go_ret
      exact ⟨ret_int H.out.symm, rfl⟩
set_option maxHeartbeats 400000 in
theorem anyNN_any (l : List ByteArray) (A : Option Addr) (c : Nat) (w : World) (hl : Lies w w.heap.size A (strsC l)) (hm : l.length ≤ 1000) (hs : ∀ s ∈ l, s.size ≤ 100) :
    Calls Tryz.prog 71 #[.slice A l.length c, .func (.func 72) #[] #[]] w (BoolEnd (l.any fun x => !nameB x) w) := by
  have HX := Lib.hid (idxNN_any l A c w hl hm hs)
  clear hl hs
  go_enter Tryz.func71, Tryz.ntmps71
  go_wp2_with (go_at_call 117; refine HX.out.mono ?_; rintro e w' ⟨rfl, rfl⟩)
  go_ret
  exact ⟨congrArg (fun b => Ending.returned (.bool b)) (idxL_dec _ _), rfl⟩

def isSt (l : List Rul) (n : Nat) (s : ByteArray) : Bool := decide (stt l s = n)
def stOK (l : List Rul) (col : List ByteArray) : Bool := col.all fun s => isSt l 1 s || isSt l 2 s
/-- the error of Strokes -/
def skE (l : List Rul) (col : List ByteArray) : Int := if 8 < col.length then 2 else if (col.any fun x => !nameB x) = true then 1 else if twiceB col = true then 6 else if stOK l col = true then 0 else 8
def skF (l : List Rul) (col : List ByteArray) (n : Nat) : List ByteArray := if skE l col = 0 then col.filter (isSt l n) else []
def SkEnd (l : List Rul) (col : List ByteArray) (w : World) (e : Ending) (w' : World) : Prop := ∃ A1 c1 A2 c2, e = .returned (.tuple #[.slice A1 (skF l col 1).length c1, .slice A2 (skF l col 2).length c2, .int .i64 (skE l col)]) ∧ Lies w' w'.heap.size A1 (strsC (skF l col 1)) ∧ Lies w' w'.heap.size A2 (strsC (skF l col 2)) ∧ Below w.heap.size w w'
theorem sk_bad {l : List Rul} {col : List ByteArray} {w w' : World} {n : Int} (h : skE l col = n) (hn : n ≠ 0) (hb : Below w.heap.size w w') : SkEnd l col w (.returned (.tuple #[.slice none 0 0, .slice none 0 0, .int .i64 n])) w' := by
  have h1 : ∀ k, skF l col k = [] := fun k => by unfold skF; rw [if_neg (by omega)]
  refine ⟨none, 0, none, 0, ?_, ?_, ?_, hb⟩
  · rw [h1, h1, h]; rfl
  · rw [h1]; exact fun h => absurd rfl h
  · rw [h1]; exact fun h => absurd rfl h
theorem filtS_skip {l : List ByteArray} {p : ByteArray → Bool} {k : Nat} (hk : k < l.length) (h : p l[k] = false) : (l.take (k + 1)).filter p = (l.take k).filter p := by
  rw [← List.take_append_getElem hk, List.filter_append]; simp [h]
theorem filtS_take {l : List ByteArray} {p : ByteArray → Bool} {k : Nat} (hk : k < l.length) (h : p l[k] = true) : (l.take (k + 1)).filter p = (l.take k).filter p ++ [l[k]] := by
  rw [← List.take_append_getElem hk, List.filter_append]; simp [h]
theorem filtS_len (l : List ByteArray) (p : ByteArray → Bool) (k : Nat) : ((l.take k).filter p).length ≤ l.length := Nat.le_trans (List.length_filter_le _ _) (by rw [List.length_take]; omega)
def Apart (v u : Value) : Prop := ∀ g, v.ownBlock = some g → u.ownBlock ≠ some g

set_option maxRecDepth 100000 in
set_option maxHeartbeats 4000000 in
theorem strokes_any (l : List Rul) (A : Option Addr) (c : Nat) (known : Int) (col : List ByteArray) (Ac : Option Addr) (cc : Nat) (w : World) (hl : Lies w w.heap.size A (rulesC l)) (hok : RulOK l) (hm : l.length ≤ 1000) (hlc : Lies w w.heap.size Ac (strsC col)) (hcs : ∀ s ∈ col, s.size ≤ 100) (hcm : col.length ≤ 1000) (hcc : col.length ≤ cc ∧ cc ≤ maxLen) :
    Calls Tryz.prog 24 #[.agg #[.slice A l.length c], .int .i64 known, .slice Ac col.length cc] w (SkEnd (cntL l known) col w) := by
  have HC : Hid (∀ W, Below w.heap.size w W → Calls Tryz.prog 38 #[.agg #[.slice A l.length c], .int .i64 known] W (SlE (cntL l known) W)) := fun W hb => counting_any l A c known W ((hl.below hb (Nat.le_refl _)).more hb.size) hok hm
  have hokd := hok.sub (cnt_sub l known)
  have hmd := Nat.le_trans (cnt_len l known) hm
  have HLC : Hid (∀ W, Below w.heap.size w W → Lies W W.heap.size Ac (strsC col)) := fun W hb => (hlc.below hb (Nat.le_refl _)).more hb.size
  have HAN : Hid (∀ W, Below w.heap.size w W → Calls Tryz.prog 71 #[.slice Ac col.length cc, .func (.func 72) #[] #[]] W (BoolEnd (col.any fun x => !nameB x) W)) := fun W hb => anyNN_any col Ac cc W (HLC.out W hb) hcm hcs
  have HTW : Hid (∀ W, Below w.heap.size w W → Calls Tryz.prog 74 #[.slice Ac col.length cc] W (BoolEnd (twiceB col) W)) := fun W hb => twice_any col Ac cc W (HLC.out W hb) hcm hcc.1 hcc.2
  have HCS := Lib.hid hcs
  generalize cntL l known = d at *
  have HSE : Hid (skE d col = if 8 < col.length then 2 else if (col.any fun x => !nameB x) = true then 1 else if twiceB col = true then 6 else if stOK d col = true then 0 else 8) := rfl
  have hb1 : Below w.heap.size w (w.alloc (.cells #[.slice A l.length c] 25)) := (by repeat (first | with_reducible exact Below.refl _ _ | with_reducible assumption | with_reducible refine Below.drew ?_ | with_reducible refine below_drewN ?_ _ | (with_reducible refine Below.alloc ?_ ?_ _; rotate_left; (try simp) <;> omega) | (with_reducible refine Below.setCell ?_ ?_ _; rotate_left; (try simp) <;> omega)))
  have HB1 := Lib.hid hb1
  clear hl hok hm hlc hcs
  by_cases h8 : 8 < col.length
  · have HE := Lib.hid (HSE.out.trans (if_pos h8))
    have h8I : (8 : Int) < (col.length : Int) := by omega
    clear HSE h8 HC HAN HTW hb1
    go_enter Tryz.func24, Tryz.ntmps24
    go_wp2
    refine bodyPost_ret (v := .tuple #[.slice none 0 0, .slice none 0 0, .int .i64 2]) (by simp [results, Tryz.results24, go_sem]) rfl ?_
    exact sk_bad HE.out (by decide) HB1.out
  have HS1 := Lib.hid (HSE.out.trans (if_neg h8))
  have h8I : ¬ (8 : Int) < (col.length : Int) := by omega
  have hc8 : col.length ≤ 8 := by omega
  clear HSE h8
  by_cases h2 : (col.any fun x => !nameB x) = true
  · have HE := Lib.hid (HS1.out.trans (if_pos h2))
    rw [h2] at HAN
    clear HS1 h2 HC HTW hb1
    go_enter Tryz.func24, Tryz.ntmps24
    go_wp2_with (first | (go_at_call 71; refine (HAN.out _ HB1.out).mono ?_; rintro e w' ⟨rfl, rfl⟩))
    refine bodyPost_ret (v := .tuple #[.slice none 0 0, .slice none 0 0, .int .i64 1]) (by simp [results, Tryz.results24, go_sem]) rfl ?_
    exact sk_bad HE.out (by decide) HB1.out
  have HS2 := Lib.hid (HS1.out.trans (if_neg h2))
  have h2' : (col.any fun x => !nameB x) = false := by simpa using h2
  rw [h2'] at HAN
  clear HS1 h2 h2'
  by_cases h3 : twiceB col = true
  · have HE := Lib.hid (HS2.out.trans (if_pos h3))
    rw [h3] at HTW
    clear HS2 h3 HC hb1
    go_enter Tryz.func24, Tryz.ntmps24
    go_wp2_with (first | (go_at_call 71; refine (HAN.out _ HB1.out).mono ?_; rintro e w' ⟨rfl, rfl⟩) | (go_at_call 74; refine (HTW.out _ HB1.out).mono ?_; rintro e w' ⟨rfl, rfl⟩))
    refine bodyPost_ret (v := .tuple #[.slice none 0 0, .slice none 0 0, .int .i64 6]) (by simp [results, Tryz.results24, go_sem]) rfl ?_
    exact sk_bad HE.out (by decide) HB1.out
  have HS3 := Lib.hid (HS2.out.trans (if_neg h3))
  have h3' : twiceB col = false := by simpa using h3
  rw [h3'] at HTW
  clear HS2 h3 h3' hb1
  go_enter Tryz.func24, Tryz.ntmps24
  go_wp2_with (first | (go_at_call 71; refine (HAN.out _ HB1.out).mono ?_; rintro e w' ⟨rfl, rfl⟩) | (go_at_call 74; refine (HTW.out _ HB1.out).mono ?_; rintro e w' ⟨rfl, rfl⟩) | (go_at_call 38; refine (HC.out _ HB1.out).mono ?_; rintro e w1 ⟨Ad, cd, rfl, hld, _, hbd⟩))
  have HBW : Hid (∀ W, Below w1.heap.size w1 W → Below w.heap.size w W) := fun W hb => (HB1.out.trans (hbd.mono (by simp))).trans (hb.mono (Nat.le_trans HB1.out.size hbd.size))
  have HST : Hid (∀ W, Below w1.heap.size w1 W → ∀ s : ByteArray, s.size ≤ 100 → Calls Tryz.prog 75 #[.slice Ad d.length cd, .string s] W (U8End (stt d s) W)) := fun W hb s hs => state_any d Ad cd s W ((hld.below hb (Nat.le_refl _)).more hb.size) hokd hmd hs
  clear HC HAN HTW hld hbd hokd
  go_loopw [6, 7, 27] (fun v6 v7 y wr => ∃ (k : Nat) (A1 : Option Addr) (c1 : Nat) (A2 : Option Addr) (c2 : Nat), k ≤ col.length ∧ v6 = .slice A1 ((col.take k).filter (isSt d 1)).length c1 ∧ v7 = .slice A2 ((col.take k).filter (isSt d 2)).length c2 ∧ y = .int .i64 k
    ∧ wr.ownsRow w1.heap.size 9 1 (.slice A1 ((col.take k).filter (isSt d 1)).length c1) ((col.take k).filter (isSt d 1)).length (strsC ((col.take k).filter (isSt d 1))) ∧ wr.ownsRow w1.heap.size 9 1 (.slice A2 ((col.take k).filter (isSt d 2)).length c2) ((col.take k).filter (isSt d 2)).length (strsC ((col.take k).filter (isSt d 2)))
    ∧ Hid (Apart (.slice A1 ((col.take k).filter (isSt d 1)).length c1) (.slice A2 ((col.take k).filter (isSt d 2)).length c2)) ∧ Hid (∀ j (h : j < col.length), j < k → (isSt d 1 col[j] || isSt d 2 col[j]) = true) ∧ Below w1.heap.size w1 wr) (fun _ _ y _ => col.length - (intOf y).toNat)
  case atStart => exact ⟨0, none, 0, none, 0, by omega, rfl, rfl, rfl, by simpa [strsC] using World.ownsRow_nil _ _ _ _, by simpa [strsC] using World.ownsRow_nil _ _ _ _, (fun g h => by cases h), (fun j _ h => absurd h (by omega)), Below.refl _ _⟩
  case round =>
    obtain ⟨k, A1, c1, A2, c2, hk, rfl, rfl, rfl, ho1, ho2, hap, hgd, hbw⟩ := hrel
    have hbs := hbw.size
    by_cases hlt : k < col.length
    · obtain ⟨ad, u, rfl, hadb, hu, hcell⟩ := (HLC.out wr (HBW.out wr hbw)).at_ (k := k) (by simpa [strsC] using hlt)
      obtain rfl : u = .string col[k] := by simp [strsC, List.getElem?_eq_getElem hlt] at hu; exact hu.symm
      have hsz := HCS.out _ (List.getElem_mem hlt)
      have HC1 := Lib.hid (HST.out wr hbw col[k] hsz)
      have hl1 := filtS_len col (isSt d 1) k
      have hl2 := filtS_len col (isSt d 2) k
      have HT1 := Lib.hid (fun h => filtS_take (p := isSt d 1) hlt h)
      have HT2 := Lib.hid (fun h => filtS_take (p := isSt d 2) hlt h)
      have HK1 := Lib.hid (fun h => filtS_skip (p := isSt d 1) hlt h)
      have HK2 := Lib.hid (fun h => filtS_skip (p := isSt d 2) hlt h)
      have HGS : Hid ((isSt d 1 col[k] || isSt d 2 col[k]) = true → ∀ j (h : j < col.length), j < k + 1 → (isSt d 1 col[j] || isSt d 2 col[j]) = true) := fun h j hj hjk => by
        by_cases e : j = k
        · subst e; exact h
        · exact hgd.out j hj (by omega)
      have HNO : Hid ((isSt d 1 col[k] || isSt d 2 col[k]) = false → skE d col = 8) := fun h => by
        rw [HS3.out, if_neg]
        intro ha
        have := (List.all_eq_true.1 ha) _ (List.getElem_mem hlt)
        rw [h] at this; cases this
      have e1 : isSt d 1 col[k] = decide (stt d col[k] = 1) := rfl
      have e2 : isSt d 2 col[k] = decide (stt d col[k] = 2) := rfl
      have hbd := sttA_bd (abtL d col[k])
      change stt d col[k] = 0 ∨ stt d col[k] = 1 ∨ stt d col[k] = 2 ∨ stt d col[k] = 3 at hbd
      clear hu hgd
      generalize col[k] = s at *
      generalize stt d s = st at *
      generalize (col.take k).filter (isSt d 1) = f1 at *
      generalize (col.take k).filter (isSt d 2) = f2 at *
      rcases hbd with rfl | rfl | rfl | rfl
      · have HE := Lib.hid (HNO.out (by rw [e1, e2]; rfl))
        clear HT1 HT2 HK1 HK2 HGS HNO e1 e2 ho1 ho2 hap HS3
        go_wp2_with (first | (go_at_call 75; refine HC1.out.mono ?_; rintro e w2 ⟨rfl, hb2⟩))
        refine bodyPost_ret (v := .tuple #[.slice none 0 0, .slice none 0 0, .int .i64 8]) (by simp [results, Tryz.results24, go_sem]) rfl ?_
        exact sk_bad HE.out (by decide) ((HBW.out _ hbw).trans (hb2.mono (HBW.out _ hbw).size))
      · have HE1 := Lib.hid (HT1.out (by rw [e1]; rfl))
        have HE2 := Lib.hid (HK2.out (by rw [e2]; rfl))
        have HG2 := Lib.hid (HGS.out (by rw [e1, e2]; rfl))
        have HLN : Hid (f1.length + 1 = (f1 ++ [s]).length) := by show _ = _; simp
        have HSN := Lib.hid (strsC_snoc f1 s)
        clear HT1 HT2 HK1 HK2 HGS HNO e1 e2 HS3
        go_wp2_with (first | (go_at_call 75; refine HC1.out.mono ?_; rintro e w2 ⟨rfl, hb2⟩; have hs2 := hb2.size; have o1 := ownsRow_below ho1 hb2 (Nat.le_refl _); have o2 := ownsRow_below ho2 hb2 (Nat.le_refl _)) | (at_builtin; refine wpList_append2 rfl (.tmp 36) (.tmp 38) 34 rfl w1.heap.size 9 (.string ByteArray.empty) 1 16 Tryz.underlying34 info9 rfl (by decide) _ f1.length (strsC f1) rfl (o1.alloc _) w2.heap.size #[.string s] 9 rfl (Bk.new _ _ _) rfl ?c1 ?c2 (by decide) ?c3 w1.heap.size w1 ?c4 (Nat.le_refl _) ?_))
        case c1 => rfl
        case c2 => omega
        case c3 => first | omega | (simp; omega)
        case c4 => exact (hbw.trans (hb2.mono hbs)).alloc (by omega) _
        intro v' w4 ho4 hb4 hg4 hat4
        have o5 : w4.ownsRow w1.heap.size 9 1 (.slice A2 f2.length c2) f2.length (strsC f2) := (o2.alloc _).kept hg4 (by
          cases hv : (Value.slice A2 f2.length c2).ownBlock with
          | none => exact .inl rfl
          | some g => exact .inr (fun e => hap.out g e.symm hv))
        have hap4 : Hid (Apart v' (.slice A2 f2.length c2)) := fun g hg => (by
          rcases hat4 with h | h
          · exact hap.out g (h.symm.trans hg)
          · rw [h] at hg; cases hg; intro e; have := (ho2.lt _ e).2; omega)
        rw [HSN.out] at ho4
        obtain ⟨A4, c4, rfl, _, _⟩ := ownsSlice ho4
        clear ho1 ho2 o1 o2 hg4 hat4 hap
        go_wp2
        go_roundw
        case rel => exact ⟨k + 1, A4, c4, A2, c2, by omega, by rw [HE1.out, HLN.out], by rw [HE2.out], by go_num, by rw [HE1.out, ← HLN.out]; exact ho4, by rw [HE2.out]; exact o5, by rw [HE1.out, HE2.out, ← HLN.out]; exact hap4.out, HG2.out, hb4⟩
        case measure => simp [intOf]; omega
      · have HE1 := Lib.hid (HT2.out (by rw [e2]; rfl))
        have HE2 := Lib.hid (HK1.out (by rw [e1]; rfl))
        have HG2 := Lib.hid (HGS.out (by rw [e1, e2]; rfl))
        have HLN : Hid (f2.length + 1 = (f2 ++ [s]).length) := by show _ = _; simp
        have HSN := Lib.hid (strsC_snoc f2 s)
        clear HT1 HT2 HK1 HK2 HGS HNO e1 e2 HS3
        go_wp2_with (first | (go_at_call 75; refine HC1.out.mono ?_; rintro e w2 ⟨rfl, hb2⟩; have hs2 := hb2.size; have o1 := ownsRow_below ho1 hb2 (Nat.le_refl _); have o2 := ownsRow_below ho2 hb2 (Nat.le_refl _)) | (at_builtin; refine wpList_append2 rfl (.tmp 42) (.tmp 44) 34 rfl w1.heap.size 9 (.string ByteArray.empty) 1 16 Tryz.underlying34 info9 rfl (by decide) _ f2.length (strsC f2) rfl (o2.alloc _) w2.heap.size #[.string s] 9 rfl (Bk.new _ _ _) rfl ?c1 ?c2 (by decide) ?c3 w1.heap.size w1 ?c4 (Nat.le_refl _) ?_))
        case c1 => rfl
        case c2 => omega
        case c3 => first | omega | (simp; omega)
        case c4 => exact (hbw.trans (hb2.mono hbs)).alloc (by omega) _
        intro v' w4 ho4 hb4 hg4 hat4
        have o5 : w4.ownsRow w1.heap.size 9 1 (.slice A1 f1.length c1) f1.length (strsC f1) := (o1.alloc _).kept hg4 (by
          cases hv : (Value.slice A1 f1.length c1).ownBlock with
          | none => exact .inl rfl
          | some g => exact .inr (fun e => hap.out g hv e.symm))
        have hap4 : Hid (Apart (.slice A1 f1.length c1) v') := fun g hg => (by
          rcases hat4 with h | h
          · rw [h]; exact hap.out g hg
          · rw [h]; intro e; cases e; have := (ho1.lt _ hg).2; omega)
        rw [HSN.out] at ho4
        obtain ⟨A4, c4, rfl, _, _⟩ := ownsSlice ho4
        clear ho1 ho2 o1 o2 hg4 hat4 hap
        go_wp2
        go_roundw
        case rel => exact ⟨k + 1, A1, c1, A4, c4, by omega, by rw [HE2.out], by rw [HE1.out, HLN.out], by go_num, by rw [HE2.out]; exact o5, by rw [HE1.out, ← HLN.out]; exact ho4, by rw [HE1.out, HE2.out, ← HLN.out]; exact hap4.out, HG2.out, hb4⟩
        case measure => simp [intOf]; omega
      · have HE := Lib.hid (HNO.out (by rw [e1, e2]; rfl))
        clear HT1 HT2 HK1 HK2 HGS HNO e1 e2 ho1 ho2 hap HS3
        go_wp2_with (first | (go_at_call 75; refine HC1.out.mono ?_; rintro e w2 ⟨rfl, hb2⟩))
        refine bodyPost_ret (v := .tuple #[.slice none 0 0, .slice none 0 0, .int .i64 8]) (by simp [results, Tryz.results24, go_sem]) rfl ?_
        exact sk_bad HE.out (by decide) ((HBW.out _ hbw).trans (hb2.mono (HBW.out _ hbw).size))
    · obtain rfl : k = col.length := by omega
      rw [List.take_length] at ho1 ho2 ⊢
      have HE : Hid (skE d col = 0) := by
        show _ = _
        rw [HS3.out, if_pos]
        rw [stOK, List.all_eq_true]
        intro x hx
        obtain ⟨j, hj, rfl⟩ := List.getElem_of_mem hx
        exact hgd.out j hj hj
      have h1 := Lib.hid (ownsRow_lies ho1)
      have h2 := Lib.hid (ownsRow_lies ho2)
      have HEND : Hid (∀ _ : Nat, SkEnd d col w (.returned (.tuple #[.slice A1 (col.filter (isSt d 1)).length c1, .slice A2 (col.filter (isSt d 2)).length c2, .int .i64 0])) wr) := fun _ => by
        have e : ∀ n : Nat, skF d col n = col.filter (isSt d n) := fun n => by unfold skF; rw [if_pos HE.out]
        refine ⟨A1, c1, A2, c2, ?_, ?_, ?_, HBW.out _ hbw⟩
        · rw [e, e, HE.out]
        · rw [e]; exact h1.out
        · rw [e]; exact h2.out
      clear ho1 ho2 hap hgd HS3 HST h1 h2
      go_wp2
      refine bodyPost_ret (v := .tuple #[.slice A1 (col.filter (isSt d 1)).length c1, .slice A2 (col.filter (isSt d 2)).length c2, .int .i64 0]) (by simp [results, Tryz.results24, go_sem]) rfl ?_
      exact HEND.out 0
end Go.Proofs.YtkfeagokmcakgaaGreatDoor

namespace Go.Proofs.YtkfeagokmcakgaaGreatDoor
open Go.RowKit

def nats (L : List Nat) : List Value := L.map fun i : Nat => Value.int .i64 (i : Int)
theorem nat_at {w : World} {B : Nat} {A : Option Addr} {l : List Nat} (h : Lies w B A (nats l)) {k : Nat} (hk : k < l.length) : ∃ ad, A = some ad ∧ ad.block < B ∧ w.cell? (ad.add k) = some (.int .i64 (l[k] : Int)) := by
  obtain ⟨ad, u, h1, h2, h3, h4⟩ := h.at_ (k := k) (by simpa [nats] using hk)
  obtain rfl : u = .int .i64 (l[k] : Int) := by simp [nats, List.getElem?_eq_getElem hk] at h3; exact h3.symm
  exact ⟨ad, h1, h2, h4⟩
set_option maxHeartbeats 400000 in
theorem idx167_any (l : List Nat) (A : Option Addr) (c : Nat) (x : Nat) (w : World) (hl : Lies w w.heap.size A (nats l)) (hm : l.length ≤ 1000) :
    Calls Tryz.prog 167 #[.slice A l.length c, .int .i64 x] w fun e w' => e = .returned (.int .i64 (idxL (fun y => decide (y = x)) l)) ∧ w = w' := by
  go_enter Tryz.func167, Tryz.ntmps167
  go_wp2
  go_loop [8] (fun y => ∃ k : Nat, k ≤ l.length ∧ y = .int .i64 k ∧ Hid (∀ j (hj : j < k) (h' : j < l.length), decide (l[j] = x) = false)) (fun y => l.length - (intOf y).toNat)
  case atStart => exact ⟨0, by omega, rfl, fun j hj => absurd hj (by omega)⟩
  case round =>
    obtain ⟨k, hk, rfl, hg⟩ := hrel
    by_cases hlt : k < l.length
    · obtain ⟨ad, rfl, _, hcell⟩ := nat_at hl hlt
      clear hl
      by_cases h0 : l[k] = x
      · have H : Hid (idxL (fun y => decide (y = x)) l = (k : Int)) := by
          have := idxL_drop (fun y => decide (y = x)) l k hk hg.out (.inr ⟨hlt, decide_eq_true h0⟩)
          rw [if_pos hlt] at this; exact this
        have he : ((x : Int) == (l[k] : Int)) = true := by rw [beq_iff_eq]; omega
        clear h0
        go_wp2
        go_ret
        exact ⟨ret_int H.out.symm, rfl⟩
      · have H : Hid (∀ j (hj : j < k + 1) (h' : j < l.length), decide (l[j] = x) = false) := fun j hj h' => by
          by_cases e : j = k
          · subst e; exact decide_eq_false h0
          · exact hg.out j (by omega) h'
        have he : ((x : Int) == (l[k] : Int)) = false := by rw [beq_eq_false_iff_ne]; omega
        clear h0
        go_wp2
        go_round
        case rel => exact ⟨k + 1, by omega, by go_num, H⟩
        case measure => simp [intOf]; omega
    · obtain rfl : k = l.length := by omega
      have H : Hid (idxL (fun y => decide (y = x)) l = -1) := by
        have := idxL_drop (fun y => decide (y = x)) l _ hk hg.out (.inl rfl)
        rw [if_neg (by omega)] at this; exact this
      go_wp2
      go_ret
      exact ⟨ret_int H.out.symm, rfl⟩
set_option maxHeartbeats 400000 in
theorem contains133_any (l : List Nat) (A : Option Addr) (c : Nat) (x : Nat) (w : World) (hl : Lies w w.heap.size A (nats l)) (hm : l.length ≤ 1000) :
    Calls Tryz.prog 133 #[.slice A l.length c, .int .i64 x] w (BoolEnd (l.any fun y => decide (y = x)) w) := by
  have HX := Lib.hid (idx167_any l A c x w hl hm)
  clear hl
  go_enter Tryz.func133, Tryz.ntmps133
  go_wp2_with (go_at_call 167; refine HX.out.mono ?_; rintro e w' ⟨rfl, rfl⟩)
  go_ret
  exact ⟨congrArg (fun b => Ending.returned (.bool b)) (idxL_dec _ _), rfl⟩
/-- what lies in a stack: its colours, and what is barred -/
structure StkW (bs : Nat) (A : Option Addr) (n c : Nat) (bar : Nat → Nat → Bool) (w : World) : Prop where
  col : w.cell? ⟨bs, 0, none⟩ = some (.slice A n c)
  bar : ∀ i k, i < 8 → k < 8 → w.cell? ⟨bs, 1 + (i * 8 + k), none⟩ = some (.bool (bar i k))
set_option maxHeartbeats 400000 in
theorem clo135_any (bs b1 b2 : Nat) (A : Option Addr) (n c : Nat) (bar : Nat → Nat → Bool) (i k : Nat) (w : World) (h1 : w.cell? ⟨b1, 0, none⟩ = some (.pointer (some ⟨bs, 0, none⟩))) (h2 : w.cell? ⟨b2, 0, none⟩ = some (.int .i64 i)) (hw : StkW bs A n c bar w) (hi : i < 8) (hk : k < 8) :
    Calls Tryz.prog 135 #[.int .i64 k, .pointer (some ⟨b1, 0, none⟩), .pointer (some ⟨b2, 0, none⟩)] w (ShEnd (bar i k) w) := by
  have hc : w.cell? ⟨bs, 1 + i * 8 + k, none⟩ = some (.bool (bar i k)) := by rw [Nat.add_assoc]; exact hw.bar i k hi hk
  have hiI : (i : Int) < 8 := by omega
  have hkI : (k : Int) < 8 := by omega
  have q0 := hw.col
  clear hw
  go_enter Tryz.func135, Tryz.ntmps135
  go_wp2
  go_region
  all_goals
    go_wp2
    go_ret
    exact sh_ret rfl (by repeat (first | with_reducible exact Below.refl _ _ | with_reducible assumption | with_reducible refine Below.drew ?_ | with_reducible refine below_drewN ?_ _ | (with_reducible refine Below.alloc ?_ ?_ _; rotate_left; (try simp) <;> omega) | (with_reducible refine Below.setCell ?_ ?_ _; rotate_left; (try simp) <;> omega)))
theorem StkW.below {bs n c : Nat} {A : Option Addr} {bar : Nat → Nat → Bool} {w w' : World} (h : StkW bs A n c bar w) (hb : Below w.heap.size w w') (hlt : bs < w.heap.size) : StkW bs A n c bar w' := ⟨(hb.cell hlt).trans h.col, fun i k hi hk => (hb.cell hlt).trans (h.bar i k hi hk)⟩
theorem cell_lt {W : World} {p : Addr} {v : Value} (h : W.cell? p = some v) : p.block < W.heap.size := World.block_lt_of_cell? W p h
set_option maxHeartbeats 400000 in
theorem idx168_any (bs b1 b2 : Nat) (A : Option Addr) (n c : Nat) (bar : Nat → Nat → Bool) (i : Nat) (l : List Nat) (A' : Option Addr) (c' : Nat) (w : World) (hl : Lies w w.heap.size A' (nats l)) (hm : l.length ≤ 1000) (h8 : ∀ k ∈ l, k < 8)
    (h1 : w.cell? ⟨b1, 0, none⟩ = some (.pointer (some ⟨bs, 0, none⟩))) (h2 : w.cell? ⟨b2, 0, none⟩ = some (.int .i64 i)) (hw : StkW bs A n c bar w) (hi : i < 8) :
    Calls Tryz.prog 168 #[.slice A' l.length c', .func (.func 135) #[] #[.pointer (some ⟨b1, 0, none⟩), .pointer (some ⟨b2, 0, none⟩)]] w fun e w' => e = .returned (.int .i64 (idxL (bar i) l)) ∧ Below w.heap.size w w' := by
  have HP : Hid (∀ k : Nat, k < 8 → ∀ W : World, Below w.heap.size w W → Calls Tryz.prog 135 #[.int .i64 k, .pointer (some ⟨b1, 0, none⟩), .pointer (some ⟨b2, 0, none⟩)] W (ShEnd (bar i k) W)) := fun k hk W hb => clo135_any bs b1 b2 A n c bar i k W ((hb.cell (cell_lt h1)).trans h1) ((hb.cell (cell_lt h2)).trans h2) (hw.below hb (cell_lt hw.col)) hi hk
  have HL := Lib.hid hl
  clear h1 h2 hw hl
  go_enter Tryz.func168, Tryz.ntmps168
  go_wp2
  go_loopw [8] (fun y wr => ∃ k : Nat, k ≤ l.length ∧ y = .int .i64 k ∧ Hid (∀ j (hj : j < k) (h' : j < l.length), bar i l[j] = false) ∧ Below w.heap.size w wr) (fun y _ => l.length - (intOf y).toNat)
  case atStart => exact ⟨0, by omega, rfl, fun j hj => absurd hj (by omega), Below.refl _ _⟩
  case round =>
    obtain ⟨k, hk, rfl, hg, hbw⟩ := hrel
    have hbs := hbw.size
    by_cases hlt : k < l.length
    · obtain ⟨ad, rfl, _, c0⟩ := nat_at (HL.out.below hbw (Nat.le_refl _)) hlt
      have HC := Lib.hid (HP.out l[k] (h8 _ (List.getElem_mem hlt)))
      by_cases h0 : bar i l[k] = true
      · have H : Hid (idxL (bar i) l = (k : Int)) := by
          have := idxL_drop (bar i) l k hk hg.out (.inr ⟨hlt, h0⟩)
          rw [if_pos hlt] at this; exact this
        have H0 := Lib.hid h0; clear h0
        go_wp2_with (go_at_call 135; refine (HC.out _ hbw).mono ?_; rintro e w1 ⟨rfl, hb⟩; rw [H0.out])
        go_ret
        exact ⟨ret_int H.out.symm, hbw.trans (hb.mono (by omega))⟩
      · have h0' : bar i l[k] = false := by simpa using h0
        have H : Hid (∀ j (hj : j < k + 1) (h' : j < l.length), bar i l[j] = false) := fun j hj h' => by
          by_cases e : j = k
          · subst e; exact h0'
          · exact hg.out j (by omega) h'
        have H0 := Lib.hid h0'; clear h0 h0'
        go_wp2_with (go_at_call 135; refine (HC.out _ hbw).mono ?_; rintro e w1 ⟨rfl, hb⟩; rw [H0.out])
        go_roundw
        case rel => exact ⟨k + 1, by omega, by go_num, H, hbw.trans (hb.mono (by omega))⟩
        case measure => simp [intOf]; omega
    · obtain rfl : k = l.length := by omega
      have H : Hid (idxL (bar i) l = -1) := by
        have := idxL_drop (bar i) l _ hk hg.out (.inl rfl)
        rw [if_neg (by omega)] at this; exact this
      go_wp2
      go_ret
      exact ⟨ret_int H.out.symm, hbw⟩
set_option maxHeartbeats 400000 in
theorem any134_any (bs b1 b2 : Nat) (A : Option Addr) (n c : Nat) (bar : Nat → Nat → Bool) (i : Nat) (l : List Nat) (A' : Option Addr) (c' : Nat) (w : World) (hl : Lies w w.heap.size A' (nats l)) (hm : l.length ≤ 1000) (h8 : ∀ k ∈ l, k < 8)
    (h1 : w.cell? ⟨b1, 0, none⟩ = some (.pointer (some ⟨bs, 0, none⟩))) (h2 : w.cell? ⟨b2, 0, none⟩ = some (.int .i64 i)) (hw : StkW bs A n c bar w) (hi : i < 8) :
    Calls Tryz.prog 134 #[.slice A' l.length c', .func (.func 135) #[] #[.pointer (some ⟨b1, 0, none⟩), .pointer (some ⟨b2, 0, none⟩)]] w (ShEnd (l.any (bar i)) w) := by
  have HX := Lib.hid (idx168_any bs b1 b2 A n c bar i l A' c' w hl hm h8 h1 h2 hw hi)
  have HE := Lib.hid (idxL_dec (bar i) l)
  clear hl h1 h2 hw
  go_enter Tryz.func134, Tryz.ntmps134
  go_wp2_with (go_at_call 168; refine HX.out.mono ?_; rintro e w1 ⟨rfl, hb⟩)
  go_ret
  exact sh_ret HE.out hb
end Go.Proofs.YtkfeagokmcakgaaGreatDoor

namespace Go.Proofs.YtkfeagokmcakgaaGreatDoor
open Go.RowKit

/-- stays true whatever is turned from B on -/
def OwnC (B : Nat) (J : World → Prop) : Prop := ∀ W W' row, J W → W.grownBy W' row → (∀ r, row = some r → B ≤ r) → J W'
theorem OwnC.putObj {B : Nat} {J : World → Prop} (h : OwnC B J) {W : World} {l : Nat} (o' : Obj) (hs : J W) (hB : B ≤ l) : J (W.putObj l o') := h W _ (some l) hs (grownBy_putObj' W l o') (fun r e => by cases e; exact hB)
theorem OwnC.alloc {B : Nat} {J : World → Prop} (h : OwnC B J) {W : World} (o : Obj) (hs : J W) : J (W.alloc o) := h W _ none hs (World.grownBy_alloc W o none) (fun r e => by cases e)
section
variable {F : Fence} {n : Nat} {P : Program} {α : Type}
/-- the iterator's word: it hands over no element, or one of which Pre holds; then the loop stops -/
def SeqO (F : Fence) (n : Nat) (P : Program) (g : Nat) (fa lb : Array Value) (encs : α → Array Value) (Pre : α → World → Prop) (S : Prop) (Sp : α → Prop) (w : World) : Prop :=
  ∀ (l : Nat) (J : World → Prop) (Jx : α → World → Prop) (W : World), l < W.heap.size → Below w.heap.size w W → OwnC W.heap.size J →
    (∀ x W1, J W1 → Pre x W1 → YieldAt F (n - 1) P l (encs x) W1 fun e W' => e = .returned (.bool false) ∧ Jx x W') →
    J W → CallsIn F n P g (fa ++ #[.func (.yield l) #[] #[]] ++ lb) W fun e W' => (∃ v, e = .returned v) ∧ ((S ∧ J W') ∨ (∃ x, Sp x ∧ Jx x W'))
abbrev recAt (fn : FuncId) (a : Act) (ps : Array Tmp) (assign body : Code) (d : Nat) (st : LoopState) (pe : Option Code) : Loop := { state := st, pending := pe, fn, tmps := a.tmps, params := ps, assign, body, defers := d }
theorem rangeFunc_once {g : Operand} {ps : Array Tmp} {assign body : Code} {Q : Exit → Act → World → Prop} {a : Act} {w w0 : World} (hro : F.round = none) (h1 : 1 ≤ n) {gf : Nat} {fa lb : Array Value} (hg : a.eval g = .func (.func gf) fa lb) (hFg : F.fn gf)
    (eg : ∀ args w, (callFunc gf args).run P w = .ok (.enter gf args) w) {encs : α → Array Value} {Pre : α → World → Prop} {S : Prop} {Sp : α → Prop} (hseq : SeqO F (n - 1) P gf fa lb encs Pre S Sp w0)
    (hb0 : Below w0.heap.size w0 w) (hps : ∀ x, (encs x).size = ps.size)
    (I : World → Prop) (Ix : α → World → Prop) (hI : OwnC w.heap.size I) (hIx : ∀ x (W : World) l o o', Ix x W → w.heap.size ≤ l → W.heap[l]? = some o → o.isCells = false → Ix x (W.putObj l o')) (hPre : ∀ x (W : World) l o o', Pre x W → W.heap[l]? = some o → o.isCells = false → Pre x (W.putObj l o')) (h0 : I w) (a₁ : α → Act)
    (hassign : ∀ (l : Nat) (x : α) (W : World) (K : Act → World → Prop), K (a₁ x) W → assign.wpIn (F.inRound l) (n - 1 - 1) P (Exit.then K (fun _ _ _ => False)) { tmps := (ps.zip (encs x)).foldl (fun t (p, v) => t.setIfInBounds p v) a.tmps, defers := [] } W)
    (hbody : ∀ (l : Nat) (x : α) (W : World), I W → Pre x W → body.wpIn (F.inRound l) (n - 1 - 1) P (fun e _ W' => e = .ret ∧ KeepsFrom w.heap.size W W' ∧ Ix x W') (a₁ x) W)
    (hdone : ∀ (D : Nat) (W : World), w.heap.size ≤ D → S → I W → W.heap[D]? = some (.deferred (some [])) → Q .normal { a with defers := { target := .collected D, args := #[] } :: a.defers } W)
    (hstop : ∀ (D : Nat) (x : α) (W : World), w.heap.size ≤ D → Sp x → Ix x W → W.heap[D]? = some (.deferred (some [])) → Code.ret.wpIn F n P Q { a with defers := { target := .collected D, args := #[] } :: a.defers } W) :
    (Code.rangeFunc g ps assign body).wpIn F n P Q a w := by
  refine wpIn_rangeFunc fun fn hfn => ?_
  rw [hro]
  let R := recAt fn a ps assign body w.heap.size
  let D := w.heap.size
  let l := w.heap.size + 1
  have hW : ∃ W1, (w.alloc (.deferred (some []))).alloc (.loop (R .ready none)) = W1 := ⟨_, rfl⟩
  obtain ⟨W1, hW1⟩ := hW
  have z1 : W1.heap.size = w.heap.size + 2 := by rw [← hW1]; simp
  have q1 : W1.heap[l]? = some (.loop (R .ready none)) := by
    have := World.alloc_heap_new (w.alloc (.deferred (some []))) (.loop (R .ready none))
    rw [World.size_alloc, hW1] at this
    exact this
  have q2 : W1.heap[D]? = some (.deferred (some [])) := by rw [← hW1]; exact (Below.heap_alloc _ _ _ (by simp [D])).trans (World.alloc_heap_new w _)
  have q3 : Below w0.heap.size w0 W1 := by rw [← hW1]; exact hb0.trans ((((Below.refl _ w).alloc (Nat.le_refl _) _).alloc (by simp) _).mono hb0.size)
  have q4 : I W1 := by rw [← hW1]; exact hI.alloc _ (hI.alloc _ h0)
  refine ⟨l, [{ target := .collected D, args := #[] }], W1, { target := .fn (.func gf) lb, args := fa ++ #[.func (.yield l) #[] #[]] }, W1, gf, fa ++ #[.func (.yield l) #[] #[]] ++ lb, W1, by rw [← hW1]; exact run_enterLoop_outer _ _ _ _ _, by simp only [resolve, hg]; simp [go_sem, l], fun f' hf' => by simp [Target.leads] at hf'; subst hf'; exact hFg, by simp [invoke, go_sem, eg], fun _ => h1, ?_⟩
  have turn : ∀ {row : Option Nat}, (∀ r, row = some r → W1.heap.size ≤ r) → ∀ r, row = some r → w.heap.size ≤ r := fun hr r e => by have := hr r e; omega
  have held : ∀ {A B : World} {row : Option Nat} {k : Nat} {o : Obj}, A.grownBy B row → (∀ r, row = some r → W1.heap.size ≤ r) → k < W1.heap.size → A.heap[k]? = some o → B.heap[k]? = some o := fun hg' hr hlt hk => (hg'.block _ (Array.getElem?_eq_some_iff.1 hk).1 (fun e => by have := hr _ e.symm; omega)).trans hk
  have hl1 : l < W1.heap.size := by simp [l]; omega
  have hD1 : D < W1.heap.size := by simp [D]; omega
  refine CallsIn.mono (hseq l (fun W => I W ∧ W.heap[l]? = some (.loop (R .ready none)) ∧ W.heap[D]? = some (.deferred (some []))) (fun x W => Ix x W ∧ W.heap[l]? = some (.loop (R .done (some .ret))) ∧ W.heap[D]? = some (.deferred (some []))) W1 hl1 q3
    (fun A B row hs hg' hr => ⟨hI A B row hs.1 hg' (turn hr), held hg' hr hl1 hs.2.1, held hg' hr hD1 hs.2.2⟩) ?_ ⟨q4, q1, q2⟩) ?_
  · rintro x W ⟨hi, hl, hk⟩ hpx
    have hlt : l < W.heap.size := (Array.getElem?_eq_some_iff.1 hl).1
    let Wb := W.putObj l (.loop { R .ready none with state := .busy })
    have b1 : Wb.heap[l]? = some (.loop { R .ready none with state := .busy }) := World.putObj_heap_same hlt
    have b2 : Wb.heap[D]? = some (.deferred (some [])) := (World.putObj_heap_other (by simp [l, D])).trans hk
    refine ⟨fn, _, assign, body, run_yield (P := P) (args := encs x) hl (hps x), roundIn_of_wpIn hfn (hassign _ x W _ ⟨_, run_beginRound hl rfl, ?_⟩)⟩
    refine wpIn_mono (hbody _ x Wb (hI.putObj _ hi (by simp [l])) (hPre x W l _ _ hpx hl rfl)) ?_
    rintro e a3 W3 ⟨rfl, hk3, hi3⟩
    have c1 := hk3.same _ _ (by simp [l]) b1 rfl
    exact ⟨_, _, run_endRound (P := P) (some .ret) c1, rfl, hIx x _ _ _ _ hi3 (by simp [l]) c1 rfl, World.putObj_heap_same (Array.getElem?_eq_some_iff.1 c1).1, (World.putObj_heap_other (by simp [l, D])).trans (hk3.same _ _ (by simp [D]) b2 rfl)⟩
  · rintro e W2 ⟨⟨v, rfl⟩, (⟨hS, hi, hl, hk⟩ | ⟨x, hSp, hi, hl, hk⟩)⟩
    · exact ⟨none, _, run_endLoop (P := P) hl (by simp [R, recAt]), hdone _ _ (Nat.le_refl _) hS (hI.putObj _ hi (by simp [l])) ((World.putObj_heap_other (by simp [l, D])).trans hk)⟩
    · exact ⟨some .ret, _, run_endLoop (P := P) hl (by simp [R, recAt]), hstop _ x _ (Nat.le_refl _) hSp (hIx x _ _ _ _ hi (by simp [l]) hl rfl) ((World.putObj_heap_other (by simp [l, D])).trans hk)⟩
end
end Go.Proofs.YtkfeagokmcakgaaGreatDoor

namespace Go.Proofs.YtkfeagokmcakgaaGreatDoor
open Go.RowKit

def firstF (f : Nat → Option (List Nat)) : Nat → Nat → Option (List Nat)
  | _, 0 => none
  | i, k + 1 => match f i with
    | some v => some v
    | none => firstF f (i + 1) k
def ordOK (bar : Nat → Nat → Bool) (l : List Nat) (i : Nat) : Bool := !((l.any fun y => decide (y = i)) || l.any (bar i))
/-- the first order that goes on from l with r colours more -/
def ordsF (bar : Nat → Nat → Bool) (n : Nat) : Nat → List Nat → Option (List Nat)
  | 0, l => some l
  | r + 1, l => firstF (fun i => if ordOK bar l i = true then ordsF bar n r (l ++ [i]) else none) 0 n
theorem firstF_at {f : Nat → Option (List Nat)} {i n : Nat} (h : i < n) : firstF f i (n - i) = match f i with
    | some v => some v
    | none => firstF f (i + 1) (n - (i + 1)) := by
  rw [show n - i = (n - (i + 1)) + 1 by omega]; rfl

/-- blocks that are no one's but the walk's -/
structure KOk (bl bsx by_ bw bs rb base : Nat) : Prop where
  h1 : base ≤ bl
  h2 : bl < rb
  h3 : bsx < rb
  h4 : by_ < rb
  h5 : bw < rb
  h6 : bs < rb
  hb : base ≤ rb
  n1 : bsx ≠ bl
  n2 : by_ ≠ bl
  n3 : bw ≠ bl
  n4 : bs ≠ bl
section
variable {bl bsx by_ bw lb bs rb base n c : Nat} {A : Option Addr} {bar : Nat → Nat → Bool} {J : World → Prop} {W W' : World}
/-- what the walk reads -/
structure WC (bl bsx by_ bw lb bs : Nat) (A : Option Addr) (n c : Nat) (bar : Nat → Nat → Bool) (J : World → Prop) (W : World) : Prop where
  sx : W.cell? ⟨bsx, 0, none⟩ = some (.pointer (some ⟨bs, 0, none⟩))
  yl : W.cell? ⟨by_, 0, none⟩ = some (.func (.yield lb) #[] #[])
  wk : W.cell? ⟨bw, 0, none⟩ = some (.func (.func 132) #[] #[.pointer (some ⟨bl, 0, none⟩), .pointer (some ⟨bsx, 0, none⟩), .pointer (some ⟨by_, 0, none⟩), .pointer (some ⟨bw, 0, none⟩)])
  stk : StkW bs A n c bar W
  j : J W
theorem WC.low (k : KOk bl bsx by_ bw bs rb base) (h : WC bl bsx by_ bw lb bs A n c bar J W) (hb : Below rb W W') (hj : J W') : WC bl bsx by_ bw lb bs A n c bar J W' :=
  ⟨(hb.cell k.h3).trans h.sx, (hb.cell k.h4).trans h.yl, (hb.cell k.h5).trans h.wk, ⟨(hb.cell k.h6).trans h.stk.col, fun i j hi hj => (hb.cell k.h6).trans (h.stk.bar i j hi hj)⟩, hj⟩
theorem WC.step (k : KOk bl bsx by_ bw bs rb base) (hJ : OwnC base J) (h : WC bl bsx by_ bw lb bs A n c bar J W) (hrb : rb ≤ W.heap.size) (hb : Below W.heap.size W W') : WC bl bsx by_ bw lb bs A n c bar J W' :=
  h.low k (hb.mono hrb) (hJ _ _ none h.j ⟨hb.os, hb.tape, hb.output, hb.size, fun g hg _ => hb.block g hg⟩ (fun r e => by cases e))
theorem WC.set (k : KOk bl bsx by_ bw bs rb base) (hJ : OwnC base J) (h : WC bl bsx by_ bw lb bs A n c bar J W) (v : Value) : WC bl bsx by_ bw lb bs A n c bar J (W.setCell ⟨bl, 0, none⟩ v) := by
  have hg := grownBy_setCell' W bl v
  have hc : ∀ (p : Addr) (u : Value), p.block ≠ bl → W.cell? p = some u → (W.setCell ⟨bl, 0, none⟩ v).cell? p = some u := fun p u hp hu => by
    have hlt := cell_lt hu
    exact (World.cell?_of_block (hg.block _ hlt (fun e => hp (by cases e; rfl)))).trans hu
  exact ⟨hc _ _ k.n1 h.sx, hc _ _ k.n2 h.yl, hc _ _ k.n3 h.wk, ⟨hc _ _ k.n4 h.stk.col, fun i j hi hj => hc _ _ k.n4 (h.stk.bar i j hi hj)⟩, hJ _ _ _ h.j hg (fun r e => by cases e; exact k.h1)⟩
/-- the walk's list -/
structure WL (bl rb : Nat) (l : List Nat) (A' : Option Addr) (c' : Nat) (W : World) : Prop where
  lst : Bk W bl 42 #[.slice A' l.length c']
  own : W.ownsRow rb 3 1 (.slice A' l.length c') l.length (nats l)
theorem WL.step {l : List Nat} {A' : Option Addr} {c' : Nat} (h : WL bl rb l A' c' W) (hb : Below W.heap.size W W') : WL bl rb l A' c' W' := ⟨h.lst.below hb h.lst.lt, ownsRow_below h.own hb (Nat.le_refl _)⟩
theorem own_set {v u : Value} {m : Nat} {xs : List Value} (h : W.ownsRow rb 3 1 v m xs) (hbl : bl < rb) : (W.setCell ⟨bl, 0, none⟩ u).ownsRow rb 3 1 v m xs := (far_setCells bl [u] 0 W).own h hbl
theorem own_pop {m c' : Nat} {A' : Option Addr} {xs : List Value} {x : Value} (h : W.ownsRow rb 3 1 (.slice A' (m + 1) c') (m + 1) (xs ++ [x])) : W.ownsRow rb 3 1 (.slice A' m c') m xs := by
  have hl : xs.length = m := by have := h.1; simp at this; omega
  refine ⟨by omega, ?_⟩
  rcases h.2 with ⟨_, h2⟩ | ⟨g, cap, cur, h1, h2, h3, h4, h5, h6, h7⟩
  · omega
  · cases h1
    refine .inr ⟨g, c', cur, rfl, h2, h3, by omega, h5, h6, ?_⟩
    rw [Nat.mul_one] at h7 ⊢
    have := congrArg (List.take m) h7
    rw [List.take_take, Nat.min_eq_left (by omega)] at this
    rw [this, ← hl, List.take_left]
end
theorem nats_snoc (L : List Nat) (i : Nat) : nats L ++ [Value.int .i64 (i : Int)] = nats (L ++ [i]) := by simp [nats]
/-- a list that is handed over -/
structure El where
  L : List Nat
  A : Option Addr
  c : Nat
def El.v (x : El) : Value := .slice x.A x.L.length x.c
def El.At (x : El) (W : World) : Prop := Lies W W.heap.size x.A (nats x.L)
end Go.Proofs.YtkfeagokmcakgaaGreatDoor

namespace Go.Proofs.YtkfeagokmcakgaaGreatDoor
open Go.RowKit
attribute [local go_sem] Oper.semAt_some

/-- append of one element: the row that grows is named -/
theorem wpList_append1g {P : Program} {ops : Array Oper} {rest : List Oper} {o : Oper} {a : Act} {w : World} {Q : Exit → Act → World → Prop} (hgd : o.guard = none) (s x : Operand) (t : TypeId)
    (ho : o.op = .call { callee := .builtin .append, args := #[s, x], argTypes := #[t, t] })
    (base : Nat) (e : TypeId) (z : Value) (size bytes : Nat) (ht : P.underlying t = some (.slice e)) (hi : (P.info? e).map (fun i => (i.zero, i.size, i.bytes)) = some (some z, size, bytes)) (hzs : z.cells.size = size) (hsz : 0 < size)
    (v : Value) (n : Nat) (xs : List Value) (hs : a.eval s = v) (hown : w.ownsRow base e size v n xs)
    (b : Nat) (C : Array Value) (tt : TypeId) (hx : a.eval x = .slice (some ⟨b, 0, none⟩) 1 1) (hbk : Bk w b tt C) (hl : C.size = size) (h1 : ∀ u ∈ C.toList, u.oneCell' = true)
    (h63 : n < 100000) (hbytes : bytes ≤ 1000) (hbase : base ≤ w.heap.size)
    (h : ∀ v' w', w'.ownsRow base e size v' (n + 1) (xs ++ C.toList) → w.grownBy w' v.ownBlock → wpList P ops Q rest (a.put o.dst v') w') : wpList P ops Q (o :: rest) a w := by
  obtain ⟨i0, hi0, hz0, hz1, hz2⟩ := info_parts hi
  refine wpList_append_own w hgd s x t ho base e i0 z size bytes ht hi0 hz0 hz1 hz2 hzs hsz v n xs hs hown ⟨b, 0, none⟩ 1 1 C.toList hx (by simpa using hl) (bk_cells hbk) h1 (by unfold maxLen; omega) ?_ hbase ?_
  · calc (n + 1) * bytes ≤ 100000 * 1000 := Nat.mul_le_mul (by omega) hbytes
      _ ≤ 140737488355328 := by decide
  · intro v' w' ho' hg _
    exact h v' w' ho' hg
def PreX (n : Nat) (x : El) (W : World) : Prop := x.At W ∧ (∀ j ∈ x.L, j < n) ∧ x.L.length ≤ 8
def WkE (bl bsx by_ bw lb bs rb : Nat) (A : Option Addr) (n c : Nat) (bar : Nat → Nat → Bool) (J : World → Prop) (Jx : El → World → Prop) (l : List Nat) (o : Option (List Nat)) (e : Ending) (W' : World) : Prop :=
  (o = none ∧ e = .returned (.bool true) ∧ ∃ A2 c2, Hid (WC bl bsx by_ bw lb bs A n c bar J W') ∧ Hid (WL bl rb l A2 c2 W') ∧ rb ≤ W'.heap.size) ∨ (∃ x : El, o = some x.L ∧ e = .returned (.bool false) ∧ Jx x W')
set_option maxRecDepth 100000 in
set_option maxHeartbeats 2000000 in
theorem walk132 (m : Nat) {bl bsx by_ bw lb bs rb base n c : Nat} {A : Option Addr} {bar : Nat → Nat → Bool} {J : World → Prop} {Jx : El → World → Prop} (K : KOk bl bsx by_ bw bs rb base) (hn : n ≤ 8) (hJ : OwnC base J)
    (hY : ∀ x W1, J W1 → PreX n x W1 → YieldAt Fence.wide (m - 1) Tryz.prog lb #[x.v] W1 fun e W' => e = .returned (.bool false) ∧ Jx x W') :
    ∀ (r : Nat) (l : List Nat) (A' : Option Addr) (c' : Nat) (W : World), l.length + r = n → (∀ j ∈ l, j < n) → rb ≤ W.heap.size → WC bl bsx by_ bw lb bs A n c bar J W → WL bl rb l A' c' W →
      Calls Tryz.prog 132 #[.pointer (some ⟨bl, 0, none⟩), .pointer (some ⟨bsx, 0, none⟩), .pointer (some ⟨by_, 0, none⟩), .pointer (some ⟨bw, 0, none⟩)] W (WkE bl bsx by_ bw lb bs rb A n c bar J Jx l (ordsF bar n r l))
  | 0, l, A', c', W, hl, hln, hrb, hC, hL => by
    have HC := Lib.hid (hC.step K hJ hrb ((Below.refl _ _).drew))
    have HL := Lib.hid (hL.step (Below.refl W.heap.size W).drew)
    obtain ⟨fn, tmps, assign, body, hy, hR⟩ := hY ⟨l, A', c'⟩ W.drew HC.out.j ⟨ownsRow_lies HL.out.own, hln, by show l.length ≤ 8; omega⟩
    have hy : (Instr.yield lb #[.slice A' l.length c']).run Tryz.prog W.drew = .ok (.round lb fn tmps assign body) W.drew := hy
    have HRR := Lib.hid hR
    have HS : Hid (W.drew.cell? ⟨bl, 0, none⟩ = some (.slice A' l.length c') ∧ W.drew.cell? ⟨bsx, 0, none⟩ = some (.pointer (some ⟨bs, 0, none⟩)) ∧ W.drew.cell? ⟨bs, 0, none⟩ = some (.slice A n c)) := ⟨HL.out.lst.cell 0 rfl, HC.out.sx, HC.out.stk.col⟩
    have hq : ((l.length : Int) == (n : Int)) = true := by rw [beq_iff_eq]; omega
    have c0 := HL.out.lst.cell 0 rfl
    have c1 := HC.out.yl
    clear hR hY hJ hC hL hl hln hrb
    go_enter Tryz.func132, Tryz.ntmps132
    go_wp2
    refine wp_region_held_drew (S := fun V => V.cell? ⟨bl, 0, none⟩ = some (.slice A' l.length c') ∧ V.cell? ⟨bsx, 0, none⟩ = some (.pointer (some ⟨bs, 0, none⟩)) ∧ V.cell? ⟨bs, 0, none⟩ = some (.slice A n c)) (by kernel_rfl) ?_ (fun hHeld => ?_)
    · exact HS.out
    refine tk 0 6 ?_
    refine tk 1 7 ?_
    refine tk 2 8 ?_
    refine tk 3 9 ?_
    refine tk 4 10 ?_
    refine tk 5 11 ?_
    refine tk 6 12 ?_
    refine tk 7 13 ?_
    refine wpAnyH_done (by kernel_rfl) ?_ _
    clear hHeld
    generalize W.drew = V at *
    go_upto_region 2 with fail
    refine (wpIn_wide (n := m)).1 ?_
    gi_wp2
    refine ⟨fun h => (by cases h), HRR.out.mono ?_⟩
    rintro e w6 ⟨rfl, hx6⟩
    gi_wp2
    go_wp2
    go_ret
    exact .inr ⟨⟨l, A', c'⟩, rfl, rfl, hx6⟩
  | r + 1, l, A', c', W, hl, hln, hrb, hC, hL => by
    have IH := walk132 m (lb := lb) (c := c) (A := A) (bar := bar) K hn hJ hY r
    have HC := Lib.hid (hC.step K hJ hrb ((Below.refl _ _).drew))
    have HL := Lib.hid (hL.step (Below.refl W.heap.size W).drew)
    have HS : Hid (W.drew.cell? ⟨bl, 0, none⟩ = some (.slice A' l.length c') ∧ W.drew.cell? ⟨bsx, 0, none⟩ = some (.pointer (some ⟨bs, 0, none⟩)) ∧ W.drew.cell? ⟨bs, 0, none⟩ = some (.slice A n c)) := ⟨HL.out.lst.cell 0 rfl, HC.out.sx, HC.out.stk.col⟩
    have hq : ((l.length : Int) == (n : Int)) = false := by rw [beq_eq_false_iff_ne]; omega
    have c1 := HC.out.sx
    have c2 := HC.out.stk.col
    have HRB : Hid (rb ≤ W.drew.heap.size) := hrb
    have HIH : Hid (∀ (i : Nat) (A8 : Option Addr) (c8 : Nat) (V : World), i < n → rb ≤ V.heap.size → WC bl bsx by_ bw lb bs A n c bar J V → WL bl rb (l ++ [i]) A8 c8 V →
      Calls Tryz.prog 132 #[.pointer (some ⟨bl, 0, none⟩), .pointer (some ⟨bsx, 0, none⟩), .pointer (some ⟨by_, 0, none⟩), .pointer (some ⟨bw, 0, none⟩)] V (WkE bl bsx by_ bw lb bs rb A n c bar J Jx (l ++ [i]) (ordsF bar n r (l ++ [i])))) := fun i A8 c8 V hi hr h1 h2 => IH (l ++ [i]) A8 c8 V (by simp; omega) (fun j hj => by
        rcases List.mem_append.1 hj with h | h
        · exact hln j h
        · simp at h; omega) hr h1 h2
    have HF : Hid (∀ i, i < n → firstF (fun i => if ordOK bar l i = true then ordsF bar n r (l ++ [i]) else none) i (n - i) = match (if ordOK bar l i = true then ordsF bar n r (l ++ [i]) else none) with
        | some v => some v
        | none => firstF (fun i => if ordOK bar l i = true then ordsF bar n r (l ++ [i]) else none) (i + 1) (n - (i + 1))) := fun i hi => firstF_at hi
    have HO : Hid (ordsF bar n (r + 1) l = firstF (fun i => if ordOK bar l i = true then ordsF bar n r (l ++ [i]) else none) 0 n) := rfl
    have HF0 : Hid (∀ i, firstF (fun i => if ordOK bar l i = true then ordsF bar n r (l ++ [i]) else none) i 0 = none) := fun _ => rfl
    generalize firstF (fun i => if ordOK bar l i = true then ordsF bar n r (l ++ [i]) else none) = FF at *
    have HLN := Lib.hid hln
    have HLE : Hid (l.length + (r + 1) = n) := hl
    have hl8 : l.length < 8 := by omega
    have HK := Lib.hid K
    have HJ := Lib.hid hJ
    clear hY hJ hC hL hl hln hrb IH K
    go_enter Tryz.func132, Tryz.ntmps132
    go_wp2
    refine wp_region_held_drew (S := fun V => V.cell? ⟨bl, 0, none⟩ = some (.slice A' l.length c') ∧ V.cell? ⟨bsx, 0, none⟩ = some (.pointer (some ⟨bs, 0, none⟩)) ∧ V.cell? ⟨bs, 0, none⟩ = some (.slice A n c)) (by kernel_rfl) ?_ (fun hHeld => ?_)
    · exact HS.out
    refine tk 0 6 ?_
    refine tk 1 7 ?_
    refine tk 2 8 ?_
    refine tk 3 9 ?_
    refine tk 4 10 ?_
    refine tk 5 11 ?_
    refine tk 6 12 ?_
    refine tk 7 13 ?_
    refine wpAnyH_done (by kernel_rfl) ?_ _
    clear hHeld HS
    generalize W.drew = V at *
    go_wp2
    go_loopw [22] (fun y wr => ∃ (i : Nat) (A1 : Option Addr) (c1 : Nat), i ≤ n ∧ y = .int .i64 i ∧ Hid (FF 0 n = FF i (n - i)) ∧ Hid (WC bl bsx by_ bw lb bs A n c bar J wr) ∧ Hid (WL bl rb l A1 c1 wr) ∧ rb ≤ wr.heap.size) (fun y _ => n - (intOf y).toNat)
    case atStart => exact ⟨0, A', c', by omega, rfl, rfl, HC, HL, HRB.out⟩
    case round =>
      clear c1 c2
      obtain ⟨i, A1, c1, hi, rfl, hf, hC, hL, hrb⟩ := hrel
      by_cases hlt : i < n
      · have hlI : (i : Int) < (n : Int) := by omega
        have HNX : Hid (ordOK bar l i = false → FF 0 n = FF (i + 1) (n - (i + 1))) := fun h => by rw [hf.out, HF.out i hlt, h]; rfl
        have HNY : Hid (ordOK bar l i = true → ordsF bar n r (l ++ [i]) = none → FF 0 n = FF (i + 1) (n - (i + 1))) := fun h h2 => by rw [hf.out, HF.out i hlt, h, h2]; rfl
        have HSX : Hid (∀ v, ordOK bar l i = true → ordsF bar n r (l ++ [i]) = some v → ordsF bar n (r + 1) l = some v) := fun v h h2 => by rw [HO.out, hf.out, HF.out i hlt, h, h2]; rfl
        have hb1 : Below wr.heap.size wr (wr.alloc (.cells #[.int .i64 (i : Int)] 3)) := (Below.refl _ _).alloc (Nat.le_refl _) _
        have HC1 := Lib.hid (hC.out.step HK.out HJ.out hrb hb1)
        have HL1 := Lib.hid (hL.out.step hb1)
        have x0 := HL1.out.lst.cell 0 rfl
        have HI1 : Hid (Bk (wr.alloc (.cells #[.int .i64 (i : Int)] 3)) wr.heap.size 3 #[.int .i64 (i : Int)]) := Bk.new _ _ _
        have x1 := HI1.out.cell 0 rfl
        have HCN := Lib.hid (contains133_any l A1 c1 i (wr.alloc (.cells #[.int .i64 (i : Int)] 3)) (ownsRow_lies HL1.out.own) (by omega))
        have HAN := Lib.hid (any134_any bs bsx wr.heap.size A n c bar i l A1 c1 (wr.alloc (.cells #[.int .i64 (i : Int)] 3)) (ownsRow_lies HL1.out.own) (by omega) (fun k hk => Nat.lt_of_lt_of_le (HLN.out k hk) hn) HC1.out.sx x1 HC1.out.stk (by omega))
        have hmf : ∀ (fn : Fn) (first cap : Array Value) (w : World), (Instr.makeFunc fn first cap).run Tryz.prog w = .ok (.func fn first cap) w := fun _ _ _ _ => rfl
        have hz1 : rb ≤ (wr.alloc (.cells #[.int .i64 (i : Int)] 3)).heap.size := by simp; omega
        have HRB1 := Lib.hid hz1
        have hlo := HK.out.h2
        clear hb1 hf HF HO HF0 hz1 HRB
        cases hp1 : l.any fun y => decide (y = i) with
        | true =>
          have HP1 := Lib.hid hp1
          have HE := Lib.hid (HNX.out (by unfold ordOK; rw [hp1]; rfl))
          clear hp1 HNX HNY HSX HAN
          go_wp2_with (first | (go_at_call 133; refine HCN.out.mono ?_; rintro e w1 ⟨rfl, rfl⟩; rw [HP1.out]))
          go_roundw
          case rel => exact ⟨i + 1, A1, c1, by omega, by go_num, HE, HC1, HL1, HRB1.out⟩
          case measure => simp [intOf]; omega
        | false =>
          have HP1 := Lib.hid hp1
          cases hp2 : l.any (bar i) with
          | true =>
            have HP2 := Lib.hid hp2
            have HE := Lib.hid (HNX.out (by unfold ordOK; rw [hp1, hp2]; rfl))
            clear hp1 hp2 HNX HNY HSX
            go_wp2_with (first | (go_at_call 133; refine HCN.out.mono ?_; rintro e w1 ⟨rfl, rfl⟩; rw [HP1.out]) | (go_at_call 134; refine HAN.out.mono ?_; rintro e w2 ⟨rfl, hb2⟩; rw [HP2.out]))
            go_roundw
            case rel => exact ⟨i + 1, A1, c1, by omega, by go_num, HE, HC1.out.step HK.out HJ.out HRB1.out hb2, HL1.out.step hb2, Nat.le_trans HRB1.out hb2.size⟩
            case measure => simp [intOf]; omega
          | false =>
            have HP2 := Lib.hid hp2
            have HOK : Hid (ordOK bar l i = true) := by show _ = _; unfold ordOK; rw [hp1, hp2]; rfl
            clear hp1 hp2 HNX
            go_upto_region 7 with (first | (go_at_call 133; refine HCN.out.mono ?_; rintro e w1 ⟨rfl, rfl⟩; rw [HP1.out]) | (go_at_call 134; refine HAN.out.mono ?_; rintro e w2 ⟨rfl, hb2⟩; rw [HP2.out]))
            have HC2 := Lib.hid (HC1.out.step HK.out HJ.out HRB1.out hb2)
            have HL2 := Lib.hid (HL1.out.step hb2)
            have HR2 : Hid (rb ≤ w2.heap.size) := Nat.le_trans HRB1.out hb2.size
            have y0 := HL2.out.lst.cell 0 rfl
            have y1 := (HI1.out.below hb2 HI1.out.lt).cell 0 rfl
            have HB3 : Hid (Below w2.heap.size w2 (w2.alloc (.cells #[.int .i64 (i : Int)] 3))) := (Below.refl _ _).alloc (Nat.le_refl _) _
            have HL3 := Lib.hid (HL2.out.step HB3.out)
            have HC3 := Lib.hid (HC2.out.step HK.out HJ.out HR2.out HB3.out)
            have HR3 : Hid (rb ≤ (w2.alloc (.cells #[.int .i64 (i : Int)] 3)).heap.size) := Nat.le_trans HR2.out HB3.out.size
            have HW3 : Hid (Bk (w2.alloc (.cells #[.int .i64 (i : Int)] 3)) w2.heap.size 3 #[.int .i64 (i : Int)]) := Bk.new _ _ _
            clear hb2 HCN HAN x0 x1 HC1 HL1 HI1
            go_upto_region 8 with (first | (at_builtin; refine wpList_append1g (P := Tryz.prog) rfl (.tmp 33) (.tmp 35) 42 rfl rb 3 (.int .i64 0) 1 8 Tryz.underlying42 info3 (by decide) (by decide) (.slice A1 l.length c1) l.length (nats l) rfl HL3.out.own w2.heap.size #[.int .i64 (i : Int)] 3 rfl HW3.out rfl (by intro u hu; simp at hu; subst hu; rfl) (by omega) (by decide) HR3.out ?_; intro v8 V8 own8 gr8; have bel8 : Below rb (w2.alloc (.cells #[.int .i64 (i : Int)] 3)) V8 := Below.grown (Below.refl _ _) gr8 HR3.out (fun g hg => (HL3.out.own.lt g hg).1); have k8 := HL3.out.lst.below bel8 hlo; have z0 := k8.cell 0 rfl; have z1 := k8.fro 0; obtain ⟨A8, c8, rfl, hc8⟩ := ownsSlice own8))
            have HC9 : Hid (WC bl bsx by_ bw lb bs A n c bar J (V8.setCell ⟨bl, 0, none⟩ (.slice A8 (l.length + 1) c8))) := (HC3.out.low HK.out bel8 (HJ.out _ _ _ HC3.out.j gr8 (fun g hg => Nat.le_trans HK.out.hb (HL3.out.own.lt g hg).1))).set HK.out HJ.out _
            have HL9 : Hid (WL bl rb (l ++ [i]) A8 c8 (V8.setCell ⟨bl, 0, none⟩ (.slice A8 (l.length + 1) c8))) := by
              have h1 := own_set (u := .slice A8 (l.length + 1) c8) own8 hlo
              rw [show nats l ++ (#[.int .i64 (i : Int)] : Array Value).toList = nats (l ++ [i]) from nats_snoc l i] at h1
              exact ⟨by rw [List.length_append]; exact k8.set 0 _, by rw [List.length_append]; exact h1⟩
            have HR9 : Hid (rb ≤ (V8.setCell ⟨bl, 0, none⟩ (.slice A8 (l.length + 1) c8)).heap.size) := by
              show rb ≤ _
              have := bel8.size
              have := HR3.out
              simp; omega
            clear own8 gr8 bel8 k8 z0 z1 hc8 HC3 HL3 HR3 HW3 HB3 HC2 HL2 y0 y1
            generalize V8.setCell ⟨bl, 0, none⟩ (.slice A8 (l.length + 1) c8) = W9 at *
            have z2 := HC9.out.wk
            go_wp2_with fail
            refine (HIH.out i A8 c8 W9 hlt HR9.out HC9.out HL9.out).mono ?_
            rintro e w10 (⟨ho, rfl, A2, c2, hC2, hL2, hr2⟩ | ⟨x, ho, rfl, hx⟩)
            · have HE := Lib.hid (HNY.out HOK.out ho)
              have hk10 : Bk w10 bl 42 #[.slice A2 (l.length + 1) c2] := by have := hL2.out.lst; rw [List.length_append] at this; exact this
              have q0 := hk10.cell 0 rfl
              have q1 := hk10.fro 0
              have HK10 := Lib.hid hk10
              have HO10 : Hid (w10.ownsRow rb 3 1 (.slice A2 l.length c2) l.length (nats l)) := by
                have := hL2.out.own
                rw [List.length_append, ← nats_snoc] at this
                exact own_pop this
              have hcc : l.length + 1 ≤ c2 := by
                obtain ⟨a1, a2, e, h1, h2⟩ := ownsSlice hL2.out.own
                cases e; simpa using h1
              clear HIH HC9 HL9 HR9 z2 HNY HSX ho hk10 hL2
              dsimp only
              go_wp2_with fail
              go_roundw
              case rel => exact ⟨i + 1, A2, c2, by omega, by go_num, HE, hC2.out.set HK.out HJ.out _, ⟨HK10.out.set 0 _, own_set HO10.out hlo⟩, by simpa using hr2⟩
              case measure => simp [intOf]; omega
            · have HE := Lib.hid (HSX.out _ HOK.out ho)
              clear HIH HC9 HL9 HR9 z2 HNY HSX ho
              dsimp only
              go_wp2_with fail
              go_ret
              exact .inr ⟨x, HE.out, rfl, hx⟩
      · obtain rfl : i = n := by omega
        have HN : Hid (ordsF bar i (r + 1) l = none) := by
          show _ = _
          rw [HO.out, hf.out, Nat.sub_self, HF0.out]
        go_wp2
        go_ret
        exact .inl ⟨HN.out, rfl, A1, c1, hC, hL, hrb⟩
end Go.Proofs.YtkfeagokmcakgaaGreatDoor
