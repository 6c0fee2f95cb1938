/- pigment.Strokes (fn 24). -/
import Derived.Test.YtkfeagokmcakgaaGreatDoorG01
import Derived.Test.YtkfeagokmcakgaaGreatDoorG04
import Derived.Test.YtkfeagokmcakgaaGreatDoorG07

set_option linter.unusedVariables false
set_option linter.unusedSimpArgs false

namespace Go.Proofs.YtkfeagokmcakgaaGreatDoor
open Go.RowKit

set_option maxHeartbeats 400000 in
theorem notName_any (s : ByteArray) (w : World) (hs : s.size ≤ 100) : Calls Tryz.prog 72 #[.string s] w (BoolEnd (!nameB s) w) := by
  have HC := Lib.hid (isName_any s w hs)
  cases hb : nameB s
  all_goals
    rw [hb] at HC
    clear hb
    go_enter Tryz.func72, Tryz.ntmps72
    go_wp2_with (go_at_call 73; refine HC.out.mono ?_; rintro e w' ⟨rfl, rfl⟩)
    go_ret
    exact ⟨rfl, rfl⟩
set_option maxHeartbeats 400000 in
theorem idxNN_any (l : List ByteArray) (A : Option Addr) (c : Nat) (w : World) (hl : Lies w w.heap.size A (strsC l)) (hm : l.length ≤ 1000) (hs : ∀ s ∈ l, s.size ≤ 100) :
    Calls Tryz.prog 117 #[.slice A l.length c, .func (.func 72) #[] #[]] w fun e w' => e = .returned (.int .i64 (idxL (fun x => !nameB x) l)) ∧ w = w' := by
  go_enter Tryz.func117, Tryz.ntmps117
  go_wp2
  go_loop [8] (fun y => ∃ k : Nat, k ≤ l.length ∧ y = .int .i64 k ∧ Hid (∀ j (hj : j < k) (h' : j < l.length), (!nameB l[j]) = false)) (fun y => l.length - (intOf y).toNat)
  case atStart => exact ⟨0, by omega, rfl, fun j hj => absurd hj (by omega)⟩
  case round =>
    obtain ⟨k, hk, rfl, hg⟩ := hrel
    by_cases hlt : k < l.length
    · obtain ⟨ad, u, rfl, _, hu, hcell⟩ := hl.at_ (k := k) (by simpa [strsC] using hlt)
      obtain rfl : u = .string l[k] := by simp [strsC, List.getElem?_eq_getElem hlt] at hu; exact hu.symm
      have HC := Lib.hid (notName_any l[k] w (hs _ (List.getElem_mem hlt)))
      clear hu hl hs
      by_cases h0 : (!nameB l[k]) = true
      · have H : Hid (idxL (fun x => !nameB x) l = (k : Int)) := by
          have := idxL_drop (fun x => !nameB x) l k hk hg.out (.inr ⟨hlt, h0⟩)
          rw [if_pos hlt] at this; exact this
        rw [h0] at HC
        clear h0
        go_wp2_with (go_at_call 72; refine HC.out.mono ?_; rintro e w' ⟨rfl, rfl⟩)
        go_ret
        exact ⟨ret_int H.out.symm, rfl⟩
      · have h0' : (!nameB l[k]) = false := by simpa using h0
        have H : Hid (∀ j (hj : j < k + 1) (h' : j < l.length), (!nameB l[j]) = false) := fun j hj h' => by
          by_cases e : j = k
          · subst e; exact h0'
          · exact hg.out j (by omega) h'
        rw [h0'] at HC
        clear h0 h0'
        go_wp2_with (go_at_call 72; refine HC.out.mono ?_; rintro e w' ⟨rfl, rfl⟩)
        go_round
        case rel => exact ⟨k + 1, by omega, by go_num, H⟩
        case measure => simp [intOf]; omega
    · obtain rfl : k = l.length := by omega
      have H : Hid (idxL (fun x => !nameB x) l = -1) := by
        have := idxL_drop (fun x => !nameB x) l _ hk hg.out (.inl rfl)
        rw [if_neg (by omega)] at this; exact this
      go_wp2
      go_ret
      exact ⟨ret_int H.out.symm, rfl⟩
set_option maxHeartbeats 400000 in
theorem anyNN_any (l : List ByteArray) (A : Option Addr) (c : Nat) (w : World) (hl : Lies w w.heap.size A (strsC l)) (hm : l.length ≤ 1000) (hs : ∀ s ∈ l, s.size ≤ 100) :
    Calls Tryz.prog 71 #[.slice A l.length c, .func (.func 72) #[] #[]] w (BoolEnd (l.any fun x => !nameB x) w) := by
  have HX := Lib.hid (idxNN_any l A c w hl hm hs)
  clear hl hs
  go_enter Tryz.func71, Tryz.ntmps71
  go_wp2_with (go_at_call 117; refine HX.out.mono ?_; rintro e w' ⟨rfl, rfl⟩)
  go_ret
  exact ⟨congrArg (fun b => Ending.returned (.bool b)) (idxL_dec _ _), rfl⟩

def isSt (l : List Rul) (n : Nat) (s : ByteArray) : Bool := decide (stt l s = n)
def stOK (l : List Rul) (col : List ByteArray) : Bool := col.all fun s => isSt l 1 s || isSt l 2 s
/-- the error of Strokes -/
def skE (l : List Rul) (col : List ByteArray) : Int := if 8 < col.length then 2 else if (col.any fun x => !nameB x) = true then 1 else if twiceB col = true then 6 else if stOK l col = true then 0 else 8
def skF (l : List Rul) (col : List ByteArray) (n : Nat) : List ByteArray := if skE l col = 0 then col.filter (isSt l n) else []
def SkEnd (l : List Rul) (col : List ByteArray) (w : World) (e : Ending) (w' : World) : Prop := ∃ A1 c1 A2 c2, e = .returned (.tuple #[.slice A1 (skF l col 1).length c1, .slice A2 (skF l col 2).length c2, .int .i64 (skE l col)]) ∧ Lies w' w'.heap.size A1 (strsC (skF l col 1)) ∧ Lies w' w'.heap.size A2 (strsC (skF l col 2)) ∧ Below w.heap.size w w'
theorem sk_bad {l : List Rul} {col : List ByteArray} {w w' : World} {n : Int} (h : skE l col = n) (hn : n ≠ 0) (hb : Below w.heap.size w w') : SkEnd l col w (.returned (.tuple #[.slice none 0 0, .slice none 0 0, .int .i64 n])) w' := by
  have h1 : ∀ k, skF l col k = [] := fun k => by unfold skF; rw [if_neg (by omega)]
  refine ⟨none, 0, none, 0, ?_, ?_, ?_, hb⟩
  · rw [h1, h1, h]; rfl
  · rw [h1]; exact fun h => absurd rfl h
  · rw [h1]; exact fun h => absurd rfl h
theorem filtS_skip {l : List ByteArray} {p : ByteArray → Bool} {k : Nat} (hk : k < l.length) (h : p l[k] = false) : (l.take (k + 1)).filter p = (l.take k).filter p := by
  rw [← List.take_append_getElem hk, List.filter_append]; simp [h]
theorem filtS_take {l : List ByteArray} {p : ByteArray → Bool} {k : Nat} (hk : k < l.length) (h : p l[k] = true) : (l.take (k + 1)).filter p = (l.take k).filter p ++ [l[k]] := by
  rw [← List.take_append_getElem hk, List.filter_append]; simp [h]
theorem filtS_len (l : List ByteArray) (p : ByteArray → Bool) (k : Nat) : ((l.take k).filter p).length ≤ l.length := Nat.le_trans (List.length_filter_le _ _) (by rw [List.length_take]; omega)
def Apart (v u : Value) : Prop := ∀ g, v.ownBlock = some g → u.ownBlock ≠ some g

set_option maxRecDepth 100000 in
set_option maxHeartbeats 4000000 in
theorem strokes_any (l : List Rul) (A : Option Addr) (c : Nat) (known : Int) (col : List ByteArray) (Ac : Option Addr) (cc : Nat) (w : World) (hl : Lies w w.heap.size A (rulesC l)) (hok : RulOK l) (hm : l.length ≤ 1000) (hlc : Lies w w.heap.size Ac (strsC col)) (hcs : ∀ s ∈ col, s.size ≤ 100) (hcm : col.length ≤ 1000) (hcc : col.length ≤ cc ∧ cc ≤ maxLen) :
    Calls Tryz.prog 24 #[.agg #[.slice A l.length c], .int .i64 known, .slice Ac col.length cc] w (SkEnd (cntL l known) col w) := by
  have HC : Hid (∀ W, Below w.heap.size w W → Calls Tryz.prog 38 #[.agg #[.slice A l.length c], .int .i64 known] W (SlE (cntL l known) W)) := fun W hb => counting_any l A c known W ((hl.below hb (Nat.le_refl _)).more hb.size) hok hm
  have hokd := hok.sub (cnt_sub l known)
  have hmd := Nat.le_trans (cnt_len l known) hm
  have HLC : Hid (∀ W, Below w.heap.size w W → Lies W W.heap.size Ac (strsC col)) := fun W hb => (hlc.below hb (Nat.le_refl _)).more hb.size
  have HAN : Hid (∀ W, Below w.heap.size w W → Calls Tryz.prog 71 #[.slice Ac col.length cc, .func (.func 72) #[] #[]] W (BoolEnd (col.any fun x => !nameB x) W)) := fun W hb => anyNN_any col Ac cc W (HLC.out W hb) hcm hcs
  have HTW : Hid (∀ W, Below w.heap.size w W → Calls Tryz.prog 74 #[.slice Ac col.length cc] W (BoolEnd (twiceB col) W)) := fun W hb => twice_any col Ac cc W (HLC.out W hb) hcm hcc.1 hcc.2
  have HCS := Lib.hid hcs
  generalize cntL l known = d at *
  have HSE : Hid (skE d col = if 8 < col.length then 2 else if (col.any fun x => !nameB x) = true then 1 else if twiceB col = true then 6 else if stOK d col = true then 0 else 8) := rfl
  have hb1 : Below w.heap.size w (w.alloc (.cells #[.slice A l.length c] 25)) := (by repeat (first | with_reducible exact Below.refl _ _ | with_reducible assumption | with_reducible refine Below.drew ?_ | with_reducible refine below_drewN ?_ _ | (with_reducible refine Below.alloc ?_ ?_ _; rotate_left; (try simp) <;> omega) | (with_reducible refine Below.setCell ?_ ?_ _; rotate_left; (try simp) <;> omega)))
  have HB1 := Lib.hid hb1
  clear hl hok hm hlc hcs
  by_cases h8 : 8 < col.length
  · have HE := Lib.hid (HSE.out.trans (if_pos h8))
    have h8I : (8 : Int) < (col.length : Int) := by omega
    clear HSE h8 HC HAN HTW hb1
    go_enter Tryz.func24, Tryz.ntmps24
    go_wp2
    refine bodyPost_ret (v := .tuple #[.slice none 0 0, .slice none 0 0, .int .i64 2]) (by simp [results, Tryz.results24, go_sem]) rfl ?_
    exact sk_bad HE.out (by decide) HB1.out
  have HS1 := Lib.hid (HSE.out.trans (if_neg h8))
  have h8I : ¬ (8 : Int) < (col.length : Int) := by omega
  have hc8 : col.length ≤ 8 := by omega
  clear HSE h8
  by_cases h2 : (col.any fun x => !nameB x) = true
  · have HE := Lib.hid (HS1.out.trans (if_pos h2))
    rw [h2] at HAN
    clear HS1 h2 HC HTW hb1
    go_enter Tryz.func24, Tryz.ntmps24
    go_wp2_with (first | (go_at_call 71; refine (HAN.out _ HB1.out).mono ?_; rintro e w' ⟨rfl, rfl⟩))
    refine bodyPost_ret (v := .tuple #[.slice none 0 0, .slice none 0 0, .int .i64 1]) (by simp [results, Tryz.results24, go_sem]) rfl ?_
    exact sk_bad HE.out (by decide) HB1.out
  have HS2 := Lib.hid (HS1.out.trans (if_neg h2))
  have h2' : (col.any fun x => !nameB x) = false := by simpa using h2
  rw [h2'] at HAN
  clear HS1 h2 h2'
  by_cases h3 : twiceB col = true
  · have HE := Lib.hid (HS2.out.trans (if_pos h3))
    rw [h3] at HTW
    clear HS2 h3 HC hb1
    go_enter Tryz.func24, Tryz.ntmps24
    go_wp2_with (first | (go_at_call 71; refine (HAN.out _ HB1.out).mono ?_; rintro e w' ⟨rfl, rfl⟩) | (go_at_call 74; refine (HTW.out _ HB1.out).mono ?_; rintro e w' ⟨rfl, rfl⟩))
    refine bodyPost_ret (v := .tuple #[.slice none 0 0, .slice none 0 0, .int .i64 6]) (by simp [results, Tryz.results24, go_sem]) rfl ?_
    exact sk_bad HE.out (by decide) HB1.out
  have HS3 := Lib.hid (HS2.out.trans (if_neg h3))
  have h3' : twiceB col = false := by simpa using h3
  rw [h3'] at HTW
  clear HS2 h3 h3' hb1
  go_enter Tryz.func24, Tryz.ntmps24
  go_wp2_with (first | (go_at_call 71; refine (HAN.out _ HB1.out).mono ?_; rintro e w' ⟨rfl, rfl⟩) | (go_at_call 74; refine (HTW.out _ HB1.out).mono ?_; rintro e w' ⟨rfl, rfl⟩) | (go_at_call 38; refine (HC.out _ HB1.out).mono ?_; rintro e w1 ⟨Ad, cd, rfl, hld, _, hbd⟩))
  have HBW : Hid (∀ W, Below w1.heap.size w1 W → Below w.heap.size w W) := fun W hb => (HB1.out.trans (hbd.mono (by simp))).trans (hb.mono (Nat.le_trans HB1.out.size hbd.size))
  have HST : Hid (∀ W, Below w1.heap.size w1 W → ∀ s : ByteArray, s.size ≤ 100 → Calls Tryz.prog 75 #[.slice Ad d.length cd, .string s] W (U8End (stt d s) W)) := fun W hb s hs => state_any d Ad cd s W ((hld.below hb (Nat.le_refl _)).more hb.size) hokd hmd hs
  clear HC HAN HTW hld hbd hokd
  go_loopw [6, 7, 27] (fun v6 v7 y wr => ∃ (k : Nat) (A1 : Option Addr) (c1 : Nat) (A2 : Option Addr) (c2 : Nat), k ≤ col.length ∧ v6 = .slice A1 ((col.take k).filter (isSt d 1)).length c1 ∧ v7 = .slice A2 ((col.take k).filter (isSt d 2)).length c2 ∧ y = .int .i64 k
    ∧ wr.ownsRow w1.heap.size 9 1 (.slice A1 ((col.take k).filter (isSt d 1)).length c1) ((col.take k).filter (isSt d 1)).length (strsC ((col.take k).filter (isSt d 1))) ∧ wr.ownsRow w1.heap.size 9 1 (.slice A2 ((col.take k).filter (isSt d 2)).length c2) ((col.take k).filter (isSt d 2)).length (strsC ((col.take k).filter (isSt d 2)))
    ∧ Hid (Apart (.slice A1 ((col.take k).filter (isSt d 1)).length c1) (.slice A2 ((col.take k).filter (isSt d 2)).length c2)) ∧ Hid (∀ j (h : j < col.length), j < k → (isSt d 1 col[j] || isSt d 2 col[j]) = true) ∧ Below w1.heap.size w1 wr) (fun _ _ y _ => col.length - (intOf y).toNat)
  case atStart => exact ⟨0, none, 0, none, 0, by omega, rfl, rfl, rfl, by simpa [strsC] using World.ownsRow_nil _ _ _ _, by simpa [strsC] using World.ownsRow_nil _ _ _ _, (fun g h => by cases h), (fun j _ h => absurd h (by omega)), Below.refl _ _⟩
  case round =>
    obtain ⟨k, A1, c1, A2, c2, hk, rfl, rfl, rfl, ho1, ho2, hap, hgd, hbw⟩ := hrel
    have hbs := hbw.size
    by_cases hlt : k < col.length
    · obtain ⟨ad, u, rfl, hadb, hu, hcell⟩ := (HLC.out wr (HBW.out wr hbw)).at_ (k := k) (by simpa [strsC] using hlt)
      obtain rfl : u = .string col[k] := by simp [strsC, List.getElem?_eq_getElem hlt] at hu; exact hu.symm
      have hsz := HCS.out _ (List.getElem_mem hlt)
      have HC1 := Lib.hid (HST.out wr hbw col[k] hsz)
      have hl1 := filtS_len col (isSt d 1) k
      have hl2 := filtS_len col (isSt d 2) k
      have HT1 := Lib.hid (fun h => filtS_take (p := isSt d 1) hlt h)
      have HT2 := Lib.hid (fun h => filtS_take (p := isSt d 2) hlt h)
      have HK1 := Lib.hid (fun h => filtS_skip (p := isSt d 1) hlt h)
      have HK2 := Lib.hid (fun h => filtS_skip (p := isSt d 2) hlt h)
      have HGS : Hid ((isSt d 1 col[k] || isSt d 2 col[k]) = true → ∀ j (h : j < col.length), j < k + 1 → (isSt d 1 col[j] || isSt d 2 col[j]) = true) := fun h j hj hjk => by
        by_cases e : j = k
        · subst e; exact h
        · exact hgd.out j hj (by omega)
      have HNO : Hid ((isSt d 1 col[k] || isSt d 2 col[k]) = false → skE d col = 8) := fun h => by
        rw [HS3.out, if_neg]
        intro ha
        have := (List.all_eq_true.1 ha) _ (List.getElem_mem hlt)
        rw [h] at this; cases this
      have e1 : isSt d 1 col[k] = decide (stt d col[k] = 1) := rfl
      have e2 : isSt d 2 col[k] = decide (stt d col[k] = 2) := rfl
      have hbd := sttA_bd (abtL d col[k])
      change stt d col[k] = 0 ∨ stt d col[k] = 1 ∨ stt d col[k] = 2 ∨ stt d col[k] = 3 at hbd
      clear hu hgd
      generalize col[k] = s at *
      generalize stt d s = st at *
      generalize (col.take k).filter (isSt d 1) = f1 at *
      generalize (col.take k).filter (isSt d 2) = f2 at *
      rcases hbd with rfl | rfl | rfl | rfl
      · have HE := Lib.hid (HNO.out (by rw [e1, e2]; rfl))
        clear HT1 HT2 HK1 HK2 HGS HNO e1 e2 ho1 ho2 hap HS3
        go_wp2_with (first | (go_at_call 75; refine HC1.out.mono ?_; rintro e w2 ⟨rfl, hb2⟩))
        refine bodyPost_ret (v := .tuple #[.slice none 0 0, .slice none 0 0, .int .i64 8]) (by simp [results, Tryz.results24, go_sem]) rfl ?_
        exact sk_bad HE.out (by decide) ((HBW.out _ hbw).trans (hb2.mono (HBW.out _ hbw).size))
      · have HE1 := Lib.hid (HT1.out (by rw [e1]; rfl))
        have HE2 := Lib.hid (HK2.out (by rw [e2]; rfl))
        have HG2 := Lib.hid (HGS.out (by rw [e1, e2]; rfl))
        have HLN : Hid (f1.length + 1 = (f1 ++ [s]).length) := by show _ = _; simp
        have HSN := Lib.hid (strsC_snoc f1 s)
        clear HT1 HT2 HK1 HK2 HGS HNO e1 e2 HS3
        go_wp2_with (first | (go_at_call 75; refine HC1.out.mono ?_; rintro e w2 ⟨rfl, hb2⟩; have hs2 := hb2.size; have o1 := ownsRow_below ho1 hb2 (Nat.le_refl _); have o2 := ownsRow_below ho2 hb2 (Nat.le_refl _)) | (at_builtin; refine wpList_append2 rfl (.tmp 36) (.tmp 38) 34 rfl w1.heap.size 9 (.string ByteArray.empty) 1 16 Tryz.underlying34 info9 rfl (by decide) _ f1.length (strsC f1) rfl (o1.alloc _) w2.heap.size #[.string s] 9 rfl (Bk.new _ _ _) rfl ?c1 ?c2 (by decide) ?c3 w1.heap.size w1 ?c4 (Nat.le_refl _) ?_))
        case c1 => rfl
        case c2 => omega
        case c3 => first | omega | (simp; omega)
        case c4 => exact (hbw.trans (hb2.mono hbs)).alloc (by omega) _
        intro v' w4 ho4 hb4 hg4 hat4
        have o5 : w4.ownsRow w1.heap.size 9 1 (.slice A2 f2.length c2) f2.length (strsC f2) := (o2.alloc _).kept hg4 (by
          cases hv : (Value.slice A2 f2.length c2).ownBlock with
          | none => exact .inl rfl
          | some g => exact .inr (fun e => hap.out g e.symm hv))
        have hap4 : Hid (Apart v' (.slice A2 f2.length c2)) := fun g hg => (by
          rcases hat4 with h | h
          · exact hap.out g (h.symm.trans hg)
          · rw [h] at hg; cases hg; intro e; have := (ho2.lt _ e).2; omega)
        rw [HSN.out] at ho4
        obtain ⟨A4, c4, rfl, _, _⟩ := ownsSlice ho4
        clear ho1 ho2 o1 o2 hg4 hat4 hap
        go_wp2
        go_roundw
        case rel => exact ⟨k + 1, A4, c4, A2, c2, by omega, by rw [HE1.out, HLN.out], by rw [HE2.out], by go_num, by rw [HE1.out, ← HLN.out]; exact ho4, by rw [HE2.out]; exact o5, by rw [HE1.out, HE2.out, ← HLN.out]; exact hap4.out, HG2.out, hb4⟩
        case measure => simp [intOf]; omega
      · have HE1 := Lib.hid (HT2.out (by rw [e2]; rfl))
        have HE2 := Lib.hid (HK1.out (by rw [e1]; rfl))
        have HG2 := Lib.hid (HGS.out (by rw [e1, e2]; rfl))
        have HLN : Hid (f2.length + 1 = (f2 ++ [s]).length) := by show _ = _; simp
        have HSN := Lib.hid (strsC_snoc f2 s)
        clear HT1 HT2 HK1 HK2 HGS HNO e1 e2 HS3
        go_wp2_with (first | (go_at_call 75; refine HC1.out.mono ?_; rintro e w2 ⟨rfl, hb2⟩; have hs2 := hb2.size; have o1 := ownsRow_below ho1 hb2 (Nat.le_refl _); have o2 := ownsRow_below ho2 hb2 (Nat.le_refl _)) | (at_builtin; refine wpList_append2 rfl (.tmp 42) (.tmp 44) 34 rfl w1.heap.size 9 (.string ByteArray.empty) 1 16 Tryz.underlying34 info9 rfl (by decide) _ f2.length (strsC f2) rfl (o2.alloc _) w2.heap.size #[.string s] 9 rfl (Bk.new _ _ _) rfl ?c1 ?c2 (by decide) ?c3 w1.heap.size w1 ?c4 (Nat.le_refl _) ?_))
        case c1 => rfl
        case c2 => omega
        case c3 => first | omega | (simp; omega)
        case c4 => exact (hbw.trans (hb2.mono hbs)).alloc (by omega) _
        intro v' w4 ho4 hb4 hg4 hat4
        have o5 : w4.ownsRow w1.heap.size 9 1 (.slice A1 f1.length c1) f1.length (strsC f1) := (o1.alloc _).kept hg4 (by
          cases hv : (Value.slice A1 f1.length c1).ownBlock with
          | none => exact .inl rfl
          | some g => exact .inr (fun e => hap.out g hv e.symm))
        have hap4 : Hid (Apart (.slice A1 f1.length c1) v') := fun g hg => (by
          rcases hat4 with h | h
          · rw [h]; exact hap.out g hg
          · rw [h]; intro e; cases e; have := (ho1.lt _ hg).2; omega)
        rw [HSN.out] at ho4
        obtain ⟨A4, c4, rfl, _, _⟩ := ownsSlice ho4
        clear ho1 ho2 o1 o2 hg4 hat4 hap
        go_wp2
        go_roundw
        case rel => exact ⟨k + 1, A1, c1, A4, c4, by omega, by rw [HE2.out], by rw [HE1.out, HLN.out], by go_num, by rw [HE2.out]; exact o5, by rw [HE1.out, ← HLN.out]; exact ho4, by rw [HE1.out, HE2.out, ← HLN.out]; exact hap4.out, HG2.out, hb4⟩
        case measure => simp [intOf]; omega
      · have HE := Lib.hid (HNO.out (by rw [e1, e2]; rfl))
        clear HT1 HT2 HK1 HK2 HGS HNO e1 e2 ho1 ho2 hap HS3
        go_wp2_with (first | (go_at_call 75; refine HC1.out.mono ?_; rintro e w2 ⟨rfl, hb2⟩))
        refine bodyPost_ret (v := .tuple #[.slice none 0 0, .slice none 0 0, .int .i64 8]) (by simp [results, Tryz.results24, go_sem]) rfl ?_
        exact sk_bad HE.out (by decide) ((HBW.out _ hbw).trans (hb2.mono (HBW.out _ hbw).size))
    · obtain rfl : k = col.length := by omega
      rw [List.take_length] at ho1 ho2 ⊢
      have HE : Hid (skE d col = 0) := by
        show _ = _
        rw [HS3.out, if_pos]
        rw [stOK, List.all_eq_true]
        intro x hx
        obtain ⟨j, hj, rfl⟩ := List.getElem_of_mem hx
        exact hgd.out j hj hj
      have h1 := Lib.hid (ownsRow_lies ho1)
      have h2 := Lib.hid (ownsRow_lies ho2)
      have HEND : Hid (∀ _ : Nat, SkEnd d col w (.returned (.tuple #[.slice A1 (col.filter (isSt d 1)).length c1, .slice A2 (col.filter (isSt d 2)).length c2, .int .i64 0])) wr) := fun _ => by
        have e : ∀ n : Nat, skF d col n = col.filter (isSt d n) := fun n => by unfold skF; rw [if_pos HE.out]
        refine ⟨A1, c1, A2, c2, ?_, ?_, ?_, HBW.out _ hbw⟩
        · rw [e, e, HE.out]
        · rw [e]; exact h1.out
        · rw [e]; exact h2.out
      clear ho1 ho2 hap hgd HS3 HST h1 h2
      go_wp2
      refine bodyPost_ret (v := .tuple #[.slice A1 (col.filter (isSt d 1)).length c1, .slice A2 (col.filter (isSt d 2)).length c2, .int .i64 0]) (by simp [results, Tryz.results24, go_sem]) rfl ?_
      exact HEND.out 0
end Go.Proofs.YtkfeagokmcakgaaGreatDoor

namespace Go.Proofs.YtkfeagokmcakgaaGreatDoor

/-- so many groups lead from a name to another -/
inductive Path (l : List Rul) : Nat → ByteArray → ByteArray → Prop where
  | zero (a : ByteArray) : Path l 0 a a
  | succ {n : Nat} {a b c : ByteArray} : edge l a b → Path l n b c → Path l (n + 1) a c
theorem Path.reach {l : List Rul} {n : Nat} {a b : ByteArray} (h : Path l n a b) : Reach l a b := by
  induction h with
  | zero => exact .refl _
  | succ e _ ih => exact .step e ih
theorem Reach.path {l : List Rul} {a b : ByteArray} (h : Reach l a b) : ∃ n, Path l n a b := by
  induction h with
  | refl a => exact ⟨0, .zero a⟩
  | step e _ ih => obtain ⟨n, h⟩ := ih; exact ⟨n + 1, .succ e h⟩
/-- the least such number -/
structure IsDist (l : List Rul) (y : ByteArray) (g : ByteArray → Option Int) : Prop where
  some_ : ∀ s n, g s = some n → ∃ k : Nat, n = (k : Int) ∧ Path l k s y ∧ ∀ m, Path l m s y → k ≤ m
  none_ : ∀ s, g s = none → ∀ m, ¬ Path l m s y
theorem IsDist.unique {l : List Rul} {y : ByteArray} {g h : ByteArray → Option Int} (hg : IsDist l y g) (hh : IsDist l y h) : g = h := by
  funext s
  cases e : g s with
  | none =>
    cases e2 : h s with
    | none => rfl
    | some n =>
      obtain ⟨k, _, hp, _⟩ := hh.some_ s n e2
      exact absurd hp (hg.none_ s e k)
  | some n =>
    obtain ⟨k, rfl, hp, hmin⟩ := hg.some_ s n e
    cases e2 : h s with
    | none => exact absurd hp (hh.none_ s e2 k)
    | some m =>
      obtain ⟨k2, rfl, hp2, hmin2⟩ := hh.some_ s m e2
      have := hmin _ hp2
      have := hmin2 _ hp
      rw [show k = k2 by omega]
/-- numbers that are sound, and that no group makes less -/
structure Sound (l : List Rul) (y : ByteArray) (g : ByteArray → Option Int) : Prop where
  own : g y = some 0
  path : ∀ s n, g s = some n → ∃ k : Nat, n = (k : Int) ∧ Path l k s y
/-- one rule is content with the numbers -/
def okAt (g : ByteArray → Option Int) (r : Rul) : Prop := r.kind = 5 → ∀ n, g r.y = some n → ∃ m, g r.x = some m ∧ m ≤ n + 1
theorem fix_dist {l : List Rul} {y : ByteArray} {g : ByteArray → Option Int} (h : Sound l y g) (hf : ∀ r ∈ l, okAt g r) : IsDist l y g := by
  have key : ∀ m s, Path l m s y → ∃ n, g s = some n ∧ n ≤ (m : Int) := by
    intro m
    induction m with
    | zero => intro s hp; cases hp; exact ⟨0, h.own, by omega⟩
    | succ m ih =>
      intro s hp
      cases hp with
      | succ e hp =>
        obtain ⟨r, hr, h5, rfl, rfl⟩ := e
        obtain ⟨n, hn, hle⟩ := ih _ hp
        obtain ⟨q, hq, hqn⟩ := hf r hr h5 n hn
        exact ⟨q, hq, by omega⟩
  refine ⟨fun s n e => ?_, fun s e m hp => ?_⟩
  · obtain ⟨k, rfl, hp⟩ := h.path s n e
    refine ⟨k, rfl, hp, fun m hm => ?_⟩
    obtain ⟨q, hq, hqm⟩ := key m s hm
    rw [e] at hq; cases hq; omega
  · obtain ⟨q, hq, _⟩ := key m s hp
    rw [e] at hq; cases hq
def gPutD (g : ByteArray → Option Int) (k : ByteArray) (v : Int) : ByteArray → Option Int := fun x => if x = k then some v else g x
theorem Sound.put {l : List Rul} {y : ByteArray} {g : ByteArray → Option Int} (h : Sound l y g) {r : Rul} (hr : r ∈ l) (h5 : r.kind = 5) {n : Int} (hn : g r.y = some n) (hx : ∀ m, g r.x = some m → m > n + 1) : Sound l y (gPutD g r.x (n + 1)) := by
  obtain ⟨k, rfl, hp⟩ := h.path _ _ hn
  refine ⟨?_, fun s m e => ?_⟩
  · unfold gPutD
    rw [if_neg]
    · exact h.own
    · intro e
      have := hx 0 (by rw [← e]; exact h.own)
      omega
  · unfold gPutD at e
    split at e
    · rename_i e2
      cases e
      exact ⟨k + 1, by omega, by rw [e2]; exact .succ ⟨r, hr, h5, rfl, rfl⟩ hp⟩
    · exact h.path s m e
/-- how many names of U have a number; what the search can still lower -/
def cardU (U : List ByteArray) (g : ByteArray → Option Int) : Nat := (U.filter fun z => (g z).isSome).length
def phi (U : List ByteArray) (g : ByteArray → Option Int) : Nat := (U.map fun z => match g z with | none => U.length | some n => n.toNat).sum
/-- the numbers are less than the count of names that have one -/
def Small (U : List ByteArray) (g : ByteArray → Option Int) : Prop := ∀ s n, g s = some n → 0 ≤ n ∧ n + 1 ≤ (cardU U g : Int)
theorem cardU_le (U : List ByteArray) (g : ByteArray → Option Int) : cardU U g ≤ U.length := List.length_filter_le _ _
theorem cardU_put (U : List ByteArray) (g : ByteArray → Option Int) {x : ByteArray} (hx : x ∈ U) (v : Int) : cardU U g ≤ cardU U (gPutD g x v) ∧ (g x = none → cardU U g + 1 ≤ cardU U (gPutD g x v)) := by
  unfold cardU
  induction U with
  | nil => simp at hx
  | cons a U ih =>
    have mono : ∀ V : List ByteArray, (V.filter fun z => (g z).isSome).length ≤ (V.filter fun z => (gPutD g x v z).isSome).length := fun V => by
      induction V with
      | nil => exact Nat.le_refl _
      | cons b V ihV =>
        simp only [List.filter_cons]
        by_cases e : b = x
        · subst e; unfold gPutD at *; simp; split <;> (try simp) <;> (try omega)
        · have : gPutD g x v b = g b := by unfold gPutD; rw [if_neg e]
          rw [this]; split <;> (try simp) <;> (try omega)
    simp only [List.filter_cons]
    by_cases e : a = x
    · subst e
      have h1 : gPutD g a v a = some v := by unfold gPutD; rw [if_pos rfl]
      rw [h1]
      have := mono U
      refine ⟨by simp; split <;> (try simp) <;> (try omega), fun hn => by rw [hn]; simp; omega⟩
    · have h1 : gPutD g x v a = g a := by unfold gPutD; rw [if_neg e]
      rw [h1]
      have := ih (by rcases List.mem_cons.1 hx with h | h; exact absurd h.symm e; exact h)
      refine ⟨by split <;> (try simp) <;> (try omega), fun hn => by have := this.2 hn; split <;> (try simp) <;> (try omega)⟩
theorem Small.put {U : List ByteArray} {g : ByteArray → Option Int} (h : Small U g) {x y : ByteArray} (hx : x ∈ U) {n : Int} (hn : g y = some n) (hx2 : ∀ m, g x = some m → m > n + 1) : Small U (gPutD g x (n + 1)) := fun s m e => by
  have hc := cardU_put U g hx (n + 1)
  have hny := h y n hn
  unfold gPutD at e
  split at e
  · cases e
    refine ⟨by omega, ?_⟩
    cases e2 : g x with
    | none => have := hc.2 e2; omega
    | some m => have := hx2 m e2; have := (h x m e2).2; omega
  · have := h s m e; omega
theorem phi_put (U : List ByteArray) (g : ByteArray → Option Int) {x : ByteArray} (hx : x ∈ U) {v : Int} (h0 : 0 ≤ v) (h1 : v < (U.length : Int)) (hlt : ∀ m, g x = some m → v < m) : phi U (gPutD g x v) + 1 ≤ phi U g := by
  obtain ⟨q, rfl⟩ := Int.eq_ofNat_of_zero_le h0
  unfold phi
  generalize U.length = L at *
  have le : ∀ V : List ByteArray, (V.map fun z => match gPutD g x (q : Int) z with | none => L | some n => n.toNat).sum ≤ (V.map fun z => match g z with | none => L | some n => n.toNat).sum := fun V => by
    induction V with
    | nil => exact Nat.le_refl _
    | cons b V ih =>
      simp only [List.map_cons, List.sum_cons]
      refine Nat.add_le_add ?_ ih
      by_cases e : b = x
      · subst e
        have : gPutD g b (q : Int) b = some (q : Int) := by unfold gPutD; rw [if_pos rfl]
        rw [this]
        cases e2 : g b with
        | none => dsimp only; simp only [Int.toNat_natCast]; omega
        | some m => have h5 := hlt m e2; have h6 : q + 1 ≤ m.toNat := (by omega); dsimp only; simp only [Int.toNat_natCast]; exact Nat.le_of_lt h6
      · have : gPutD g x (q : Int) b = g b := by unfold gPutD; rw [if_neg e]
        rw [this]; exact Nat.le_refl _
  induction U with
  | nil => simp at hx
  | cons a U ih =>
    simp only [List.map_cons, List.sum_cons]
    by_cases e : a = x
    · subst e
      have h2 : gPutD g a (q : Int) a = some (q : Int) := by unfold gPutD; rw [if_pos rfl]
      have := le U
      rw [h2]
      cases e2 : g a with
      | none => dsimp only; simp only [Int.toNat_natCast]; omega
      | some m => have h5 := hlt m e2; have h6 : q + 1 ≤ m.toNat := (by omega); dsimp only; simp only [Int.toNat_natCast]; generalize m.toNat = u at *; omega
    · have h2 : gPutD g x (q : Int) a = g a := by unfold gPutD; rw [if_neg e]
      rw [h2]
      have := ih (by rcases List.mem_cons.1 hx with h | h; exact absurd h.symm e; exact h)
      omega
/-- the rules that lead from a name to a group, by such numbers -/
def chn (l : List Rul) (g : ByteArray → Option Int) : Nat → ByteArray → List Int
  | 0, _ => []
  | n + 1, x => match l.find? (fun r => decide (r.kind = 5) && decide (r.x = x) && decide (g r.y = some (n : Int))) with
    | some r => r.id :: chn l g n r.y
    | none => chn l g n x
end Go.Proofs.YtkfeagokmcakgaaGreatDoor

namespace Go.Proofs.YtkfeagokmcakgaaGreatDoor
open Go.RowKit Go.Maps

/-- map[string]int -/
def mSI : MapTy ByteArray Int := ⟨96, 9, 3, .string, fun s => .string s.data.toList, fun s => s.size ≤ maxLen, .int .i64, .int .i64, fun x => (Lit.int .i64 x).wf = true, 0, string_keyed Tryz.underlying9, Tryz.underlying96,
  fun x hx => WideMaps.keyOf_string_mk Tryz.underlying9 hx, fun v l h => by obtain ⟨x, h1, h2, h3⟩ := WideMaps.string_of_keyOf Tryz.underlying9 h; exact ⟨x, h3, h1, h2⟩, fun x y h => bytes_inj (by injection h), fun _ => trivial, fun _ => by kernel_rfl, fun v hv => plainElem_int Tryz.underlying3 hv, by decide, fun v d h => inv_i64 Tryz.underlying3 h, fun x y h => by injection h⟩
theorem MapG.lookD {w : World} {b n : Nat} {g : ByteArray → Option Int} (h : MapG mSI w b n g) {x : ByteArray} (hx : x.size ≤ 100) : (Instr.lookup 96 (.map (some b)) (.string x) true).run Tryz.prog w = .ok (.tuple #[.int .i64 ((g x).getD 0), .bool (g x).isSome]) w := h.look_ok (M := mSI) (x := x) (show x.size ≤ maxLen by unfold maxLen; omega)
theorem MapG.putD {w : World} {b n : Nat} {g : ByteArray → Option Int} (h : MapG mSI w b n g) (hn : n ≤ 100000) {x : ByteArray} (hx : x.size ≤ 100) {v : Int} (hv : i64v v) :
    ∃ w', (Instr.mapUpdate 96 (.map (some b)) (.string x) (.int .i64 v)).run Tryz.prog w = .ok () w' ∧ MapG mSI w' b (n + 1) (gPutD g x v) ∧ w.grownBy w' (some b) := h.put (M := mSI) (x := x) (v := v) (by unfold maxLen; omega) (show x.size ≤ maxLen by unfold maxLen; omega) (WalkArith.wf_i64 hv)
/-- a map reads in one way -/
theorem MapG.same {α β : Type} {M : MapTy α β} {w : World} {b n n' : Nat} {g g' : α → Option β} (h : MapG M w b n g) (h' : MapG M w b n' g') {x : α} (hx : M.kok x) : g x = g' x := by
  obtain ⟨D, ⟨es, ck, h1, _, _, h2⟩, h3⟩ := h.out
  obtain ⟨D', ⟨es', ck', h1', _, _, h2'⟩, h3'⟩ := h'.out
  rw [h1] at h1'; cases h1'
  rw [← h2] at h2'; subst h2'
  have a := h3 x hx
  have a' := h3' x hx
  have e1 := a.1.symm.trans a'.1
  have e2 := a.2.symm.trans a'.2
  have e3 : M.el ((g x).getD M.z) = M.el ((g' x).getD M.z) := by injection e1
  have e4 := M.ei _ _ e3
  cases h5 : g x with
  | none =>
    cases h6 : g' x with
    | none => rfl
    | some v => rw [h5, h6] at e2; simp at e2
  | some u =>
    cases h6 : g' x with
    | none => rw [h5, h6] at e2; simp at e2
    | some v => rw [h5, h6] at e4; simp at e4; rw [e4]
/-- what the search can still lower, as the world has it -/
noncomputable def phiW (U : List ByteArray) (b : Nat) (w : World) : Nat := open Classical in if h : ∃ m n g, MapG mSI w b n g ∧ phi U g = m then Classical.choose h else 0
theorem phiW_eq {U : List ByteArray} {b n : Nat} {w : World} {g : ByteArray → Option Int} (h : MapG mSI w b n g) (hU : ∀ u ∈ U, u.size ≤ 100) : phiW U b w = phi U g := by
  unfold phiW
  have hex : ∃ m n g, MapG mSI w b n g ∧ phi U g = m := ⟨phi U g, n, g, h, rfl⟩
  rw [dif_pos hex]
  obtain ⟨n', g', h1, h2⟩ := Classical.choose_spec hex
  rw [← h2]
  unfold phi
  congr 1
  apply List.map_congr_left
  intro u hu
  rw [h1.same h (x := u) (show u.size ≤ maxLen by have := hU u hu; unfold maxLen; omega)]
theorem info3 : (Tryz.prog.info? 3).map (fun i => (i.zero, i.size, i.bytes)) = some (some (.int .i64 0), 1, 8) := by kernel_rfl
/-- what Chain returns -/
def ChainE (d : List Rul) (x y : ByteArray) (w : World) (e : Ending) (w' : World) : Prop := ∃ g, IsDist d y g ∧ Below w.heap.size w w' ∧ match g x with
  | none => e = .returned (.tuple #[.slice none 0 0, .bool false])
  | some n => ∃ A c, e = .returned (.tuple #[.slice A (chn d g n.toNat x).length c, .bool true]) ∧ Lies w' w'.heap.size A (ints (chn d g n.toNat x))
/-- the memory of the search -/
structure ChI (d : List Rul) (y : ByteArray) (U : List ByteArray) (b n K : Nat) (wr : World) (g : ByteArray → Option Int) : Prop where
  mp : MapG mSI wr b n g
  so : Sound d y g
  sm : Small U g
  bd : n + phi U g ≤ K
theorem ChI.below {d : List Rul} {y : ByteArray} {U : List ByteArray} {b n K : Nat} {w w' : World} {g : ByteArray → Option Int} (h : ChI d y U b n K w g) {B : Nat} (hb : Below B w w') (hB : b < B) : ChI d y U b n K w' g := ⟨h.mp.below hb hB, h.so, h.sm, h.bd⟩
theorem ChI.put {d : List Rul} {y : ByteArray} {U : List ByteArray} {b n K : Nat} {w : World} {g : ByteArray → Option Int} (h : ChI d y U b n K w g) (hK : K ≤ 100000) {r : Rul} (hr : r ∈ d) (h5 : r.kind = 5) (hxU : r.x ∈ U) (hxs : r.x.size ≤ 100) (hUl : U.length ≤ 1000) {q : Int} (hq : g r.y = some q) (hx : ∀ m, g r.x = some m → m > q + 1) :
    ∃ w', (Instr.mapUpdate 96 (.map (some b)) (.string r.x) (.int .i64 (q + 1))).run Tryz.prog w = .ok () w' ∧ ChI d y U b (n + 1) K w' (gPutD g r.x (q + 1)) ∧ phi U (gPutD g r.x (q + 1)) + 1 ≤ phi U g ∧ w.grownBy w' (some b) := by
  have hqb := h.sm _ _ hq
  have hsm := h.sm.put hxU hq hx
  have hb2 := (hsm r.x (q + 1) (by unfold gPutD; rw [if_pos rfl])).2
  have hcl := cardU_le U (gPutD g r.x (q + 1))
  obtain ⟨w', h1, h2, h3⟩ := h.mp.putD (by have := h.bd; omega) hxs (v := q + 1) (by unfold i64v; omega)
  have hp := phi_put U g hxU (v := q + 1) (by omega) (by omega) (fun m hm => by have := hx m hm; omega)
  exact ⟨w', h1, ⟨h2, h.so.put hr h5 hq hx, hsm, by have := h.bd; omega⟩, hp, h3⟩
theorem sum_const (V : List ByteArray) (q : Nat) : (V.map fun _ => q).sum = V.length * q := by
  induction V with
  | nil => simp
  | cons a V ih => simp only [List.map_cons, List.sum_cons, ih, List.length_cons, Nat.add_mul]; omega
def bN : Value → Nat
  | .bool true => 1
  | _ => 0
def chM (g : ByteArray → Option Int) (p : Nat) (z : ByteArray) (r : Rul) : Bool := decide (r.kind = 5) && decide (r.x = z) && decide (g r.y = some (p : Int))
theorem chn_hit {d : List Rul} {g : ByteArray → Option Int} {p : Nat} {z : ByteArray} {k : Nat} (hk : k < d.length) (h0 : ∀ j (h : j < d.length), j < k → chM g p z d[j] = false) (h1 : chM g p z d[k] = true) : chn d g (p + 1) z = d[k].id :: chn d g p d[k].y := by
  have := find_hit hk h0 h1
  show (match d.find? (chM g p z) with | some r => r.id :: chn d g p r.y | none => chn d g p z) = _
  rw [this]
theorem chn_no {d : List Rul} {g : ByteArray → Option Int} {p : Nat} {z : ByteArray} (h : ∀ j (h : j < d.length), chM g p z d[j] = false) : chn d g (p + 1) z = chn d g p z := by
  have := find_none h
  show (match d.find? (chM g p z) with | some r => r.id :: chn d g p r.y | none => chn d g p z) = _
  rw [this]
theorem ints_snoc (L : List Int) (n : Int) : ints L ++ [Value.int .i64 n] = ints (L ++ [n]) := by simp [ints]
set_option maxRecDepth 100000 in
set_option maxHeartbeats 4000000 in
theorem chain_any (l : List Rul) (A : Option Addr) (c : Nat) (known : Int) (x y : ByteArray) (w : World) (hl : Lies w w.heap.size A (rulesC l)) (hok : RulOK l) (hm : l.length ≤ 300) (hxs : x.size ≤ 100) (hys : y.size ≤ 100) :
    Calls Tryz.prog 27 #[.agg #[.slice A l.length c], .int .i64 known, .string x, .string y] w (ChainE (cntL l known) x y w) := by
  have HC : Hid (∀ W, Below w.heap.size w W → Calls Tryz.prog 38 #[.agg #[.slice A l.length c], .int .i64 known] W (SlE (cntL l known) W)) := fun W hb => counting_any l A c known W ((hl.below hb (Nat.le_refl _)).more hb.size) hok (by omega)
  have hokd := hok.sub (cnt_sub l known)
  have hmd := Nat.le_trans (cnt_len l known) hm
  have hmm := @run_makeMap Tryz.prog
  generalize cntL l known = d at *
  have HOK := Lib.hid hokd
  have hb1 : Below w.heap.size w (w.alloc (.cells #[.slice A l.length c] 25)) := (by repeat (first | with_reducible exact Below.refl _ _ | with_reducible assumption | with_reducible refine Below.drew ?_ | with_reducible refine below_drewN ?_ _ | (with_reducible refine Below.alloc ?_ ?_ _; rotate_left; (try simp) <;> omega) | (with_reducible refine Below.setCell ?_ ?_ _; rotate_left; (try simp) <;> omega)))
  have HB1 := Lib.hid hb1
  clear hl hok hm hb1 hokd
  go_enter Tryz.func27, Tryz.ntmps27
  go_wp2_with (first | (go_at_call 38; refine (HC.out _ HB1.out).mono ?_; rintro e w1 ⟨Ad, cd, rfl, hld, _, hbd⟩; have hs1 := hbd.size; obtain ⟨W2, hup, hm2, hg2⟩ := (MapG.made mSI w1).putD (Nat.zero_le _) hys (v := 0) (by unfold i64v; omega)))
  have hgm : MapG mSI W2 w1.heap.size 1 (gPutD mNone y 0) := hm2
  have HBW1 : Hid (Below w.heap.size w w1) := HB1.out.trans (hbd.mono (by simp))
  have HB12 : Below w1.heap.size w1 W2 := ((Below.refl _ _).alloc (Nat.le_refl _) _).grown hg2 (by simp) (fun g e => by cases e; exact Nat.le_refl _)
  have HLD : Hid (∀ W, Below w1.heap.size w1 W → Lies W W.heap.size Ad (rulesC d)) := fun W hb => (hld.below hb (Nat.le_refl _)).more hb.size
  obtain ⟨U, hU⟩ : ∃ U, U = y :: d.map Rul.x := ⟨_, rfl⟩
  have HUx : Hid (∀ r ∈ d, r.x ∈ U) := fun r hr => by rw [hU]; exact List.mem_cons_of_mem _ (List.mem_map.2 ⟨r, hr, rfl⟩)
  have HUs : Hid (∀ u ∈ U, u.size ≤ 100) := fun u hu => by
    rw [hU] at hu
    rcases List.mem_cons.1 hu with rfl | h
    · exact hys
    · obtain ⟨r, hr, rfl⟩ := List.mem_map.1 h; exact (HOK.out r hr).1
  have hUl : U.length ≤ 301 := by rw [hU]; simp; omega
  have hyU : y ∈ U := by rw [hU]; simp
  have HI0 : Hid (ChI d y U w1.heap.size 1 100000 W2 (gPutD mNone y 0)) := by
    refine ⟨hgm, ⟨by unfold gPutD; rw [if_pos rfl], fun s n e => ?_⟩, fun s n e => ?_, ?_⟩
    · unfold gPutD at e
      split at e
      · rename_i e2; cases e; subst e2; exact ⟨0, rfl, .zero _⟩
      · cases e
    · unfold gPutD at e
      split at e
      · cases e
        have := (cardU_put U mNone hyU 0).2 rfl
        omega
      · cases e
    · have : phi U (gPutD mNone y 0) + 1 ≤ phi U mNone := phi_put U mNone hyU (v := 0) (by omega) (by have := List.length_pos_of_mem hyU; omega) (fun m hm => by cases hm)
      have h2 : phi U mNone = U.length * U.length := by
        unfold phi mNone
        exact sum_const U U.length
      have h3 : U.length * U.length ≤ 301 * 301 := Nat.mul_le_mul hUl hUl
      omega
  clear hup hm2 hg2 hgm hbd hld hyU hU
  go_loopw [12] (fun v wr => ∃ (g : ByteArray → Option Int) (n : Nat) (b : Bool), v = .bool b ∧ Hid (ChI d y U w1.heap.size n 100000 wr g) ∧ Hid (b = false → ∀ r ∈ d, okAt g r) ∧ Below w1.heap.size w1 wr) (fun v wr => 2 * phiW U w1.heap.size wr + bN v)
  case atStart => exact ⟨_, 1, true, rfl, HI0, (fun h => by cases h), HB12⟩
  case round =>
    obtain ⟨g, n, b, rfl, hi, hf, hbw⟩ := hrel
    clear HI0 HB12
    cases b
    · have lkx := hi.out.mp.lookD hxs
      have HDI := Lib.hid (fix_dist hi.out.so (hf.out rfl))
      have hgl := hi.out.mp.lt
      have hbs := hbw.size
      cases hgx : g x with
      | none =>
        rw [hgx] at lkx
        have HGX := Lib.hid hgx
        clear hgx hi hf HLD
        go_wp2
        go_ret2
        exact ⟨g, HDI.out, HBW1.out.trans (hbw.mono HBW1.out.size), by rw [HGX.out]; rfl⟩
      | some q =>
        rw [hgx] at lkx
        have HGX := Lib.hid hgx
        have hqs := hi.out.sm x q hgx
        have hcl := cardU_le U g
        obtain ⟨q0, rfl⟩ := Int.eq_ofNat_of_zero_le hqs.1
        have hq0 : q0 ≤ 301 := by omega
        have HLK : Hid (∀ W, Below wr.heap.size wr W → ∀ z : ByteArray, z.size ≤ 100 → (Instr.lookup 96 (.map (some w1.heap.size)) (.string z) true).run Tryz.prog W = .ok (.tuple #[.int .i64 ((g z).getD 0), .bool (g z).isSome]) W) := fun W hb z hz => (hi.out.mp.below hb hgl).lookD hz
        have HLD2 : Hid (∀ W, Below wr.heap.size wr W → Lies W W.heap.size Ad (rulesC d)) := fun W hb => HLD.out W (hbw.trans (hb.mono hbs))
        have HBE : Hid (∀ W, Below wr.heap.size wr W → Below w.heap.size w W) := fun W hb => HBW1.out.trans ((hbw.trans (hb.mono hbs)).mono HBW1.out.size)
        clear hgx hi hf HLD hqs hcl
        generalize hwa : wr = wa at *
        go_wp2
        go_loopw [2, 19, 21] (fun vx vn vo wr => ∃ (p : Nat) (z : ByteArray) (L : List Int) (A' : Option Addr) (c' : Nat), vx = .string z ∧ vn = .int .i64 (p : Int) ∧ vo = .slice A' L.length c' ∧ wr.ownsRow wa.heap.size 3 1 (.slice A' L.length c') L.length (ints L) ∧ Hid (L ++ chn d g p z = chn d g q0 x) ∧ z.size ≤ 100 ∧ L.length + p ≤ 301 ∧ Below wa.heap.size wa wr) (fun _ vn _ _ => (intOf vn).toNat)
        case atStart => exact ⟨q0, x, [], none, 0, rfl, rfl, rfl, by simpa [ints] using World.ownsRow_nil _ _ _ _, (by show _ = _; simp), hxs, by simpa using hq0, Below.refl _ _⟩
        case round =>
          obtain ⟨p, z, L, A', c', rfl, rfl, rfl, ho, hL, hz, hLp, hbw2⟩ := hrel
          clear lkx
          have hbs2 := hbw2.size
          cases p with
          | zero =>
            have hn0 : decide ((0 : Int) < ((0 : Nat) : Int)) = false := by decide
            have HEND : Hid (ChainE d x y w (.returned (.tuple #[.slice A' L.length c', .bool true])) wr) := by
              refine ⟨g, HDI.out, HBE.out wr hbw2, ?_⟩
              have e : L = chn d g q0 x := by have := hL.out; simpa [chn] using this
              rw [HGX.out]
              refine ⟨A', c', ?_, ?_⟩
              · rw [e]; rfl
              · have := ownsRow_lies ho
                rw [e] at this; exact this
            clear ho hL HLK HLD2 HBE
            go_wp2
            go_ret2
            exact HEND.out
          | succ p =>
            have hn0 : (0 : Int) < ((p + 1 : Nat) : Int) := by omega
            have hn1 : IntKind.i64.wrap (((p + 1 : Nat) : Int) - 1) = (p : Int) := (IntWalk.i64_in _ (by omega)).trans (by omega)
            have HN1 := Lib.hid hn1
            clear hn1
            go_wp2
            go_loopw [2, 21, 88] (fun vx vo u w3 => ∃ (k : Nat), k ≤ d.length ∧ vx = .string z ∧ vo = .slice A' L.length c' ∧ u = .int .i64 k ∧ w3.ownsRow wa.heap.size 3 1 (.slice A' L.length c') L.length (ints L) ∧ Hid (∀ j (h : j < d.length), j < k → chM g p z d[j] = false) ∧ Below wa.heap.size wa w3) (fun _ _ u _ => d.length - (intOf u).toNat)
            case atStart => exact ⟨0, by omega, rfl, rfl, rfl, ho, (fun j _ h => absurd h (by omega)), hbw2⟩
            case round =>
              clear ho hbw2 hbs2
              obtain ⟨k, hk, rfl, rfl, rfl, ho, hno, hbw2⟩ := hrel
              have hbs2 := hbw2.size
              by_cases hlt : k < d.length
              · obtain ⟨ad, rfl, hadb, c0, c1, c2, c3, c4, c5⟩ := rule_at (HLD2.out wr hbw2) hlt
                have hrn := HOK.out _ (List.getElem_mem hlt)
                have HSK : Hid (chM g p z d[k] = false → ∀ j (h : j < d.length), j < k + 1 → chM g p z d[j] = false) := fun h j hj hjk => by
                  by_cases e : j = k
                  · subst e; exact h
                  · exact hno.out j hj (by omega)
                have HHT := Lib.hid (fun h => chn_hit hlt hno.out h)
                generalize d[k] = r at *
                have HCM : Hid (chM g p z r = (decide (r.kind = 5) && decide (r.x = z) && decide (g r.y = some (p : Int)))) := rfl
                obtain ⟨id, kn, kd, rx, ry, of⟩ := r
                dsimp only at *
                have hb0 : Below wr.heap.size wr (wr.alloc (.cells #[.int .i64 id, .int .i64 kn, .int .u8 kd, .string rx, .string ry, .int .i64 of] 50)) := (Below.refl _ _).alloc (Nat.le_refl _) _
                have lk1 := HLK.out _ (hbw2.trans (hb0.mono hbs2)) ry hrn.2.1
                have HZ : Hid ((wr.alloc (.cells #[.int .i64 id, .int .i64 kn, .int .u8 kd, .string rx, .string ry, .int .i64 of] 50)).ownsRow wa.heap.size 3 1 (.slice A' L.length c') L.length (ints L) ∧ Below wa.heap.size wa (wr.alloc (.cells #[.int .i64 id, .int .i64 kn, .int .u8 kd, .string rx, .string ry, .int .i64 of] 50))) := ⟨ownsRow_below ho hb0 (Nat.le_refl _), hbw2.trans (hb0.mono hbs2)⟩
                have E1 := str_eq rx z
                have HOL := Lib.hid (fun g h => (ho.lt g h).2)
                clear hb0 ho
                have hskip : Hid (chM g p z ⟨id, kn, kd, rx, ry, of⟩ = false → ∃ k' : Nat, k' ≤ d.length ∧ (k : Int) + 1 = k' ∧ Hid (∀ j (h : j < d.length), j < k' → chM g p z d[j] = false)) := fun h => ⟨k + 1, by omega, by omega, HSK.out h⟩
                by_cases h5 : kd = 5
                · have e5 : (kd == 5) = true := by rw [h5]; rfl
                  by_cases hxx : rx = z
                  · rw [decide_eq_true hxx] at E1
                    cases hgy : g ry with
                    | none =>
                      rw [hgy] at lk1
                      have HS2 := Lib.hid (HSK.out (by rw [HCM.out, hgy]; simp))
                      clear HSK HHT HCM hskip hgy hxx h5
                      go_wp2
                      go_roundw
                      case rel => exact ⟨k + 1, by omega, rfl, rfl, by go_num, HZ.out.1, HS2, HZ.out.2⟩
                      case measure => simp [intOf]; omega
                    | some m =>
                      rw [hgy] at lk1
                      by_cases hmp : m = (p : Int)
                      · have hmp' : (m == (p : Int)) = true := by rw [hmp]; simp
                        have HS2 := Lib.hid (HHT.out (by rw [HCM.out, hgy]; simp [h5, hxx, hmp]))
                        have HLN : Hid (L.length + 1 = (L ++ [id]).length) := by show _ = _; simp
                        have HSN := Lib.hid (ints_snoc L id)
                        have hn1 := HN1.out
                        clear HSK HHT HCM hskip hgy hxx h5 hmp
                        go_wp2_with (at_builtin; refine wpList_append2 rfl (.tmp 117) (.tmp 120) 42 rfl wa.heap.size 3 (.int .i64 0) 1 8 Tryz.underlying42 info3 rfl (by decide) _ L.length (ints L) rfl (HZ.out.1.alloc _) (wr.heap.size + 1) #[.int .i64 id] 3 rfl ?c0 rfl ?c1 ?c2 (by decide) ?c3 wa.heap.size wa ?c4 (Nat.le_refl _) ?_)
                        case c0 => simpa using Bk.new (wr.alloc (.cells #[.int .i64 id, .int .i64 kn, .int .u8 kd, .string rx, .string ry, .int .i64 of] 50)) 3 #[.int .i64 id]
                        case c1 => rfl
                        case c2 => omega
                        case c3 => first | omega | (simp; omega)
                        case c4 => exact HZ.out.2.alloc (by first | omega | (simp; omega)) _
                        intro v' w4 ho4 hb4 hg4 _
                        rw [HSN.out] at ho4
                        obtain ⟨A4, c4, rfl, _, _⟩ := ownsSlice ho4
                        have hcy : w4.cell? ⟨wr.heap.size, 4, none⟩ = some (.string ry) := (((Bk.new wr 50 #[.int .i64 id, .int .i64 kn, .int .u8 kd, .string rx, .string ry, .int .i64 of]).alloc (.cells #[.int .i64 id] 3)).grown hg4 (fun e => by have := HOL.out _ e.symm; omega)).cell 4 rfl
                        have hrs := hrn.2.1
                        clear hg4 HLK HLD2
                        go_wp2
                        clear hcy
                        go_roundw
                        case rel => exact ⟨p, ry, L ++ [id], A4, c4, rfl, rfl, by rw [HLN.out], by rw [← HLN.out]; exact ho4, by show _ = _; rw [List.append_assoc, ← hL.out, HS2.out]; rfl, hrs, by rw [← HLN.out]; omega, hb4⟩
                        case measure => simp [intOf]
                      · have hmp' : (m == (p : Int)) = false := by simpa using hmp
                        have HS2 := Lib.hid (HSK.out (by rw [HCM.out, hgy]; simp [hmp]))
                        have hn1 := HN1.out
                        clear HSK HHT HCM hskip hgy hxx h5 hmp
                        go_wp2
                        go_roundw
                        case rel => exact ⟨k + 1, by omega, rfl, rfl, by go_num, HZ.out.1, HS2, HZ.out.2⟩
                        case measure => simp [intOf]; omega
                  · rw [decide_eq_false hxx] at E1
                    have HS2 := Lib.hid (HSK.out (by rw [HCM.out]; simp [hxx]))
                    clear HSK HHT HCM hskip hxx h5
                    go_wp2
                    go_roundw
                    case rel => exact ⟨k + 1, by omega, rfl, rfl, by go_num, HZ.out.1, HS2, HZ.out.2⟩
                    case measure => simp [intOf]; omega
                · have e5 : (kd == 5) = false := by simpa using h5
                  have HS2 := Lib.hid (HSK.out (by rw [HCM.out]; simp [h5]))
                  clear HSK HHT HCM hskip h5
                  go_wp2
                  go_roundw
                  case rel => exact ⟨k + 1, by omega, rfl, rfl, by go_num, HZ.out.1, HS2, HZ.out.2⟩
                  case measure => simp [intOf]; omega
              · obtain rfl : k = d.length := by omega
                have HS2 := Lib.hid (chn_no (fun j hj => hno.out j hj hj))
                have hn1 := HN1.out
                clear hno HLK HLD2
                go_wp2
                go_roundw
                case rel => exact ⟨p, z, L, A', c', rfl, rfl, rfl, ho, by show _ = _; rw [← HS2.out]; exact hL.out, hz, by omega, hbw2⟩
                case measure => simp [intOf]
    · have HPH0 := Lib.hid (phiW_eq hi.out.mp HUs.out)
      generalize hwo : wr = wo at *
      go_wp2
      go_loopw [12, 35] (fun v u wr => ∃ (k : Nat) (g' : ByteArray → Option Int) (n' : Nat) (b : Bool), k ≤ d.length ∧ v = .bool b ∧ u = .int .i64 k ∧ Hid (ChI d y U w1.heap.size n' 100000 wr g') ∧ Hid (b = false → g' = g ∧ ∀ j (h : j < d.length), j < k → okAt g d[j]) ∧ Hid (b = true → phi U g' + 1 ≤ phi U g) ∧ Below w1.heap.size w1 wr) (fun _ u _ => d.length - (intOf u).toNat)
      case atStart => exact ⟨0, g, n, false, by omega, rfl, rfl, hi, (fun _ => ⟨rfl, fun j _ h => absurd h (by omega)⟩), (fun h => by cases h), hbw⟩
      case round =>
        obtain ⟨k, g', n', b, hk, rfl, rfl, hi', hb0, hb1, hbw'⟩ := hrel
        have hbs := hbw'.size
        have hgl := hi'.out.mp.lt
        by_cases hlt : k < d.length
        · obtain ⟨ad, rfl, hadb, c0, c1, c2, c3, c4, c5⟩ := rule_at (HLD.out wr hbw') hlt
          have hrn := HOK.out _ (List.getElem_mem hlt)
          have hdk := List.getElem_mem hlt
          have HXU := Lib.hid (HUx.out _ hdk)
          have HPUT := Lib.hid (fun (W : World) (hW : ChI d y U w1.heap.size n' 100000 W g') h5 q hq hx => hW.put (by decide) hdk h5 HXU.out hrn.1 (by omega) (q := q) hq hx)
          have HSK : Hid (b = false → okAt g d[k] → ∀ j (h : j < d.length), j < k + 1 → okAt g d[j]) := fun e h j hj hjk => by
            by_cases e2 : j = k
            · subst e2; exact h
            · exact (hb0.out e).2 j hj (by omega)
          have HG0 : Hid (b = false → g' = g) := fun e => (hb0.out e).1
          have HOA : Hid (okAt g d[k] ↔ (d[k].kind = 5 → ∀ n, g d[k].y = some n → ∃ m, g d[k].x = some m ∧ m ≤ n + 1)) := Iff.rfl
          generalize d[k] = r at *
          obtain ⟨id, kn, kd, rx, ry, of⟩ := r
          dsimp only at *
          have hb0w : Below w1.heap.size w1 (wr.alloc (.cells #[.int .i64 id, .int .i64 kn, .int .u8 kd, .string rx, .string ry, .int .i64 of] 50)) := hbw'.trans (((Below.refl _ _).alloc (Nat.le_refl _) _).mono hbs)
          have hmA := hi'.out.below (((Below.refl _ _).alloc (Nat.le_refl _) (Obj.cells #[.int .i64 id, .int .i64 kn, .int .u8 kd, .string rx, .string ry, .int .i64 of] 50)) : Below wr.heap.size wr _) hgl
          have lk1 := hmA.mp.lookD hrn.2.1
          have lk2 := hmA.mp.lookD hrn.1
          have HMA := Lib.hid hmA
          have HBA := Lib.hid hb0w
          have hqb := hi'.out.sm
          have hcl := cardU_le U g'
          clear hmA hb0w hb0
          by_cases h5 : kd = 5
          · have e5 : (kd != 5) = false := by rw [h5]; rfl
            have H5 := Lib.hid h5
            clear h5
            cases hy1 : g' ry with
            | none =>
              rw [hy1] at lk1
              have HOK1 : Hid (b = false → ∀ j (h : j < d.length), j < k + 1 → okAt g d[j]) := fun e => HSK.out e (HOA.out.2 (fun _ n hn => by rw [← HG0.out e, hy1] at hn; cases hn))
              clear hy1 HSK HOA HPUT hqb hcl
              go_wp2
              go_roundw
              case rel => exact ⟨k + 1, g', n', b, by omega, rfl, by go_num, HMA.out, (fun e => ⟨HG0.out e, HOK1.out e⟩), hb1, HBA.out⟩
              case measure => simp [intOf]; omega
            | some q =>
              rw [hy1] at lk1
              have hq2 := hqb _ _ hy1
              have W1 : IntKind.i64.wrap (q + 1) = q + 1 := IntWalk.i64_in _ (by omega)
              have HW1 := Lib.hid W1
              clear W1
              have HUPD : Hid ((∀ m, g' rx = some m → m > q + 1) → ∃ W3, (Instr.mapUpdate 96 (.map (some w1.heap.size)) (.string rx) (.int .i64 (q + 1))).run Tryz.prog (wr.alloc (.cells #[.int .i64 id, .int .i64 kn, .int .u8 kd, .string rx, .string ry, .int .i64 of] 50)) = .ok () W3 ∧ Hid (ChI d y U w1.heap.size (n' + 1) 100000 W3 (gPutD g' rx (q + 1)) ∧ phi U (gPutD g' rx (q + 1)) + 1 ≤ phi U g ∧ Below w1.heap.size w1 W3)) := fun hx => by
                obtain ⟨W3, h1, h2, h3, h4⟩ := HPUT.out _ HMA.out H5.out q hy1 hx
                refine ⟨W3, h1, h2, ?_, HBA.out.grown h4 (by simp; omega) (fun g e => by cases e; exact Nat.le_refl _)⟩
                cases b
                · rw [← HG0.out rfl]; exact h3
                · have := hb1.out rfl; omega
              cases hx1 : g' rx with
              | none =>
                rw [hx1] at lk2
                obtain ⟨W3, hup, HW3⟩ := HUPD.out (fun m hm => by rw [hx1] at hm; cases hm)
                clear hy1 hx1 HSK HOA HPUT hqb hcl HUPD
                have hw1 := HW1.out
                go_wp2
                clear hup
                go_roundw
                case rel => exact ⟨k + 1, _, n' + 1, true, by omega, rfl, by go_num, HW3.out.1, (fun e => by cases e), (fun _ => HW3.out.2.1), HW3.out.2.2⟩
                case measure => simp [intOf]; omega
              | some m =>
                rw [hx1] at lk2
                by_cases hmq : m > q + 1
                · obtain ⟨W3, hup, HW3⟩ := HUPD.out (fun m' hm' => by rw [hx1] at hm'; cases hm'; exact hmq)
                  have hd1 : decide (q + 1 < m) = true := decide_eq_true hmq
                  clear hy1 hx1 HSK HOA HPUT hqb hcl HUPD
                  have hw1 := HW1.out
                  go_wp2
                  clear hup
                  go_roundw
                  case rel => exact ⟨k + 1, _, n' + 1, true, by omega, rfl, by go_num, HW3.out.1, (fun e => by cases e), (fun _ => HW3.out.2.1), HW3.out.2.2⟩
                  case measure => simp [intOf]; omega
                · have HOK1 : Hid (b = false → ∀ j (h : j < d.length), j < k + 1 → okAt g d[j]) := fun e => HSK.out e (HOA.out.2 (fun _ n hn => by
                    rw [← HG0.out e] at hn ⊢
                    rw [hy1] at hn; cases hn
                    exact ⟨m, hx1, by omega⟩))
                  have hd1 : ¬ q + 1 < m := by omega
                  clear hy1 hx1 HSK HOA HPUT hqb hcl HUPD hmq
                  have hw1 := HW1.out
                  go_wp2
                  go_roundw
                  case rel => exact ⟨k + 1, g', n', b, by omega, rfl, by go_num, HMA.out, (fun e => ⟨HG0.out e, HOK1.out e⟩), hb1, HBA.out⟩
                  case measure => simp [intOf]; omega
          · have e5 : (kd != 5) = true := by simpa using h5
            have HOK1 : Hid (b = false → ∀ j (h : j < d.length), j < k + 1 → okAt g d[j]) := fun e => HSK.out e (HOA.out.2 (fun h => absurd h h5))
            clear h5 HSK HOA HPUT hqb hcl
            go_wp2
            go_roundw
            case rel => exact ⟨k + 1, g', n', b, by omega, rfl, by go_num, HMA.out, (fun e => ⟨HG0.out e, HOK1.out e⟩), hb1, HBA.out⟩
            case measure => simp [intOf]; omega
        · obtain rfl : k = d.length := by omega
          go_wp2
          go_roundw
          case rel => exact ⟨g', n', b, rfl, hi', (fun e => by
            obtain ⟨e1, h2⟩ := hb0.out e
            rw [e1]
            intro r hr
            obtain ⟨j, hj, rfl⟩ := List.getElem_of_mem hr
            exact h2 j hj hj), hbw'⟩
          case measure =>
            have h1 := phiW_eq hi'.out.mp HUs.out
            rw [h1, HPH0.out]
            cases b
            · have := (hb0.out rfl).1
              rw [this]; show 2 * phi U g + 0 < 2 * phi U g + 1; omega
            · have := hb1.out rfl
              show 2 * phi U g' + 1 < 2 * phi U g + 1; omega
end Go.Proofs.YtkfeagokmcakgaaGreatDoor
