/- giornatalaw06.PigmentKnown (fn 12): its walk. Printed by gen_k3.py. -/
import Derived.Test.YtkfeagokmcakgaaGreatDoorG02
import Derived.Test.YtkfeagokmcakgaaGreatDoorG17
import Derived.Test.YtkfeagokmcakgaaGreatDoorG20

set_option linter.unusedVariables false
set_option linter.unusedSimpArgs false

namespace Go.Proofs.YtkfeagokmcakgaaGreatDoor
open Go.RowKit

theorem lies_ne {W : World} {B g t : Nat} {A A2 : Option Addr} {n c : Nat} {r : Rul} {l : List Rul} (hl : Lies W B A2 (rulesC (l ++ [r]))) (hk : Bk W g t #[.slice A n c]) : ∀ ad, A2 = some ad → ad.block ≠ g := by
  intro ad e hg
  have hne : l ++ [r] ≠ [] := by simp
  obtain ⟨r0, l0, hc⟩ := List.exists_cons_of_ne_nil hne
  rw [hc] at hl
  obtain ⟨ad2, e2, _, h2⟩ := hl (by simp [rulesC, Rul.cells])
  rw [e] at e2
  cases e2
  have h3 := h2 0 (.int .i64 r0.id) rfl
  have h4 : W.heap[(ad.add 0).block]? = some (.cells #[.slice A n c] t) := by rw [add_block, hg]; exact hk
  unfold World.cell? at h3
  rw [h4] at h3
  simp only at h3
  split at h3
  · cases h3
  obtain ⟨hlt, h6⟩ := Array.getElem?_eq_some_iff.1 h3
  have h7 : (ad.add 0).off = 0 := by simpa using hlt
  simp [h7] at h6
/-- the book that takes later rules, in its box -/
structure Kb (b : Nat) (A : Option Addr) (c : Nat) (m : List Rul) (W : World) : Prop where
  bk : Bk W b 25 #[.slice A m.length c]
  ls : Lies W W.heap.size A (rulesC m)
  cap : m.length ≤ c ∧ c ≤ maxLen
theorem Kb.below {b c : Nat} {A : Option Addr} {m : List Rul} {W V : World} (h : Kb b A c m W) (hb : Below W.heap.size W V) : Kb b A c m V := ⟨h.bk.below hb h.bk.lt, lies_on h.ls hb, h.cap⟩
theorem Kb.put {b c c2 : Nat} {A A2 : Option Addr} {l : List Rul} {r : Rul} {W : World} (h : Kb b A c l W) (hl : Lies W W.heap.size A2 (rulesC (l ++ [r]))) (hc : l.length + 1 ≤ c2 ∧ c2 ≤ maxLen) :
    Kb b A2 c2 (l ++ [r]) (W.setCell ⟨b, 0, none⟩ (.slice A2 (l.length + 1) c2)) := by
  refine ⟨?_, set_lies hl (lies_ne hl h.bk), by simpa using hc⟩
  have := h.bk.set 0 (.slice A2 (l.length + 1) c2)
  simpa using this
theorem late_ok {l m : List Rul} {known : Int} {k : Nat} (h : LateB l m known k) : RulOK m := fun r hr => by
  have := h.small r hr
  exact ⟨by omega, by omega, this.2.2⟩
theorem skF_le (l : List Rul) (col : List ByteArray) (n : Nat) : (skF l col n).length ≤ col.length := by
  unfold skF
  split
  · exact List.length_filter_le _ _
  · exact Nat.zero_le _
theorem sttI (l : List Rul) (x : ByteArray) : stt l x ≤ 3 := by have := stt_four l x; omega
theorem small_raw {l : List Rul} (h : smallB l = true) (hk : ∀ r ∈ l, 0 ≤ r.kind ∧ r.kind ≤ 255) : ∀ r ∈ l, r.x.size ≤ 60 ∧ r.y.size ≤ 60 ∧ (0 ≤ r.kind ∧ r.kind ≤ 255) := by
  unfold smallB at h
  rw [Bool.and_eq_true, decide_eq_true_eq, List.all_eq_true] at h
  intro r hr
  have := h.2 r hr
  unfold smlB at this
  simp at this
  exact ⟨this.1, this.2, hk r hr⟩
set_option maxHeartbeats 1000000 in
set_option maxRecDepth 100000 in
theorem lawKnown_any (l : List Rul) (A : Option Addr) (c : Nat) (lt : List Rul) (Al : Option Addr) (cl : Nat) (known : Int) (x y : ByteArray) (col : List ByteArray) (Ac : Option Addr) (cc : Nat) (w : World) (hg : Glob w)
    (hl : Lies w w.heap.size A (rulesC l)) (hc : l.length ≤ c ∧ c ≤ maxLen) (hlw : ∀ r ∈ l, (r.x.size ≤ maxLen ∧ r.y.size ≤ maxLen) ∧ (0 ≤ r.kind ∧ r.kind ≤ 255))
    (hll : Lies w w.heap.size Al (rulesC lt)) (hlc0 : lt.length ≤ maxLen) (hltw : ∀ r ∈ lt, (r.x.size ≤ maxLen ∧ r.y.size ≤ maxLen) ∧ (0 ≤ r.kind ∧ r.kind ≤ 255)) (hx : x.size ≤ maxLen) (hy : y.size ≤ maxLen)
    (hlc : Lies w w.heap.size Ac (strsC col)) (hcs : ∀ s ∈ col, s.size ≤ maxLen) (hcc : col.length ≤ cc ∧ cc ≤ maxLen) :
    Calls Tryz.prog 12 #[.agg #[.slice A l.length c], .slice Al lt.length cl, .int .i64 known, .string x, .string y, .slice Ac col.length cc] w (fun e w' => e = .returned (.bool true) ∧ Below w.heap.size w w') := by
  have HW : Hid (Below w.heap.size w (w.alloc (.cells #[.slice A l.length c] 25))) := (Below.refl _ _).alloc (Nat.le_refl _) _
  have HK0 : Hid (Bk (w.alloc (.cells #[.slice A l.length c] 25)) w.heap.size 25 #[.slice A l.length c]) := Bk.new _ _ _
  have HL : Hid (∀ V, Below (w.alloc (.cells #[.slice A l.length c] 25)).heap.size (w.alloc (.cells #[.slice A l.length c] 25)) V → Lies V V.heap.size A (rulesC l)) := fun V hV => lies_on hl (HW.out.trans (hV.mono HW.out.size))
  have HLL : Hid (∀ V, Below (w.alloc (.cells #[.slice A l.length c] 25)).heap.size (w.alloc (.cells #[.slice A l.length c] 25)) V → Lies V V.heap.size Al (rulesC lt)) := fun V hV => lies_on hll (HW.out.trans (hV.mono HW.out.size))
  have HC : Hid (∀ V, Below (w.alloc (.cells #[.slice A l.length c] 25)).heap.size (w.alloc (.cells #[.slice A l.length c] 25)) V → Lies V V.heap.size Ac (strsC col)) := fun V hV => lies_on hlc (HW.out.trans (hV.mono HW.out.size))
  have HR : Hid (∀ V, Below (w.alloc (.cells #[.slice A l.length c] 25)).heap.size (w.alloc (.cells #[.slice A l.length c] 25)) V → Calls Tryz.prog 17 #[] V (fun e w' => e = .returned (.bool true) ∧ Below V.heap.size V w')) := fun V hV => ruled_any V (hg.step (HW.out.trans (hV.mono HW.out.size)))
  go_enter Tryz.func12, Tryz.ntmps12
  go_upto_region 1 with fail
  have hBW0 : Below (w.alloc (.cells #[.slice A l.length c] 25)).heap.size (w.alloc (.cells #[.slice A l.length c] 25)) (w.alloc (.cells #[.slice A l.length c] 25)) := Below.refl _ _
  have HY : Hid (∀ V, Below (w.alloc (.cells #[.slice A l.length c] 25)).heap.size (w.alloc (.cells #[.slice A l.length c] 25)) V → V.cell? ⟨w.heap.size, 0, none⟩ = some (.slice A l.length c)) := fun V hV => (HK0.out.below hV HK0.out.lt).cell 0 rfl
  clear hg hl hlc hll HK0
  generalize (w.alloc (.cells #[.slice A l.length c] 25)) = W0 at *
  have y0 := HY.out W0 hBW0
  generalize hb0 : w.heap.size = b0 at *
  have HSM : Hid (∀ V, Below W0.heap.size W0 V → Calls Tryz.prog 22 #[.agg #[.slice A l.length c]] V (ShEnd (smallB l) V)) := fun V hV => small_any l A c V (HL.out V hV) (fun r hr => (hlw r hr).1) (Nat.le_trans hc.1 hc.2)
  have HBR : Hid (∀ V, Below W0.heap.size W0 V → Calls Tryz.prog 23 #[.slice Ac col.length cc, .int .i64 8] V (ShEnd (briefB col 8) V)) := fun V hV => brief_any col Ac cc 8 V (HC.out V hV) hcs (Nat.le_trans hcc.1 hcc.2)
  have hz1 : (lt.length : Int) ≤ 9223372036854775807 := by unfold maxLen at hlc0; omega
  have hz2 : (x.size : Int) ≤ 9223372036854775807 := by unfold maxLen at hx; omega
  have hz3 : (y.size : Int) ≤ 9223372036854775807 := by unfold maxLen at hy; omega
  clear hlc0 hx hy
  cases hsm : smallB l
  · rw [hsm] at HSM
    clear HBR HC HL HLL hsm
    go_wp2_with (first | (go_at_call 22; refine (HSM.out _ (by assumption)).mono ?_; rintro e w1 ⟨rfl, hb⟩; have hBw1 : Below W0.heap.size W0 w1 := Below.trans (by assumption) (hb.mono (Below.size (by assumption))); have yw1 := HY.out w1 hBw1; clear hb) | (go_at_call 23; refine (HBR.out _ (by assumption)).mono ?_; rintro e wq ⟨rfl, hb⟩; have hBwq : Below W0.heap.size W0 wq := Below.trans (by assumption) (hb.mono (Below.size (by assumption))); have ywq := HY.out wq hBwq; clear hb) | (go_at_call 17; refine (HR.out _ (by assumption)).mono ?_; rintro e z ⟨rfl, hb⟩; have hBz : Below W0.heap.size W0 z := Below.trans (by assumption) (hb.mono (Below.size (by assumption))); clear hb))
    go_ret
    subst hb0; exact ⟨rfl, HW.out.trans (hBz.mono (by have := HW.out.size; omega))⟩
  rw [hsm] at HSM
  have hO := small_ok hsm (fun r hr => (hlw r hr).2)
  have hO2 := Lib.hid (small_raw hsm (fun r hr => (hlw r hr).2))
  clear hsm hlw
  by_cases h15 : lt.length ≤ 15
  case neg =>
    have h151 : (15 : Int) < (lt.length : Int) := by omega
    clear HBR HC HL HLL
    go_wp2_with (first | (go_at_call 22; refine (HSM.out _ (by assumption)).mono ?_; rintro e w1 ⟨rfl, hb⟩; have hBw1 : Below W0.heap.size W0 w1 := Below.trans (by assumption) (hb.mono (Below.size (by assumption))); have yw1 := HY.out w1 hBw1; clear hb) | (go_at_call 23; refine (HBR.out _ (by assumption)).mono ?_; rintro e wq ⟨rfl, hb⟩; have hBwq : Below W0.heap.size W0 wq := Below.trans (by assumption) (hb.mono (Below.size (by assumption))); have ywq := HY.out wq hBwq; clear hb) | (go_at_call 17; refine (HR.out _ (by assumption)).mono ?_; rintro e z ⟨rfl, hb⟩; have hBz : Below W0.heap.size W0 z := Below.trans (by assumption) (hb.mono (Below.size (by assumption))); clear hb))
    go_ret
    subst hb0; exact ⟨rfl, HW.out.trans (hBz.mono (by have := HW.out.size; omega))⟩
  have h151 : ¬ (15 : Int) < (lt.length : Int) := by omega
  by_cases hxs : x.size ≤ 60
  case neg =>
    have h152 : (60 : Int) < (x.size : Int) := by omega
    clear HBR HC HL HLL
    go_wp2_with (first | (go_at_call 22; refine (HSM.out _ (by assumption)).mono ?_; rintro e w1 ⟨rfl, hb⟩; have hBw1 : Below W0.heap.size W0 w1 := Below.trans (by assumption) (hb.mono (Below.size (by assumption))); have yw1 := HY.out w1 hBw1; clear hb) | (go_at_call 23; refine (HBR.out _ (by assumption)).mono ?_; rintro e wq ⟨rfl, hb⟩; have hBwq : Below W0.heap.size W0 wq := Below.trans (by assumption) (hb.mono (Below.size (by assumption))); have ywq := HY.out wq hBwq; clear hb) | (go_at_call 17; refine (HR.out _ (by assumption)).mono ?_; rintro e z ⟨rfl, hb⟩; have hBz : Below W0.heap.size W0 z := Below.trans (by assumption) (hb.mono (Below.size (by assumption))); clear hb))
    go_ret
    subst hb0; exact ⟨rfl, HW.out.trans (hBz.mono (by have := HW.out.size; omega))⟩
  have h152 : ¬ (60 : Int) < (x.size : Int) := by omega
  by_cases hys : y.size ≤ 60
  case neg =>
    have h153 : (60 : Int) < (y.size : Int) := by omega
    clear HBR HC HL HLL
    go_wp2_with (first | (go_at_call 22; refine (HSM.out _ (by assumption)).mono ?_; rintro e w1 ⟨rfl, hb⟩; have hBw1 : Below W0.heap.size W0 w1 := Below.trans (by assumption) (hb.mono (Below.size (by assumption))); have yw1 := HY.out w1 hBw1; clear hb) | (go_at_call 23; refine (HBR.out _ (by assumption)).mono ?_; rintro e wq ⟨rfl, hb⟩; have hBwq : Below W0.heap.size W0 wq := Below.trans (by assumption) (hb.mono (Below.size (by assumption))); have ywq := HY.out wq hBwq; clear hb) | (go_at_call 17; refine (HR.out _ (by assumption)).mono ?_; rintro e z ⟨rfl, hb⟩; have hBz : Below W0.heap.size W0 z := Below.trans (by assumption) (hb.mono (Below.size (by assumption))); clear hb))
    go_ret
    subst hb0; exact ⟨rfl, HW.out.trans (hBz.mono (by have := HW.out.size; omega))⟩
  have h153 : ¬ (60 : Int) < (y.size : Int) := by omega
  cases hbr : briefB col 8
  · rw [hbr] at HBR
    clear HC HL HLL hbr hO
    go_wp2_with (first | (go_at_call 22; refine (HSM.out _ (by assumption)).mono ?_; rintro e w1 ⟨rfl, hb⟩; have hBw1 : Below W0.heap.size W0 w1 := Below.trans (by assumption) (hb.mono (Below.size (by assumption))); have yw1 := HY.out w1 hBw1; clear hb) | (go_at_call 23; refine (HBR.out _ (by assumption)).mono ?_; rintro e wq ⟨rfl, hb⟩; have hBwq : Below W0.heap.size W0 wq := Below.trans (by assumption) (hb.mono (Below.size (by assumption))); have ywq := HY.out wq hBwq; clear hb) | (go_at_call 17; refine (HR.out _ (by assumption)).mono ?_; rintro e z ⟨rfl, hb⟩; have hBz : Below W0.heap.size W0 z := Below.trans (by assumption) (hb.mono (Below.size (by assumption))); clear hb))
    go_ret
    subst hb0; exact ⟨rfl, HW.out.trans (hBz.mono (by have := HW.out.size; omega))⟩
  rw [hbr] at HBR
  have hB := brief_ok hbr
  clear hbr
  have HSZ := Lib.hid hB.1
  have h8 : col.length ≤ 8 := by have := hB.2; omega
  have HCK : Hid (∀ V, Below W0.heap.size W0 V → Calls Tryz.prog 46 #[.agg #[.slice A l.length c]] V (Int2End (chkL l) V)) := fun V hV => check_any l A c V (HL.out V hV) hO.1 (by have := hO.2; omega) hc.1 hc.2
  have HEQ : Hid (chkL l = ((chkL l).1, (chkL l).2)) := rfl
  generalize (chkL l).1 = ci at *
  generalize (chkL l).2 = ce at *
  rw [HEQ.out] at HCK
  have HLEN := Lib.hid hO.2
  clear HEQ hB
  by_cases hce : ce = 0
  case neg =>
    clear HC HL HLL hO
    go_wp2_with (first | (go_at_call 22; refine (HSM.out _ (by assumption)).mono ?_; rintro e w1 ⟨rfl, hb⟩; have hBw1 : Below W0.heap.size W0 w1 := Below.trans (by assumption) (hb.mono (Below.size (by assumption))); have yw1 := HY.out w1 hBw1; clear hb) | (go_at_call 23; refine (HBR.out _ (by assumption)).mono ?_; rintro e wq ⟨rfl, hb⟩; have hBwq : Below W0.heap.size W0 wq := Below.trans (by assumption) (hb.mono (Below.size (by assumption))); have ywq := HY.out wq hBwq; clear hb) | (go_at_call 46; refine (HCK.out _ (by assumption)).mono ?_; rintro e w2 ⟨rfl, hb⟩; have hBw2 : Below W0.heap.size W0 w2 := Below.trans (by assumption) (hb.mono (Below.size (by assumption))); have yw2 := HY.out w2 hBw2; clear hb) | (go_at_call 17; refine (HR.out _ (by assumption)).mono ?_; rintro e z ⟨rfl, hb⟩; have hBz : Below W0.heap.size W0 z := Below.trans (by assumption) (hb.mono (Below.size (by assumption))); clear hb))
    go_ret
    subst hb0; exact ⟨rfl, HW.out.trans (hBz.mono (by have := HW.out.size; omega))⟩
  subst hce
  go_upto_region 6 with (first | (go_at_call 22; refine (HSM.out _ (by assumption)).mono ?_; rintro e w1 ⟨rfl, hb⟩; have hBw1 : Below W0.heap.size W0 w1 := Below.trans (by assumption) (hb.mono (Below.size (by assumption))); have yw1 := HY.out w1 hBw1; clear hb) | (go_at_call 23; refine (HBR.out _ (by assumption)).mono ?_; rintro e wq ⟨rfl, hb⟩; have hBwq : Below W0.heap.size W0 wq := Below.trans (by assumption) (hb.mono (Below.size (by assumption))); have ywq := HY.out wq hBwq; clear hb) | (go_at_call 46; refine (HCK.out _ (by assumption)).mono ?_; rintro e w2 ⟨rfl, hb⟩; have hBw2 : Below W0.heap.size W0 w2 := Below.trans (by assumption) (hb.mono (Below.size (by assumption))); have yw2 := HY.out w2 hBw2; clear hb))
  have HY := Lib.hid (fun V (hV : Below w2.heap.size w2 V) => HY.out V (hBw2.trans (hV.mono hBw2.size)))
  have HL := Lib.hid (fun V (hV : Below w2.heap.size w2 V) => HL.out V (hBw2.trans (hV.mono hBw2.size)))
  have HLL := Lib.hid (fun V (hV : Below w2.heap.size w2 V) => HLL.out V (hBw2.trans (hV.mono hBw2.size)))
  have HC := Lib.hid (fun V (hV : Below w2.heap.size w2 V) => HC.out V (hBw2.trans (hV.mono hBw2.size)))
  have HR := Lib.hid (fun V (hV : Below w2.heap.size w2 V) => HR.out V (hBw2.trans (hV.mono hBw2.size)))
  have HW : Hid (Below b0 w w2) := HW.out.trans (hBw2.mono (by have := HW.out.size; omega))
  clear HSM HBR HCK hBw1 yw1 hBwq ywq y0 hBW0 hBw2
  have hO1 := Lib.hid hO.1
  clear hO
  go_upto_region 8 with fail
  have hK0 : Hid (Kb w2.heap.size A c l (w2.alloc (.cells #[.slice A l.length c] 25))) := ⟨Bk.new _ _ _, lies_on (HL.out w2 (Below.refl _ _)) ((Below.refl _ _).alloc (Nat.le_refl _) _), hc⟩
  have hB3 : Below w2.heap.size w2 (w2.alloc (.cells #[.slice A l.length c] 25)) := (Below.refl _ _).alloc (Nat.le_refl _) _
  have hL0 : Hid (LateB l l known 0) := LateB.start hO2.out
  generalize (w2.alloc (.cells #[.slice A l.length c] 25)) = w3 at *
  clear yw2 hO2 h151 h152 h153
  go_loopw [16] (fun yv wr => ∃ (k : Nat) (m : List Rul) (Am : Option Addr) (cm : Nat), k ≤ lt.length ∧ yv = .int .i64 k ∧ Hid (LateB l m known k) ∧ Hid (Kb w2.heap.size Am cm m wr) ∧ Below w2.heap.size w2 wr) (fun yv _ => lt.length - (intOf yv).toNat)
  case atStart => exact ⟨0, l, A, c, by omega, rfl, hL0, hK0, hB3⟩
  case round =>
    obtain ⟨k, m, Am, cm, hk, rfl, hLB, hKb, hBwr⟩ := hrel
    clear hL0 hK0 hB3
    by_cases hlt : k < lt.length
    · obtain ⟨ad, rfl, _, d0, d1, d2, d3, d4, d5⟩ := rule_at (HLL.out wr hBwr) hlt
      have HDS : Hid (∀ V, Below w2.heap.size w2 V → V.cell? (ad.add (k * 6)) = some (.int .i64 lt[k].id) ∧ V.cell? ⟨(ad.add (k * 6)).block, (ad.add (k * 6)).off + 1, none⟩ = some (.int .i64 lt[k].known) ∧ V.cell? ⟨(ad.add (k * 6)).block, (ad.add (k * 6)).off + 2, none⟩ = some (.int .u8 lt[k].kind) ∧ V.cell? ⟨(ad.add (k * 6)).block, (ad.add (k * 6)).off + 3, none⟩ = some (.string lt[k].x) ∧ V.cell? ⟨(ad.add (k * 6)).block, (ad.add (k * 6)).off + 4, none⟩ = some (.string lt[k].y) ∧ V.cell? ⟨(ad.add (k * 6)).block, (ad.add (k * 6)).off + 5, none⟩ = some (.int .i64 lt[k].of)) := fun V hV => by
        obtain ⟨ad2, e2, _, e0, e1, e3, e4, e5, e6⟩ := rule_at (HLL.out V hV) hlt
        cases e2
        exact ⟨e0, e1, e3, e4, e5, e6⟩
      have hrw := hltw _ (List.getElem_mem hlt)
      generalize lt[k] = R at *
      obtain ⟨id, kn, kd, rx, ry, of⟩ := R
      dsimp only at *
      have hz4 : (rx.size : Int) ≤ 9223372036854775807 := by have := hrw.1.1; unfold maxLen at this; omega
      have hz5 : (ry.size : Int) ≤ 9223372036854775807 := by have := hrw.1.2; unfold maxLen at this; omega
      have hkd := hrw.2
      clear hrw hltw HLL HC
      by_cases hq1 : kn ≤ known
      case pos =>
        have H := Lib.hid hLB.out.keep
        clear hLB HDS
        go_wp2
        go_roundw
        case rel => exact ⟨k + 1, m, Am, cm, by omega, by go_num, H, hKb, hBwr⟩
        case measure => simp [intOf]; omega
      by_cases hq2 : rx.size ≤ 60
      case neg =>
        have H := Lib.hid hLB.out.keep
        have hq2i : (60 : Int) < (rx.size : Int) := by omega
        clear hLB HDS
        go_wp2
        go_roundw
        case rel => exact ⟨k + 1, m, Am, cm, by omega, by go_num, H, hKb, hBwr⟩
        case measure => simp [intOf]; omega
      have hq2i : ¬ (60 : Int) < (rx.size : Int) := by omega
      by_cases hq3 : ry.size ≤ 60
      case neg =>
        have H := Lib.hid hLB.out.keep
        have hq3i : (60 : Int) < (ry.size : Int) := by omega
        clear hLB HDS
        go_wp2
        go_roundw
        case rel => exact ⟨k + 1, m, Am, cm, by omega, by go_num, H, hKb, hBwr⟩
        case measure => simp [intOf]; omega
      have hq3i : ¬ (60 : Int) < (ry.size : Int) := by omega
      have hmore := Lib.hid (hLB.out.more (r := ⟨id, kn, kd, rx, ry, of⟩) (by show known < kn; omega) ⟨hq2, hq3, hkd⟩)
      have hkeep := Lib.hid hLB.out.keep
      have hml : m.length ≤ 999 := by have := hLB.out.len; have := HLEN.out; omega
      have HAP : Hid (∀ V, Below w2.heap.size w2 V → Below wr.heap.size wr V → Calls Tryz.prog 51 #[.agg #[.slice Am m.length cm], .agg #[.int .i64 id, .int .i64 kn, .int .u8 kd, .string rx, .string ry, .int .i64 of]] V (AppEnd m ⟨id, kn, kd, rx, ry, of⟩ V)) := fun V _ hV => append_any m ⟨id, kn, kd, rx, ry, of⟩ Am cm V (hKb.out.below hV).ls (late_ok hmore.out) hml hKb.out.cap.1 hKb.out.cap.2
      have HKV : Hid (∀ V, Below wr.heap.size wr V → Kb w2.heap.size Am cm m V) := fun V hV => hKb.out.below hV
      have x1 := hKb.out.bk.cell 0 rfl
      have HS : Hid (∀ V, Below wr.heap.size wr V → V.cell? ⟨w2.heap.size, 0, none⟩ = some (.slice Am m.length cm) ∧ V.cell? (ad.add (k * 6)) = some (.int .i64 id) ∧ V.cell? ⟨(ad.add (k * 6)).block, (ad.add (k * 6)).off + 1, none⟩ = some (.int .i64 kn) ∧ V.cell? ⟨(ad.add (k * 6)).block, (ad.add (k * 6)).off + 2, none⟩ = some (.int .u8 kd) ∧ V.cell? ⟨(ad.add (k * 6)).block, (ad.add (k * 6)).off + 3, none⟩ = some (.string rx) ∧ V.cell? ⟨(ad.add (k * 6)).block, (ad.add (k * 6)).off + 4, none⟩ = some (.string ry) ∧ V.cell? ⟨(ad.add (k * 6)).block, (ad.add (k * 6)).off + 5, none⟩ = some (.int .i64 of)) := fun V hV => ⟨(HKV.out V hV).bk.cell 0 rfl, HDS.out V (hBwr.trans (hV.mono hBwr.size))⟩
      have HZ : Hid (∀ V, Below wr.heap.size wr V → Below w2.heap.size w2 V) := fun V hV => hBwr.trans (hV.mono hBwr.size)
      clear hLB HDS HL HY HR hq2 hq3 hkd
      by_cases hE : apdE m ⟨id, kn, kd, rx, ry, of⟩ = 0
      · have HA : Hid (∀ V, Below wr.heap.size wr V → Calls Tryz.prog 51 #[.agg #[.slice Am m.length cm], .agg #[.int .i64 id, .int .i64 kn, .int .u8 kd, .string rx, .string ry, .int .i64 of]] V (fun e w' => ∃ A5 c5, e = .returned (.tuple #[.agg #[.slice A5 (m.length + 1) c5], .int .i64 0]) ∧ (Hid (Lies w' w'.heap.size A5 (rulesC (m ++ [(⟨id, kn, kd, rx, ry, of⟩ : Rul)]))) ∧ Hid (m.length + 1 ≤ c5 ∧ c5 ≤ maxLen)) ∧ Below V.heap.size V w')) := fun V hV => by
          have h := HAP.out V (HZ.out V hV) hV
          unfold AppEnd at h
          have e1 : apdL m ⟨id, kn, kd, rx, ry, of⟩ = m ++ [⟨id, kn, kd, rx, ry, of⟩] := by unfold apdL; rw [if_pos hE]
          rw [e1, hE] at h
          refine h.mono ?_
          rintro e w' ⟨A5, c5, rfl, h1, h2, h3⟩
          rw [List.length_append] at h2
          exact ⟨A5, c5, by simp, ⟨h1, h2⟩, h3⟩
        clear HAP hE
        go_upto_region 11 with fail
        refine wp_region_held_drew (S := (fun V => V.cell? ⟨w2.heap.size, 0, none⟩ = some (.slice Am m.length cm) ∧ V.cell? (ad.add (k * 6)) = some (.int .i64 id) ∧ V.cell? ⟨(ad.add (k * 6)).block, (ad.add (k * 6)).off + 1, none⟩ = some (.int .i64 kn) ∧ V.cell? ⟨(ad.add (k * 6)).block, (ad.add (k * 6)).off + 2, none⟩ = some (.int .u8 kd) ∧ V.cell? ⟨(ad.add (k * 6)).block, (ad.add (k * 6)).off + 3, none⟩ = some (.string rx) ∧ V.cell? ⟨(ad.add (k * 6)).block, (ad.add (k * 6)).off + 4, none⟩ = some (.string ry) ∧ V.cell? ⟨(ad.add (k * 6)).block, (ad.add (k * 6)).off + 5, none⟩ = some (.int .i64 of))) (by kernel_rfl) ?_ (fun hHeld => ?_)
        · exact HS.out _ (Below.refl _ _).drew
        have hBd : Below wr.heap.size wr wr.drew := (Below.refl _ _).drew
        refine tk 0 98 ?_
        refine tk 1 99 ?_
        refine tk 2 100 ?_
        refine tk 3 101 ?_
        refine tk 4 102 ?_
        generalize wr.drew = w4 at *
        refine held_two 5 9 ⟨some 103, .call { callee := .value (.func 51), args := #[.tmp 98, .tmp 102], argTypes := #[25, 50] }, _, _, _, none⟩ ⟨some 17, .alloc 25, 0, _, _, none⟩ rfl rfl (by kernel_rfl) (by rfl) (by rfl) ?_ ?_
        · refine wp_call (f := 51) (args := #[.agg #[.slice Am m.length cm], .agg #[.int .i64 id, .int .i64 kn, .int .u8 kd, .string rx, .string ry, .int .i64 of]]) (by go_simp) (HA.out _ hBd) ?_
          rintro e w5 ⟨A5, c5, rfl, hl5, hb⟩
          have hB5 : Below wr.heap.size wr w5 := hBd.trans (hb.mono hBd.size)
          have hS5 := HS.out _ hB5
          refine ⟨_, rfl, hS5, ?_⟩
          (try simp only [Act.put, List.setIfInBounds_toArray, List.set_cons_zero, List.set_cons_succ])
          refine tk 6 97 ?_
          refine tk 7 104 ?_
          refine tk 8 105 ?_
          refine held_one 9 ⟨some 17, .alloc 25, 0, _, _, none⟩ rfl (by kernel_rfl) (by rfl) ?_
          unfold Oper.wp
          go_simp
          have hB6 : Below wr.heap.size wr (w5.alloc (.cells #[.slice none 0 0] 25)) := hB5.alloc hB5.size _
          have hB6s : wr.heap.size ≤ w5.heap.size := hB5.size
          have k6 : Bk (w5.alloc (.cells #[.slice none 0 0] 25)) w5.heap.size 25 #[.slice none 0 0] := Bk.new _ _ _
          have hS6 := HS.out _ hB6
          refine ⟨hS6, ?_⟩
          (try simp only [Act.put, List.setIfInBounds_toArray, List.set_cons_zero, List.set_cons_succ])
          have hl6 := Lib.hid (lies_on hl5.1.out (((Below.refl w5.heap.size w5).alloc (Nat.le_refl _) (.cells #[.slice none 0 0] 25))))
          refine held_one 10 ⟨none, .store 25 (.tmp 17) (.tmp 104), _, _, _, none⟩ rfl (by kernel_rfl) (by rfl) ?_
          refine wp_store_blk 25 (.tmp 17) (.tmp 104) rfl w5.heap.size #[.slice none 0 0] #[.slice A5 (m.length + 1) c5] rfl rfl k6 rfl info25 (by intro v hv; simp at hv; subst hv; rfl) ?_
          intro u4 k4 f4
          have hB7 := f4.bel _ _ hB6s hB6
          have hS7 := HS.out _ hB7
          refine ⟨hS7, ?_⟩
          (try simp only [Act.put, List.setIfInBounds_toArray, List.set_cons_zero, List.set_cons_succ])
          refine tk 11 18 ?_
          refine wpAnyH_done (by kernel_rfl) ?_ _
          have hl7 : Hid (Lies u4 u4.heap.size A5 (rulesC (m ++ [(⟨id, kn, kd, rx, ry, of⟩ : Rul)]))) := (f4.lies hl6.out (lies_ne hl6.out k6)).more (by rw [f4.size]; exact Nat.le_refl _)
          have hK7 := (HKV.out _ hB7)
          have y7 := k4.cell 0 rfl
          have y8 := hK7.bk.cell 0 rfl
          have y9 := hK7.bk.fro 0
          have hKN : Hid (Kb w2.heap.size A5 c5 (m ++ [(⟨id, kn, kd, rx, ry, of⟩ : Rul)]) (u4.setCell ⟨w2.heap.size, 0, none⟩ (.slice A5 (m.length + 1) c5))) := hK7.put hl7.out hl5.2.out
          have hBN : Below w2.heap.size w2 (u4.setCell ⟨w2.heap.size, 0, none⟩ (.slice A5 (m.length + 1) c5)) := below_set (HZ.out _ hB7) (Nat.le_refl _)
          clear hb k6 k4 f4 hK7 hHeld hB6 hB7 HKV HS HZ HA hl5 hl6 hl7 hS5 hS6 hS7 d0 d1 d2 d3 d4 d5 hBwr hKb
          go_wp2
          go_roundw
          case rel => exact ⟨k + 1, _, A5, c5, by omega, by go_num, hmore, hKN, hBN⟩
          case measure => simp [intOf]; omega
        · unfold Oper.wp
          go_simp
          have hB5 : Below wr.heap.size wr (w4.alloc (.cells #[.slice none 0 0] 25)) := hBd.alloc hBd.size _
          have k5 : Bk (w4.alloc (.cells #[.slice none 0 0] 25)) w4.heap.size 25 #[.slice none 0 0] := Bk.new _ _ _
          have hS5 := HS.out _ hB5
          refine ⟨hS5, ?_⟩
          (try simp only [Act.put, List.setIfInBounds_toArray, List.set_cons_zero, List.set_cons_succ])
          refine held_one 5 ⟨some 103, .call { callee := .value (.func 51), args := #[.tmp 98, .tmp 102], argTypes := #[25, 50] }, _, _, _, none⟩ rfl (by kernel_rfl) (by rfl) ?_
          refine wp_call (f := 51) (args := #[.agg #[.slice Am m.length cm], .agg #[.int .i64 id, .int .i64 kn, .int .u8 kd, .string rx, .string ry, .int .i64 of]]) (by go_simp) (HA.out _ hB5) ?_
          rintro e w5 ⟨A5, c5, rfl, hl5, hb⟩
          have hB6 : Below wr.heap.size wr w5 := hB5.trans (hb.mono hB5.size)
          have hB6s : wr.heap.size ≤ w4.heap.size := hBd.size
          have k6 : Bk w5 w4.heap.size 25 #[.slice none 0 0] := k5.below hb k5.lt
          have hS6 := HS.out _ hB6
          refine ⟨_, rfl, hS6, ?_⟩
          (try simp only [Act.put, List.setIfInBounds_toArray, List.set_cons_zero, List.set_cons_succ])
          refine tk 6 97 ?_
          refine tk 7 104 ?_
          refine tk 8 105 ?_
          have hl6 := Lib.hid hl5.1.out
          refine held_one 10 ⟨none, .store 25 (.tmp 17) (.tmp 104), _, _, _, none⟩ rfl (by kernel_rfl) (by rfl) ?_
          refine wp_store_blk 25 (.tmp 17) (.tmp 104) rfl w4.heap.size #[.slice none 0 0] #[.slice A5 (m.length + 1) c5] rfl rfl k6 rfl info25 (by intro v hv; simp at hv; subst hv; rfl) ?_
          intro u4 k4 f4
          have hB7 := f4.bel _ _ hB6s hB6
          have hS7 := HS.out _ hB7
          refine ⟨hS7, ?_⟩
          (try simp only [Act.put, List.setIfInBounds_toArray, List.set_cons_zero, List.set_cons_succ])
          refine tk 11 18 ?_
          refine wpAnyH_done (by kernel_rfl) ?_ _
          have hl7 : Hid (Lies u4 u4.heap.size A5 (rulesC (m ++ [(⟨id, kn, kd, rx, ry, of⟩ : Rul)]))) := (f4.lies hl6.out (lies_ne hl6.out k6)).more (by rw [f4.size]; exact Nat.le_refl _)
          have hK7 := (HKV.out _ hB7)
          have y7 := k4.cell 0 rfl
          have y8 := hK7.bk.cell 0 rfl
          have y9 := hK7.bk.fro 0
          have hKN : Hid (Kb w2.heap.size A5 c5 (m ++ [(⟨id, kn, kd, rx, ry, of⟩ : Rul)]) (u4.setCell ⟨w2.heap.size, 0, none⟩ (.slice A5 (m.length + 1) c5))) := hK7.put hl7.out hl5.2.out
          have hBN : Below w2.heap.size w2 (u4.setCell ⟨w2.heap.size, 0, none⟩ (.slice A5 (m.length + 1) c5)) := below_set (HZ.out _ hB7) (Nat.le_refl _)
          clear hb k6 k4 f4 hK7 hHeld hB6 hB7 HKV HS HZ HA hl5 hl6 hl7 hS5 hS6 hS7 d0 d1 d2 d3 d4 d5 hBwr hKb
          go_wp2
          go_roundw
          case rel => exact ⟨k + 1, _, A5, c5, by omega, by go_num, hmore, hKN, hBN⟩
          case measure => simp [intOf]; omega
      · have HA : Hid (∀ V, Below wr.heap.size wr V → Calls Tryz.prog 51 #[.agg #[.slice Am m.length cm], .agg #[.int .i64 id, .int .i64 kn, .int .u8 kd, .string rx, .string ry, .int .i64 of]] V (fun e w' => ∃ A5 c5, e = .returned (.tuple #[.agg #[.slice A5 0 c5], .int .i64 (apdE m ⟨id, kn, kd, rx, ry, of⟩)]) ∧ Below V.heap.size V w')) := fun V hV => by
          have h := HAP.out V (HZ.out V hV) hV
          unfold AppEnd at h
          have e1 : apdL m ⟨id, kn, kd, rx, ry, of⟩ = [] := by unfold apdL; rw [if_neg hE]
          rw [e1] at h
          refine h.mono ?_
          rintro e w' ⟨A5, c5, rfl, h1, h2, h3⟩
          exact ⟨A5, c5, rfl, h3⟩
        generalize apdE m ⟨id, kn, kd, rx, ry, of⟩ = E at *
        clear HAP
        go_upto_region 11 with fail
        refine wp_region_held_drew (S := (fun V => V.cell? ⟨w2.heap.size, 0, none⟩ = some (.slice Am m.length cm) ∧ V.cell? (ad.add (k * 6)) = some (.int .i64 id) ∧ V.cell? ⟨(ad.add (k * 6)).block, (ad.add (k * 6)).off + 1, none⟩ = some (.int .i64 kn) ∧ V.cell? ⟨(ad.add (k * 6)).block, (ad.add (k * 6)).off + 2, none⟩ = some (.int .u8 kd) ∧ V.cell? ⟨(ad.add (k * 6)).block, (ad.add (k * 6)).off + 3, none⟩ = some (.string rx) ∧ V.cell? ⟨(ad.add (k * 6)).block, (ad.add (k * 6)).off + 4, none⟩ = some (.string ry) ∧ V.cell? ⟨(ad.add (k * 6)).block, (ad.add (k * 6)).off + 5, none⟩ = some (.int .i64 of))) (by kernel_rfl) ?_ (fun hHeld => ?_)
        · exact HS.out _ (Below.refl _ _).drew
        have hBd : Below wr.heap.size wr wr.drew := (Below.refl _ _).drew
        refine tk 0 98 ?_
        refine tk 1 99 ?_
        refine tk 2 100 ?_
        refine tk 3 101 ?_
        refine tk 4 102 ?_
        generalize wr.drew = w4 at *
        refine held_two 5 9 ⟨some 103, .call { callee := .value (.func 51), args := #[.tmp 98, .tmp 102], argTypes := #[25, 50] }, _, _, _, none⟩ ⟨some 17, .alloc 25, 0, _, _, none⟩ rfl rfl (by kernel_rfl) (by rfl) (by rfl) ?_ ?_
        · refine wp_call (f := 51) (args := #[.agg #[.slice Am m.length cm], .agg #[.int .i64 id, .int .i64 kn, .int .u8 kd, .string rx, .string ry, .int .i64 of]]) (by go_simp) (HA.out _ hBd) ?_
          rintro e w5 ⟨A5, c5, rfl, hb⟩
          have hB5 : Below wr.heap.size wr w5 := hBd.trans (hb.mono hBd.size)
          have hS5 := HS.out _ hB5
          refine ⟨_, rfl, hS5, ?_⟩
          (try simp only [Act.put, List.setIfInBounds_toArray, List.set_cons_zero, List.set_cons_succ])
          refine tk 6 97 ?_
          refine tk 7 104 ?_
          refine tk 8 105 ?_
          refine held_one 9 ⟨some 17, .alloc 25, 0, _, _, none⟩ rfl (by kernel_rfl) (by rfl) ?_
          unfold Oper.wp
          go_simp
          have hB6 : Below wr.heap.size wr (w5.alloc (.cells #[.slice none 0 0] 25)) := hB5.alloc hB5.size _
          have hB6s : wr.heap.size ≤ w5.heap.size := hB5.size
          have k6 : Bk (w5.alloc (.cells #[.slice none 0 0] 25)) w5.heap.size 25 #[.slice none 0 0] := Bk.new _ _ _
          have hS6 := HS.out _ hB6
          refine ⟨hS6, ?_⟩
          (try simp only [Act.put, List.setIfInBounds_toArray, List.set_cons_zero, List.set_cons_succ])
          refine held_one 10 ⟨none, .store 25 (.tmp 17) (.tmp 104), _, _, _, none⟩ rfl (by kernel_rfl) (by rfl) ?_
          refine wp_store_blk 25 (.tmp 17) (.tmp 104) rfl w5.heap.size #[.slice none 0 0] #[.slice A5 0 c5] rfl rfl k6 rfl info25 (by intro v hv; simp at hv; subst hv; rfl) ?_
          intro u4 k4 f4
          have hB7 := f4.bel _ _ hB6s hB6
          have hS7 := HS.out _ hB7
          refine ⟨hS7, ?_⟩
          (try simp only [Act.put, List.setIfInBounds_toArray, List.set_cons_zero, List.set_cons_succ])
          refine tk 11 18 ?_
          refine wpAnyH_done (by kernel_rfl) ?_ _
          have hKN := Lib.hid (HKV.out _ hB7)
          have hBN := HZ.out _ hB7
          clear hb k6 k4 f4 hHeld hB6 hB7 HKV HS HZ HA hS5 hS6 hS7 d0 d1 d2 d3 d4 d5 hBwr hKb
          go_wp2
          go_roundw
          case rel => exact ⟨k + 1, m, Am, cm, by omega, by go_num, hkeep, hKN, hBN⟩
          case measure => simp [intOf]; omega
        · unfold Oper.wp
          go_simp
          have hB5 : Below wr.heap.size wr (w4.alloc (.cells #[.slice none 0 0] 25)) := hBd.alloc hBd.size _
          have k5 : Bk (w4.alloc (.cells #[.slice none 0 0] 25)) w4.heap.size 25 #[.slice none 0 0] := Bk.new _ _ _
          have hS5 := HS.out _ hB5
          refine ⟨hS5, ?_⟩
          (try simp only [Act.put, List.setIfInBounds_toArray, List.set_cons_zero, List.set_cons_succ])
          refine held_one 5 ⟨some 103, .call { callee := .value (.func 51), args := #[.tmp 98, .tmp 102], argTypes := #[25, 50] }, _, _, _, none⟩ rfl (by kernel_rfl) (by rfl) ?_
          refine wp_call (f := 51) (args := #[.agg #[.slice Am m.length cm], .agg #[.int .i64 id, .int .i64 kn, .int .u8 kd, .string rx, .string ry, .int .i64 of]]) (by go_simp) (HA.out _ hB5) ?_
          rintro e w5 ⟨A5, c5, rfl, hb⟩
          have hB6 : Below wr.heap.size wr w5 := hB5.trans (hb.mono hB5.size)
          have hB6s : wr.heap.size ≤ w4.heap.size := hBd.size
          have k6 : Bk w5 w4.heap.size 25 #[.slice none 0 0] := k5.below hb k5.lt
          have hS6 := HS.out _ hB6
          refine ⟨_, rfl, hS6, ?_⟩
          (try simp only [Act.put, List.setIfInBounds_toArray, List.set_cons_zero, List.set_cons_succ])
          refine tk 6 97 ?_
          refine tk 7 104 ?_
          refine tk 8 105 ?_
          refine held_one 10 ⟨none, .store 25 (.tmp 17) (.tmp 104), _, _, _, none⟩ rfl (by kernel_rfl) (by rfl) ?_
          refine wp_store_blk 25 (.tmp 17) (.tmp 104) rfl w4.heap.size #[.slice none 0 0] #[.slice A5 0 c5] rfl rfl k6 rfl info25 (by intro v hv; simp at hv; subst hv; rfl) ?_
          intro u4 k4 f4
          have hB7 := f4.bel _ _ hB6s hB6
          have hS7 := HS.out _ hB7
          refine ⟨hS7, ?_⟩
          (try simp only [Act.put, List.setIfInBounds_toArray, List.set_cons_zero, List.set_cons_succ])
          refine tk 11 18 ?_
          refine wpAnyH_done (by kernel_rfl) ?_ _
          have hKN := Lib.hid (HKV.out _ hB7)
          have hBN := HZ.out _ hB7
          clear hb k6 k4 f4 hHeld hB6 hB7 HKV HS HZ HA hS5 hS6 hS7 d0 d1 d2 d3 d4 d5 hBwr hKb
          go_wp2
          go_roundw
          case rel => exact ⟨k + 1, m, Am, cm, by omega, by go_num, hkeep, hKN, hBN⟩
          case measure => simp [intOf]; omega
    · obtain rfl : k = lt.length := by omega
      have HYY : Hid (∀ V, Below wr.heap.size wr V → V.cell? ⟨b0, 0, none⟩ = some (.slice A l.length c) ∧ V.cell? ⟨w2.heap.size, 0, none⟩ = some (.slice Am m.length cm)) := fun V hV => ⟨HY.out V (hBwr.trans (hV.mono hBwr.size)), (hKb.out.below hV).bk.cell 0 rfl⟩
      have hmok := late_ok hLB.out
      have hml : m.length ≤ 1000 := by have := hLB.out.len; have := HLEN.out; omega
      have hnl : l.length ≤ 1000 := by have := HLEN.out; omega
      have hLQ : cntL m known = cntL l known := hLB.out.cnt
      have HSK1 : Hid (∀ V, Below wr.heap.size wr V → Calls Tryz.prog 24 #[.agg #[.slice A l.length c], .int .i64 known, .slice Ac col.length cc] V (SkEnd (cntL l known) col V)) := fun V hV => strokes_any l A c known col Ac cc V (HL.out V (hBwr.trans (hV.mono hBwr.size))) hO1.out hnl (HC.out V (hBwr.trans (hV.mono hBwr.size))) HSZ.out (by omega) hcc
      have HSK2 : Hid (∀ V, Below wr.heap.size wr V → Calls Tryz.prog 24 #[.agg #[.slice Am m.length cm], .int .i64 known, .slice Ac col.length cc] V (SkEnd (cntL l known) col V)) := fun V hV => by
        have h := strokes_any m Am cm known col Ac cc V (hKb.out.below hV).ls hmok hml (HC.out V (hBwr.trans (hV.mono hBwr.size))) HSZ.out (by omega) hcc
        rw [hLQ] at h; exact h
      have HO1 : Hid (∀ V, Below wr.heap.size wr V → Calls Tryz.prog 31 #[.agg #[.slice A l.length c], .int .i64 known, .string x, .string y] V (BarE (barL (cntL l known) 4 x y false) V)) := fun V hV => mayOver_any l A c known x y V (HL.out V (hBwr.trans (hV.mono hBwr.size))) hO1.out hnl (by omega) (by omega)
      have HO2 : Hid (∀ V, Below wr.heap.size wr V → Calls Tryz.prog 31 #[.agg #[.slice Am m.length cm], .int .i64 known, .string x, .string y] V (BarE (barL (cntL l known) 4 x y false) V)) := fun V hV => by
        have h := mayOver_any m Am cm known x y V (hKb.out.below hV).ls hmok hml (by omega) (by omega)
        rw [hLQ] at h; exact h
      have HB1 : Hid (∀ V, Below wr.heap.size wr V → Calls Tryz.prog 29 #[.agg #[.slice A l.length c], .int .i64 known, .string x, .string y] V (BarE (barL (cntL l known) 3 x y true) V)) := fun V hV => mayBeside_any l A c known x y V (HL.out V (hBwr.trans (hV.mono hBwr.size))) hO1.out hnl (by omega) (by omega)
      have HB2 : Hid (∀ V, Below wr.heap.size wr V → Calls Tryz.prog 29 #[.agg #[.slice Am m.length cm], .int .i64 known, .string x, .string y] V (BarE (barL (cntL l known) 3 x y true) V)) := fun V hV => by
        have h := mayBeside_any m Am cm known x y V (hKb.out.below hV).ls hmok hml (by omega) (by omega)
        rw [hLQ] at h; exact h
      have HT1 : Hid (∀ V, Below wr.heap.size wr V → Calls Tryz.prog 25 #[.agg #[.slice A l.length c], .int .i64 known, .string x] V (U8End (stt (cntL l known) x) V)) := fun V hV => State_any l A c known x V (HL.out V (hBwr.trans (hV.mono hBwr.size))) hO1.out hnl (by omega)
      have HT2 : Hid (∀ V, Below wr.heap.size wr V → Calls Tryz.prog 25 #[.agg #[.slice Am m.length cm], .int .i64 known, .string x] V (U8End (stt (cntL l known) x) V)) := fun V hV => by
        have h := State_any m Am cm known x V (hKb.out.below hV).ls hmok hml (by omega)
        rw [hLQ] at h; exact h
      have HRR : Hid (∀ V, Below wr.heap.size wr V → Calls Tryz.prog 17 #[] V (fun e w' => e = .returned (.bool true) ∧ Below V.heap.size V w')) := fun V hV => HR.out V (hBwr.trans (hV.mono hBwr.size))
      have HWF : Hid (Below b0 w wr) := HW.out.trans (hBwr.mono (by have := HW.out.size; omega))
      have hBr : Below wr.heap.size wr wr := Below.refl _ _
      obtain ⟨ya, yb⟩ := HYY.out wr hBr
      clear hLQ hLB hKb HY HL HLL HC HR HW hBwr hO1 hltw hmok hml hnl HLEN HSZ
      generalize cntL l known = L at *
      unfold SkEnd at HSK1 HSK2
      generalize barL L 4 x y false = P4 at *
      generalize barL L 3 x y true = P3 at *
      obtain ⟨p4, i4⟩ := P4
      obtain ⟨p3, i3⟩ := P3
      have HN := Lib.hid (sttI L x)
      generalize stt L x = N at *
      have hlen1 := skF_le L col 1
      have hlen2 := skF_le L col 2
      go_upto_region 15 with (first | (go_at_call 24; refine (HSK1.out _ (by assumption)).mono ?_; rintro e v1 ⟨A1, c1, A2, c2, rfl, l1, l2, hb⟩; have hBv1 : Below wr.heap.size wr v1 := Below.trans (by assumption) (hb.mono (Below.size (by assumption))); obtain ⟨ya1, yb1⟩ := HYY.out v1 hBv1; clear hb))
      have n1 := Lib.hid l1
      have n2 := Lib.hid l2
      clear l1 l2 HSK1
      go_upto_region 16 with (first | (go_at_call 24; refine (HSK2.out _ (by assumption)).mono ?_; rintro e v2 ⟨A3, c3, A4, c4, rfl, l1, l2, hb⟩; have hBv2 : Below wr.heap.size wr v2 := Below.trans (by assumption) (hb.mono (Below.size (by assumption))); obtain ⟨ya2, yb2⟩ := HYY.out v2 hBv2; replace n1 := Lib.hid (lies_on n1.out hb); replace n2 := Lib.hid (lies_on n2.out hb); clear hb))
      have n3 := Lib.hid l1
      have n4 := Lib.hid l2
      clear l1 l2 HSK2
      have HQ1 : Hid (∀ V, Below v2.heap.size v2 V → Calls Tryz.prog 40 #[.slice A1 (skF L col 1).length c1, .slice A3 (skF L col 1).length c3] V (ShEnd true V)) := fun V hV => by
        have h := sameStrs_any (skF L col 1) (skF L col 1) A1 A3 c1 c3 V (lies_on n1.out hV) (lies_on n3.out hV) (by omega) (by omega)
        unfold sameS at h; rw [decide_eq_true rfl] at h; exact h
      have HQ2 : Hid (∀ V, Below v2.heap.size v2 V → Calls Tryz.prog 40 #[.slice A2 (skF L col 2).length c2, .slice A4 (skF L col 2).length c4] V (ShEnd true V)) := fun V hV => by
        have h := sameStrs_any (skF L col 2) (skF L col 2) A2 A4 c2 c4 V (lies_on n2.out hV) (lies_on n4.out hV) (by omega) (by omega)
        unfold sameS at h; rw [decide_eq_true rfl] at h; exact h
      clear n1 n2 n3 n4
      have HYZ := Lib.hid (fun V (hV : Below v2.heap.size v2 V) => HYY.out V (hBv2.trans (hV.mono hBv2.size)))
      have HO1 := Lib.hid (fun V (hV : Below v2.heap.size v2 V) => HO1.out V (hBv2.trans (hV.mono hBv2.size)))
      have HO2 := Lib.hid (fun V (hV : Below v2.heap.size v2 V) => HO2.out V (hBv2.trans (hV.mono hBv2.size)))
      have HB1 := Lib.hid (fun V (hV : Below v2.heap.size v2 V) => HB1.out V (hBv2.trans (hV.mono hBv2.size)))
      have HB2 := Lib.hid (fun V (hV : Below v2.heap.size v2 V) => HB2.out V (hBv2.trans (hV.mono hBv2.size)))
      have HT1 := Lib.hid (fun V (hV : Below v2.heap.size v2 V) => HT1.out V (hBv2.trans (hV.mono hBv2.size)))
      have HT2 := Lib.hid (fun V (hV : Below v2.heap.size v2 V) => HT2.out V (hBv2.trans (hV.mono hBv2.size)))
      have HRR := Lib.hid (fun V (hV : Below v2.heap.size v2 V) => HRR.out V (hBv2.trans (hV.mono hBv2.size)))
      have HWF : Hid (Below b0 w v2) := HWF.out.trans (hBv2.mono (by have := HWF.out.size; omega))
      have hBq : Below v2.heap.size v2 v2 := Below.refl _ _
      clear HYY hBv1 hBv2 hBr ya yb ya1 yb1
      generalize skE L col = E at *
      generalize (skF L col 1).length = m1 at *
      generalize (skF L col 2).length = m2 at *
      go_upto_region 17 with (first | (go_at_call 31; refine (HO1.out _ (by assumption)).mono ?_; rintro e v3 ⟨rfl, hb⟩; have hBv3 : Below v2.heap.size v2 v3 := Below.trans (by assumption) (hb.mono (Below.size (by assumption))); obtain ⟨ya3, yb3⟩ := HYZ.out v3 hBv3; clear hb))
      go_upto_region 18 with (first | (go_at_call 31; refine (HO2.out _ (by assumption)).mono ?_; rintro e v4 ⟨rfl, hb⟩; have hBv4 : Below v2.heap.size v2 v4 := Below.trans (by assumption) (hb.mono (Below.size (by assumption))); obtain ⟨ya4, yb4⟩ := HYZ.out v4 hBv4; clear hb))
      go_upto_region 19 with (first | (go_at_call 29; refine (HB1.out _ (by assumption)).mono ?_; rintro e v5 ⟨rfl, hb⟩; have hBv5 : Below v2.heap.size v2 v5 := Below.trans (by assumption) (hb.mono (Below.size (by assumption))); obtain ⟨ya5, yb5⟩ := HYZ.out v5 hBv5; clear hb))
      go_upto_region 20 with (first | (go_at_call 29; refine (HB2.out _ (by assumption)).mono ?_; rintro e v6 ⟨rfl, hb⟩; have hBv6 : Below v2.heap.size v2 v6 := Below.trans (by assumption) (hb.mono (Below.size (by assumption))); clear hb))
      clear HO1 HO2 HB1 HB2 ya2 yb2 ya3 yb3 ya4 yb4 ya5 yb5 hBv3 hBv4 hBv5 hBq
      have e1 : (E == E) = true := by simp
      have e2 : (p4 == p4) = true := by simp
      have e3 : (i4 == i4) = true := by simp
      have e4 : (p3 == p3) = true := by simp
      have e5 : (i3 == i3) = true := by simp
      have e6 : ((N : Int) == (N : Int)) = true := by simp
      refine wp_region_held_drew (S := fun V => V.cell? ⟨b0, 0, none⟩ = some (.slice A l.length c) ∧ V.cell? ⟨w2.heap.size, 0, none⟩ = some (.slice Am m.length cm)) (by kernel_rfl) ?_ (fun hHeld => ?_)
      · exact HYZ.out _ hBv6.drew
      have hBd : Below v2.heap.size v2 v6.drew := hBv6.drew
      (refine held_call 0 (some 157) 17 _ rfl (by kernel_rfl) (by rfl) ?_ ((HRR.out _ hBd)) ?_; rotate_left; rotate_left; (simp only [List.getElem?_toArray, List.getElem?_cons_zero, List.getElem?_cons_succ, Option.map_some]; refine congrArg some ?_; go_simp))
      rintro e u1 ⟨rfl, hb⟩
      have hBu1 : Below v2.heap.size v2 u1 := hBd.trans (hb.mono hBd.size)
      clear hb
      refine ⟨_, rfl, HYZ.out _ hBu1, fun hHeld => ?_⟩
      (try simp only [Act.put, List.setIfInBounds_toArray, List.set_cons_zero, List.set_cons_succ])
      refine tk 1 158 ?_
      refine tk 2 159 ?_
      refine tk 3 160 ?_
      refine tk 4 161 ?_
      refine tk 5 162 ?_
      refine tk 6 163 ?_
      refine tk 7 164 ?_
      refine tk 8 165 ?_
      refine tk 9 166 ?_
      refine tk 10 167 ?_
      refine tk 11 168 ?_
      refine tk 12 169 ?_
      refine tk 13 170 ?_
      refine tk 14 171 ?_
      refine tk 15 172 ?_
      refine tk 16 173 ?_
      refine tk 17 174 ?_
      refine tk 18 175 ?_
      refine tk 19 176 ?_
      refine tk 20 177 ?_
      refine tk 21 178 ?_
      refine tk 22 179 ?_
      refine tk 23 180 ?_
      refine tk 24 181 ?_
      refine tk 25 182 ?_
      refine tk 26 183 ?_
      refine tk 27 184 ?_
      refine tk 28 185 ?_
      refine tk 29 186 ?_
      refine tk 31 188 ?_
      refine tk 32 189 ?_
      refine tk 33 190 ?_
      (refine held_call 30 (some 187) 25 _ rfl (by kernel_rfl) (by rfl) ?_ ((HT1.out _ hBu1)) ?_; rotate_left; rotate_left; (simp only [List.getElem?_toArray, List.getElem?_cons_zero, List.getElem?_cons_succ, Option.map_some]; refine congrArg some ?_; go_simp))
      rintro e u2 ⟨rfl, hb⟩
      have hBu2 : Below v2.heap.size v2 u2 := hBu1.trans (hb.mono hBu1.size)
      clear hb
      refine ⟨_, rfl, HYZ.out _ hBu2, fun hHeld => ?_⟩
      (try simp only [Act.put, List.setIfInBounds_toArray, List.set_cons_zero, List.set_cons_succ])
      (refine held_call 34 (some 191) 25 _ rfl (by kernel_rfl) (by rfl) ?_ ((HT2.out _ hBu2)) ?_; rotate_left; rotate_left; (simp only [List.getElem?_toArray, List.getElem?_cons_zero, List.getElem?_cons_succ, Option.map_some]; refine congrArg some ?_; go_simp))
      rintro e u3 ⟨rfl, hb⟩
      have hBu3 : Below v2.heap.size v2 u3 := hBu2.trans (hb.mono hBu2.size)
      clear hb
      refine ⟨_, rfl, HYZ.out _ hBu3, fun hHeld => ?_⟩
      (try simp only [Act.put, List.setIfInBounds_toArray, List.set_cons_zero, List.set_cons_succ])
      refine tk 35 192 ?_
      refine tk 36 193 ?_
      refine tk 37 194 ?_
      refine tk 38 195 ?_
      refine tk 39 196 ?_
      (refine held_call 40 (some 197) 40 _ rfl (by kernel_rfl) (by rfl) ?_ ((HQ1.out _ hBu3)) ?_; rotate_left; rotate_left; (simp only [List.getElem?_toArray, List.getElem?_cons_zero, List.getElem?_cons_succ, Option.map_some]; refine congrArg some ?_; go_simp))
      rintro e u4 ⟨rfl, hb⟩
      have hBu4 : Below v2.heap.size v2 u4 := hBu3.trans (hb.mono hBu3.size)
      clear hb
      refine ⟨_, rfl, HYZ.out _ hBu4, fun hHeld => ?_⟩
      (try simp only [Act.put, List.setIfInBounds_toArray, List.set_cons_zero, List.set_cons_succ])
      refine tk 41 198 ?_
      refine tk 42 199 ?_
      refine tk 43 200 ?_
      refine tk 44 201 ?_
      (refine held_call 45 (some 202) 40 _ rfl (by kernel_rfl) (by rfl) ?_ ((HQ2.out _ hBu4)) ?_; rotate_left; rotate_left; (simp only [List.getElem?_toArray, List.getElem?_cons_zero, List.getElem?_cons_succ, Option.map_some]; refine congrArg some ?_; go_simp))
      rintro e u5 ⟨rfl, hb⟩
      have hBu5 : Below v2.heap.size v2 u5 := hBu4.trans (hb.mono hBu4.size)
      clear hb
      refine ⟨_, rfl, HYZ.out _ hBu5, fun hHeld => ?_⟩
      (try simp only [Act.put, List.setIfInBounds_toArray, List.set_cons_zero, List.set_cons_succ])
      refine tk 46 203 ?_
      refine tk 47 12 ?_
      refine wpAnyH_done (by kernel_rfl) ?_ _
      go_wp2
      go_ret
      subst hb0
      exact ⟨rfl, HWF.out.trans (hBu5.mono (by have := HWF.out.size; omega))⟩
end Go.Proofs.YtkfeagokmcakgaaGreatDoor
