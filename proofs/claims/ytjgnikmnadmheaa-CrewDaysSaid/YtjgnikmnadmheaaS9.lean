/- crew.suits, for right yards and tasks. Printed by wip/gen_s9.py. -/
import Derived.Test.YtjgnikmnadmheaaS8
namespace Go.Proofs.Ytjgnikmnadmheaa
open Go.RowKit

set_option maxRecDepth 100000 in
set_option maxHeartbeats 1000000 in
theorem suits_any (C : Array Value) (Y : Yd) (l : List Tk) (A : Option Addr) (c : Nat) (i : Nat) (d : Int) (w : World) (hY : YardAt w w.heap.size C Y) (hv : Valid Y) (hT : TasksAt w w.heap.size A l) (hl : l.length ≤ 1000) (hi : i < l.length) :
    Calls Try.prog 97 #[.agg C, .slice A l.length c, .int .i64 i, .int .i64 d] w (ShEnd (suitB Y l[i] i d) w) := by
  have hi0 : (0 : Int) ≤ (i : Int) := by omega
  have hi1 : (i : Int) < (l.length : Int) := by omega
  obtain ⟨ad, hA, hadb, c0, c1, c2, c3⟩ := task_at hT.at_ hi
  subst hA
  have hadb' : (ad.add (i * 4)).block < w.heap.size := by rw [add_block]; exact hadb
  have HYA := Lib.hid (fun W (hb : Below w.heap.size w W) => (hY.below hb (Nat.le_refl _)).more hb.size)
  have HV := Lib.hid hv
  have HN := Lib.hid (fun k (hk : k < 4) (h : condN Y l[i] i d k = false) => show Hid (suitB Y l[i] i d = false) from suitB_no hk h)
  have HS := Lib.hid (fun (h : ∀ k, k < 4 → condN Y l[i] i d k = true) => show Hid (suitB Y l[i] i d = true) from suitB_yes h)
  clear hY hv hT
  generalize hq : suitB Y l[i] i d = q at *
  have HQ := Lib.hid hq; clear hq
  generalize l[i] = t at *
  obtain ⟨wk, nd, aA, ac, af, cA, cc, co⟩ := t
  try dsimp only at *
  have hb3 : Below w.heap.size w (((w.alloc (.cells C 29)).alloc (.cells #[.int .i64 i] 3)).alloc (.cells #[.int .i64 d] 3)) := by exact (by repeat (first | with_reducible exact Below.refl _ _ | with_reducible assumption | with_reducible refine Below.drew ?_ | with_reducible refine below_drewN ?_ _ | (with_reducible refine Below.alloc ?_ ?_ _; rotate_left; (try simp) <;> omega) | (with_reducible refine Below.setCell ?_ ?_ _; rotate_left; (try simp) <;> omega)))
  have y0 := (hb3.cell (p := ad.add (i * 4)) hadb').trans c0
  have y1 := (hb3.cell (p := ⟨(ad.add (i * 4)).block, (ad.add (i * 4)).off + 1, none⟩) hadb').trans c1
  have y2 := (hb3.cell (p := ⟨(ad.add (i * 4)).block, (ad.add (i * 4)).off + 2, none⟩) hadb').trans c2
  have y3 := (hb3.cell (p := ⟨(ad.add (i * 4)).block, (ad.add (i * 4)).off + 3, none⟩) hadb').trans c3
  clear c0 c1 c2 c3 hb3
  go_enter Try.func97, Try.ntmps97
  go_upto_region 4 with fail
  have k0 : Bk (((((w.alloc (.cells C 29)).alloc (.cells #[.int .i64 i] 3)).alloc (.cells #[.int .i64 d] 3)).alloc (.cells #[.int .i64 wk, .int .i64 nd, .slice aA af.length ac, .slice cA co.length cc] 48)).alloc (.cells #[fnOfK w.heap.size 0, fnOfK w.heap.size 1, fnOfK w.heap.size 2, fnOfK w.heap.size 3] 32)) w.heap.size 29 C := ((((Bk.new _ _ _).alloc _).alloc _).alloc _).alloc _
  have k1 : Bk (((((w.alloc (.cells C 29)).alloc (.cells #[.int .i64 i] 3)).alloc (.cells #[.int .i64 d] 3)).alloc (.cells #[.int .i64 wk, .int .i64 nd, .slice aA af.length ac, .slice cA co.length cc] 48)).alloc (.cells #[fnOfK w.heap.size 0, fnOfK w.heap.size 1, fnOfK w.heap.size 2, fnOfK w.heap.size 3] 32)) (w.heap.size + 1) 3 #[.int .i64 i] := (((by simpa using Bk.new (w.alloc (.cells C 29)) 3 #[.int .i64 i] : Bk ((w.alloc (.cells C 29)).alloc (.cells #[.int .i64 i] 3)) (w.heap.size + 1) 3 #[.int .i64 i]).alloc _).alloc _).alloc _
  have k2 : Bk (((((w.alloc (.cells C 29)).alloc (.cells #[.int .i64 i] 3)).alloc (.cells #[.int .i64 d] 3)).alloc (.cells #[.int .i64 wk, .int .i64 nd, .slice aA af.length ac, .slice cA co.length cc] 48)).alloc (.cells #[fnOfK w.heap.size 0, fnOfK w.heap.size 1, fnOfK w.heap.size 2, fnOfK w.heap.size 3] 32)) (w.heap.size + 1 + 1) 3 #[.int .i64 d] := ((by simpa using Bk.new ((w.alloc (.cells C 29)).alloc (.cells #[.int .i64 i] 3)) 3 #[.int .i64 d] : Bk (((w.alloc (.cells C 29)).alloc (.cells #[.int .i64 i] 3)).alloc (.cells #[.int .i64 d] 3)) (w.heap.size + 1 + 1) 3 #[.int .i64 d]).alloc _).alloc _
  have k3 : Bk (((((w.alloc (.cells C 29)).alloc (.cells #[.int .i64 i] 3)).alloc (.cells #[.int .i64 d] 3)).alloc (.cells #[.int .i64 wk, .int .i64 nd, .slice aA af.length ac, .slice cA co.length cc] 48)).alloc (.cells #[fnOfK w.heap.size 0, fnOfK w.heap.size 1, fnOfK w.heap.size 2, fnOfK w.heap.size 3] 32)) (w.heap.size + 1 + 1 + 1) 48 #[.int .i64 wk, .int .i64 nd, .slice aA af.length ac, .slice cA co.length cc] := (by simpa using Bk.new (((w.alloc (.cells C 29)).alloc (.cells #[.int .i64 i] 3)).alloc (.cells #[.int .i64 d] 3)) 48 #[.int .i64 wk, .int .i64 nd, .slice aA af.length ac, .slice cA co.length cc] : Bk ((((w.alloc (.cells C 29)).alloc (.cells #[.int .i64 i] 3)).alloc (.cells #[.int .i64 d] 3)).alloc (.cells #[.int .i64 wk, .int .i64 nd, .slice aA af.length ac, .slice cA co.length cc] 48)) (w.heap.size + 1 + 1 + 1) 48 #[.int .i64 wk, .int .i64 nd, .slice aA af.length ac, .slice cA co.length cc]).alloc _
  have k4 : Bk (((((w.alloc (.cells C 29)).alloc (.cells #[.int .i64 i] 3)).alloc (.cells #[.int .i64 d] 3)).alloc (.cells #[.int .i64 wk, .int .i64 nd, .slice aA af.length ac, .slice cA co.length cc] 48)).alloc (.cells #[fnOfK w.heap.size 0, fnOfK w.heap.size 1, fnOfK w.heap.size 2, fnOfK w.heap.size 3] 32)) (w.heap.size + 1 + 1 + 1 + 1) 32 #[fnOfK w.heap.size 0, fnOfK w.heap.size 1, fnOfK w.heap.size 2, fnOfK w.heap.size 3] := by simpa using Bk.new ((((w.alloc (.cells C 29)).alloc (.cells #[.int .i64 i] 3)).alloc (.cells #[.int .i64 d] 3)).alloc (.cells #[.int .i64 wk, .int .i64 nd, .slice aA af.length ac, .slice cA co.length cc] 48)) 32 #[fnOfK w.heap.size 0, fnOfK w.heap.size 1, fnOfK w.heap.size 2, fnOfK w.heap.size 3]
  have hbs : Below w.heap.size w (((((w.alloc (.cells C 29)).alloc (.cells #[.int .i64 i] 3)).alloc (.cells #[.int .i64 d] 3)).alloc (.cells #[.int .i64 wk, .int .i64 nd, .slice aA af.length ac, .slice cA co.length cc] 48)).alloc (.cells #[fnOfK w.heap.size 0, fnOfK w.heap.size 1, fnOfK w.heap.size 2, fnOfK w.heap.size 3] 32)) := by exact (by repeat (first | with_reducible exact Below.refl _ _ | with_reducible assumption | with_reducible refine Below.drew ?_ | with_reducible refine below_drewN ?_ _ | (with_reducible refine Below.alloc ?_ ?_ _; rotate_left; (try simp) <;> omega) | (with_reducible refine Below.setCell ?_ ?_ _; rotate_left; (try simp) <;> omega)))
  go_loopw [24] (fun y wr => ∃ k : Nat, k ≤ 4 ∧ y = .int .i64 k ∧ Hid (∀ j, j < k → condN Y ⟨wk, nd, aA, ac, af, cA, cc, co⟩ i d j = true) ∧ Below w.heap.size w wr ∧ (Bk wr w.heap.size 29 C ∧ Bk wr (w.heap.size + 1) 3 #[.int .i64 i] ∧ Bk wr (w.heap.size + 1 + 1) 3 #[.int .i64 d] ∧ Bk wr (w.heap.size + 1 + 1 + 1) 48 #[.int .i64 wk, .int .i64 nd, .slice aA af.length ac, .slice cA co.length cc] ∧ Bk wr (w.heap.size + 1 + 1 + 1 + 1) 32 #[fnOfK w.heap.size 0, fnOfK w.heap.size 1, fnOfK w.heap.size 2, fnOfK w.heap.size 3])) (fun y _ => 4 - (intOf y).toNat)
  case atStart => exact ⟨0, by omega, rfl, fun j hj => absurd hj (by omega), hbs, k0, k1, k2, k3, k4⟩
  case round =>
  clear k0 k1 k2 k3 k4 hbs y0 y1 y2 y3
  obtain ⟨k, hk, rfl, hg, hbw, b0, b1, b2, b3, b4⟩ := hrel
  have hz := hbw.size
  have hl4 := b4.lt
  have HC1 := Lib.hid (cond1_any C Y d w.heap.size (w.heap.size + 1 + 1) wr (HYA.out wr hbw) HV.out b0 (b2.cell 0 rfl))
  have HC2 := Lib.hid (cond2_any C Y d wk w.heap.size (w.heap.size + 1 + 1) (w.heap.size + 1 + 1 + 1) wr (HYA.out wr hbw) HV.out b0 (b2.cell 0 rfl) (b3.cell 0 rfl))
  have HC3 := Lib.hid (cond3_any C Y d i w.heap.size (w.heap.size + 1 + 1) (w.heap.size + 1) wr (by omega) (HYA.out wr hbw) HV.out b0 (b2.cell 0 rfl) (b1.cell 0 rfl))
  have HC4 := Lib.hid (cond4_any C Y d nd w.heap.size (w.heap.size + 1 + 1) (w.heap.size + 1 + 1 + 1) wr (HYA.out wr hbw) HV.out b0 (b2.cell 0 rfl) (b3.cell 1 rfl))
  have hcases : k = 0 ∨ k = 1 ∨ k = 2 ∨ k = 3 ∨ k = 4 := by omega
  have HG : Hid (condN Y ⟨wk, nd, aA, ac, af, cA, cc, co⟩ i d k = true → Hid (∀ j, j < k + 1 → condN Y ⟨wk, nd, aA, ac, af, cA, cc, co⟩ i d j = true)) := fun h j hj => by
    by_cases e : j = k
    · subst e; exact h
    · exact hg.out j (by omega)
  have HNk : Hid (k < 4 → condN Y ⟨wk, nd, aA, ac, af, cA, cc, co⟩ i d k = false → Hid (q = false)) := fun hk h => HN.out k hk h
  have HS4 : Hid (k = 4 → Hid (q = true)) := fun e => HS.out (fun j hj => hg.out j (by omega))
  clear hg HN HS hk
  rcases hcases with rfl | rfl | rfl | rfl | rfl
  · have x0 := b4.cell 0 rfl
    unfold fnOfK at x0
    have HGk := HG.out
    have HNk' := HNk.out (by omega)
    have HCk := HC1
    clear HC1 HC2 HC3 HC4 HG HNk HS4
    cases hc : (openB Y d) with
    | false =>
      have H := HNk' hc
      rw [hc] at HCk
      have HX := Lib.hid hc; clear hc HGk HNk'
      go_wp2_with (go_at_call 124; refine HCk.out.mono ?_; rintro e w1 ⟨rfl, hb⟩; have hB1 : Below w.heap.size w w1 := hbw.trans (hb.mono hz))
      go_ret
      exact sh_ret H.out.symm hB1
    | true =>
      have H := HGk hc
      rw [hc] at HCk
      have HX := Lib.hid hc; clear hc HGk HNk'
      go_wp2_with (go_at_call 124; refine HCk.out.mono ?_; rintro e w1 ⟨rfl, hb⟩; have hB1 : Below w.heap.size w w1 := hbw.trans (hb.mono hz))
      go_roundw
      case rel => exact ⟨1, by omega, by first | rfl | go_num, H, hB1, b0.below hb b0.lt, b1.below hb b1.lt, b2.below hb b2.lt, b3.below hb b3.lt, b4.below hb b4.lt⟩
      case measure => simp [intOf]
  · have x1 := b4.cell 1 rfl
    unfold fnOfK at x1
    have HGk := HG.out
    have HNk' := HNk.out (by omega)
    have HCk := HC2
    clear HC1 HC2 HC3 HC4 HG HNk HS4
    cases hc : (decide (wk ≤ minOf Y d)) with
    | false =>
      have H := HNk' hc
      rw [hc] at HCk
      have HX := Lib.hid hc; clear hc HGk HNk'
      go_wp2_with (go_at_call 125; refine HCk.out.mono ?_; rintro e w1 ⟨rfl, hb⟩; have hB1 : Below w.heap.size w w1 := hbw.trans (hb.mono hz))
      go_ret
      exact sh_ret H.out.symm hB1
    | true =>
      have H := HGk hc
      rw [hc] at HCk
      have HX := Lib.hid hc; clear hc HGk HNk'
      go_wp2_with (go_at_call 125; refine HCk.out.mono ?_; rintro e w1 ⟨rfl, hb⟩; have hB1 : Below w.heap.size w w1 := hbw.trans (hb.mono hz))
      go_roundw
      case rel => exact ⟨2, by omega, by first | rfl | go_num, H, hB1, b0.below hb b0.lt, b1.below hb b1.lt, b2.below hb b2.lt, b3.below hb b3.lt, b4.below hb b4.lt⟩
      case measure => simp [intOf]
  · have x2 := b4.cell 2 rfl
    unfold fnOfK at x2
    have HGk := HG.out
    have HNk' := HNk.out (by omega)
    have HCk := HC3
    clear HC1 HC2 HC3 HC4 HG HNk HS4
    cases hc : (decide ((i : Int) + 1 ≤ batOf Y.pi d)) with
    | false =>
      have H := HNk' hc
      rw [hc] at HCk
      have HX := Lib.hid hc; clear hc HGk HNk'
      go_wp2_with (go_at_call 126; refine HCk.out.mono ?_; rintro e w1 ⟨rfl, hb⟩; have hB1 : Below w.heap.size w w1 := hbw.trans (hb.mono hz))
      go_ret
      exact sh_ret H.out.symm hB1
    | true =>
      have H := HGk hc
      rw [hc] at HCk
      have HX := Lib.hid hc; clear hc HGk HNk'
      go_wp2_with (go_at_call 126; refine HCk.out.mono ?_; rintro e w1 ⟨rfl, hb⟩; have hB1 : Below w.heap.size w w1 := hbw.trans (hb.mono hz))
      go_roundw
      case rel => exact ⟨3, by omega, by first | rfl | go_num, H, hB1, b0.below hb b0.lt, b1.below hb b1.lt, b2.below hb b2.lt, b3.below hb b3.lt, b4.below hb b4.lt⟩
      case measure => simp [intOf]
  · have x3 := b4.cell 3 rfl
    unfold fnOfK at x3
    have HGk := HG.out
    have HNk' := HNk.out (by omega)
    have HCk := HC4
    clear HC1 HC2 HC3 HC4 HG HNk HS4
    cases hc : (decide (0 < (skL Y.ma d nd).length)) with
    | false =>
      have H := HNk' hc
      rw [hc] at HCk
      have HX := Lib.hid hc; clear hc HGk HNk'
      go_wp2_with (go_at_call 127; refine HCk.out.mono ?_; rintro e w1 ⟨rfl, hb⟩; have hB1 : Below w.heap.size w w1 := hbw.trans (hb.mono hz))
      go_ret
      exact sh_ret H.out.symm hB1
    | true =>
      have H := HGk hc
      rw [hc] at HCk
      have HX := Lib.hid hc; clear hc HGk HNk'
      go_wp2_with (go_at_call 127; refine HCk.out.mono ?_; rintro e w1 ⟨rfl, hb⟩; have hB1 : Below w.heap.size w w1 := hbw.trans (hb.mono hz))
      go_roundw
      case rel => exact ⟨4, by omega, by first | rfl | go_num, H, hB1, b0.below hb b0.lt, b1.below hb b1.lt, b2.below hb b2.lt, b3.below hb b3.lt, b4.below hb b4.lt⟩
      case measure => simp [intOf]
  · have H := HS4.out rfl
    clear HC1 HC2 HC3 HC4 HG HNk HS4
    go_wp2
    go_ret
    exact sh_ret H.out.symm hbw
end Go.Proofs.Ytjgnikmnadmheaa
