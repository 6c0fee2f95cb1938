/- crew's earliest where some days are fixed. Printed by wip/gen_z4.py. -/
import Derived.Test.YtjgnikmnadmheaaG02
import Derived.Test.YtjgnikmnadmheaaG07
import Derived.Test.YtjgnikmnadmheaaG61
import Derived.Test.YtjgnikmnadmheaaG62
import Derived.Test.YtjgnikmnadmheaaG64
import Derived.Test.YtjgnikmnadmheaaG65
import Derived.Test.YtjgnikmnadmheaaG81

namespace Go.Proofs.Ytjgnikmnadmheaa
open Go.RowKit

set_option maxRecDepth 100000 in
set_option maxHeartbeats 4000000 in
theorem earliest_fix (bj : Nat) (C : Array Value) (Y : Yd) (l : List Tk) (A : Option Addr) (c : Nat) (f : Int) (days : List Int) (D : Option Addr) (cd : Nat) (bm n sz : Nat) (g : Int → Option Int) (w : World) (hj : JobAt w w.heap.size bj C Y l A c f) (hv : Valid Y) (ht : ValidT l) (hm : tame l) (hf : 0 ≤ f ∧ f ≤ 100000)
    (hD : Lies w w.heap.size D (ints days)) (hn : days.length ≤ l.length) (hd : ∀ x ∈ days, -1000 ≤ x ∧ x ≤ 200000) (hM : MapC w bm n sz g) :
    Calls Try.prog 83 #[.pointer (some ⟨bj, 0, none⟩), .slice D days.length cd, .map (some bm)] w (EstEnd (est Y l f (fun i => g (i : Int)) (l.length - days.length) days) w) := by
  have hlj := hj.lt
  have hl12 := ht.n
  have hlm := hM.lt
  have HJ := Lib.hid (fun W (hb : Below w.heap.size w W) => (hj.below hb (Nat.le_refl _)))
  have HCL := Lib.hid (clone_ints days D cd w hD (by omega))
  have HLO : Hid (∀ W : World, Below w.heap.size w W → ∀ (ds : List Int) (v : Value) (A2 : Option Addr) (c2 : Nat) (h : ds.length < l.length), W.ownsRow w.heap.size 3 1 (.slice A2 ds.length c2) ds.length (ints ds) → (∀ x ∈ ds, -1000 ≤ x ∧ x ≤ 200000) → Calls Try.prog 96 #[.pointer (some ⟨bj, 0, none⟩), .slice A2 ds.length c2] W (IntEnd (lowS Y.dry f l[ds.length].af ds) W)) :=
    fun W hb ds v A2 c2 h ho hx => lower_any bj C Y l A c f ds A2 c2 W ((hj.below hb (Nat.le_refl _)).more hb.size) hv ht hm hf (ownsRow_lies ho) h hx
  have HFI : Hid (∀ W : World, Below w.heap.size w W → ∀ (ds : List Int) (h : ds.length < l.length) (d : Int), 0 ≤ d ∧ d ≤ 1000000 → Calls Try.prog 117 #[.pointer (some ⟨bj, 0, none⟩), .int .i64 ds.length, .int .i64 d] W (FirstEnd (suitK Y l[ds.length] ds.length d (f + 400 - d).toNat) W)) :=
    fun W hb ds h d hd => first_any bj C Y l A c ds.length f d W ((hj.below hb (Nat.le_refl _)).more hb.size) hv hm.1 h hf hd
  have HSU : Hid (∀ W : World, Below w.heap.size w W → ∀ (ds : List Int) (h : ds.length < l.length) (d : Int), Calls Try.prog 97 #[.agg C, .slice A l.length c, .int .i64 ds.length, .int .i64 d] W (ShEnd (suitB Y l[ds.length] ds.length d) W)) :=
    fun W hb ds h d => suits_any C Y l A c ds.length d W ((hj.yat.below hb (Nat.le_refl _)).more hb.size) hv ((hj.tat.below hb (Nat.le_refl _)).more hb.size) hm.1 h
  have HUN : Hid (∀ W : World, Below w.heap.size w W → Calls Try.prog 95 #[.pointer (some ⟨bj, 0, none⟩)] W fun e w' => e = .returned (.int .i64 (f + 400)) ∧ W = w') := fun W hb => until_any bj f W (hj.below hb (Nat.le_refl _)).from_ (by omega)
  have HML := Lib.hid (fun W (hb : Below w.heap.size w W) => hM.below hb hlm)
  have HLB : Hid (∀ (ds : List Int) (h : ds.length < l.length), (∀ x ∈ ds, -1000 ≤ x ∧ x ≤ 200000) → f ≤ lowS Y.dry f l[ds.length].af ds ∧ lowS Y.dry f l[ds.length].af ds ≤ 200031) := fun ds h hx => lowK_bd hf hv.dry hx _ (Nat.le_refl _)
  have c28 := hj.tasks
  have hu29 := Try.underlying29
  have h28 : C.toList.length = 28 := hj.yat.len
  have hi29 : (Try.prog.info? 29).map (·.size) = some C.toList.length := by rw [h28]; exact info29
  clear h28
  have HB := Lib.hid hd
  generalize hE : est Y l f (fun i => g (i : Int)) (l.length - days.length) days = E at *
  have HE := Lib.hid hE
  obtain ⟨i0, hi0, hz0, hz1, hz2⟩ := info_parts info3
  have I3 := Lib.hid (And.intro hi0 (And.intro hz0 (And.intro hz1 hz2))); clear hi0 hz0 hz1 hz2
  clear hj hv ht hm hD hd hE hM
  have hlI : (l.length : Int) ≤ 12 := by omega
  go_enter Try.func83, Try.ntmps83
  go_wp2_with (go_at_call 78; refine HCL.out.mono ?_; rintro e w1 ⟨v1, rfl, ho1, hb1⟩; obtain ⟨A1, c1, rfl, _, _⟩ := ownsSlice ho1)
  go_loopw [1, 8] (fun v y wr => ∃ ds : List Int, days.length ≤ ds.length ∧ ds.length ≤ l.length ∧ y = .int .i64 ds.length ∧ wr.ownsRow w.heap.size 3 1 v ds.length (ints ds) ∧ Hid (est Y l f (fun i => g (i : Int)) (l.length - ds.length) ds = E) ∧ Hid (∀ x ∈ ds, -1000 ≤ x ∧ x ≤ 200000) ∧ Below w.heap.size w wr) (fun _ y _ => l.length - (intOf y).toNat)
  case atStart => exact ⟨days, Nat.le_refl _, hn, rfl, ho1, HE, HB, hb1⟩
  case round =>
  clear ho1 hb1
  obtain ⟨ds, hn1, hn2, rfl, hown, HEd, HBd, hbw⟩ := hrel
  obtain ⟨A2, c2, rfl, _, _⟩ := ownsSlice hown
  have hbs := hbw.size
  have b28 := (HJ.out wr hbw).tasks
  by_cases hlt : ds.length < l.length
  · have hltI : (ds.length : Int) < (l.length : Int) := by omega
    have hds0 : 0 ≤ (ds.length : Int) := by omega
    have HL1 := Lib.hid (HLO.out wr hbw ds (.slice A2 ds.length c2) A2 c2 hlt hown HBd.out)
    have hlb := HLB.out ds hlt HBd.out
    have HFI1 := Lib.hid (fun W hb => HFI.out W hb ds hlt)
    have HSU1 := Lib.hid (fun W hb => HSU.out W hb ds hlt)
    have HNL := Lib.hid (nextL_at (f := f) (Y := Y) hlt)
    have HNM := Lib.hid (fun x => nextL_mem (Y := Y) (f := f) (x := x) hlt)
    have HS1 := Lib.hid (fun d (h : stepE Y l f (fun i => g (i : Int)) ds = some d) => est_some hlt h)
    have HS0 := Lib.hid (fun (h : stepE Y l f (fun i => g (i : Int)) ds = none) => est_none hlt h)
    have HSF := Lib.hid (fun d (h : g (ds.length : Int) = some d) => stepE_fix (Y := Y) (f := f) (fx := fun i => g (i : Int)) hlt h)
    have HSE := Lib.hid (fun (h : g (ds.length : Int) = none) => stepE_free (Y := Y) (l := l) (f := f) (fx := fun i => g (i : Int)) h)
    have hiv : i64v (ds.length : Int) := by unfold i64v; omega
    generalize l[ds.length] = t at *
    generalize lowS Y.dry f t.af ds = low at *
    obtain ⟨hlb1, hlb2⟩ := hlb
    cases hg : g (ds.length : Int) with
    | none =>
      have HST := Lib.hid (HSE.out hg)
      have HLK : Hid (∀ W : World, Below w.heap.size w W → (Instr.lookup 108 (.map (some bm)) (.int .i64 (ds.length : Int)) true).run Try.prog W = .ok (.tuple #[.int .i64 0, .bool false]) W) := fun W hb => by
        have := (HML.out W hb).look_ok hiv
        rw [hg] at this
        exact this
      cases hN : nextL Y l f ds with
      | nil =>
        have HEE : Hid (E = none) := by
          show _ = _
          rw [← HEd.out]; exact HS0.out (by rw [HST.out, hN]; rfl)
        rw [hN] at HNL
        clear HS1 HS0 HST hN HNM hg HSF HSE HML HSU HUN HSU1
        go_wp2_with (first | (go_at_call 96; refine HL1.out.mono ?_; rintro e w3 ⟨rfl, hb3⟩; have hB3 : Below w.heap.size w w3 := hbw.trans (hb3.mono hbs); have b28' := (HJ.out w3 hB3).tasks; have byd := (HJ.out w3 hB3).yard; have hlk := HLK.out w3 hB3) | (go_at_call 117; refine (HFI1.out _ hB3 low (by omega)).mono ?_; rintro e w4 ⟨rfl, hb4⟩; rw [← HNL.out]; have hB4 : Below w.heap.size w w4 := hB3.trans (hb4.mono hB3.size); have hown4 := ownsRow_below hown (hb3.trans (hb4.mono hb3.size)) (Nat.le_refl _); have hz4 := hB4.size))
        go_ret2
        rw [HEE.out]
        exact ⟨rfl, hB4⟩
      | cons x r =>
        have hx := HNM.out x (by rw [hN]; exact List.mem_cons_self ..)
        have HSX : Hid (stepE Y l f (fun i => g (i : Int)) ds = some x) := by show _ = _; rw [HST.out, hN]; rfl
        have HEE : Hid (est Y l f (fun i => g (i : Int)) (l.length - (ds ++ [x]).length) (ds ++ [x]) = E) := by
          show _ = _
          rw [← HEd.out]; exact (HS1.out x HSX.out).symm
        have HXB : Hid (∀ y ∈ ds ++ [x], -1000 ≤ y ∧ y ≤ 200000) := fun y hy => by
          rcases List.mem_append.1 hy with h | h
          · exact HBd.out y h
          · rw [List.mem_singleton.1 h]; omega
        rw [hN] at HNL
        clear HS1 HS0 HST hN HNM hx hg HSF HSE HML HSU HUN HSU1 HSX
        go_wp2_with (first | (go_at_call 96; refine HL1.out.mono ?_; rintro e w3 ⟨rfl, hb3⟩; have hB3 : Below w.heap.size w w3 := hbw.trans (hb3.mono hbs); have b28' := (HJ.out w3 hB3).tasks; have byd := (HJ.out w3 hB3).yard; have hlk := HLK.out w3 hB3) | (go_at_call 117; refine (HFI1.out _ hB3 low (by omega)).mono ?_; rintro e w4 ⟨rfl, hb4⟩; rw [← HNL.out]; have hB4 : Below w.heap.size w w4 := hB3.trans (hb4.mono hB3.size); have hown4 := ownsRow_below hown (hb3.trans (hb4.mono hb3.size)) (Nat.le_refl _); have hz4 := hB4.size) | (at_builtin; refine wpList_append_own _ rfl (.tmp 66) (.tmp 68) 25 rfl (w.heap.size) 3 i0 (.int .i64 0) 1 8 Try.underlying25 I3.out.1 I3.out.2.1 I3.out.2.2.1 I3.out.2.2.2 rfl (by decide) _ ds.length (ints ds) rfl (hown4.alloc _) ⟨w4.heap.size, 0, none⟩ 1 1 [.int .i64 x] rfl rfl ?_ ?_ ?_ ?_ ?_ ?_; (exact cell_one_new _ _ _); (intro u hu; simp at hu; subst hu; rfl); (unfold maxLen; omega); (omega); (have := hB4.size; simp; omega); intro v5 w5 hown5 hgrow5 _; have hB5 : Below w.heap.size w w5 := below_own (by exact (by repeat (first | with_reducible exact Below.refl _ _ | with_reducible assumption | with_reducible refine Below.drew ?_ | with_reducible refine below_drewN ?_ _ | (with_reducible refine Below.alloc ?_ ?_ _; rotate_left; (try simp) <;> omega) | (with_reducible refine Below.setCell ?_ ?_ _; rotate_left; (try simp) <;> omega)))) (hown4.alloc _) hgrow5 (Nat.le_refl _) (by have := hB4.size; simp; omega); clear hgrow5))
        rw [ints_snoc] at hown5
        have hlen : Hid (ds.length + 1 = (ds ++ [x]).length) := by show _ = _; simp
        rw [hlen.out] at hown5
        go_wp2
        go_roundw
        case rel => exact ⟨ds ++ [x], by simp; omega, by simp; omega, by rw [← hlen.out]; go_num, hown5, HEE, HXB, hB5⟩
        case measure => simp [intOf]; omega
    | some x =>
      have HST := Lib.hid (HSF.out x hg)
      have HLK : Hid (∀ W : World, Below w.heap.size w W → (Instr.lookup 108 (.map (some bm)) (.int .i64 (ds.length : Int)) true).run Try.prog W = .ok (.tuple #[.int .i64 x, .bool true]) W) := fun W hb => by
        have := (HML.out W hb).look_ok hiv
        rw [hg] at this
        exact this
      clear HNL HNM HSF HSE HFI1
      have hf4 : ∀ W : World, Below w.heap.size w W → W.rangeAt bj 0 C.toList ∧ W.cell? ⟨bj, 28, none⟩ = some (.slice A l.length c) := fun W hb => ⟨(HJ.out W hb).yard, (HJ.out W hb).tasks⟩
      have HF4 := Lib.hid hf4; clear hf4
      by_cases h1 : low ≤ x
      · by_cases h2 : x < f + 400
        · cases hsu : suitB Y t ds.length x with
          | false =>
            have HSB := Lib.hid hsu
            have HEE : Hid (E = none) := by
              show _ = _
              rw [← HEd.out]; exact HS0.out (by rw [HST.out, if_neg (by intro h; rw [hsu] at h; exact absurd h.2.2 (by decide))])
            clear HS1 HS0 HST hg HML HSU
            clear hsu
            go_upto_region 8 with (first | (go_at_call 96; refine HL1.out.mono ?_; rintro e w3 ⟨rfl, hb3⟩; have hB3 : Below w.heap.size w w3 := hbw.trans (hb3.mono hbs); have b28' := (HJ.out w3 hB3).tasks; have byd := (HJ.out w3 hB3).yard; have hlk := HLK.out w3 hB3))
            refine wp_region_held_drew (S := (fun w' => w'.rangeAt bj 0 C.toList ∧ w'.cell? ⟨bj, 28, none⟩ = some (.slice A l.length c))) (by kernel_rfl) ?_ (fun hHeld => ?_)
            · exact HF4.out _ (by exact (by repeat (first | with_reducible exact Below.refl _ _ | with_reducible assumption | with_reducible refine Below.drew ?_ | with_reducible refine below_drewN ?_ _ | (with_reducible refine Below.alloc ?_ ?_ _; rotate_left; (try simp) <;> omega) | (with_reducible refine Below.setCell ?_ ?_ _; rotate_left; (try simp) <;> omega))))
            refine tk 0 35 ?_
            refine tk 1 36 ?_
            refine tk 2 37 ?_
            refine tk 3 38 ?_
            refine tk 4 39 ?_
            refine tk 5 40 ?_
            (refine held_call 6 (some 41) 95 _ rfl (by kernel_rfl) (by rfl) ?_ (HUN.out _ (by exact (by repeat (first | with_reducible exact Below.refl _ _ | with_reducible assumption | with_reducible refine Below.drew ?_ | with_reducible refine below_drewN ?_ _ | (with_reducible refine Below.alloc ?_ ?_ _; rotate_left; (try simp) <;> omega) | (with_reducible refine Below.setCell ?_ ?_ _; rotate_left; (try simp) <;> omega))))) ?_; rotate_left; rotate_left; (simp only [List.getElem?_toArray, List.getElem?_cons_zero, List.getElem?_cons_succ, Option.map_some]; refine congrArg some ?_; go_simp))
            rintro e wu ⟨rfl, rfl⟩
            refine ⟨_, rfl, HF4.out _ (by exact (by repeat (first | with_reducible exact Below.refl _ _ | with_reducible assumption | with_reducible refine Below.drew ?_ | with_reducible refine below_drewN ?_ _ | (with_reducible refine Below.alloc ?_ ?_ _; rotate_left; (try simp) <;> omega) | (with_reducible refine Below.setCell ?_ ?_ _; rotate_left; (try simp) <;> omega)))), fun hHeld => ?_⟩
            (try simp only [Act.put, List.setIfInBounds_toArray, List.set_cons_zero, List.set_cons_succ])
            refine tk 7 42 ?_
            refine tk 8 43 ?_
            refine tk 9 44 ?_
            refine tk 10 45 ?_
            refine tk 11 46 ?_
            refine tk 12 47 ?_
            (refine held_row 13 (some 48) 29 (.tmp 47) (bj) 0 C.toList _ rfl rfl (by kernel_rfl) (by kernel_rfl) (by kernel_rfl) (by rfl) rfl (fun _ _ _ h => h) (by assumption) (fun _ hS => hS.1) Try.underlying29 rfl (by assumption) ?_; (try simp only [Act.put, List.setIfInBounds_toArray, List.set_cons_zero, List.set_cons_succ]))
            refine tk 14 49 ?_
            refine tk 15 50 ?_
            refine tk 16 51 ?_
            refine tk 17 52 ?_
            refine tk 18 53 ?_
            refine tk 19 54 ?_
            (refine held_call 20 (some 55) 97 _ rfl (by kernel_rfl) (by rfl) ?_ (HSU1.out _ (by exact (by repeat (first | with_reducible exact Below.refl _ _ | with_reducible assumption | with_reducible refine Below.drew ?_ | with_reducible refine below_drewN ?_ _ | (with_reducible refine Below.alloc ?_ ?_ _; rotate_left; (try simp) <;> omega) | (with_reducible refine Below.setCell ?_ ?_ _; rotate_left; (try simp) <;> omega)))) x) ?_; rotate_left; rotate_left; (simp only [List.getElem?_toArray, List.getElem?_cons_zero, List.getElem?_cons_succ, Option.map_some]; refine congrArg some ?_; go_simp))
            rintro e w4 ⟨rfl, hb4⟩
            rw [HSB.out]
            have hB4 : Below w.heap.size w w4 := Below.trans (by exact (by repeat (first | with_reducible exact Below.refl _ _ | with_reducible assumption | with_reducible refine Below.drew ?_ | with_reducible refine below_drewN ?_ _ | (with_reducible refine Below.alloc ?_ ?_ _; rotate_left; (try simp) <;> omega) | (with_reducible refine Below.setCell ?_ ?_ _; rotate_left; (try simp) <;> omega)))) (hb4.mono (by first | exact hB3.size | (simp; exact hB3.size)))
            have h34 : Below w3.heap.size w3 w4 := Below.trans (by exact (by repeat (first | with_reducible exact Below.refl _ _ | with_reducible assumption | with_reducible refine Below.drew ?_ | with_reducible refine below_drewN ?_ _ | (with_reducible refine Below.alloc ?_ ?_ _; rotate_left; (try simp) <;> omega) | (with_reducible refine Below.setCell ?_ ?_ _; rotate_left; (try simp) <;> omega)))) (hb4.mono (by first | exact Nat.le_refl _ | simp))
            refine ⟨_, rfl, HF4.out _ hB4, fun hHeld => ?_⟩
            (try simp only [Act.put, List.setIfInBounds_toArray, List.set_cons_zero, List.set_cons_succ])
            refine tk 21 56 ?_
            refine tk 22 11 ?_
            refine wpAnyH_done (by kernel_rfl) ?_ _
            clear hHeld
            go_wp2
            go_ret2
            rw [HEE.out]
            exact ⟨rfl, hB4⟩
          | true =>
            have HSB := Lib.hid hsu
            have HSX : Hid (stepE Y l f (fun i => g (i : Int)) ds = some x) := by show _ = _; rw [HST.out, if_pos ⟨h1, h2, hsu⟩]
            have HEE : Hid (est Y l f (fun i => g (i : Int)) (l.length - (ds ++ [x]).length) (ds ++ [x]) = E) := by
              show _ = _
              rw [← HEd.out]; exact (HS1.out x HSX.out).symm
            have HXB : Hid (∀ y ∈ ds ++ [x], -1000 ≤ y ∧ y ≤ 200000) := fun y hy => by
              rcases List.mem_append.1 hy with h | h
              · exact HBd.out y h
              · rw [List.mem_singleton.1 h]; omega
            clear HS1 HS0 HST hg HML HSU HSX hsu
            go_upto_region 8 with (first | (go_at_call 96; refine HL1.out.mono ?_; rintro e w3 ⟨rfl, hb3⟩; have hB3 : Below w.heap.size w w3 := hbw.trans (hb3.mono hbs); have b28' := (HJ.out w3 hB3).tasks; have byd := (HJ.out w3 hB3).yard; have hlk := HLK.out w3 hB3))
            refine wp_region_held_drew (S := (fun w' => w'.rangeAt bj 0 C.toList ∧ w'.cell? ⟨bj, 28, none⟩ = some (.slice A l.length c))) (by kernel_rfl) ?_ (fun hHeld => ?_)
            · exact HF4.out _ (by exact (by repeat (first | with_reducible exact Below.refl _ _ | with_reducible assumption | with_reducible refine Below.drew ?_ | with_reducible refine below_drewN ?_ _ | (with_reducible refine Below.alloc ?_ ?_ _; rotate_left; (try simp) <;> omega) | (with_reducible refine Below.setCell ?_ ?_ _; rotate_left; (try simp) <;> omega))))
            refine tk 0 35 ?_
            refine tk 1 36 ?_
            refine tk 2 37 ?_
            refine tk 3 38 ?_
            refine tk 4 39 ?_
            refine tk 5 40 ?_
            (refine held_call 6 (some 41) 95 _ rfl (by kernel_rfl) (by rfl) ?_ (HUN.out _ (by exact (by repeat (first | with_reducible exact Below.refl _ _ | with_reducible assumption | with_reducible refine Below.drew ?_ | with_reducible refine below_drewN ?_ _ | (with_reducible refine Below.alloc ?_ ?_ _; rotate_left; (try simp) <;> omega) | (with_reducible refine Below.setCell ?_ ?_ _; rotate_left; (try simp) <;> omega))))) ?_; rotate_left; rotate_left; (simp only [List.getElem?_toArray, List.getElem?_cons_zero, List.getElem?_cons_succ, Option.map_some]; refine congrArg some ?_; go_simp))
            rintro e wu ⟨rfl, rfl⟩
            refine ⟨_, rfl, HF4.out _ (by exact (by repeat (first | with_reducible exact Below.refl _ _ | with_reducible assumption | with_reducible refine Below.drew ?_ | with_reducible refine below_drewN ?_ _ | (with_reducible refine Below.alloc ?_ ?_ _; rotate_left; (try simp) <;> omega) | (with_reducible refine Below.setCell ?_ ?_ _; rotate_left; (try simp) <;> omega)))), fun hHeld => ?_⟩
            (try simp only [Act.put, List.setIfInBounds_toArray, List.set_cons_zero, List.set_cons_succ])
            refine tk 7 42 ?_
            refine tk 8 43 ?_
            refine tk 9 44 ?_
            refine tk 10 45 ?_
            refine tk 11 46 ?_
            refine tk 12 47 ?_
            (refine held_row 13 (some 48) 29 (.tmp 47) (bj) 0 C.toList _ rfl rfl (by kernel_rfl) (by kernel_rfl) (by kernel_rfl) (by rfl) rfl (fun _ _ _ h => h) (by assumption) (fun _ hS => hS.1) Try.underlying29 rfl (by assumption) ?_; (try simp only [Act.put, List.setIfInBounds_toArray, List.set_cons_zero, List.set_cons_succ]))
            refine tk 14 49 ?_
            refine tk 15 50 ?_
            refine tk 16 51 ?_
            refine tk 17 52 ?_
            refine tk 18 53 ?_
            refine tk 19 54 ?_
            (refine held_call 20 (some 55) 97 _ rfl (by kernel_rfl) (by rfl) ?_ (HSU1.out _ (by exact (by repeat (first | with_reducible exact Below.refl _ _ | with_reducible assumption | with_reducible refine Below.drew ?_ | with_reducible refine below_drewN ?_ _ | (with_reducible refine Below.alloc ?_ ?_ _; rotate_left; (try simp) <;> omega) | (with_reducible refine Below.setCell ?_ ?_ _; rotate_left; (try simp) <;> omega)))) x) ?_; rotate_left; rotate_left; (simp only [List.getElem?_toArray, List.getElem?_cons_zero, List.getElem?_cons_succ, Option.map_some]; refine congrArg some ?_; go_simp))
            rintro e w4 ⟨rfl, hb4⟩
            rw [HSB.out]
            have hB4 : Below w.heap.size w w4 := Below.trans (by exact (by repeat (first | with_reducible exact Below.refl _ _ | with_reducible assumption | with_reducible refine Below.drew ?_ | with_reducible refine below_drewN ?_ _ | (with_reducible refine Below.alloc ?_ ?_ _; rotate_left; (try simp) <;> omega) | (with_reducible refine Below.setCell ?_ ?_ _; rotate_left; (try simp) <;> omega)))) (hb4.mono (by first | exact hB3.size | (simp; exact hB3.size)))
            have h34 : Below w3.heap.size w3 w4 := Below.trans (by exact (by repeat (first | with_reducible exact Below.refl _ _ | with_reducible assumption | with_reducible refine Below.drew ?_ | with_reducible refine below_drewN ?_ _ | (with_reducible refine Below.alloc ?_ ?_ _; rotate_left; (try simp) <;> omega) | (with_reducible refine Below.setCell ?_ ?_ _; rotate_left; (try simp) <;> omega)))) (hb4.mono (by first | exact Nat.le_refl _ | simp))
            refine ⟨_, rfl, HF4.out _ hB4, fun hHeld => ?_⟩
            (try simp only [Act.put, List.setIfInBounds_toArray, List.set_cons_zero, List.set_cons_succ])
            refine tk 21 56 ?_
            refine tk 22 11 ?_
            refine wpAnyH_done (by kernel_rfl) ?_ _
            have hown4 := ownsRow_below hown (hb3.trans (h34.mono hb3.size)) (Nat.le_refl _)
            have hz4 := hB4.size
            clear hHeld
            go_wp2_with (first | (at_builtin; refine wpList_append_own _ rfl (.tmp 66) (.tmp 68) 25 rfl (w.heap.size) 3 i0 (.int .i64 0) 1 8 Try.underlying25 I3.out.1 I3.out.2.1 I3.out.2.2.1 I3.out.2.2.2 rfl (by decide) _ ds.length (ints ds) rfl (hown4.alloc _) ⟨w4.heap.size, 0, none⟩ 1 1 [.int .i64 x] rfl rfl ?_ ?_ ?_ ?_ ?_ ?_; (exact cell_one_new _ _ _); (intro u hu; simp at hu; subst hu; rfl); (unfold maxLen; omega); (omega); (have := hB4.size; simp; omega); intro v5 w5 hown5 hgrow5 _; have hB5 : Below w.heap.size w w5 := below_own (by exact (by repeat (first | with_reducible exact Below.refl _ _ | with_reducible assumption | with_reducible refine Below.drew ?_ | with_reducible refine below_drewN ?_ _ | (with_reducible refine Below.alloc ?_ ?_ _; rotate_left; (try simp) <;> omega) | (with_reducible refine Below.setCell ?_ ?_ _; rotate_left; (try simp) <;> omega)))) (hown4.alloc _) hgrow5 (Nat.le_refl _) (by have := hB4.size; simp; omega); clear hgrow5))
            rw [ints_snoc] at hown5
            have hlen : Hid (ds.length + 1 = (ds ++ [x]).length) := by show _ = _; simp
            rw [hlen.out] at hown5
            go_wp2
            go_roundw
            case rel => exact ⟨ds ++ [x], by simp; omega, by simp; omega, by rw [← hlen.out]; go_num, hown5, HEE, HXB, hB5⟩
            case measure => simp [intOf]; omega
        · have HEE : Hid (E = none) := by
            show _ = _
            rw [← HEd.out]; exact HS0.out (by rw [HST.out, if_neg (by exact fun h => h2 h.2.1)])
          clear HS1 HS0 HST hg HML HSU
          have hd2 : decide (x < f + 400) = false := decide_eq_false h2
          go_upto_region 8 with (first | (go_at_call 96; refine HL1.out.mono ?_; rintro e w3 ⟨rfl, hb3⟩; have hB3 : Below w.heap.size w w3 := hbw.trans (hb3.mono hbs); have b28' := (HJ.out w3 hB3).tasks; have byd := (HJ.out w3 hB3).yard; have hlk := HLK.out w3 hB3))
          refine wp_region_held_drew (S := (fun w' => w'.rangeAt bj 0 C.toList ∧ w'.cell? ⟨bj, 28, none⟩ = some (.slice A l.length c))) (by kernel_rfl) ?_ (fun hHeld => ?_)
          · exact HF4.out _ (by exact (by repeat (first | with_reducible exact Below.refl _ _ | with_reducible assumption | with_reducible refine Below.drew ?_ | with_reducible refine below_drewN ?_ _ | (with_reducible refine Below.alloc ?_ ?_ _; rotate_left; (try simp) <;> omega) | (with_reducible refine Below.setCell ?_ ?_ _; rotate_left; (try simp) <;> omega))))
          refine tk 0 35 ?_
          refine tk 1 36 ?_
          refine tk 2 37 ?_
          refine tk 3 38 ?_
          refine tk 4 39 ?_
          refine tk 5 40 ?_
          (refine held_call 6 (some 41) 95 _ rfl (by kernel_rfl) (by rfl) ?_ (HUN.out _ (by exact (by repeat (first | with_reducible exact Below.refl _ _ | with_reducible assumption | with_reducible refine Below.drew ?_ | with_reducible refine below_drewN ?_ _ | (with_reducible refine Below.alloc ?_ ?_ _; rotate_left; (try simp) <;> omega) | (with_reducible refine Below.setCell ?_ ?_ _; rotate_left; (try simp) <;> omega))))) ?_; rotate_left; rotate_left; (simp only [List.getElem?_toArray, List.getElem?_cons_zero, List.getElem?_cons_succ, Option.map_some]; refine congrArg some ?_; go_simp))
          rintro e wu ⟨rfl, rfl⟩
          refine ⟨_, rfl, HF4.out _ (by exact (by repeat (first | with_reducible exact Below.refl _ _ | with_reducible assumption | with_reducible refine Below.drew ?_ | with_reducible refine below_drewN ?_ _ | (with_reducible refine Below.alloc ?_ ?_ _; rotate_left; (try simp) <;> omega) | (with_reducible refine Below.setCell ?_ ?_ _; rotate_left; (try simp) <;> omega)))), fun hHeld => ?_⟩
          (try simp only [Act.put, List.setIfInBounds_toArray, List.set_cons_zero, List.set_cons_succ])
          refine tk 7 42 ?_
          refine tk 8 43 ?_
          refine tk 9 44 ?_
          refine sk 10 45 ?_
          refine sk 11 46 ?_
          refine sk 12 47 ?_
          refine sk 13 48 ?_
          refine sk 14 49 ?_
          refine sk 15 50 ?_
          refine sk 16 51 ?_
          refine sk 17 52 ?_
          refine sk 18 53 ?_
          refine sk 19 54 ?_
          refine sk 20 55 ?_
          refine tk 21 56 ?_
          refine tk 22 11 ?_
          refine wpAnyH_done (by kernel_rfl) ?_ _
          clear hHeld
          go_wp2
          go_ret2
          rw [HEE.out]
          exact ⟨rfl, by exact (by repeat (first | with_reducible exact Below.refl _ _ | with_reducible assumption | with_reducible refine Below.drew ?_ | with_reducible refine below_drewN ?_ _ | (with_reducible refine Below.alloc ?_ ?_ _; rotate_left; (try simp) <;> omega) | (with_reducible refine Below.setCell ?_ ?_ _; rotate_left; (try simp) <;> omega)))⟩
      · have HEE : Hid (E = none) := by
          show _ = _
          rw [← HEd.out]; exact HS0.out (by rw [HST.out, if_neg (by exact fun h => h1 h.1)])
        clear HS1 HS0 HST hg HML HSU
        have hd1 : decide (low ≤ x) = false := decide_eq_false h1
        go_upto_region 8 with (first | (go_at_call 96; refine HL1.out.mono ?_; rintro e w3 ⟨rfl, hb3⟩; have hB3 : Below w.heap.size w w3 := hbw.trans (hb3.mono hbs); have b28' := (HJ.out w3 hB3).tasks; have byd := (HJ.out w3 hB3).yard; have hlk := HLK.out w3 hB3))
        refine wp_region_held_drew (S := (fun w' => w'.rangeAt bj 0 C.toList ∧ w'.cell? ⟨bj, 28, none⟩ = some (.slice A l.length c))) (by kernel_rfl) ?_ (fun hHeld => ?_)
        · exact HF4.out _ (by exact (by repeat (first | with_reducible exact Below.refl _ _ | with_reducible assumption | with_reducible refine Below.drew ?_ | with_reducible refine below_drewN ?_ _ | (with_reducible refine Below.alloc ?_ ?_ _; rotate_left; (try simp) <;> omega) | (with_reducible refine Below.setCell ?_ ?_ _; rotate_left; (try simp) <;> omega))))
        refine tk 0 35 ?_
        refine tk 1 36 ?_
        refine tk 2 37 ?_
        refine tk 3 38 ?_
        refine sk 4 39 ?_
        refine sk 5 40 ?_
        refine sk 6 41 ?_
        refine sk 7 42 ?_
        refine tk 8 43 ?_
        refine tk 9 44 ?_
        refine sk 10 45 ?_
        refine sk 11 46 ?_
        refine sk 12 47 ?_
        refine sk 13 48 ?_
        refine sk 14 49 ?_
        refine sk 15 50 ?_
        refine sk 16 51 ?_
        refine sk 17 52 ?_
        refine sk 18 53 ?_
        refine sk 19 54 ?_
        refine sk 20 55 ?_
        refine tk 21 56 ?_
        refine tk 22 11 ?_
        refine wpAnyH_done (by kernel_rfl) ?_ _
        clear hHeld
        go_wp2
        go_ret2
        rw [HEE.out]
        exact ⟨rfl, by exact (by repeat (first | with_reducible exact Below.refl _ _ | with_reducible assumption | with_reducible refine Below.drew ?_ | with_reducible refine below_drewN ?_ _ | (with_reducible refine Below.alloc ?_ ?_ _; rotate_left; (try simp) <;> omega) | (with_reducible refine Below.setCell ?_ ?_ _; rotate_left; (try simp) <;> omega)))⟩
  · have hn3 : ds.length = l.length := by omega
    have HEE : Hid (E = some ds) := by show _ = _; rw [← HEd.out]; exact est_zero Y l f _ hn3
    have HN3 := Lib.hid hn3; clear hn3
    go_wp2
    go_ret2
    rw [HEE.out]
    exact ⟨_, rfl, hown, hbw⟩
end Go.Proofs.Ytjgnikmnadmheaa

namespace Go.Proofs.Ytjgnikmnadmheaa
open Go.RowKit

/-! worlds that differ in one old block alone -/
structure Nb (w w' : World) (b : Nat) : Prop where
  size : w.heap.size ≤ w'.heap.size
  blk : ∀ g, g < w.heap.size → g ≠ b → w'.heap[g]? = w.heap[g]?
section
variable {w w' w'' : World} {b : Nat}
theorem Nb.refl (w : World) (b : Nat) : Nb w w b := ⟨Nat.le_refl _, fun _ _ _ => rfl⟩
theorem Nb.step (h : Nb w w' b) (k : Below w'.heap.size w' w'') : Nb w w'' b := ⟨Nat.le_trans h.size k.size, fun g hg hb => (k.block g (Nat.lt_of_lt_of_le hg h.size)).trans (h.blk g hg hb)⟩
theorem Nb.base {B : Nat} (h : Nb w w' b) (k : Below B w' w'') (hB : w.heap.size ≤ B) : Nb w w'' b := ⟨Nat.le_trans h.size k.size, fun g hg hb => (k.block g (Nat.lt_of_lt_of_le hg hB)).trans (h.blk g hg hb)⟩
theorem Nb.alloc (h : Nb w w' b) (o : Obj) : Nb w (w'.alloc o) b := ⟨by have := h.size; simp; omega, fun g hg hb => (Below.heap_alloc w' o g (Nat.lt_of_lt_of_le hg h.size)).trans (h.blk g hg hb)⟩
theorem Nb.drew (h : Nb w w' b) : Nb w w'.drew b := ⟨h.size, h.blk⟩
theorem Nb.set (h : Nb w w' b) (o : Nat) (v : Value) : Nb w (w'.setCell ⟨b, o, none⟩ v) b := ⟨by have := h.size; simpa [World.setCell] using this, fun g hg hb => (Below.heap_setCell w' ⟨b, o, none⟩ v g hb).trans (h.blk g hg hb)⟩
theorem Nb.far {b' : Nat} (h : Nb w w' b) (k : Far w' w'' b') (hb' : b' = b ∨ w.heap.size ≤ b') : Nb w w'' b := ⟨by rw [k.size]; exact h.size, fun g hg hb => (k.blk g (by omega)).trans (h.blk g hg hb)⟩
theorem Nb.grown {row : Option Nat} (h : Nb w w' b) (k : w'.grownBy w'' row) (hr : ∀ g, row = some g → w.heap.size ≤ g) (hs : w'.heap.size ≤ w''.heap.size) : Nb w w'' b := ⟨Nat.le_trans h.size hs, fun g hg hb => (k.block g (Nat.lt_of_lt_of_le hg h.size) (fun e => by have := hr g e.symm; omega)).trans (h.blk g hg hb)⟩
theorem Nb.bk {g t : Nat} {C : Array Value} (h : Nb w w' b) (k : Bk w g t C) (hg : g ≠ b) : Bk w' g t C := (h.blk g k.lt hg).trans k
theorem Nb.lies {A : Option Addr} {cs : List Value} (h : Nb w w' b) (hl : Lies w w.heap.size A cs) (hA : ∀ ad, A = some ad → ad.block ≠ b) : Lies w' w'.heap.size A cs := fun hn => by
  obtain ⟨ad, e, hb, hc⟩ := hl hn
  refine ⟨ad, e, Nat.lt_of_lt_of_le hb h.size, fun j u hu => ?_⟩
  have e2 := h.blk ad.block hb (hA ad e)
  have := hc j u hu
  unfold World.cell? at this ⊢
  rw [add_block] at this ⊢
  rw [e2]
  exact this
end
theorem own_ge {w : World} {base e size n c : Nat} {A : Option Addr} {xs : List Value} (h : w.ownsRow base e size (.slice A n c) n xs) (ad : Addr) (hA : A = some ad) : base ≤ ad.block := by
  rcases h.2 with ⟨h1, _⟩ | ⟨g', cap, cur, h1, h2, _⟩
  · cases h1; cases hA
  · cases h1
    cases hA
    exact h2
end Go.Proofs.Ytjgnikmnadmheaa
