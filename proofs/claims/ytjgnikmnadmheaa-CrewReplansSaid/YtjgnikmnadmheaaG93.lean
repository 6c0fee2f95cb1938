/- What Replan returns: the spec of both. -/
import Derived.Test.YtjgnikmnadmheaaG01
import Derived.Test.YtjgnikmnadmheaaG02
import Derived.Test.YtjgnikmnadmheaaG89
import Derived.Test.YtjgnikmnadmheaaG91
import Derived.Test.YtjgnikmnadmheaaG92

namespace Go.Proofs.Ytjgnikmnadmheaa
open Go.RowKit

/-- what was done is right, at one task -/
def stayAt (old : List Tu) (f : Int) (i : Nat) : Bool := match old[i]? with
  | some t => decide (0 ≤ t.day) && (decide (t.day < f) && (decide (i = 0) || match old[i - 1]? with | some u => decide (u.day < t.day) | none => true))
  | none => true
def stayB (old : List Tu) (f : Int) (k : Nat) : Bool := (List.range k).all (stayAt old f)
def staysOf (old : List Tu) (k : Nat) : List Int := (old.take k).map Tu.day
def replE (Y : Yd) (l : List Tk) (f : Int) (old : List Tu) (done : Int) : Int :=
  if comE Y l = 0 then (if inB done 0 (min (l.length : Int) (old.length : Int)) = true ∧ inB f 0 100000 = true then (if stayB old f done.toNat = true then (match rplD Y l f old (staysOf old done.toNat) with | some _ => 0 | none => 70) else 8) else 1) else comE Y l
def replP (Y : Yd) (l : List Tk) (f : Int) (old : List Tu) (done : Int) : List Tu :=
  if replE Y l f old done = 0 then (match rplD Y l f old (staysOf old done.toNat) with | some P => usual Y l (old.take done.toNat) P | none => []) else []
section
variable {Y : Yd} {l : List Tk} {f : Int} {old : List Tu} {done : Int}
theorem repl_com (h : comE Y l ≠ 0) : replE Y l f old done = comE Y l ∧ replP Y l f old done = [] := by
  have e : replE Y l f old done = comE Y l := by unfold replE; rw [if_neg h]
  exact ⟨e, by unfold replP; rw [e, if_neg h]⟩
theorem repl_arg (h : comE Y l = 0) (h2 : ¬ (inB done 0 (min (l.length : Int) (old.length : Int)) = true ∧ inB f 0 100000 = true)) : replE Y l f old done = 1 ∧ replP Y l f old done = [] := by
  have e : replE Y l f old done = 1 := by unfold replE; rw [if_pos h, if_neg h2]
  exact ⟨e, by unfold replP; rw [e]; rfl⟩
theorem repl_state (h : comE Y l = 0) (h2 : inB done 0 (min (l.length : Int) (old.length : Int)) = true ∧ inB f 0 100000 = true) (h3 : stayB old f done.toNat = false) : replE Y l f old done = 8 ∧ replP Y l f old done = [] := by
  have e : replE Y l f old done = 8 := by unfold replE; rw [if_pos h, if_pos h2, h3]; rfl
  exact ⟨e, by unfold replP; rw [e]; rfl⟩
theorem repl_span (h : comE Y l = 0) (h2 : inB done 0 (min (l.length : Int) (old.length : Int)) = true ∧ inB f 0 100000 = true) (h3 : stayB old f done.toNat = true) (h4 : rplD Y l f old (staysOf old done.toNat) = none) : replE Y l f old done = 70 ∧ replP Y l f old done = [] := by
  have e : replE Y l f old done = 70 := by unfold replE; rw [if_pos h, if_pos h2, h3, h4]; rfl
  exact ⟨e, by unfold replP; rw [e]; rfl⟩
theorem repl_ok (h : comE Y l = 0) (h2 : inB done 0 (min (l.length : Int) (old.length : Int)) = true ∧ inB f 0 100000 = true) (h3 : stayB old f done.toNat = true) {P : List Int} (h4 : rplD Y l f old (staysOf old done.toNat) = some P) : replE Y l f old done = 0 ∧ replP Y l f old done = usual Y l (old.take done.toNat) P := by
  have e : replE Y l f old done = 0 := by unfold replE; rw [if_pos h, if_pos h2, h3, h4]; rfl
  exact ⟨e, by unfold replP; rw [e, h4]; rfl⟩
theorem stays_len {k : Nat} (h : k ≤ old.length) : (staysOf old k).length = k := by unfold staysOf; rw [List.length_map, List.length_take]; omega
theorem stayB_succ (k : Nat) : stayB old f (k + 1) = (stayB old f k && stayAt old f k) := by unfold stayB; rw [List.range_succ, List.all_append]; simp
theorem stayAt_eq {k : Nat} (h : k < old.length) : stayAt old f k = (decide (0 ≤ old[k].day) && (decide (old[k].day < f) && (decide (k = 0) || decide ((old[k - 1]'(by omega)).day < old[k].day)))) := by
  unfold stayAt
  rw [List.getElem?_eq_getElem h, List.getElem?_eq_getElem (show k - 1 < old.length by omega)]
theorem stayB_bad {k n : Nat} (hk : k < n) (h : stayAt old f k = false) : stayB old f n = false := by
  unfold stayB
  rw [List.all_eq_false]
  exact ⟨k, List.mem_range.2 hk, by rw [h]; simp⟩
theorem stay_bd {k : Nat} (hf : f ≤ 100000) (hk : k ≤ old.length) (h : stayB old f k = true) : ∀ x ∈ staysOf old k, 0 ≤ x ∧ x < f := fun x hx => by
  unfold staysOf at hx
  rw [List.mem_map] at hx
  obtain ⟨t, ht, rfl⟩ := hx
  obtain ⟨i, hi, rfl⟩ := List.mem_iff_getElem.1 ht
  rw [List.length_take] at hi
  have hi2 : i < old.length := by omega
  unfold stayB at h
  rw [List.all_eq_true] at h
  have := h i (List.mem_range.2 (by omega))
  rw [stayAt_eq hi2, Bool.and_eq_true, Bool.and_eq_true, decide_eq_true_eq, decide_eq_true_eq] at this
  rw [List.getElem_take]
  exact ⟨this.1, this.2.1⟩
theorem com_ok (h : comE Y l = 0) : okY Y = true ∧ ValidT l := by
  unfold comE at h
  cases hk : okY Y with
  | true => rw [hk, if_pos rfl] at h; exact ⟨rfl, validT_of h⟩
  | false =>
    rw [hk, if_neg (by decide)] at h
    unfold okY at hk
    rw [h] at hk; cases hk
end
theorem turns_take {w : World} {B : Nat} {A : Option Addr} {ts : List Tu} (h : Lies w B A (turnsC ts)) (k : Nat) : Lies w B A (turnsC (ts.take k)) := fun hn => by
  obtain ⟨ad, e, hb, hc⟩ := h (fun e => hn (by
    have := congrArg List.length e
    unfold turnsC at this ⊢
    rw [flat_length Tu.cells 3 (fun _ => rfl)] at this
    have h0 : ts = [] := List.length_eq_zero_iff.1 (by
      have h1 : ts.length * 3 = 0 := by simpa using this
      omega)
    rw [h0]; simp))
  refine ⟨ad, e, hb, fun j u hu => hc j u ?_⟩
  unfold turnsC at hu ⊢
  rw [← List.take_append_drop k ts, List.flatMap_append, List.getElem?_append_left (Array.getElem?_eq_some_iff.1 (by simpa using hu)).1]
  exact hu
end Go.Proofs.Ytjgnikmnadmheaa

namespace Go.Proofs.Ytjgnikmnadmheaa
open Go.RowKit

set_option maxRecDepth 100000 in
set_option maxHeartbeats 2500000 in
theorem replan_any (C : Array Value) (Y : Yd) (l : List Tk) (A : Option Addr) (c : Nat) (old : List Tu) (T : Option Addr) (ct : Nat) (done f : Int) (w : World) (hY : YardAt w w.heap.size C Y) (hs : Small Y) (hT : TasksAt w w.heap.size A l) (ht : tame l)
    (hP : Lies w w.heap.size T (turnsC old)) (ho : old.length ≤ 20) (hcp : old.length ≤ ct) (hgi : ∀ t ∈ old, i64v t.day ∧ i64v t.pit) :
    Calls Try.prog 26 #[.agg C, .slice A l.length c, .agg #[.slice T old.length ct], .int .i64 done, .int .i64 f] w (PlanE (replP Y l f old done) (replE Y l f old done) w) := by
  have HCO := Lib.hid (fun W (hb : Below w.heap.size w W) => common_any C Y l A c W ((hY.below hb (Nat.le_refl _)).more hb.size) hs ((hT.below hb (Nat.le_refl _)).more hb.size) ht)
  have HLOAD := load_any hY
  have HC28 := Lib.hid hY.len
  have HIN := Lib.hid in_any
  have HYW := Lib.hid (fun W (hb : Below w.heap.size w W) => hY.below hb (Nat.le_refl _))
  have HTW := Lib.hid (fun W (hb : Below w.heap.size w W) => hT.below hb (Nat.le_refl _))
  have HPW := Lib.hid (fun W (hb : Below w.heap.size w W) => hP.below hb (Nat.le_refl _))
  have HTM := Lib.hid ht
  have HGI := Lib.hid hgi
  have HBJ := Lib.hid (built_job C A l.length c f hY.size)
  have b5 : Bk ((((w.alloc (.cells C 29)).alloc (.cells #[.slice A l.length c] 30)).alloc (.cells #[.slice T old.length ct] 42)).alloc (.cells #[.slice none 0 0] 42)) w.heap.size 29 C := (((Bk.new _ _ _).alloc _).alloc _).alloc _
  have b6 : Bk ((((w.alloc (.cells C 29)).alloc (.cells #[.slice A l.length c] 30)).alloc (.cells #[.slice T old.length ct] 42)).alloc (.cells #[.slice none 0 0] 42)) (w.heap.size + 1) 30 #[.slice A l.length c] := by simpa using ((Bk.new (w.alloc (.cells C 29)) 30 #[.slice A l.length c]).alloc (.cells #[.slice T old.length ct] 42)).alloc (.cells #[.slice none 0 0] 42)
  have b7 : Bk ((((w.alloc (.cells C 29)).alloc (.cells #[.slice A l.length c] 30)).alloc (.cells #[.slice T old.length ct] 42)).alloc (.cells #[.slice none 0 0] 42)) (w.heap.size + 2) 42 #[.slice T old.length ct] := by simpa using (Bk.new ((w.alloc (.cells C 29)).alloc (.cells #[.slice A l.length c] 30)) 42 #[.slice T old.length ct]).alloc (.cells #[.slice none 0 0] 42)
  have b10 : Bk ((((w.alloc (.cells C 29)).alloc (.cells #[.slice A l.length c] 30)).alloc (.cells #[.slice T old.length ct] 42)).alloc (.cells #[.slice none 0 0] 42)) (w.heap.size + 3) 42 #[.slice none 0 0] := by simpa using Bk.new (((w.alloc (.cells C 29)).alloc (.cells #[.slice A l.length c] 30)).alloc (.cells #[.slice T old.length ct] 42)) 42 #[.slice none 0 0]
  have hb0 : Below w.heap.size w ((((w.alloc (.cells C 29)).alloc (.cells #[.slice A l.length c] 30)).alloc (.cells #[.slice T old.length ct] 42)).alloc (.cells #[.slice none 0 0] 42)) := by exact (by repeat (first | with_reducible exact Below.refl _ _ | with_reducible assumption | with_reducible refine Below.drew ?_ | with_reducible refine below_drewN ?_ _ | (with_reducible refine Below.alloc ?_ ?_ _; rotate_left; (try simp) <;> omega) | (with_reducible refine Below.setCell ?_ ?_ _; rotate_left; (try simp) <;> omega)))
  have hz0 : ((((w.alloc (.cells C 29)).alloc (.cells #[.slice A l.length c] 30)).alloc (.cells #[.slice T old.length ct] 42)).alloc (.cells #[.slice none 0 0] 42)).heap.size = w.heap.size + 4 := by simp
  have HR0 := Lib.hid b5.range
  have q6 := b6.cell 0 rfl
  clear hY hT hs ht hP hgi
  have HZ0 := Lib.hid hz0
  have hz0' : w.heap.size + 4 ≤ ((((w.alloc (.cells C 29)).alloc (.cells #[.slice A l.length c] 30)).alloc (.cells #[.slice T old.length ct] 42)).alloc (.cells #[.slice none 0 0] 42)).heap.size := by omega
  clear hz0
  by_cases hn : comE Y l = 0
  · obtain ⟨hok, hvt⟩ := com_ok hn
    have HVT := Lib.hid hvt
    have HO := Lib.hid hok
    have hl12 := hvt.n
    rw [hn] at HCO
    have HN := Lib.hid hn
    clear hn hok hvt
    by_cases hr1 : inB done 0 (min (l.length : Int) (old.length : Int)) = true
    · by_cases hr2 : inB f 0 100000 = true
      · have hd := inB_iff.1 hr1
        have hf := inB_iff.1 hr2
        obtain ⟨dn, rfl⟩ : ∃ dn : Nat, done = (dn : Int) := ⟨done.toNat, by omega⟩
        have hdl : dn ≤ l.length := by omega
        have hdo : dn ≤ old.length := by omega
        have hdc : dn ≤ ct := by omega
        have hdcI : (dn : Int) ≤ (ct : Int) := by omega
        have hd0 : 0 ≤ (dn : Int) := by omega
        obtain ⟨hf0, hf1⟩ := hf
        have HR1 := Lib.hid hr1
        have HR2 := Lib.hid hr2
        have HRR := Lib.hid (And.intro hr1 hr2)
        have HST : Hid (stayB old f 0 = true) := rfl
        have hdn : ((dn : Int)).toNat = dn := Int.toNat_natCast dn
        have HDN := Lib.hid hdn
        clear hr1 hr2 hd hdn
        go_enter Try.func26, Try.ntmps26
        go_upto_region 8 with (first | (have h9 := HR0; clear h9; refine wpList_load_guard (P := Try.prog) (by rfl) 29 (.tmp 5) rfl w.heap.size 0 rfl C.toList _ HR0.out Try.underlying29 rfl (by rw [HC28.out]; exact info29) ?_) | (go_at_call 85; refine (HCO.out _ hb0).mono ?_; rintro e w1 ⟨rfl, hb1⟩; have hB1 : Below w.heap.size w w1 := hb0.trans (hb1.mono hb0.size); have k5 := b5.below hb1 b5.lt; have k6 := b6.below hb1 b6.lt; have k7 := b7.below hb1 b7.lt; have k10 := b10.below hb1 b10.lt; have hl10 := k10.lt; have q6 := k6.cell 0 rfl; have q7 := k7.cell 0 rfl; have x10 := k10.cell 0 rfl; have f10 := k10.fro 0; have hz1 := hb1.size; clear hb1 HR0) | (go_at_call 66; refine (HIN.out _ _ _ _).mono ?_; rintro e wq ⟨rfl, rfl⟩; rw [HR1.out]; clear HR1) | (go_at_call 66; refine (HIN.out _ _ _ _).mono ?_; rintro e wq ⟨rfl, rfl⟩; rw [HR2.out]; clear HR2))
        have hdnI : (dn : Int) ≤ 20 := by omega
        have HK5 : Hid (∀ W, Below w1.heap.size w1 W → Bk W w.heap.size 29 C) := fun W hb => k5.below hb k5.lt
        have HK6 : Hid (∀ W, Below w1.heap.size w1 W → Bk W (w.heap.size + 1) 30 #[.slice A l.length c]) := fun W hb => k6.below hb k6.lt
        have HK7 : Hid (∀ W, Below w1.heap.size w1 W → Bk W (w.heap.size + 2) 42 #[.slice T old.length ct]) := fun W hb => k7.below hb k7.lt
        have HK10 : Hid (∀ W, Below w1.heap.size w1 W → Bk W (w.heap.size + 3) 42 #[.slice none 0 0]) := fun W hb => k10.below hb k10.lt
        have HBW : Hid (∀ W, Below w1.heap.size w1 W → Below w.heap.size w W) := fun W hb => hB1.trans (hb.mono hB1.size)
        have hz14 : w.heap.size + 4 ≤ w1.heap.size := by omega
        clear k5 k6 k7 k10 q6 q7 x10 f10 b5 b6 b7 b10 hb0
        go_loopw [52] (fun y wr => ∃ k : Nat, k ≤ dn ∧ y = .int .i64 (k : Int) ∧ Hid (stayB old f k = true) ∧ Below w1.heap.size w1 wr) (fun y _ => dn - (intOf y).toNat)
        case atStart => exact ⟨0, Nat.zero_le _, rfl, HST, Below.refl _ _⟩
        case round =>
        obtain ⟨k, hk, rfl, HSK, hbw⟩ := hrel
        have hbs := hbw.size
        have hBw := HBW.out wr hbw
        by_cases hlt : k < dn
        · have hko : k < old.length := by omega
          have hkI : (k : Int) < (dn : Int) := by omega
          have hk0 : 0 ≤ (k : Int) := by omega
          obtain ⟨aT, rfl, haT, c0, c1, c2⟩ := turn_at (HPW.out wr hBw) hko
          have HSA := Lib.hid (stayAt_eq (f := f) hko)
          have HSC := Lib.hid (stayB_succ (old := old) (f := f) k)
          have HSD := Lib.hid (fun h => stayB_bad (old := old) (f := f) (k := k) (n := dn) hlt h)
          have HRS := Lib.hid (fun h => repl_state (Y := Y) (f := f) (old := old) (done := (dn : Int)) HN.out HRR.out h)
          generalize old[k].day = d at *
          generalize old[k].pit = pp at *
          generalize old[k].mas = mm at *
          have kt : Bk ((wr.alloc (.cells #[.int .i64 d, .int .i64 pp, .int .i64 mm] 55))) wr.heap.size 55 #[.int .i64 d, .int .i64 pp, .int .i64 mm] := Bk.new _ _ _
          have xt := kt.cell 0 rfl
          have hbA : Below w1.heap.size w1 ((wr.alloc (.cells #[.int .i64 d, .int .i64 pp, .int .i64 mm] 55)).drew) := (hbw.alloc hbs _).drew
          have kA := HK10.out _ hbA
          have hBA := HBW.out _ hbA
          have c0A : (wr.alloc (.cells #[.int .i64 d, .int .i64 pp, .int .i64 mm] 55)).cell? (aT.add (k * 3)) = some (.int .i64 d) := ((Below.refl wr.heap.size wr).alloc (Nat.le_refl _) _ |>.cell (by rw [add_block]; omega)).trans c0
          by_cases h1 : d < 0
          · have HBAD : Hid (stayAt old f k = false) := by show _ = _; rw [HSA.out, decide_eq_false (by omega)]; rfl
            obtain ⟨r1, r2⟩ := HRS.out (by rw [HDN.out]; exact HSD.out HBAD.out)
            rw [r1, r2]
            have hz9 := kA.lt
            clear HSA HSC HSD HRS r1 r2 kt c0A
            go_upto_region 10 with fail
            refine wp_region_held_drew (S := (fun w' => w'.cell? ⟨wr.heap.size, 0, none⟩ = some (.int .i64 d))) (by kernel_rfl) ?_ (fun hHeld => ?_)
            · exact xt
            refine tk 0 57 ?_
            refine tk 1 58 ?_
            refine tk 2 59 ?_
            refine tk 3 60 ?_
            refine sk 4 61 ?_
            refine sk 5 62 ?_
            refine sk 6 63 ?_
            refine sk 7 64 ?_
            refine tk 8 65 ?_
            refine tk 9 66 ?_
            refine sk 10 67 ?_
            refine sk 11 68 ?_
            refine sk 12 69 ?_
            refine sk 13 70 ?_
            refine sk 14 71 ?_
            refine sk 15 72 ?_
            refine sk 16 73 ?_
            refine sk 17 74 ?_
            refine sk 18 75 ?_
            refine sk 19 76 ?_
            refine sk 20 77 ?_
            refine sk 21 78 ?_
            refine sk 22 79 ?_
            refine tk 23 80 ?_
            refine wpAnyH_done (by kernel_rfl) ?_ _
            clear hHeld
            have x10 := kA.cell 0 rfl
            have f10 := kA.fro 0
            generalize (wr.alloc (.cells #[.int .i64 d, .int .i64 pp, .int .i64 mm] 55)).drew = wA at *
            go_wp2
            have hs6 := (kA.set 0 (.slice none 0 0)).cell 0 rfl
            have hb9 : Below w.heap.size w (wA.setCell ⟨w.heap.size + 3, 0, none⟩ (.slice none 0 0)) := hBA.setCell (by simp) _
            generalize wA.setCell ⟨w.heap.size + 3, 0, none⟩ (.slice none 0 0) = w9 at *
            refine bodyPost_ret (v := .tuple #[.agg #[.slice none 0 0], .int .i64 8]) (by simp [results, Try.results26, go_sem, hs6]) rfl ?_
            exact ⟨_, rfl, plan_nil _ _, hb9⟩
          · by_cases h2 : f ≤ d
            · have h1b : decide (d < 0) = false := decide_eq_false h1
              have h2b : decide (f ≤ d) = true := decide_eq_true h2
              have HBAD : Hid (stayAt old f k = false) := by show _ = _; rw [HSA.out, decide_eq_false (show ¬ d < f by omega), Bool.false_and, Bool.and_false]
              obtain ⟨r1, r2⟩ := HRS.out (by rw [HDN.out]; exact HSD.out HBAD.out)
              rw [r1, r2]
              clear HSA HSC HSD HRS r1 r2 kt c0A
              go_upto_region 10 with fail
              refine wp_region_held_drew (S := (fun w' => w'.cell? ⟨wr.heap.size, 0, none⟩ = some (.int .i64 d))) (by kernel_rfl) ?_ (fun hHeld => ?_)
              · exact xt
              refine tk 0 57 ?_
              refine tk 1 58 ?_
              refine tk 2 59 ?_
              refine tk 3 60 ?_
              refine tk 4 61 ?_
              refine tk 5 62 ?_
              refine tk 6 63 ?_
              refine tk 7 64 ?_
              refine tk 8 65 ?_
              refine tk 9 66 ?_
              refine sk 10 67 ?_
              refine sk 11 68 ?_
              refine sk 12 69 ?_
              refine sk 13 70 ?_
              refine sk 14 71 ?_
              refine sk 15 72 ?_
              refine sk 16 73 ?_
              refine sk 17 74 ?_
              refine sk 18 75 ?_
              refine sk 19 76 ?_
              refine sk 20 77 ?_
              refine sk 21 78 ?_
              refine sk 22 79 ?_
              refine tk 23 80 ?_
              refine wpAnyH_done (by kernel_rfl) ?_ _
              clear hHeld
              have x10 := kA.cell 0 rfl
              have f10 := kA.fro 0
              generalize (wr.alloc (.cells #[.int .i64 d, .int .i64 pp, .int .i64 mm] 55)).drew = wA at *
              go_wp2
              have hs6 := (kA.set 0 (.slice none 0 0)).cell 0 rfl
              have hb9 : Below w.heap.size w (wA.setCell ⟨w.heap.size + 3, 0, none⟩ (.slice none 0 0)) := hBA.setCell (by simp) _
              generalize wA.setCell ⟨w.heap.size + 3, 0, none⟩ (.slice none 0 0) = w9 at *
              refine bodyPost_ret (v := .tuple #[.agg #[.slice none 0 0], .int .i64 8]) (by simp [results, Try.results26, go_sem, hs6]) rfl ?_
              exact ⟨_, rfl, plan_nil _ _, hb9⟩
            · have h1b : decide (d < 0) = false := decide_eq_false h1
              have h2b : decide (f ≤ d) = false := decide_eq_false h2
              by_cases h3 : k = 0
              · have HGOOD : Hid (stayB old f (k + 1) = true) := by show _ = _; rw [HSC.out, HSK.out, HSA.out, decide_eq_true (show 0 ≤ d by omega), decide_eq_true (show d < f by omega), decide_eq_true h3]; rfl
                have h3i : ¬ (0 : Int) < (k : Int) := by omega
                have h3b : decide ((0 : Int) < (k : Int)) = false := decide_eq_false h3i
                have h3c : decide (0 < k) = false := decide_eq_false (by omega)
                clear h3i
                clear HSA HSC HSD HRS kt c0A h3
                go_upto_region 10 with fail
                refine wp_region_held_drew (S := (fun w' => w'.cell? ⟨wr.heap.size, 0, none⟩ = some (.int .i64 d))) (by kernel_rfl) ?_ (fun hHeld => ?_)
                · exact xt
                refine tk 0 57 ?_
                refine tk 1 58 ?_
                refine tk 2 59 ?_
                refine tk 3 60 ?_
                refine tk 4 61 ?_
                refine tk 5 62 ?_
                refine tk 6 63 ?_
                refine tk 7 64 ?_
                refine tk 8 65 ?_
                refine tk 9 66 ?_
                refine tk 10 67 ?_
                refine tk 11 68 ?_
                refine tk 12 69 ?_
                refine sk 13 70 ?_
                refine sk 14 71 ?_
                refine sk 15 72 ?_
                refine sk 16 73 ?_
                refine sk 17 74 ?_
                refine sk 18 75 ?_
                refine sk 19 76 ?_
                refine sk 20 77 ?_
                refine sk 21 78 ?_
                refine tk 22 79 ?_
                refine tk 23 80 ?_
                refine wpAnyH_done (by kernel_rfl) ?_ _
                clear hHeld
                go_wp2
                go_roundw
                case rel => exact ⟨k + 1, by omega, by go_num, HGOOD, hbA⟩
                case measure => simp [intOf] <;> omega
              · have h3i : (0 : Int) < (k : Int) := by omega
                have h3b : decide ((0 : Int) < (k : Int)) = true := decide_eq_true h3i
                have h3p : 0 < k := by omega
                have hkp : k - 1 < old.length := by omega
                obtain ⟨aT2, e2, _, p0, _, _⟩ := turn_at (HPW.out _ (HBW.out _ (hbw.alloc hbs (.cells #[.int .i64 d, .int .i64 pp, .int .i64 mm] 55)))) hkp
                cases e2
                have hkd : ((k : Int) - 1).toNat = k - 1 := by omega
                have hk1 : 0 ≤ (k : Int) - 1 := by omega
                have hk2 : (k : Int) - 1 < (dn : Int) := by omega
                have hk3 : 1 ≤ (k : Int) := by omega
                generalize hpd : (old[k - 1]'hkp).day = pd at *
                have HPD := Lib.hid hpd
                clear hpd
                have hsub : IntKind.i64.wrap ((k : Int) - 1) = (k : Int) - 1 := IntWalk.i64_in _ (by omega)
                by_cases h4 : d ≤ pd
                · have h4b : decide (d ≤ pd) = true := decide_eq_true h4
                  have HBAD : Hid (stayAt old f k = false) := by
                    show _ = _
                    rw [HSA.out, decide_eq_false h3, decide_eq_false (show ¬ pd < d by clear hsub; omega), Bool.or_false, Bool.and_false, Bool.and_false]
                  obtain ⟨r1, r2⟩ := HRS.out (by rw [HDN.out]; exact HSD.out HBAD.out)
                  rw [r1, r2]
                  clear HSA HSC HSD HRS r1 r2 kt c0A h3
                  go_upto_region 10 with fail
                  refine wp_region_held_drew (S := (fun w' => w'.cell? ⟨wr.heap.size, 0, none⟩ = some (.int .i64 d) ∧ w'.cell? (aT.add ((k - 1) * 3)) = some (.int .i64 pd))) (by kernel_rfl) ?_ (fun hHeld => ?_)
                  · exact ⟨xt, p0⟩
                  refine tk 0 57 ?_
                  refine tk 1 58 ?_
                  refine tk 2 59 ?_
                  refine tk 3 60 ?_
                  refine tk 4 61 ?_
                  refine tk 5 62 ?_
                  refine tk 6 63 ?_
                  refine tk 7 64 ?_
                  refine tk 8 65 ?_
                  refine tk 9 66 ?_
                  refine tk 10 67 ?_
                  refine tk 11 68 ?_
                  refine tk 12 69 ?_
                  refine tk 13 70 ?_
                  refine tk 14 71 ?_
                  refine tk 15 72 ?_
                  refine tk 16 73 ?_
                  refine tk 17 74 ?_
                  refine tk 18 75 ?_
                  refine tk 19 76 ?_
                  refine tk 20 77 ?_
                  refine tk 21 78 ?_
                  refine tk 22 79 ?_
                  refine tk 23 80 ?_
                  refine wpAnyH_done (by kernel_rfl) ?_ _
                  clear hHeld hsub
                  have x10 := kA.cell 0 rfl
                  have f10 := kA.fro 0
                  generalize (wr.alloc (.cells #[.int .i64 d, .int .i64 pp, .int .i64 mm] 55)).drew = wA at *
                  go_wp2
                  have hs6 := (kA.set 0 (.slice none 0 0)).cell 0 rfl
                  have hb9 : Below w.heap.size w (wA.setCell ⟨w.heap.size + 3, 0, none⟩ (.slice none 0 0)) := hBA.setCell (by simp) _
                  generalize wA.setCell ⟨w.heap.size + 3, 0, none⟩ (.slice none 0 0) = w9 at *
                  refine bodyPost_ret (v := .tuple #[.agg #[.slice none 0 0], .int .i64 8]) (by simp [results, Try.results26, go_sem, hs6]) rfl ?_
                  exact ⟨_, rfl, plan_nil _ _, hb9⟩
                · have h4b : decide (d ≤ pd) = false := decide_eq_false h4
                  have HGOOD : Hid (stayB old f (k + 1) = true) := by
                    show _ = _
                    rw [HSC.out, HSK.out, HSA.out, decide_eq_true (show 0 ≤ d by clear hsub; omega), decide_eq_true (show d < f by clear hsub; omega), decide_eq_true (show pd < d by clear hsub; omega), Bool.or_true]; rfl
                  clear HSA HSC HSD HRS kt c0A h3
                  go_upto_region 10 with fail
                  refine wp_region_held_drew (S := (fun w' => w'.cell? ⟨wr.heap.size, 0, none⟩ = some (.int .i64 d) ∧ w'.cell? (aT.add ((k - 1) * 3)) = some (.int .i64 pd))) (by kernel_rfl) ?_ (fun hHeld => ?_)
                  · exact ⟨xt, p0⟩
                  refine tk 0 57 ?_
                  refine tk 1 58 ?_
                  refine tk 2 59 ?_
                  refine tk 3 60 ?_
                  refine tk 4 61 ?_
                  refine tk 5 62 ?_
                  refine tk 6 63 ?_
                  refine tk 7 64 ?_
                  refine tk 8 65 ?_
                  refine tk 9 66 ?_
                  refine tk 10 67 ?_
                  refine tk 11 68 ?_
                  refine tk 12 69 ?_
                  refine tk 13 70 ?_
                  refine tk 14 71 ?_
                  refine tk 15 72 ?_
                  refine tk 16 73 ?_
                  refine tk 17 74 ?_
                  refine tk 18 75 ?_
                  refine tk 19 76 ?_
                  refine tk 20 77 ?_
                  refine tk 21 78 ?_
                  refine tk 22 79 ?_
                  refine tk 23 80 ?_
                  refine wpAnyH_done (by kernel_rfl) ?_ _
                  clear hHeld hsub
                  go_wp2
                  go_roundw
                  case rel => exact ⟨k + 1, by omega, by go_num, HGOOD, hbA⟩
                  case measure => simp [intOf] <;> omega
        · obtain rfl : k = dn := by omega
          have HBE := Lib.hid hbw
          obtain ⟨CJ, hCJ⟩ : ∃ CJ, CJ = C ++ #[.slice A l.length c, .int .i64 f] := ⟨_, rfl⟩
          have HBJ2 := HBJ.out
          rw [← hCJ] at HBJ2
          have HBK := Lib.hid HBJ2
          have HCJ := Lib.hid hCJ
          clear hCJ HBJ2
          have k5 := HK5.out wr hbw
          have HR5 := Lib.hid k5.range
          have q6 := (HK6.out wr hbw).cell 0 rfl
          have k10 := HK10.out wr hbw
          have hdd : (staysOf old k).length = k := stays_len hdo
          have HDD := Lib.hid hdd
          have htl : (old.take k).length = k := by rw [List.length_take]; omega
          have HTL := Lib.hid htl
          have HTT : Hid (∀ W, Below w1.heap.size w1 W → Lies W W.heap.size T (turnsC (old.take k))) := fun W hb => turns_take ((HPW.out W (HBW.out W hb)).more (HBW.out W hb).size) k
          have HDO : Hid (∀ W, Below w1.heap.size w1 W → Calls Try.prog 86 #[.agg #[.slice T k ct]] W (IntsEnd (staysOf old k) W)) := fun W hb => by
            have := daysOf_any (old.take k) T ct W (HTT.out W hb) (by rw [htl]; omega)
            rw [htl] at this
            exact this
          have HJB : Hid (∀ W, Below wr.heap.size wr W → wr.heap.size < W.heap.size → Bk W wr.heap.size 107 CJ → JobAt W W.heap.size wr.heap.size C Y l A c f) := fun W hb hlt hk => by
            have hbW : Below w.heap.size w W := hBw.trans (hb.mono hBw.size)
            rw [HCJ.out] at hk
            exact ⟨hk, (HYW.out W hbW).more hbW.size, (HTW.out W hbW).more hbW.size, hlt⟩
          have HSX := Lib.hid (stay_bd (old := old) (f := f) hf1 hdo HSK.out)
          have HSX2 : Hid (∀ x ∈ staysOf old k, -1000 ≤ x ∧ x ≤ 200000) := fun x hx => by have := HSX.out x hx; omega
          have H83 : Hid (∀ (W : World) (A3 : Option Addr) (c3 : Nat), JobAt W W.heap.size wr.heap.size C Y l A c f → Lies W W.heap.size A3 (ints (staysOf old k)) → Calls Try.prog 83 #[.pointer (some ⟨wr.heap.size, 0, none⟩), .slice A3 k c3, .map none] W (EstEnd (est Y l f noFx (l.length - k) (staysOf old k)) W)) := fun W A3 c3 hj hd => by
            have h := earliest_nil wr.heap.size C Y l A c f (staysOf old k) A3 c3 W hj (okY_valid HO.out) HVT.out HTM.out ⟨hf0, hf1⟩ hd (by rw [HDD.out]; omega) HSX2.out
            rw [HDD.out] at h
            exact h
          have hjb : Bk (wr.alloc (.cells CJ 107)) wr.heap.size 107 CJ := Bk.new _ _ _
          have hjw : Below wr.heap.size wr ((wr.alloc (.cells CJ 107)).alloc (.cells #[.pointer (some ⟨wr.heap.size, 0, none⟩)] 99)) := by exact (by repeat (first | with_reducible exact Below.refl _ _ | with_reducible assumption | with_reducible refine Below.drew ?_ | with_reducible refine below_drewN ?_ _ | (with_reducible refine Below.alloc ?_ ?_ _; rotate_left; (try simp) <;> omega) | (with_reducible refine Below.setCell ?_ ?_ _; rotate_left; (try simp) <;> omega)))
          have HJW := Lib.hid hjw
          have hz10 := k10.lt
          clear hdd htl hjw
          cases hE : est Y l f noFx (l.length - k) (staysOf old k) with
          | none =>
            have HE := Lib.hid hE
            have hrp : rplD Y l f old (staysOf old k) = none := by unfold rplD; rw [HDD.out, hE]
            obtain ⟨r1, r2⟩ := repl_span (Y := Y) (l := l) (f := f) (old := old) (done := (k : Int)) HN.out HRR.out (by rw [HDN.out]; exact HSK.out) (by rw [HDN.out]; exact hrp)
            have HRE := Lib.hid (And.intro r1 r2)
            clear r1 r2 hrp hE
            rw [HE.out] at H83
            go_wp2_with (first | (have h9 := HR5; clear h9; refine wpList_load_guard (P := Try.prog) (by rfl) 29 (.tmp 5) rfl w.heap.size 0 rfl C.toList _ HR5.out Try.underlying29 rfl (by rw [HC28.out]; exact info29) ?_) | (refine wpList_build_eq (P := Try.prog) rfl 107 #[(0, .tmp 83), (1, .tmp 84), (2, .tmp 85)] rfl CJ ?_ ?_; (simpa [go_sem] using HBK.out); clear HR5 q6) | (go_at_call 86; refine (HDO.out _ (hbw.trans (HJW.out.mono hbs))).mono ?_; rintro e w3 ⟨v3, rfl, ho3, hb3⟩; rw [HDD.out] at ho3; obtain ⟨A3, c3, rfl, _, _⟩ := ownsSlice ho3; have hB3 : Below wr.heap.size wr w3 := HJW.out.trans (hb3.mono (by simp; omega)); have kj3 : Bk w3 wr.heap.size 107 CJ := (hjb.alloc _).below hb3 (by simp; omega); have kp3 : Bk w3 (wr.heap.size + 1) 99 #[.pointer (some ⟨wr.heap.size, 0, none⟩)] := Bk.below (by simpa using Bk.new (wr.alloc (.cells CJ 107)) 99 #[.pointer (some ⟨wr.heap.size, 0, none⟩)]) hb3 (by simp); have hlj3 := kj3.lt; have hlp3 := kp3.lt; have xp3 := kp3.cell 0 rfl; have hz3 := hB3.size; have hj4 := HJB.out (w3.alloc (.cells #[.slice A3 k c3] 25)) (hB3.alloc hz3 _) (by simp; omega) (kj3.alloc _); have hd4 : Lies (w3.alloc (.cells #[.slice A3 k c3] 25)) (w3.alloc (.cells #[.slice A3 k c3] 25)).heap.size A3 (ints (staysOf old k)) := ((ownsRow_lies ho3).below ((Below.refl _ _).alloc (Nat.le_refl _) _) (Nat.le_refl _)).more (by simp)) | (go_at_call 83; refine (H83.out (w3.alloc (.cells #[.slice A3 k c3] 25)) A3 c3 hj4 hd4).mono ?_; rintro e w5 ⟨rfl, hb5⟩; have hB5 : Below wr.heap.size wr w5 := (hB3.alloc hz3 _).trans (hb5.mono (by simp; omega)); have hBB5 : Below w.heap.size w w5 := hBw.trans (hB5.mono hBw.size); have k15 := k10.below hB5 k10.lt; have x10 := k15.cell 0 rfl; have f10 := k15.fro 0; have hl15 := k15.lt; clear hb5))
            have hs6 := ((k15.set 0 (.slice none 0 0)).alloc (.cells #[.slice none 0 0] 25)).cell 0 rfl
            have hb9 : Below w.heap.size w ((w5.setCell ⟨w.heap.size + 3, 0, none⟩ (.slice none 0 0)).alloc (.cells #[.slice none 0 0] 25)) := (hBB5.setCell (by simp) _).alloc (by have := hBB5.size; simpa [World.setCell] using this) _
            generalize (w5.setCell ⟨w.heap.size + 3, 0, none⟩ (.slice none 0 0)).alloc (.cells #[.slice none 0 0] 25) = w9 at *
            refine bodyPost_ret (v := .tuple #[.agg #[.slice none 0 0], .int .i64 70]) (by simp [results, Try.results26, go_sem, hs6]) rfl ?_
            rw [HRE.out.1, HRE.out.2]
            exact ⟨_, rfl, plan_nil _ _, hb9⟩
          | some L =>
            have HE := Lib.hid hE
            have hrp : rplD Y l f old (staysOf old k) = some (rplS Y l f old (staysOf old k) L).2 := by unfold rplD; rw [HDD.out, hE]
            obtain ⟨r1, r2⟩ := repl_ok (Y := Y) (l := l) (f := f) (old := old) (done := (k : Int)) HN.out HRR.out (by rw [HDN.out]; exact HSK.out) (by rw [HDN.out]; exact hrp)
            have HRP := Lib.hid hrp
            rw [HDN.out] at r2
            have HRE := Lib.hid (And.intro r1 r2)
            clear r1 r2 hrp hE
            rw [HE.out] at H83
            go_upto_region 18 with (first | (have h9 := HR5; clear h9; refine wpList_load_guard (P := Try.prog) (by rfl) 29 (.tmp 5) rfl w.heap.size 0 rfl C.toList _ HR5.out Try.underlying29 rfl (by rw [HC28.out]; exact info29) ?_) | (refine wpList_build_eq (P := Try.prog) rfl 107 #[(0, .tmp 83), (1, .tmp 84), (2, .tmp 85)] rfl CJ ?_ ?_; (simpa [go_sem] using HBK.out); clear HR5 q6) | (go_at_call 86; refine (HDO.out _ (hbw.trans (HJW.out.mono hbs))).mono ?_; rintro e w3 ⟨v3, rfl, ho3, hb3⟩; rw [HDD.out] at ho3; obtain ⟨A3, c3, rfl, _, _⟩ := ownsSlice ho3; have hB3 : Below wr.heap.size wr w3 := HJW.out.trans (hb3.mono (by simp; omega)); have kj3 : Bk w3 wr.heap.size 107 CJ := (hjb.alloc _).below hb3 (by simp; omega); have kp3 : Bk w3 (wr.heap.size + 1) 99 #[.pointer (some ⟨wr.heap.size, 0, none⟩)] := Bk.below (by simpa using Bk.new (wr.alloc (.cells CJ 107)) 99 #[.pointer (some ⟨wr.heap.size, 0, none⟩)]) hb3 (by simp); have hlj3 := kj3.lt; have hlp3 := kp3.lt; have xp3 := kp3.cell 0 rfl; have hz3 := hB3.size; have hj4 := HJB.out (w3.alloc (.cells #[.slice A3 k c3] 25)) (hB3.alloc hz3 _) (by simp; omega) (kj3.alloc _); have hd4 : Lies (w3.alloc (.cells #[.slice A3 k c3] 25)) (w3.alloc (.cells #[.slice A3 k c3] 25)).heap.size A3 (ints (staysOf old k)) := ((ownsRow_lies ho3).below ((Below.refl _ _).alloc (Nat.le_refl _) _) (Nat.le_refl _)).more (by simp)) | (go_at_call 83; refine (H83.out (w3.alloc (.cells #[.slice A3 k c3] 25)) A3 c3 hj4 hd4).mono ?_; rintro e w5 ⟨v5, rfl, ho5, hb5⟩; obtain ⟨A5, c5, rfl, _, _⟩ := ownsSlice ho5; have hB5 : Below wr.heap.size wr w5 := (hB3.alloc hz3 _).trans (hb5.mono (by simp; omega)); have hz5 := hB5.size; have hz35 := hb5.size))
            have hEl : L.length = l.length := est_length (ds := staysOf old k) (by rw [HDD.out]; exact hdl) (by rw [HDD.out]; exact HE.out)
            have hbw5 : Below w1.heap.size w1 w5 := hbw.trans (hB5.mono hbs)
            have hb0 : Below w5.heap.size w5 (w5.alloc (.cells #[.slice A5 L.length c5] 25)) := (Below.refl _ _).alloc (Nat.le_refl _) _
            have hbw0 : Below w1.heap.size w1 (w5.alloc (.cells #[.slice A5 L.length c5] 25)) := hbw5.alloc (by have := hbw5.size; omega) _
            have hBB0 := HBW.out _ hbw0
            have hBr0 : Below wr.heap.size wr (w5.alloc (.cells #[.slice A5 L.length c5] 25)) := hB5.alloc hz5 _
            have hlz0 : w5.heap.size < (w5.alloc (.cells #[.slice A5 L.length c5] 25)).heap.size := by simp
            have hj0 : Bk (w5.alloc (.cells #[.slice A5 L.length c5] 25)) wr.heap.size 107 CJ := (((kj3.alloc (.cells #[.slice A3 k c3] 25)).below hb5 (by simp; omega)).alloc _)
            have hF : ChFix (w5.alloc (.cells #[.slice A5 L.length c5] 25)) (w.heap.size + 1) (w.heap.size + 1 + 1) (wr.heap.size + 1) w3.heap.size w5.heap.size wr.heap.size C Y l A c f old T ct (staysOf old k) A3 c3 L A5 c5 :=
              { k1 := (HK6.out w5 hbw5).alloc _
                k2 := (HK7.out w5 hbw5).alloc _
                k6 := ((kp3.alloc (.cells #[.slice A3 k c3] 25)).below hb5 (by simp; omega)).alloc _
                k7 := by rw [HDD.out]; exact ((Bk.new w3 25 #[.slice A3 k c3]).below hb5 (by simp)).alloc _
                k8 := Bk.new _ _ _
                job := HJB.out _ hBr0 hj0.lt hj0
                old_ := (HPW.out _ hBB0).more hBB0.size
                lds := ((((ownsRow_lies ho3).below ((Below.refl _ _).alloc (Nat.le_refl _) (.cells #[.slice A3 k c3] 25)) (Nat.le_refl _)).more (by simp : w3.heap.size ≤ (w3.alloc (.cells #[.slice A3 k c3] 25)).heap.size)).below (hb5.alloc (Nat.le_trans hb5.size (Nat.le_refl _)) (.cells #[.slice A5 L.length c5] 25)) (Nat.le_refl _)).more (by have := hb5.size; simp at this ⊢; omega)
                lL := ((ownsRow_lies ho5).below hb0 (Nat.le_refl _)).more hb0.size
                v := okY_valid HO.out
                vt := HVT.out
                tm := HTM.out
                hf := ⟨hf0, hf1⟩
                hd := by rw [HDD.out]; exact hdl
                hx := HSX2.out
                hL := hEl
                ho := ho
                gi := fun t h => (HGI.out t h).1 }
            have HF := Lib.hid hF
            have HBW0 : Hid (Below w.heap.size w (w5.alloc (.cells #[.slice A5 L.length c5] 25))) := hBB0
            have HK100 : Hid (Bk (w5.alloc (.cells #[.slice A5 L.length c5] 25)) (w.heap.size + 3) 42 #[.slice none 0 0]) := HK10.out _ hbw0
            have HTT0 := Lib.hid (HTT.out _ hbw0)
            have hzw0 : w.heap.size + 4 ≤ (w5.alloc (.cells #[.slice A5 L.length c5] 25)).heap.size := by have := hbw0.size; omega
            clear hF hEl hbw5 hb0 hbw0 hBB0 hBr0 hlz0 hj0 xp3 kj3 kp3 hj4 hd4 ho3 ho5 hb3 hb5 hB3 hB5 k10 k5 hjb
            generalize w5.alloc (.cells #[.slice A5 L.length c5] 25) = w0 at *
            have HCA : Hid (∀ W, ChSt w0 W (w.heap.size + 1) (w.heap.size + 1 + 1) (wr.heap.size + 1) w3.heap.size w5.heap.size 0 0 gNone (-1, []) → Calls Try.prog 87 #[.int .i64 (k : Int), .pointer (some ⟨w.heap.size + 1, 0, none⟩), .pointer (some ⟨w.heap.size + 1 + 1, 0, none⟩), .pointer (some ⟨w0.heap.size + 3, 0, none⟩), .pointer (some ⟨w0.heap.size + 4, 0, none⟩), .pointer (some ⟨w0.heap.size + 1, 0, none⟩), .pointer (some ⟨wr.heap.size + 1, 0, none⟩), .pointer (some ⟨w3.heap.size, 0, none⟩), .pointer (some ⟨w5.heap.size, 0, none⟩), .pointer (some ⟨w0.heap.size, 0, none⟩)] W (ChEnd w0 (w.heap.size + 1) (w.heap.size + 1 + 1) (wr.heap.size + 1) w3.heap.size w5.heap.size (0 + bnd (l.length - k)) 0 gNone (rplS Y l f old (staysOf old k) L))) := fun W hS => by
              have h := choose_any HF.out (l.length - k) (by rw [HDD.out]; exact Nat.le_refl _) W 0 0 gNone (-1, []) hS (szK_none l.length).symm (noFx_ok _ _ _) (fun _ _ => rfl) (.inl rfl) (by have := bnd_le (n := l.length - k) (by omega); omega)
              have e : l.length - (l.length - k) = k := by omega
              rw [e] at h
              have e2 : rplS Y l f old (staysOf old k) L = visit Y l f old (staysOf old k) (endL L) (l.length - k) noFx (-1, []) := by unfold rplS; rw [HDD.out]
              rw [e2]
              exact h
            have HPL : Hid ((rplS Y l f old (staysOf old k) L).2.length = l.length) := (rpl_opt (ds := staysOf old k) (by rw [HDD.out]; exact hdl) HRP.out).1.len
            generalize rplS Y l f old (staysOf old k) L = SS at *
            obtain ⟨sm, P⟩ := SS
            have H84 : Hid (∀ W (B0 : Option Addr) (cb : Nat), Below w0.heap.size w0 W → Lies W W.heap.size B0 (ints P) → Calls Try.prog 84 #[.pointer (some ⟨wr.heap.size, 0, none⟩), .slice T k ct, .slice B0 P.length cb] W (PlanEnd (usual Y l (old.take k) P) W)) := fun W B0 cb hb hl => by
              have h := plan_any wr.heap.size C Y l A c f (old.take k) T ct P B0 cb W ((HF.out.job.below hb (Nat.le_refl _)).more hb.size) (okY_valid HO.out) ((HTT0.out.below hb (Nat.le_refl _)).more hb.size) (fun t h => (HGI.out t (List.mem_of_mem_take h)).2) hl (by have := HPL.out; simp only at this; omega) hl12 (by rw [HTL.out]; omega)
              rw [HTL.out] at h
              exact h
            have HRE2 := HRE.out
            dsimp only at HRE2
            have HRF := Lib.hid HRE2
            clear HRE2 HRE
            generalize usual Y l (old.take k) P = U at *
            have hmm := @run_makeMap Try.prog
            have HST0 := Lib.hid (chst_init w0 (w.heap.size + 1) (w.heap.size + 1 + 1) (wr.heap.size + 1) w3.heap.size w5.heap.size)
            have HST1 := HST0.out.k4.cell 0 rfl
            unfold chFn at HST0 HST1
            have xf := (initW_fn w0).cell 0 rfl
            have ff := (initW_fn w0).fro 0
            go_upto_region 22 with fail
            have hrs := fun (a : Addr) (m : Mode) (W : World) (cs : Array Value) => run_store Try.prog W a (.func (.func 87) #[] cs) m rfl
            unfold initW at HST0 HST1 xf ff
            generalize ((((w0.alloc (.cells #[.slice none 0 0] 25)).alloc (.cells #[.int .i64 (-1)] 3)).alloc (.map #[] 0)).alloc (.cells #[.map (some (w0.heap.size + 1 + 1))] 108)).alloc (.cells #[.nilFunc] 109) = wi at *
            go_wp2_with (first | (go_at_call 87; refine (HCA.out _ HST0.out).mono ?_; rintro e w6 ⟨rfl, nn6, hn6, s6⟩; obtain ⟨B0, cb, k9, kl, kg⟩ := s6.k9; have hb6 := s6.bel; have xp6 := (HF.out.k6.below hb6 HF.out.k6.lt).cell 0 rfl; have x20 := k9.cell 0 rfl; have k106 := HK100.out.below hb6 HK100.out.lt; have hB6 := HBW0.out.trans (hb6.mono HBW0.out.size)) | (go_at_call 84; refine (H84.out _ B0 cb hb6 kl).mono ?_; rintro e w7 ⟨v7, rfl, ho7, hb7⟩; obtain ⟨A7, c7, rfl, _, _⟩ := ownsSlice ho7; have hB7 := hB6.trans (hb7.mono hB6.size); have k107 := k106.below hb7 k106.lt; have x10 := k107.cell 0 rfl; have f10 := k107.fro 0; have hz6 := hB6.size; have hl107 := k106.lt))
            have hs6 := (k107.set 0 (.slice A7 U.length c7)).cell 0 rfl
            have hb9 : Below w.heap.size w (w7.setCell ⟨w.heap.size + 3, 0, none⟩ (.slice A7 U.length c7)) := hB7.setCell (by simp) _
            have ho9 : (w7.setCell ⟨w.heap.size + 3, 0, none⟩ (.slice A7 U.length c7)).ownsRow w6.heap.size 55 3 (.slice A7 U.length c7) U.length (turnsC U) := (far_setCells (w.heap.size + 3) [.slice A7 U.length c7] 0 w7).own ho7 hl107
            generalize w7.setCell ⟨w.heap.size + 3, 0, none⟩ (.slice A7 U.length c7) = w9 at *
            refine bodyPost_ret (v := .tuple #[.agg #[.slice A7 U.length c7], .int .i64 0]) (by simp [results, Try.results26, go_sem, hs6]) rfl ?_
            rw [HRF.out.1, HRF.out.2]
            exact ⟨_, rfl, ownsRow_base ho9 hz6, hb9⟩
      · have hr2' : inB f 0 100000 = false := by simpa using hr2
        obtain ⟨h1, h2⟩ := repl_arg (f := f) (old := old) (done := done) HN.out (fun h => hr2 h.2)
        rw [h1, h2]
        have HR1 := Lib.hid hr1
        have HR2 := Lib.hid hr2'
        clear h1 h2 hr1 hr2 hr2'
        go_enter Try.func26, Try.ntmps26
        go_wp2_with (first | (have h9 := HR0; clear h9; refine wpList_load_guard (P := Try.prog) (by rfl) 29 (.tmp 5) rfl w.heap.size 0 rfl C.toList _ HR0.out Try.underlying29 rfl (by rw [HC28.out]; exact info29) ?_) | (go_at_call 85; refine (HCO.out _ hb0).mono ?_; rintro e w1 ⟨rfl, hb1⟩; have hB1 : Below w.heap.size w w1 := hb0.trans (hb1.mono hb0.size); have k5 := b5.below hb1 b5.lt; have k6 := b6.below hb1 b6.lt; have k7 := b7.below hb1 b7.lt; have k10 := b10.below hb1 b10.lt; have hl10 := k10.lt; have q6 := k6.cell 0 rfl; have q7 := k7.cell 0 rfl; have x10 := k10.cell 0 rfl; have f10 := k10.fro 0; have hz1 := hb1.size; clear hb1 HR0) | (go_at_call 66; refine (HIN.out _ _ _ _).mono ?_; rintro e wq ⟨rfl, rfl⟩; rw [HR1.out]; clear HR1) | (go_at_call 66; refine (HIN.out _ _ _ _).mono ?_; rintro e wq ⟨rfl, rfl⟩; rw [HR2.out]; clear HR2))
        have hs6 := (k10.set 0 (.slice none 0 0)).cell 0 rfl
        have hb9 : Below w.heap.size w (w1.setCell ⟨w.heap.size + 3, 0, none⟩ (.slice none 0 0)) := hB1.setCell (by simp) _
        generalize w1.setCell ⟨w.heap.size + 3, 0, none⟩ (.slice none 0 0) = w9 at *
        refine bodyPost_ret (v := .tuple #[.agg #[.slice none 0 0], .int .i64 1]) (by simp [results, Try.results26, go_sem, hs6]) rfl ?_
        exact ⟨_, rfl, plan_nil _ _, hb9⟩
    · have hr1' : inB done 0 (min (l.length : Int) (old.length : Int)) = false := by simpa using hr1
      obtain ⟨h1, h2⟩ := repl_arg (f := f) (old := old) (done := done) HN.out (fun h => hr1 h.1)
      rw [h1, h2]
      have HR1 := Lib.hid hr1'
      clear h1 h2 hr1 hr1'
      go_enter Try.func26, Try.ntmps26
      go_wp2_with (first | (have h9 := HR0; clear h9; refine wpList_load_guard (P := Try.prog) (by rfl) 29 (.tmp 5) rfl w.heap.size 0 rfl C.toList _ HR0.out Try.underlying29 rfl (by rw [HC28.out]; exact info29) ?_) | (go_at_call 85; refine (HCO.out _ hb0).mono ?_; rintro e w1 ⟨rfl, hb1⟩; have hB1 : Below w.heap.size w w1 := hb0.trans (hb1.mono hb0.size); have k5 := b5.below hb1 b5.lt; have k6 := b6.below hb1 b6.lt; have k7 := b7.below hb1 b7.lt; have k10 := b10.below hb1 b10.lt; have hl10 := k10.lt; have q6 := k6.cell 0 rfl; have q7 := k7.cell 0 rfl; have x10 := k10.cell 0 rfl; have f10 := k10.fro 0; have hz1 := hb1.size; clear hb1 HR0) | (go_at_call 66; refine (HIN.out _ _ _ _).mono ?_; rintro e wq ⟨rfl, rfl⟩; rw [HR1.out]; clear HR1))
      have hs6 := (k10.set 0 (.slice none 0 0)).cell 0 rfl
      have hb9 : Below w.heap.size w (w1.setCell ⟨w.heap.size + 3, 0, none⟩ (.slice none 0 0)) := hB1.setCell (by simp) _
      generalize w1.setCell ⟨w.heap.size + 3, 0, none⟩ (.slice none 0 0) = w9 at *
      refine bodyPost_ret (v := .tuple #[.agg #[.slice none 0 0], .int .i64 1]) (by simp [results, Try.results26, go_sem, hs6]) rfl ?_
      exact ⟨_, rfl, plan_nil _ _, hb9⟩
  · obtain ⟨h1, h2⟩ := repl_com (f := f) (old := old) (done := done) hn
    rw [h1, h2]
    have HN := Lib.hid hn
    generalize comE Y l = N at *
    have hne : (N != 0) = true := by simp [hn]
    clear h1 h2 hn
    go_enter Try.func26, Try.ntmps26
    go_wp2_with (first | (have h9 := HR0; clear h9; refine wpList_load_guard (P := Try.prog) (by rfl) 29 (.tmp 5) rfl w.heap.size 0 rfl C.toList _ HR0.out Try.underlying29 rfl (by rw [HC28.out]; exact info29) ?_) | (go_at_call 85; refine (HCO.out _ hb0).mono ?_; rintro e w1 ⟨rfl, hb1⟩; have hB1 : Below w.heap.size w w1 := hb0.trans (hb1.mono hb0.size); have k5 := b5.below hb1 b5.lt; have k6 := b6.below hb1 b6.lt; have k7 := b7.below hb1 b7.lt; have k10 := b10.below hb1 b10.lt; have hl10 := k10.lt; have q6 := k6.cell 0 rfl; have q7 := k7.cell 0 rfl; have x10 := k10.cell 0 rfl; have f10 := k10.fro 0; have hz1 := hb1.size; clear hb1 HR0))
    have hs6 := (k10.set 0 (.slice none 0 0)).cell 0 rfl
    have hb9 : Below w.heap.size w (w1.setCell ⟨w.heap.size + 3, 0, none⟩ (.slice none 0 0)) := hB1.setCell (by simp) _
    generalize w1.setCell ⟨w.heap.size + 3, 0, none⟩ (.slice none 0 0) = w9 at *
    refine bodyPost_ret (v := .tuple #[.agg #[.slice none 0 0], .int .i64 N]) (by simp [results, Try.results26, go_sem, hs6]) rfl ?_
    exact ⟨_, rfl, plan_nil _ _, hb9⟩
end Go.Proofs.Ytjgnikmnadmheaa
