/- crew.CheckPlan. Printed by wip/gen_t18.py. -/
import Derived.Test.YtjgnikmnadmheaaG02
import Derived.Test.YtjgnikmnadmheaaG13

namespace Go.Proofs.Ytjgnikmnadmheaa
open Go.RowKit

theorem ok_days {Y : Yd} {l : List Tk} {f : Int} {ts : List Tu} (hv : Valid Y) (hf : 0 ≤ f ∧ f ≤ 100000) : ∀ k, k ≤ ts.length → k ≤ l.length → (∀ j, j < k → turnOK Y l f ts j = true) → ∀ x ∈ (ts.take k).map Tu.day, f ≤ x ∧ x < f + 400
  | 0, _, _, _ => by simp
  | k + 1, h1, h2, h => by
    have ih := ok_days (l := l) hv hf k (by omega) (by omega) (fun j hj => h j (by omega))
    have hk := h k (by omega)
    rw [turnOK_at (by omega) (by omega)] at hk
    simp only [Bool.and_eq_true] at hk
    have hd := hk.1
    unfold dayOK at hd
    simp only [Bool.and_eq_true, decide_eq_true_eq] at hd
    have hlo := lowK_bd (af := (l[k]'(by omega)).af) hf hv.dry (fun x hx => by have := ih x hx; omega) _ (Nat.le_refl _)
    intro x hx
    rw [List.take_succ_eq_append_getElem (by omega), List.map_append, List.mem_append] at hx
    rcases hx with hx | hx
    · exact ih x hx
    · simp at hx
      subst hx
      have h3 : lowS Y.dry f (l[k]'(by omega)).af ((ts.take k).map Tu.day) ≤ (ts[k]'(by omega)).day := hd.2.1
      have h4 : f ≤ lowS Y.dry f (l[k]'(by omega)).af ((ts.take k).map Tu.day) := hlo.1
      omega
theorem lies_take {w : World} {B : Nat} {A : Option Addr} {l : List Int} (h : Lies w B A (ints l)) (k : Nat) : Lies w B A (ints (l.take k)) := fun hne => by
  have hl : ints l ≠ [] := by intro e; apply hne; unfold ints at e ⊢; rw [List.map_eq_nil_iff] at e; rw [e]; simp
  obtain ⟨ad, e, hb, hc⟩ := h hl
  refine ⟨ad, e, hb, fun j u hu => hc j u ?_⟩
  unfold ints at hu ⊢
  rw [List.map_take, List.getElem?_take] at hu
  split at hu
  · exact hu
  · cases hu

set_option maxRecDepth 100000 in
set_option maxHeartbeats 1000000 in
theorem checkPlan_any (C : Array Value) (Y : Yd) (l : List Tk) (A : Option Addr) (c : Nat) (f : Int) (ts : List Tu) (T : Option Addr) (ct : Nat) (w : World) (hY : YardAt w w.heap.size C Y) (hs : Small Y) (hT : TasksAt w w.heap.size A l) (ht : tame l)
    (hP : Lies w w.heap.size T (turnsC ts)) (hn : ts.length ≤ 20) (hpi : ∀ t ∈ ts, i64v t.pit) :
    Calls Try.prog 41 #[.agg C, .slice A l.length c, .int .i64 f, .agg #[.slice T ts.length ct]] w (TwoEnd (decide (begE Y l f = 0) && planOK Y l f ts) (begE Y l f) w) := by
  have HBE := Lib.hid (fun W (hb : Below w.heap.size w W) => begun_any C Y l A c f W ((hY.below hb (Nat.le_refl _)).more hb.size) hs ((hT.below hb (Nat.le_refl _)).more hb.size) ht)
  have HDO := Lib.hid (fun W (hb : Below w.heap.size w W) => daysOf_any ts T ct W ((hP.below hb (Nat.le_refl _)).more hb.size) (by omega))
  have HYW := Lib.hid (fun W (hb : Below w.heap.size w W) => (hY.below hb (Nat.le_refl _)).more hb.size)
  have HTW := Lib.hid (fun W (hb : Below w.heap.size w W) => (hT.below hb (Nat.le_refl _)).more hb.size)
  have HPW := Lib.hid (fun W (hb : Below w.heap.size w W) => hP.below hb (Nat.le_refl _))
  have HC28 := Lib.hid hY.len
  have HTM := Lib.hid ht
  have hmm := @run_makeMap Try.prog
  obtain ⟨Ap, kp, e2, L2⟩ := hY.pi
  have HL2 := Lib.hid (fun W (hb : Below w.heap.size w W) => L2.below hb (Nat.le_refl _))
  have b4 : Bk ((w.alloc (.cells C 29)).alloc (.cells #[.slice T ts.length ct] 42)) w.heap.size 29 C := (Bk.new _ _ _).alloc _
  have b7 : Bk ((w.alloc (.cells C 29)).alloc (.cells #[.slice T ts.length ct] 42)) (w.heap.size + 1) 42 #[.slice T ts.length ct] := by simpa using Bk.new (w.alloc (.cells C 29)) 42 #[.slice T ts.length ct]
  have hb0 : Below w.heap.size w ((w.alloc (.cells C 29)).alloc (.cells #[.slice T ts.length ct] 42)) := by exact (by repeat (first | with_reducible exact Below.refl _ _ | with_reducible assumption | with_reducible refine Below.drew ?_ | with_reducible refine below_drewN ?_ _ | (with_reducible refine Below.alloc ?_ ?_ _; rotate_left; (try simp) <;> omega) | (with_reducible refine Below.setCell ?_ ?_ _; rotate_left; (try simp) <;> omega)))
  have HR0 := Lib.hid b4.range
  have HPI := Lib.hid hpi
  clear hY hT hs ht hP L2 hpi
  by_cases hb : begE Y l f = 0
  · obtain ⟨ho, hvt, hf⟩ := begE_ok hb
    rw [hb] at HBE ⊢
    have hbt : decide ((0 : Int) = 0) = true := rfl
    rw [hbt, Bool.true_and]
    have HVT := Lib.hid hvt
    have HO := Lib.hid ho
    have hl12 := hvt.n
    have HPV := Lib.hid (okY_valid ho).pi
    have hp8 := (okY_valid ho).n2
    clear hb ho hvt hbt
    by_cases hlen : ts.length = l.length
    · have HPY := Lib.hid (planOK_yes (Y := Y) (f := f) hlen)
      have HPN := Lib.hid (fun i (hi : i < l.length) (h : turnOK Y l f ts i = false) => planOK_no (ts := ts) hi h)
      have HLN := Lib.hid hlen
      have hne : ((ts.length : Int) != (l.length : Int)) = false := by rw [hlen]; simp
      have hne2 : (ts.length != l.length) = false := by rw [hlen]; simp
      have HAT := Lib.hid (fun i (hi : i < l.length) (hi2 : i < ts.length) => turnOK_at (Y := Y) (f := f) hi hi2)
      have HOD := Lib.hid (fun k (h1 : k ≤ l.length) (h : ∀ j, j < k → turnOK Y l f ts j = true) => ok_days (okY_valid HO.out) hf k (by rw [hlen]; exact h1) h1 h)
      have hltn : ts.length ≤ l.length := by omega
      have hltn2 : l.length ≤ ts.length := by omega
      clear hlen
      generalize planOK Y l f ts = R at *
      go_enter Try.func41, Try.ntmps41
      go_wp2_with (first | (refine wpList_load_guard (P := Try.prog) (by rfl) 29 (.tmp 4) rfl w.heap.size 0 rfl C.toList _ HR0.out Try.underlying29 rfl (by rw [HC28.out]; exact info29) ?_) | (go_at_call 82; refine (HBE.out _ hb0).mono ?_; rintro e w1 ⟨hb1, ⟨h0, _⟩ | ⟨_, bj, hbj, rfl, hj1⟩⟩; (exact absurd rfl h0); have hB1 : Below w.heap.size w w1 := hb0.trans (hb1.mono hb0.size); have k4 : Bk w1 w.heap.size 29 C := b4.below hb1 b4.lt; have k7 : Bk w1 (w.heap.size + 1) 42 #[.slice T ts.length ct] := b7.below hb1 b7.lt; have l7 := k7.lt; have x7 := k7.cell 0 rfl; clear hb1) | (go_at_call 86; refine (HDO.out _ hB1).mono ?_; rintro e w2 ⟨v2, rfl, ho2, hb2⟩; rw [List.length_map] at ho2; obtain ⟨AD, cD, rfl, hcD, _⟩ := ownsSlice ho2; have hB2 : Below w.heap.size w w2 := hB1.trans (hb2.mono hB1.size); have k42 := k4.below hb2 k4.lt; have k72 := k7.below hb2 l7; have x72 := k72.cell 0 rfl; have hl72 := k72.lt; have hj2 := (hj1.below hb2 (Nat.le_refl _)).more hb2.size; have hld := ownsRow_lies ho2; clear hb2))
      have hjl := hj2.lt
      have km := MapC.made w2
      rw [← gOf_nil] at km
      have kb : Below w2.heap.size w2 (w2.alloc (.map #[] 0)) := by exact (by repeat (first | with_reducible exact Below.refl _ _ | with_reducible assumption | with_reducible refine Below.drew ?_ | with_reducible refine below_drewN ?_ _ | (with_reducible refine Below.alloc ?_ ?_ _; rotate_left; (try simp) <;> omega) | (with_reducible refine Below.setCell ?_ ?_ _; rotate_left; (try simp) <;> omega)))
      clear hj1 k4 k7 hB1 x7
      go_loopw [38] (fun y wr => ∃ (k n sz : Nat), k ≤ ts.length ∧ n ≤ k ∧ y = .int .i64 k ∧ MapC wr w2.heap.size n sz (gOf (ts.take k)) ∧ Hid (∀ j, j < k → turnOK Y l f ts j = true) ∧ Below w2.heap.size w2 wr) (fun y _ => ts.length - (intOf y).toNat)
      case atStart => exact ⟨0, 0, 0, by omega, by omega, rfl, km, fun j hj => absurd hj (by omega), kb⟩
      case round =>
      clear km kb x72
      obtain ⟨k, n, sz, hk, hnk, rfl, hm, HG, hbw⟩ := hrel
      have hBr : Below w.heap.size w wr := hB2.trans (hbw.mono hB2.size)
      have hml := hm.lt
      by_cases hlt : k < ts.length
      · have hkl : k < l.length := by omega
        obtain ⟨a1, rfl, ha1, t0, t1, t2⟩ := turn_at (HPW.out wr hBr) hlt
        have HA := Lib.hid (HAT.out k hkl hlt)
        have HF := Lib.hid (HPN.out k hkl)
        have HD := Lib.hid (HOD.out k (by omega) HG.out)
        have hpit := HPI.out _ (List.getElem_mem hlt)
        have HSN : Hid (∀ u, ts[k] = u → gPut (gOf (ts.take k)) u.pit (cntP (ts.take k) u.pit + 1) = gOf (ts.take (k + 1)) ∧ cntP (ts.take (k + 1)) u.pit = cntP (ts.take k) u.pit + 1) := fun u e => by
          subst e
          refine ⟨by rw [List.take_succ_eq_append_getElem hlt, gOf_snoc], ?_⟩
          rw [cntP_take hlt, if_pos rfl]
        have HPT : Hid (∀ u, ts[k] = u → pitTake Y ts k u = match Y.pi[u.pit.toNat]? with | some p => agedB p u.day && decide (cntP (ts.take (k + 1)) u.pit ≤ p.b) | none => false) := fun u _ => rfl
        generalize hu : ts[k] = u at *
        have HU1 := HSN.out u rfl
        have HU2 := HPT.out u rfl
        have HUU := Lib.hid hu
        clear hu HSN HPT
        obtain ⟨d, p, m⟩ := u
        dsimp only at *
        obtain ⟨a3, rfl, ha3, _, tn, _, _⟩ := task_at ((HTW.out wr hBr).at_) hkl
        obtain ⟨hs1, hs2⟩ := HU1
        have HS1 := Lib.hid hs1; have HS2 := Lib.hid hs2; have HP2 := Lib.hid HU2
        clear hs1 hs2 HU2
        have hkd : ((ts.take k).map Tu.day).length = k := by simp; omega
        have hkt : Hid ((ts.map Tu.day).take k = (ts.take k).map Tu.day) := by show _ = _; rw [List.map_take]
        -- contracts in the round's worlds
        have hWt : Below (wr.alloc (.cells #[.int .i64 d, .int .i64 p, .int .i64 m] 55)).heap.size (wr.alloc (.cells #[.int .i64 d, .int .i64 p, .int .i64 m] 55)) (wr.alloc (.cells #[.int .i64 d, .int .i64 p, .int .i64 m] 55)) := Below.refl _ _
        have hBt : Below w.heap.size w (wr.alloc (.cells #[.int .i64 d, .int .i64 p, .int .i64 m] 55)) := hBr.alloc hBr.size _
        have HBT : Hid (∀ W : World, Below (wr.alloc (.cells #[.int .i64 d, .int .i64 p, .int .i64 m] 55)).heap.size (wr.alloc (.cells #[.int .i64 d, .int .i64 p, .int .i64 m] 55)) W → Below w.heap.size w W) := fun W hb => hBt.trans (hb.mono hBt.size)
        have HBJ : Hid (∀ W : World, Below (wr.alloc (.cells #[.int .i64 d, .int .i64 p, .int .i64 m] 55)).heap.size (wr.alloc (.cells #[.int .i64 d, .int .i64 p, .int .i64 m] 55)) W → Below w2.heap.size w2 W) := fun W hb => (hbw.alloc hbw.size _).trans (hb.mono (by have := hbw.size; simp; omega))
        have HU := Lib.hid (fun W (h : W.cell? ⟨bj, 29, none⟩ = some (.int .i64 f)) => until_any bj f W h ⟨hf.1, by omega⟩)
        have hdb : ∀ x ∈ (ts.take k).map Tu.day, -1000 ≤ x ∧ x ≤ 200000 := fun x hx => by have := HD.out x hx; omega
        have HLO : Hid (∀ W : World, Below (wr.alloc (.cells #[.int .i64 d, .int .i64 p, .int .i64 m] 55)).heap.size (wr.alloc (.cells #[.int .i64 d, .int .i64 p, .int .i64 m] 55)) W → Calls Try.prog 96 #[.pointer (some ⟨bj, 0, none⟩), .slice AD k cD] W (IntEnd (lowS Y.dry f l[k].af ((ts.take k).map Tu.day)) W)) := fun W hb => by
          have h1 := lower_any bj C Y l (some a3) c f ((ts.take k).map Tu.day) AD cD W ((hj2.below (HBJ.out W hb) (Nat.le_refl _)).more (HBJ.out W hb).size) (okY_valid HO.out) HVT.out HTM.out hf (by rw [← hkt.out]; exact lies_take ((hld.below (HBJ.out W hb) (Nat.le_refl _)).more (HBJ.out W hb).size) k) (by rw [hkd]; exact hkl) hdb
          have e : l[((ts.take k).map Tu.day).length]'(by rw [hkd]; exact hkl) = l[k] := by congr 1
          rw [e, hkd] at h1
          exact h1
        have HSU0 : Hid (∀ W : World, Below (wr.alloc (.cells #[.int .i64 d, .int .i64 p, .int .i64 m] 55)).heap.size (wr.alloc (.cells #[.int .i64 d, .int .i64 p, .int .i64 m] 55)) W → Calls Try.prog 97 #[.agg C, .slice (some a3) l.length c, .int .i64 k, .int .i64 d] W (ShEnd (suitB Y l[k] k d) W)) := fun W hb => suits_any C Y l (some a3) c k d W (HYW.out W (HBT.out W hb)) (okY_valid HO.out) (HTW.out W (HBT.out W hb)) HTM.out.1 hkl
        have HSK0 : Hid (∀ W : World, Below (wr.alloc (.cells #[.int .i64 d, .int .i64 p, .int .i64 m] 55)).heap.size (wr.alloc (.cells #[.int .i64 d, .int .i64 p, .int .i64 m] 55)) W → Calls Try.prog 98 #[.agg C, .int .i64 d, .int .i64 l[k].need] W (IntsEnd (skL Y.ma d l[k].need) W)) := fun W hb => skilled_any C Y d l[k].need W (HYW.out W (HBT.out W hb)) (okY_valid HO.out)
        have hskn := skK_len Y.ma d l[k].need Y.ma.length
        rw [show skK Y.ma d l[k].need Y.ma.length = skL Y.ma d l[k].need from rfl] at hskn
        have hm12 := (okY_valid HO.out).n3
        have HCN0 : Hid (∀ (A7 : Option Addr) (c7 : Nat) (W : World), Lies W W.heap.size A7 (ints (skL Y.ma d l[k].need)) → Calls Try.prog 91 #[.slice A7 (skL Y.ma d l[k].need).length c7, .int .i64 m] W (ShEnd ((skL Y.ma d l[k].need).contains m) W)) := fun A7 c7 W h => contains_any _ A7 c7 m W h (by omega)
        have HIN0 : Hid (∀ W : World, Calls Try.prog 66 #[.int .i64 p, .int .i64 0, .int .i64 ((Y.pi.length : Int) - 1)] W fun e w' => e = .returned (.bool (inB p 0 ((Y.pi.length : Int) - 1))) ∧ W = w') := fun W => in_any _ _ _ W
        have hlow := lowK_bd (af := l[k].af) hf (okY_valid HO.out).dry hdb _ (Nat.le_refl _)
        rw [show lowK Y.dry f l[k].af ((ts.take k).map Tu.day) l[k].af.length = lowS Y.dry f l[k].af ((ts.take k).map Tu.day) from rfl] at hlow
        unfold dayOK at HA
        have hnd : ∃ nd, nd = l[k].need := ⟨_, rfl⟩
        obtain ⟨nd, hnd⟩ := hnd
        rw [← hnd] at tn HSK0 HCN0 hskn HA
        have hkI : (k : Int) < (ts.length : Int) := by omega
        have hkL : (k : Int) < (l.length : Int) := by omega
        have hk0 : 0 ≤ (k : Int) := by omega
        have hkc : (k : Int) ≤ (cD : Int) := by omega
        have hf1 := hf.1
        have hf2 := hf.2
        have HS : Hid (∀ W : World, Below (wr.alloc (.cells #[.int .i64 d, .int .i64 p, .int .i64 m] 55)).heap.size (wr.alloc (.cells #[.int .i64 d, .int .i64 p, .int .i64 m] 55)) W → W.rangeAt w.heap.size 0 C.toList ∧ W.cell? ⟨wr.heap.size, 0, none⟩ = some (.int .i64 d) ∧ W.cell? ⟨wr.heap.size, 1, none⟩ = some (.int .i64 p) ∧ W.cell? ⟨wr.heap.size, 2, none⟩ = some (.int .i64 m) ∧ W.cell? ⟨w.heap.size, 25, none⟩ = some (.slice Ap Y.pi.length kp) ∧ W.cell? ⟨(a3.add (k * 4)).block, (a3.add (k * 4)).off + 1, none⟩ = some (.int .i64 nd) ∧ W.cell? ⟨bj, 29, none⟩ = some (.int .i64 f)) := fun W hb => by
          have hb2 := HBJ.out W hb
          have kt : Bk W wr.heap.size 55 #[.int .i64 d, .int .i64 p, .int .i64 m] := (Bk.new wr 55 #[.int .i64 d, .int .i64 p, .int .i64 m]).below hb (by simp)
          have k4 := k42.below hb2 k42.lt
          obtain ⟨b3, e3, _, _, q3, _, _⟩ := task_at ((HTW.out W (HBT.out W hb)).at_) hkl
          cases e3
          rw [← hnd] at q3
          exact ⟨k4.range, kt.cell 0 rfl, kt.cell 1 rfl, kt.cell 2 rfl, k4.cell 25 e2, q3, (hj2.below hb2 (Nat.le_refl _)).from_⟩
        have hi29 : (Try.prog.info? 29).map (·.size) = some C.toList.length := by rw [HC28.out]; exact info29
        have hu29 := Try.underlying29
        have HND := Lib.hid hnd
        clear hnd hdb hkd
        generalize lowS Y.dry f l[k].af ((ts.take k).map Tu.day) = low at *
        generalize hq : suitB Y l[k] k d = q at *
        generalize skL Y.ma d nd = L at *
        generalize hcc : L.contains m = cc at *
        generalize hii : inB p 0 ((Y.pi.length : Int) - 1) = ii at *
        have HII := Lib.hid hii
        have hp0 : 0 ≤ (Y.pi.length : Int) := by omega
        clear hq hcc hii
        have WP : IntKind.i64.wrap ((Y.pi.length : Int) - 1) = (Y.pi.length : Int) - 1 := IntWalk.i64_in _ (by omega)
        obtain ⟨hlow1, hlow2⟩ := hlow
        go_upto_region 11 with fail
        clear t0 t1 t2 tn
        by_cases c1 : f + 400 ≤ d
        · have HR : Hid (R = false) := HF.out (by rw [HA.out, show decide (d < f + 400) = false from decide_eq_false (by omega)]; rfl)
          refine wp_region_held_drew (S := (fun w' => w'.rangeAt w.heap.size 0 C.toList ∧ w'.cell? ⟨wr.heap.size, 0, none⟩ = some (.int .i64 d) ∧ w'.cell? ⟨wr.heap.size, 1, none⟩ = some (.int .i64 p) ∧ w'.cell? ⟨wr.heap.size, 2, none⟩ = some (.int .i64 m) ∧ w'.cell? ⟨w.heap.size, 25, none⟩ = some (.slice Ap Y.pi.length kp) ∧ w'.cell? ⟨(a3.add (k * 4)).block, (a3.add (k * 4)).off + 1, none⟩ = some (.int .i64 nd) ∧ w'.cell? ⟨bj, 29, none⟩ = some (.int .i64 f))) (by kernel_rfl) ?_ (fun hHeld => ?_)
          · exact HS.out _ (by exact (by repeat (first | with_reducible exact Below.refl _ _ | with_reducible assumption | with_reducible refine Below.drew ?_ | with_reducible refine below_drewN ?_ _ | (with_reducible refine Below.alloc ?_ ?_ _; rotate_left; (try simp) <;> omega) | (with_reducible refine Below.setCell ?_ ?_ _; rotate_left; (try simp) <;> omega))))
          refine tk 0 43 ?_
          refine tk 1 44 ?_
          refine tk 2 45 ?_
          (refine held_call 3 (some 46) 95 _ rfl (by kernel_rfl) (by rfl) ?_ (HU.out _ hHeld.2.2.2.2.2.2) ?_; rotate_left; rotate_left; (simp only [List.getElem?_toArray, List.getElem?_cons_zero, List.getElem?_cons_succ, Option.map_some]; refine congrArg some ?_; go_simp))
          rintro e x5 ⟨rfl, rfl⟩
          refine ⟨_, rfl, hHeld, fun hHeld => ?_⟩
          (try simp only [Act.put, List.setIfInBounds_toArray, List.set_cons_zero, List.set_cons_succ])
          refine tk 4 47 ?_
          refine tk 5 48 ?_
          refine sk 6 49 ?_
          refine sk 7 50 ?_
          refine sk 8 51 ?_
          refine sk 9 52 ?_
          refine sk 10 53 ?_
          refine sk 11 54 ?_
          refine sk 12 55 ?_
          refine sk 13 56 ?_
          refine tk 14 57 ?_
          refine tk 15 58 ?_
          refine sk 16 59 ?_
          refine sk 17 60 ?_
          refine sk 18 61 ?_
          refine sk 19 62 ?_
          refine sk 20 63 ?_
          refine sk 21 64 ?_
          refine sk 22 65 ?_
          refine tk 23 66 ?_
          refine tk 24 67 ?_
          refine sk 25 68 ?_
          refine sk 26 69 ?_
          refine sk 27 70 ?_
          refine sk 28 71 ?_
          refine sk 29 72 ?_
          refine sk 30 73 ?_
          refine sk 31 74 ?_
          refine sk 32 75 ?_
          refine sk 33 76 ?_
          refine sk 34 77 ?_
          refine sk 35 78 ?_
          refine sk 36 79 ?_
          refine sk 37 80 ?_
          refine tk 38 81 ?_
          refine tk 39 82 ?_
          refine sk 40 83 ?_
          refine sk 41 84 ?_
          refine sk 42 85 ?_
          refine sk 43 86 ?_
          refine sk 44 87 ?_
          refine sk 45 88 ?_
          refine sk 46 89 ?_
          refine sk 47 90 ?_
          refine tk 48 91 ?_
          refine wpAnyH_done (by kernel_rfl) ?_ _
          go_wp2
          go_ret2
          rw [HR.out]
          exact ⟨rfl, HBT.out _ (by exact (by repeat (first | with_reducible exact Below.refl _ _ | with_reducible assumption | with_reducible refine Below.drew ?_ | with_reducible refine below_drewN ?_ _ | (with_reducible refine Below.alloc ?_ ?_ _; rotate_left; (try simp) <;> omega) | (with_reducible refine Below.setCell ?_ ?_ _; rotate_left; (try simp) <;> omega))))⟩
        have c1' : d < f + 400 := by omega
        by_cases c2 : d < low
        · have HR : Hid (R = false) := HF.out (by rw [HA.out, show decide (low ≤ d) = false from decide_eq_false (by omega)]; simp)
          refine wp_region_held_drew (S := (fun w' => w'.rangeAt w.heap.size 0 C.toList ∧ w'.cell? ⟨wr.heap.size, 0, none⟩ = some (.int .i64 d) ∧ w'.cell? ⟨wr.heap.size, 1, none⟩ = some (.int .i64 p) ∧ w'.cell? ⟨wr.heap.size, 2, none⟩ = some (.int .i64 m) ∧ w'.cell? ⟨w.heap.size, 25, none⟩ = some (.slice Ap Y.pi.length kp) ∧ w'.cell? ⟨(a3.add (k * 4)).block, (a3.add (k * 4)).off + 1, none⟩ = some (.int .i64 nd) ∧ w'.cell? ⟨bj, 29, none⟩ = some (.int .i64 f))) (by kernel_rfl) ?_ (fun hHeld => ?_)
          · exact HS.out _ (by exact (by repeat (first | with_reducible exact Below.refl _ _ | with_reducible assumption | with_reducible refine Below.drew ?_ | with_reducible refine below_drewN ?_ _ | (with_reducible refine Below.alloc ?_ ?_ _; rotate_left; (try simp) <;> omega) | (with_reducible refine Below.setCell ?_ ?_ _; rotate_left; (try simp) <;> omega))))
          refine tk 0 43 ?_
          refine tk 1 44 ?_
          refine tk 2 45 ?_
          (refine held_call 3 (some 46) 95 _ rfl (by kernel_rfl) (by rfl) ?_ (HU.out _ hHeld.2.2.2.2.2.2) ?_; rotate_left; rotate_left; (simp only [List.getElem?_toArray, List.getElem?_cons_zero, List.getElem?_cons_succ, Option.map_some]; refine congrArg some ?_; go_simp))
          rintro e x5 ⟨rfl, rfl⟩
          refine ⟨_, rfl, hHeld, fun hHeld => ?_⟩
          (try simp only [Act.put, List.setIfInBounds_toArray, List.set_cons_zero, List.set_cons_succ])
          refine tk 4 47 ?_
          refine tk 5 48 ?_
          refine tk 6 49 ?_
          refine tk 7 50 ?_
          refine tk 8 51 ?_
          refine tk 9 52 ?_
          refine tk 10 53 ?_
          refine tk 11 54 ?_
          (refine held_call 12 (some 55) 96 _ rfl (by kernel_rfl) (by rfl) ?_ (HLO.out _ hWt.drew) ?_; rotate_left; rotate_left; (simp only [List.getElem?_toArray, List.getElem?_cons_zero, List.getElem?_cons_succ, Option.map_some]; refine congrArg some ?_; go_simp))
          rintro e w5 ⟨rfl, hb5⟩
          have hW5 : Below (wr.alloc (.cells #[.int .i64 d, .int .i64 p, .int .i64 m] 55)).heap.size (wr.alloc (.cells #[.int .i64 d, .int .i64 p, .int .i64 m] 55)) w5 := Below.trans (by exact (by repeat (first | with_reducible exact Below.refl _ _ | with_reducible assumption | with_reducible refine Below.drew ?_ | with_reducible refine below_drewN ?_ _ | (with_reducible refine Below.alloc ?_ ?_ _; rotate_left; (try simp) <;> omega) | (with_reducible refine Below.setCell ?_ ?_ _; rotate_left; (try simp) <;> omega)))) hb5
          have hS5 := HS.out _ hW5
          refine ⟨_, rfl, hS5, fun hHeld => ?_⟩
          (try simp only [Act.put, List.setIfInBounds_toArray, List.set_cons_zero, List.set_cons_succ])
          refine tk 13 56 ?_
          refine tk 14 57 ?_
          refine tk 15 58 ?_
          refine sk 16 59 ?_
          refine sk 17 60 ?_
          refine sk 18 61 ?_
          refine sk 19 62 ?_
          refine sk 20 63 ?_
          refine sk 21 64 ?_
          refine sk 22 65 ?_
          refine tk 23 66 ?_
          refine tk 24 67 ?_
          refine sk 25 68 ?_
          refine sk 26 69 ?_
          refine sk 27 70 ?_
          refine sk 28 71 ?_
          refine sk 29 72 ?_
          refine sk 30 73 ?_
          refine sk 31 74 ?_
          refine sk 32 75 ?_
          refine sk 33 76 ?_
          refine sk 34 77 ?_
          refine sk 35 78 ?_
          refine sk 36 79 ?_
          refine sk 37 80 ?_
          refine tk 38 81 ?_
          refine tk 39 82 ?_
          refine sk 40 83 ?_
          refine sk 41 84 ?_
          refine sk 42 85 ?_
          refine sk 43 86 ?_
          refine sk 44 87 ?_
          refine sk 45 88 ?_
          refine sk 46 89 ?_
          refine sk 47 90 ?_
          refine tk 48 91 ?_
          refine wpAnyH_done (by kernel_rfl) ?_ _
          go_wp2
          go_ret2
          rw [HR.out]
          exact ⟨rfl, HBT.out _ (hW5)⟩
        have c2' : low ≤ d := by omega
        cases q with
        | false =>
          have HR : Hid (R = false) := HF.out (by rw [HA.out]; simp)
          have HSU := HSU0
          refine wp_region_held_drew (S := (fun w' => w'.rangeAt w.heap.size 0 C.toList ∧ w'.cell? ⟨wr.heap.size, 0, none⟩ = some (.int .i64 d) ∧ w'.cell? ⟨wr.heap.size, 1, none⟩ = some (.int .i64 p) ∧ w'.cell? ⟨wr.heap.size, 2, none⟩ = some (.int .i64 m) ∧ w'.cell? ⟨w.heap.size, 25, none⟩ = some (.slice Ap Y.pi.length kp) ∧ w'.cell? ⟨(a3.add (k * 4)).block, (a3.add (k * 4)).off + 1, none⟩ = some (.int .i64 nd) ∧ w'.cell? ⟨bj, 29, none⟩ = some (.int .i64 f))) (by kernel_rfl) ?_ (fun hHeld => ?_)
          · exact HS.out _ (by exact (by repeat (first | with_reducible exact Below.refl _ _ | with_reducible assumption | with_reducible refine Below.drew ?_ | with_reducible refine below_drewN ?_ _ | (with_reducible refine Below.alloc ?_ ?_ _; rotate_left; (try simp) <;> omega) | (with_reducible refine Below.setCell ?_ ?_ _; rotate_left; (try simp) <;> omega))))
          refine tk 0 43 ?_
          refine tk 1 44 ?_
          refine tk 2 45 ?_
          (refine held_call 3 (some 46) 95 _ rfl (by kernel_rfl) (by rfl) ?_ (HU.out _ hHeld.2.2.2.2.2.2) ?_; rotate_left; rotate_left; (simp only [List.getElem?_toArray, List.getElem?_cons_zero, List.getElem?_cons_succ, Option.map_some]; refine congrArg some ?_; go_simp))
          rintro e x5 ⟨rfl, rfl⟩
          refine ⟨_, rfl, hHeld, fun hHeld => ?_⟩
          (try simp only [Act.put, List.setIfInBounds_toArray, List.set_cons_zero, List.set_cons_succ])
          refine tk 4 47 ?_
          refine tk 5 48 ?_
          refine tk 6 49 ?_
          refine tk 7 50 ?_
          refine tk 8 51 ?_
          refine tk 9 52 ?_
          refine tk 10 53 ?_
          refine tk 11 54 ?_
          (refine held_call 12 (some 55) 96 _ rfl (by kernel_rfl) (by rfl) ?_ (HLO.out _ hWt.drew) ?_; rotate_left; rotate_left; (simp only [List.getElem?_toArray, List.getElem?_cons_zero, List.getElem?_cons_succ, Option.map_some]; refine congrArg some ?_; go_simp))
          rintro e w5 ⟨rfl, hb5⟩
          have hW5 : Below (wr.alloc (.cells #[.int .i64 d, .int .i64 p, .int .i64 m] 55)).heap.size (wr.alloc (.cells #[.int .i64 d, .int .i64 p, .int .i64 m] 55)) w5 := Below.trans (by exact (by repeat (first | with_reducible exact Below.refl _ _ | with_reducible assumption | with_reducible refine Below.drew ?_ | with_reducible refine below_drewN ?_ _ | (with_reducible refine Below.alloc ?_ ?_ _; rotate_left; (try simp) <;> omega) | (with_reducible refine Below.setCell ?_ ?_ _; rotate_left; (try simp) <;> omega)))) hb5
          have hS5 := HS.out _ hW5
          refine ⟨_, rfl, hS5, fun hHeld => ?_⟩
          (try simp only [Act.put, List.setIfInBounds_toArray, List.set_cons_zero, List.set_cons_succ])
          refine tk 13 56 ?_
          refine tk 14 57 ?_
          refine tk 15 58 ?_
          (refine held_row 16 (some 59) 29 (.tmp 4) (w.heap.size) 0 C.toList _ rfl rfl (by kernel_rfl) (by kernel_rfl) (by kernel_rfl) (by rfl) rfl (fun _ _ _ h => h) (by assumption) (fun _ hS => hS.1) Try.underlying29 rfl (by assumption) ?_; (try simp only [Act.put, List.setIfInBounds_toArray, List.set_cons_zero, List.set_cons_succ]))
          refine tk 17 60 ?_
          refine tk 18 61 ?_
          refine tk 19 62 ?_
          refine tk 20 63 ?_
          (refine held_call 21 (some 64) 97 _ rfl (by kernel_rfl) (by rfl) ?_ (HSU.out w5 hW5) ?_; rotate_left; rotate_left; (simp only [List.getElem?_toArray, List.getElem?_cons_zero, List.getElem?_cons_succ, Option.map_some]; refine congrArg some ?_; go_simp))
          rintro e w6 ⟨rfl, hb6⟩
          have hW6 := hW5.trans (hb6.mono hW5.size)
          have hS6 := HS.out _ hW6
          refine ⟨_, rfl, hS6, fun hHeld => ?_⟩
          (try simp only [Act.put, List.setIfInBounds_toArray, List.set_cons_zero, List.set_cons_succ])
          refine tk 22 65 ?_
          refine tk 23 66 ?_
          refine tk 24 67 ?_
          refine sk 25 68 ?_
          refine sk 26 69 ?_
          refine sk 27 70 ?_
          refine sk 28 71 ?_
          refine sk 29 72 ?_
          refine sk 30 73 ?_
          refine sk 31 74 ?_
          refine sk 32 75 ?_
          refine sk 33 76 ?_
          refine sk 34 77 ?_
          refine sk 35 78 ?_
          refine sk 36 79 ?_
          refine sk 37 80 ?_
          refine tk 38 81 ?_
          refine tk 39 82 ?_
          refine sk 40 83 ?_
          refine sk 41 84 ?_
          refine sk 42 85 ?_
          refine sk 43 86 ?_
          refine sk 44 87 ?_
          refine sk 45 88 ?_
          refine sk 46 89 ?_
          refine sk 47 90 ?_
          refine tk 48 91 ?_
          refine wpAnyH_done (by kernel_rfl) ?_ _
          go_wp2
          go_ret2
          rw [HR.out]
          exact ⟨rfl, HBT.out _ (hW6)⟩
        | true =>
        have HSU := HSU0
        have HSK := HSK0
        cases cc with
        | false =>
          have HR : Hid (R = false) := HF.out (by rw [HA.out]; simp)
          have HCN := HCN0
          refine wp_region_held_drew (S := (fun w' => w'.rangeAt w.heap.size 0 C.toList ∧ w'.cell? ⟨wr.heap.size, 0, none⟩ = some (.int .i64 d) ∧ w'.cell? ⟨wr.heap.size, 1, none⟩ = some (.int .i64 p) ∧ w'.cell? ⟨wr.heap.size, 2, none⟩ = some (.int .i64 m) ∧ w'.cell? ⟨w.heap.size, 25, none⟩ = some (.slice Ap Y.pi.length kp) ∧ w'.cell? ⟨(a3.add (k * 4)).block, (a3.add (k * 4)).off + 1, none⟩ = some (.int .i64 nd) ∧ w'.cell? ⟨bj, 29, none⟩ = some (.int .i64 f))) (by kernel_rfl) ?_ (fun hHeld => ?_)
          · exact HS.out _ (by exact (by repeat (first | with_reducible exact Below.refl _ _ | with_reducible assumption | with_reducible refine Below.drew ?_ | with_reducible refine below_drewN ?_ _ | (with_reducible refine Below.alloc ?_ ?_ _; rotate_left; (try simp) <;> omega) | (with_reducible refine Below.setCell ?_ ?_ _; rotate_left; (try simp) <;> omega))))
          refine tk 0 43 ?_
          refine tk 1 44 ?_
          refine tk 2 45 ?_
          (refine held_call 3 (some 46) 95 _ rfl (by kernel_rfl) (by rfl) ?_ (HU.out _ hHeld.2.2.2.2.2.2) ?_; rotate_left; rotate_left; (simp only [List.getElem?_toArray, List.getElem?_cons_zero, List.getElem?_cons_succ, Option.map_some]; refine congrArg some ?_; go_simp))
          rintro e x5 ⟨rfl, rfl⟩
          refine ⟨_, rfl, hHeld, fun hHeld => ?_⟩
          (try simp only [Act.put, List.setIfInBounds_toArray, List.set_cons_zero, List.set_cons_succ])
          refine tk 4 47 ?_
          refine tk 5 48 ?_
          refine tk 6 49 ?_
          refine tk 7 50 ?_
          refine tk 8 51 ?_
          refine tk 9 52 ?_
          refine tk 10 53 ?_
          refine tk 11 54 ?_
          (refine held_call 12 (some 55) 96 _ rfl (by kernel_rfl) (by rfl) ?_ (HLO.out _ hWt.drew) ?_; rotate_left; rotate_left; (simp only [List.getElem?_toArray, List.getElem?_cons_zero, List.getElem?_cons_succ, Option.map_some]; refine congrArg some ?_; go_simp))
          rintro e w5 ⟨rfl, hb5⟩
          have hW5 : Below (wr.alloc (.cells #[.int .i64 d, .int .i64 p, .int .i64 m] 55)).heap.size (wr.alloc (.cells #[.int .i64 d, .int .i64 p, .int .i64 m] 55)) w5 := Below.trans (by exact (by repeat (first | with_reducible exact Below.refl _ _ | with_reducible assumption | with_reducible refine Below.drew ?_ | with_reducible refine below_drewN ?_ _ | (with_reducible refine Below.alloc ?_ ?_ _; rotate_left; (try simp) <;> omega) | (with_reducible refine Below.setCell ?_ ?_ _; rotate_left; (try simp) <;> omega)))) hb5
          have hS5 := HS.out _ hW5
          refine ⟨_, rfl, hS5, fun hHeld => ?_⟩
          (try simp only [Act.put, List.setIfInBounds_toArray, List.set_cons_zero, List.set_cons_succ])
          refine tk 13 56 ?_
          refine tk 14 57 ?_
          refine tk 15 58 ?_
          (refine held_row 16 (some 59) 29 (.tmp 4) (w.heap.size) 0 C.toList _ rfl rfl (by kernel_rfl) (by kernel_rfl) (by kernel_rfl) (by rfl) rfl (fun _ _ _ h => h) (by assumption) (fun _ hS => hS.1) Try.underlying29 rfl (by assumption) ?_; (try simp only [Act.put, List.setIfInBounds_toArray, List.set_cons_zero, List.set_cons_succ]))
          refine tk 17 60 ?_
          refine tk 18 61 ?_
          refine tk 19 62 ?_
          refine tk 20 63 ?_
          (refine held_call 21 (some 64) 97 _ rfl (by kernel_rfl) (by rfl) ?_ (HSU.out w5 hW5) ?_; rotate_left; rotate_left; (simp only [List.getElem?_toArray, List.getElem?_cons_zero, List.getElem?_cons_succ, Option.map_some]; refine congrArg some ?_; go_simp))
          rintro e w6 ⟨rfl, hb6⟩
          have hW6 := hW5.trans (hb6.mono hW5.size)
          have hS6 := HS.out _ hW6
          refine ⟨_, rfl, hS6, fun hHeld => ?_⟩
          (try simp only [Act.put, List.setIfInBounds_toArray, List.set_cons_zero, List.set_cons_succ])
          refine tk 22 65 ?_
          refine tk 23 66 ?_
          refine tk 24 67 ?_
          (refine held_row 25 (some 68) 29 (.tmp 4) (w.heap.size) 0 C.toList _ rfl rfl (by kernel_rfl) (by kernel_rfl) (by kernel_rfl) (by rfl) rfl (fun _ _ _ h => h) (by assumption) (fun _ hS => hS.1) Try.underlying29 rfl (by assumption) ?_; (try simp only [Act.put, List.setIfInBounds_toArray, List.set_cons_zero, List.set_cons_succ]))
          refine tk 26 69 ?_
          refine tk 27 70 ?_
          refine tk 28 71 ?_
          refine tk 29 72 ?_
          refine tk 30 73 ?_
          refine tk 31 74 ?_
          refine tk 32 75 ?_
          refine tk 34 77 ?_
          refine tk 35 78 ?_
          (refine held_call 33 (some 76) 98 _ rfl (by kernel_rfl) (by rfl) ?_ (HSK.out w6 hW6) ?_; rotate_left; rotate_left; (simp only [List.getElem?_toArray, List.getElem?_cons_zero, List.getElem?_cons_succ, Option.map_some]; refine congrArg some ?_; go_simp))
          rintro e w7 ⟨v7, rfl, ho7, hb7⟩
          obtain ⟨A7, c7, rfl, _, _⟩ := ownsSlice ho7
          have hl7 := ownsRow_lies ho7
          have hW7 := hW6.trans (hb7.mono hW6.size)
          have hS7 := HS.out _ hW7
          refine ⟨_, rfl, hS7, fun hHeld => ?_⟩
          (try simp only [Act.put, List.setIfInBounds_toArray, List.set_cons_zero, List.set_cons_succ])
          (refine held_call 36 (some 79) 91 _ rfl (by kernel_rfl) (by rfl) ?_ (HCN.out A7 c7 w7 hl7) ?_; rotate_left; rotate_left; (simp only [List.getElem?_toArray, List.getElem?_cons_zero, List.getElem?_cons_succ, Option.map_some]; refine congrArg some ?_; go_simp))
          rintro e w8 ⟨rfl, hb8⟩
          have hW8 := hW7.trans (hb8.mono hW7.size)
          have hS8 := HS.out _ hW8
          refine ⟨_, rfl, hS8, fun hHeld => ?_⟩
          (try simp only [Act.put, List.setIfInBounds_toArray, List.set_cons_zero, List.set_cons_succ])
          refine tk 37 80 ?_
          refine tk 38 81 ?_
          refine tk 39 82 ?_
          refine sk 40 83 ?_
          refine sk 41 84 ?_
          refine sk 42 85 ?_
          refine sk 43 86 ?_
          refine sk 44 87 ?_
          refine sk 45 88 ?_
          refine sk 46 89 ?_
          refine sk 47 90 ?_
          refine tk 48 91 ?_
          refine wpAnyH_done (by kernel_rfl) ?_ _
          go_wp2
          go_ret2
          rw [HR.out]
          exact ⟨rfl, HBT.out _ (hW8)⟩
        | true =>
        have HCN := HCN0
        cases ii with
        | false =>
          have HR : Hid (R = false) := HF.out (by rw [HA.out]; simp)
          have HIN := HIN0
          refine wp_region_held_drew (S := (fun w' => w'.rangeAt w.heap.size 0 C.toList ∧ w'.cell? ⟨wr.heap.size, 0, none⟩ = some (.int .i64 d) ∧ w'.cell? ⟨wr.heap.size, 1, none⟩ = some (.int .i64 p) ∧ w'.cell? ⟨wr.heap.size, 2, none⟩ = some (.int .i64 m) ∧ w'.cell? ⟨w.heap.size, 25, none⟩ = some (.slice Ap Y.pi.length kp) ∧ w'.cell? ⟨(a3.add (k * 4)).block, (a3.add (k * 4)).off + 1, none⟩ = some (.int .i64 nd) ∧ w'.cell? ⟨bj, 29, none⟩ = some (.int .i64 f))) (by kernel_rfl) ?_ (fun hHeld => ?_)
          · exact HS.out _ (by exact (by repeat (first | with_reducible exact Below.refl _ _ | with_reducible assumption | with_reducible refine Below.drew ?_ | with_reducible refine below_drewN ?_ _ | (with_reducible refine Below.alloc ?_ ?_ _; rotate_left; (try simp) <;> omega) | (with_reducible refine Below.setCell ?_ ?_ _; rotate_left; (try simp) <;> omega))))
          refine tk 0 43 ?_
          refine tk 1 44 ?_
          refine tk 2 45 ?_
          (refine held_call 3 (some 46) 95 _ rfl (by kernel_rfl) (by rfl) ?_ (HU.out _ hHeld.2.2.2.2.2.2) ?_; rotate_left; rotate_left; (simp only [List.getElem?_toArray, List.getElem?_cons_zero, List.getElem?_cons_succ, Option.map_some]; refine congrArg some ?_; go_simp))
          rintro e x5 ⟨rfl, rfl⟩
          refine ⟨_, rfl, hHeld, fun hHeld => ?_⟩
          (try simp only [Act.put, List.setIfInBounds_toArray, List.set_cons_zero, List.set_cons_succ])
          refine tk 4 47 ?_
          refine tk 5 48 ?_
          refine tk 6 49 ?_
          refine tk 7 50 ?_
          refine tk 8 51 ?_
          refine tk 9 52 ?_
          refine tk 10 53 ?_
          refine tk 11 54 ?_
          (refine held_call 12 (some 55) 96 _ rfl (by kernel_rfl) (by rfl) ?_ (HLO.out _ hWt.drew) ?_; rotate_left; rotate_left; (simp only [List.getElem?_toArray, List.getElem?_cons_zero, List.getElem?_cons_succ, Option.map_some]; refine congrArg some ?_; go_simp))
          rintro e w5 ⟨rfl, hb5⟩
          have hW5 : Below (wr.alloc (.cells #[.int .i64 d, .int .i64 p, .int .i64 m] 55)).heap.size (wr.alloc (.cells #[.int .i64 d, .int .i64 p, .int .i64 m] 55)) w5 := Below.trans (by exact (by repeat (first | with_reducible exact Below.refl _ _ | with_reducible assumption | with_reducible refine Below.drew ?_ | with_reducible refine below_drewN ?_ _ | (with_reducible refine Below.alloc ?_ ?_ _; rotate_left; (try simp) <;> omega) | (with_reducible refine Below.setCell ?_ ?_ _; rotate_left; (try simp) <;> omega)))) hb5
          have hS5 := HS.out _ hW5
          refine ⟨_, rfl, hS5, fun hHeld => ?_⟩
          (try simp only [Act.put, List.setIfInBounds_toArray, List.set_cons_zero, List.set_cons_succ])
          refine tk 13 56 ?_
          refine tk 14 57 ?_
          refine tk 15 58 ?_
          (refine held_row 16 (some 59) 29 (.tmp 4) (w.heap.size) 0 C.toList _ rfl rfl (by kernel_rfl) (by kernel_rfl) (by kernel_rfl) (by rfl) rfl (fun _ _ _ h => h) (by assumption) (fun _ hS => hS.1) Try.underlying29 rfl (by assumption) ?_; (try simp only [Act.put, List.setIfInBounds_toArray, List.set_cons_zero, List.set_cons_succ]))
          refine tk 17 60 ?_
          refine tk 18 61 ?_
          refine tk 19 62 ?_
          refine tk 20 63 ?_
          (refine held_call 21 (some 64) 97 _ rfl (by kernel_rfl) (by rfl) ?_ (HSU.out w5 hW5) ?_; rotate_left; rotate_left; (simp only [List.getElem?_toArray, List.getElem?_cons_zero, List.getElem?_cons_succ, Option.map_some]; refine congrArg some ?_; go_simp))
          rintro e w6 ⟨rfl, hb6⟩
          have hW6 := hW5.trans (hb6.mono hW5.size)
          have hS6 := HS.out _ hW6
          refine ⟨_, rfl, hS6, fun hHeld => ?_⟩
          (try simp only [Act.put, List.setIfInBounds_toArray, List.set_cons_zero, List.set_cons_succ])
          refine tk 22 65 ?_
          refine tk 23 66 ?_
          refine tk 24 67 ?_
          (refine held_row 25 (some 68) 29 (.tmp 4) (w.heap.size) 0 C.toList _ rfl rfl (by kernel_rfl) (by kernel_rfl) (by kernel_rfl) (by rfl) rfl (fun _ _ _ h => h) (by assumption) (fun _ hS => hS.1) Try.underlying29 rfl (by assumption) ?_; (try simp only [Act.put, List.setIfInBounds_toArray, List.set_cons_zero, List.set_cons_succ]))
          refine tk 26 69 ?_
          refine tk 27 70 ?_
          refine tk 28 71 ?_
          refine tk 29 72 ?_
          refine tk 30 73 ?_
          refine tk 31 74 ?_
          refine tk 32 75 ?_
          refine tk 34 77 ?_
          refine tk 35 78 ?_
          (refine held_call 33 (some 76) 98 _ rfl (by kernel_rfl) (by rfl) ?_ (HSK.out w6 hW6) ?_; rotate_left; rotate_left; (simp only [List.getElem?_toArray, List.getElem?_cons_zero, List.getElem?_cons_succ, Option.map_some]; refine congrArg some ?_; go_simp))
          rintro e w7 ⟨v7, rfl, ho7, hb7⟩
          obtain ⟨A7, c7, rfl, _, _⟩ := ownsSlice ho7
          have hl7 := ownsRow_lies ho7
          have hW7 := hW6.trans (hb7.mono hW6.size)
          have hS7 := HS.out _ hW7
          refine ⟨_, rfl, hS7, fun hHeld => ?_⟩
          (try simp only [Act.put, List.setIfInBounds_toArray, List.set_cons_zero, List.set_cons_succ])
          (refine held_call 36 (some 79) 91 _ rfl (by kernel_rfl) (by rfl) ?_ (HCN.out A7 c7 w7 hl7) ?_; rotate_left; rotate_left; (simp only [List.getElem?_toArray, List.getElem?_cons_zero, List.getElem?_cons_succ, Option.map_some]; refine congrArg some ?_; go_simp))
          rintro e w8 ⟨rfl, hb8⟩
          have hW8 := hW7.trans (hb8.mono hW7.size)
          have hS8 := HS.out _ hW8
          refine ⟨_, rfl, hS8, fun hHeld => ?_⟩
          (try simp only [Act.put, List.setIfInBounds_toArray, List.set_cons_zero, List.set_cons_succ])
          refine tk 37 80 ?_
          refine tk 38 81 ?_
          refine tk 39 82 ?_
          refine tk 40 83 ?_
          refine tk 41 84 ?_
          refine tk 42 85 ?_
          refine tk 43 86 ?_
          refine tk 44 87 ?_
          refine tk 45 88 ?_
          (refine held_call 46 (some 89) 66 _ rfl (by kernel_rfl) (by rfl) ?_ (HIN.out _) ?_; rotate_left; rotate_left; (simp only [List.getElem?_toArray, List.getElem?_cons_zero, List.getElem?_cons_succ, Option.map_some]; refine congrArg some ?_; go_simp))
          rintro e x9 ⟨rfl, rfl⟩
          refine ⟨_, rfl, hS8, fun hHeld => ?_⟩
          (try simp only [Act.put, List.setIfInBounds_toArray, List.set_cons_zero, List.set_cons_succ])
          refine tk 47 90 ?_
          refine tk 48 91 ?_
          refine wpAnyH_done (by kernel_rfl) ?_ _
          go_wp2
          go_ret2
          rw [HR.out]
          exact ⟨rfl, HBT.out _ (hW8)⟩
        | true =>
        have HIN := HIN0
        refine wp_region_held_drew (S := (fun w' => w'.rangeAt w.heap.size 0 C.toList ∧ w'.cell? ⟨wr.heap.size, 0, none⟩ = some (.int .i64 d) ∧ w'.cell? ⟨wr.heap.size, 1, none⟩ = some (.int .i64 p) ∧ w'.cell? ⟨wr.heap.size, 2, none⟩ = some (.int .i64 m) ∧ w'.cell? ⟨w.heap.size, 25, none⟩ = some (.slice Ap Y.pi.length kp) ∧ w'.cell? ⟨(a3.add (k * 4)).block, (a3.add (k * 4)).off + 1, none⟩ = some (.int .i64 nd) ∧ w'.cell? ⟨bj, 29, none⟩ = some (.int .i64 f))) (by kernel_rfl) ?_ (fun hHeld => ?_)
        · exact HS.out _ (by exact (by repeat (first | with_reducible exact Below.refl _ _ | with_reducible assumption | with_reducible refine Below.drew ?_ | with_reducible refine below_drewN ?_ _ | (with_reducible refine Below.alloc ?_ ?_ _; rotate_left; (try simp) <;> omega) | (with_reducible refine Below.setCell ?_ ?_ _; rotate_left; (try simp) <;> omega))))
        refine tk 0 43 ?_
        refine tk 1 44 ?_
        refine tk 2 45 ?_
        (refine held_call 3 (some 46) 95 _ rfl (by kernel_rfl) (by rfl) ?_ (HU.out _ hHeld.2.2.2.2.2.2) ?_; rotate_left; rotate_left; (simp only [List.getElem?_toArray, List.getElem?_cons_zero, List.getElem?_cons_succ, Option.map_some]; refine congrArg some ?_; go_simp))
        rintro e x5 ⟨rfl, rfl⟩
        refine ⟨_, rfl, hHeld, fun hHeld => ?_⟩
        (try simp only [Act.put, List.setIfInBounds_toArray, List.set_cons_zero, List.set_cons_succ])
        refine tk 4 47 ?_
        refine tk 5 48 ?_
        refine tk 6 49 ?_
        refine tk 7 50 ?_
        refine tk 8 51 ?_
        refine tk 9 52 ?_
        refine tk 10 53 ?_
        refine tk 11 54 ?_
        (refine held_call 12 (some 55) 96 _ rfl (by kernel_rfl) (by rfl) ?_ (HLO.out _ hWt.drew) ?_; rotate_left; rotate_left; (simp only [List.getElem?_toArray, List.getElem?_cons_zero, List.getElem?_cons_succ, Option.map_some]; refine congrArg some ?_; go_simp))
        rintro e w5 ⟨rfl, hb5⟩
        have hW5 : Below (wr.alloc (.cells #[.int .i64 d, .int .i64 p, .int .i64 m] 55)).heap.size (wr.alloc (.cells #[.int .i64 d, .int .i64 p, .int .i64 m] 55)) w5 := Below.trans (by exact (by repeat (first | with_reducible exact Below.refl _ _ | with_reducible assumption | with_reducible refine Below.drew ?_ | with_reducible refine below_drewN ?_ _ | (with_reducible refine Below.alloc ?_ ?_ _; rotate_left; (try simp) <;> omega) | (with_reducible refine Below.setCell ?_ ?_ _; rotate_left; (try simp) <;> omega)))) hb5
        have hS5 := HS.out _ hW5
        refine ⟨_, rfl, hS5, fun hHeld => ?_⟩
        (try simp only [Act.put, List.setIfInBounds_toArray, List.set_cons_zero, List.set_cons_succ])
        refine tk 13 56 ?_
        refine tk 14 57 ?_
        refine tk 15 58 ?_
        (refine held_row 16 (some 59) 29 (.tmp 4) (w.heap.size) 0 C.toList _ rfl rfl (by kernel_rfl) (by kernel_rfl) (by kernel_rfl) (by rfl) rfl (fun _ _ _ h => h) (by assumption) (fun _ hS => hS.1) Try.underlying29 rfl (by assumption) ?_; (try simp only [Act.put, List.setIfInBounds_toArray, List.set_cons_zero, List.set_cons_succ]))
        refine tk 17 60 ?_
        refine tk 18 61 ?_
        refine tk 19 62 ?_
        refine tk 20 63 ?_
        (refine held_call 21 (some 64) 97 _ rfl (by kernel_rfl) (by rfl) ?_ (HSU.out w5 hW5) ?_; rotate_left; rotate_left; (simp only [List.getElem?_toArray, List.getElem?_cons_zero, List.getElem?_cons_succ, Option.map_some]; refine congrArg some ?_; go_simp))
        rintro e w6 ⟨rfl, hb6⟩
        have hW6 := hW5.trans (hb6.mono hW5.size)
        have hS6 := HS.out _ hW6
        refine ⟨_, rfl, hS6, fun hHeld => ?_⟩
        (try simp only [Act.put, List.setIfInBounds_toArray, List.set_cons_zero, List.set_cons_succ])
        refine tk 22 65 ?_
        refine tk 23 66 ?_
        refine tk 24 67 ?_
        (refine held_row 25 (some 68) 29 (.tmp 4) (w.heap.size) 0 C.toList _ rfl rfl (by kernel_rfl) (by kernel_rfl) (by kernel_rfl) (by rfl) rfl (fun _ _ _ h => h) (by assumption) (fun _ hS => hS.1) Try.underlying29 rfl (by assumption) ?_; (try simp only [Act.put, List.setIfInBounds_toArray, List.set_cons_zero, List.set_cons_succ]))
        refine tk 26 69 ?_
        refine tk 27 70 ?_
        refine tk 28 71 ?_
        refine tk 29 72 ?_
        refine tk 30 73 ?_
        refine tk 31 74 ?_
        refine tk 32 75 ?_
        refine tk 34 77 ?_
        refine tk 35 78 ?_
        (refine held_call 33 (some 76) 98 _ rfl (by kernel_rfl) (by rfl) ?_ (HSK.out w6 hW6) ?_; rotate_left; rotate_left; (simp only [List.getElem?_toArray, List.getElem?_cons_zero, List.getElem?_cons_succ, Option.map_some]; refine congrArg some ?_; go_simp))
        rintro e w7 ⟨v7, rfl, ho7, hb7⟩
        obtain ⟨A7, c7, rfl, _, _⟩ := ownsSlice ho7
        have hl7 := ownsRow_lies ho7
        have hW7 := hW6.trans (hb7.mono hW6.size)
        have hS7 := HS.out _ hW7
        refine ⟨_, rfl, hS7, fun hHeld => ?_⟩
        (try simp only [Act.put, List.setIfInBounds_toArray, List.set_cons_zero, List.set_cons_succ])
        (refine held_call 36 (some 79) 91 _ rfl (by kernel_rfl) (by rfl) ?_ (HCN.out A7 c7 w7 hl7) ?_; rotate_left; rotate_left; (simp only [List.getElem?_toArray, List.getElem?_cons_zero, List.getElem?_cons_succ, Option.map_some]; refine congrArg some ?_; go_simp))
        rintro e w8 ⟨rfl, hb8⟩
        have hW8 := hW7.trans (hb8.mono hW7.size)
        have hS8 := HS.out _ hW8
        refine ⟨_, rfl, hS8, fun hHeld => ?_⟩
        (try simp only [Act.put, List.setIfInBounds_toArray, List.set_cons_zero, List.set_cons_succ])
        refine tk 37 80 ?_
        refine tk 38 81 ?_
        refine tk 39 82 ?_
        refine tk 40 83 ?_
        refine tk 41 84 ?_
        refine tk 42 85 ?_
        refine tk 43 86 ?_
        refine tk 44 87 ?_
        refine tk 45 88 ?_
        (refine held_call 46 (some 89) 66 _ rfl (by kernel_rfl) (by rfl) ?_ (HIN.out _) ?_; rotate_left; rotate_left; (simp only [List.getElem?_toArray, List.getElem?_cons_zero, List.getElem?_cons_succ, Option.map_some]; refine congrArg some ?_; go_simp))
        rintro e x9 ⟨rfl, rfl⟩
        refine ⟨_, rfl, hS8, fun hHeld => ?_⟩
        (try simp only [Act.put, List.setIfInBounds_toArray, List.set_cons_zero, List.set_cons_succ])
        refine tk 47 90 ?_
        refine tk 48 91 ?_
        refine wpAnyH_done (by kernel_rfl) ?_ _
        obtain ⟨j, hjp⟩ : ∃ j : Nat, p = (j : Int) := ⟨p.toNat, by have := inB_iff.1 HII.out; omega⟩
        subst hjp
        have hjn : j < Y.pi.length := by have := inB_iff.1 HII.out; omega
        obtain ⟨a5, rfl, ha5, p0, p1, p2⟩ := pit_at (HL2.out w8 (HBT.out _ hW8)) hjn
        obtain ⟨⟨q1, q2⟩, ⟨q3, q4⟩, q5, q6⟩ := HPV.out _ (List.getElem_mem hjn)
        have HAG0 := Lib.hid (fun W => aged_any Y.pi[j] d W ⟨q1, q2⟩ ⟨q3, q4⟩)
        have HP3 : Hid (pitTake Y ts k ⟨d, j, m⟩ = (agedB Y.pi[j] d && decide (cntP (ts.take (k + 1)) j ≤ Y.pi[j].b))) := by
          show _ = _
          rw [HP2.out, Int.toNat_natCast, List.getElem?_eq_getElem hjn]
        rw [HS2.out] at HP3
        have hmw : MapC w8 w2.heap.size n sz (gOf (ts.take k)) := (hm.alloc (.cells #[.int .i64 d, .int .i64 j, .int .i64 m] 55)).below hW8 (by simp; omega)
        have hlk := hmw.look hpit
        rw [gOf_get] at hlk
        have hcb := cntP_bd (ts.take k) (j : Int)
        have htl : (ts.take k).length ≤ k := List.length_take_le _ _
        have HAJ := Lib.hid HA.out
        generalize cntP (ts.take k) (j : Int) = cn at *
        obtain ⟨hcb0, hcb1⟩ := hcb
        obtain ⟨w9, hrun, hm9, hg9⟩ := hmw.put (by unfold maxLen; omega) hpit (v := cn + 1) (by unfold i64v; omega)
        rw [HS1.out] at hm9
        have hc0 := hS8.2.2.1
        have hB28 := HBJ.out _ hW8
        have hB29 : Below w2.heap.size w2 w9 := hB28.grown hg9 hB28.size (fun g e => by cases e; exact Nat.le_refl _)
        have hB9 : Below w.heap.size w w9 := hB2.trans (hB29.mono hB2.size)
        have hkk := w8.heap.size
        have hz8 := hW8.size
        have kt9 : Bk w9 wr.heap.size 55 #[.int .i64 d, .int .i64 j, .int .i64 m] := ((Bk.new wr 55 #[.int .i64 d, .int .i64 j, .int .i64 m]).below hW8 (by simp)).grown hg9 (by simp; omega)
        have hgl : gOf (ts.take (k + 1)) j = some (cn + 1) := by
          rw [← HS1.out]; unfold gPut; rw [if_pos rfl]
        have HGL := Lib.hid hgl
        have HS9 : Hid (∀ W : World, Below w9.heap.size w9 W → W.cell? ⟨w.heap.size, 25, none⟩ = some (.slice (some a5) Y.pi.length kp) ∧ W.cell? ⟨wr.heap.size, 0, none⟩ = some (.int .i64 d) ∧ W.cell? ⟨wr.heap.size, 1, none⟩ = some (.int .i64 j) ∧ W.cell? (a5.add (j * 3)) = some (.int .i64 Y.pi[j].s) ∧ W.cell? ⟨(a5.add (j * 3)).block, (a5.add (j * 3)).off + 1, none⟩ = some (.int .i64 Y.pi[j].a) ∧ W.cell? ⟨(a5.add (j * 3)).block, (a5.add (j * 3)).off + 2, none⟩ = some (.int .i64 Y.pi[j].b) ∧ Sem.run Try.prog (Instr.lookup 108 (.map (some w2.heap.size)) (.int .i64 j) false) W = .ok (.int .i64 (cn + 1)) W) := fun W hb => by
          have hB := hB9.trans (hb.mono hB9.size)
          have k4 := (k42.below (hB29.trans (hb.mono hB29.size)) k42.lt)
          obtain ⟨b5, e5, _, r0, r1, r2⟩ := pit_at (HL2.out W hB) hjn
          cases e5
          have kt := kt9.below hb kt9.lt
          have hl := (hm9.below hb hm9.lt).look hpit
          rw [HGL.out] at hl
          exact ⟨k4.cell 25 e2, kt.cell 0 rfl, kt.cell 1 rfl, r0, r1, r2, hl⟩
        clear hgl
        generalize agedB Y.pi[j] d = ag at *
        generalize Y.pi[j] = pp at *
        obtain ⟨ps, pa, pb⟩ := pp
        dsimp only at *
        have hjI : (j : Int) < (Y.pi.length : Int) := by omega
        have hj0 : 0 ≤ (j : Int) := by omega
        go_upto_region 14 with fail
        clear hlk hrun hc0 p0 p1 p2 hS8 hHeld hg9 hmw
        cases ag with
        | false =>
          have HAG := HAG0
          have HR : Hid (R = false) := HF.out (by rw [HAJ.out, HP3.out]; simp)
          refine wp_region_held_drew (S := (fun w' => w'.cell? ⟨w.heap.size, 25, none⟩ = some (.slice (some a5) Y.pi.length kp) ∧ w'.cell? ⟨wr.heap.size, 0, none⟩ = some (.int .i64 d) ∧ w'.cell? ⟨wr.heap.size, 1, none⟩ = some (.int .i64 j) ∧ w'.cell? (a5.add (j * 3)) = some (.int .i64 ps) ∧ w'.cell? ⟨(a5.add (j * 3)).block, (a5.add (j * 3)).off + 1, none⟩ = some (.int .i64 pa) ∧ w'.cell? ⟨(a5.add (j * 3)).block, (a5.add (j * 3)).off + 2, none⟩ = some (.int .i64 pb) ∧ Sem.run Try.prog (Instr.lookup 108 (.map (some w2.heap.size)) (.int .i64 j) false) w' = .ok (.int .i64 (cn + 1)) w')) (by kernel_rfl) ?_ (fun hHeld => ?_)
          · exact HS9.out _ (by exact (by repeat (first | with_reducible exact Below.refl _ _ | with_reducible assumption | with_reducible refine Below.drew ?_ | with_reducible refine below_drewN ?_ _ | (with_reducible refine Below.alloc ?_ ?_ _; rotate_left; (try simp) <;> omega) | (with_reducible refine Below.setCell ?_ ?_ _; rotate_left; (try simp) <;> omega))))
          refine tk 0 97 ?_
          refine tk 1 98 ?_
          refine tk 2 99 ?_
          refine tk 3 100 ?_
          refine tk 4 101 ?_
          refine tk 5 102 ?_
          refine tk 6 103 ?_
          refine tk 7 104 ?_
          (refine held_call 8 (some 105) 99 _ rfl (by kernel_rfl) (by rfl) ?_ (HAG.out _) ?_; rotate_left; rotate_left; (simp only [List.getElem?_toArray, List.getElem?_cons_zero, List.getElem?_cons_succ, Option.map_some]; refine congrArg some ?_; go_simp))
          rintro e wa ⟨rfl, hba⟩
          have hba' : Below w9.heap.size w9 wa := Below.trans (by exact (by repeat (first | with_reducible exact Below.refl _ _ | with_reducible assumption | with_reducible refine Below.drew ?_ | with_reducible refine below_drewN ?_ _ | (with_reducible refine Below.alloc ?_ ?_ _; rotate_left; (try simp) <;> omega) | (with_reducible refine Below.setCell ?_ ?_ _; rotate_left; (try simp) <;> omega)))) hba
          have hSa := HS9.out _ hba'
          refine ⟨_, rfl, hSa, fun hHeld => ?_⟩
          (try simp only [Act.put, List.setIfInBounds_toArray, List.set_cons_zero, List.set_cons_succ])
          refine tk 9 106 ?_
          refine tk 10 107 ?_
          refine sk 11 108 ?_
          refine sk 12 109 ?_
          refine sk 13 110 ?_
          refine sk 14 111 ?_
          refine sk 15 112 ?_
          refine sk 16 113 ?_
          refine sk 17 114 ?_
          refine sk 18 115 ?_
          refine sk 19 116 ?_
          refine sk 20 117 ?_
          refine sk 21 118 ?_
          refine sk 22 119 ?_
          refine tk 23 120 ?_
          refine wpAnyH_done (by kernel_rfl) ?_ _
          go_wp2
          go_ret2
          rw [HR.out]
          exact ⟨rfl, hB9.trans (hba'.mono hB9.size)⟩
        | true =>
          have HAG := HAG0
          by_cases hcn : pb < cn + 1
          · have HR : Hid (R = false) := HF.out (by rw [HAJ.out, HP3.out, show decide (cn + 1 ≤ pb) = false from decide_eq_false (by omega)]; simp)
            refine wp_region_held_drew (S := (fun w' => w'.cell? ⟨w.heap.size, 25, none⟩ = some (.slice (some a5) Y.pi.length kp) ∧ w'.cell? ⟨wr.heap.size, 0, none⟩ = some (.int .i64 d) ∧ w'.cell? ⟨wr.heap.size, 1, none⟩ = some (.int .i64 j) ∧ w'.cell? (a5.add (j * 3)) = some (.int .i64 ps) ∧ w'.cell? ⟨(a5.add (j * 3)).block, (a5.add (j * 3)).off + 1, none⟩ = some (.int .i64 pa) ∧ w'.cell? ⟨(a5.add (j * 3)).block, (a5.add (j * 3)).off + 2, none⟩ = some (.int .i64 pb) ∧ Sem.run Try.prog (Instr.lookup 108 (.map (some w2.heap.size)) (.int .i64 j) false) w' = .ok (.int .i64 (cn + 1)) w')) (by kernel_rfl) ?_ (fun hHeld => ?_)
            · exact HS9.out _ (by exact (by repeat (first | with_reducible exact Below.refl _ _ | with_reducible assumption | with_reducible refine Below.drew ?_ | with_reducible refine below_drewN ?_ _ | (with_reducible refine Below.alloc ?_ ?_ _; rotate_left; (try simp) <;> omega) | (with_reducible refine Below.setCell ?_ ?_ _; rotate_left; (try simp) <;> omega))))
            refine tk 0 97 ?_
            refine tk 1 98 ?_
            refine tk 2 99 ?_
            refine tk 3 100 ?_
            refine tk 4 101 ?_
            refine tk 5 102 ?_
            refine tk 6 103 ?_
            refine tk 7 104 ?_
            (refine held_call 8 (some 105) 99 _ rfl (by kernel_rfl) (by rfl) ?_ (HAG.out _) ?_; rotate_left; rotate_left; (simp only [List.getElem?_toArray, List.getElem?_cons_zero, List.getElem?_cons_succ, Option.map_some]; refine congrArg some ?_; go_simp))
            rintro e wa ⟨rfl, hba⟩
            have hba' : Below w9.heap.size w9 wa := Below.trans (by exact (by repeat (first | with_reducible exact Below.refl _ _ | with_reducible assumption | with_reducible refine Below.drew ?_ | with_reducible refine below_drewN ?_ _ | (with_reducible refine Below.alloc ?_ ?_ _; rotate_left; (try simp) <;> omega) | (with_reducible refine Below.setCell ?_ ?_ _; rotate_left; (try simp) <;> omega)))) hba
            have hSa := HS9.out _ hba'
            refine ⟨_, rfl, hSa, fun hHeld => ?_⟩
            (try simp only [Act.put, List.setIfInBounds_toArray, List.set_cons_zero, List.set_cons_succ])
            refine tk 9 106 ?_
            refine tk 10 107 ?_
            refine tk 11 108 ?_
            refine tk 12 109 ?_
            refine tk 13 110 ?_
            refine tk 14 111 ?_
            refine tk 15 112 ?_
            refine tk 16 113 ?_
            refine tk 17 114 ?_
            refine tk 18 115 ?_
            refine tk 19 116 ?_
            refine tk 20 117 ?_
            refine tk 21 118 ?_
            refine tk 22 119 ?_
            refine tk 23 120 ?_
            refine wpAnyH_done (by kernel_rfl) ?_ _
            go_wp2
            go_ret2
            rw [HR.out]
            exact ⟨rfl, hB9.trans (hba'.mono hB9.size)⟩
          · have HTK : Hid (turnOK Y l f ts k = true) := by
              show _ = _
              rw [HAJ.out, HP3.out, show decide (cn + 1 ≤ pb) = true from decide_eq_true (by omega), show decide (d < f + 400) = true from decide_eq_true (by omega), show decide (low ≤ d) = true from decide_eq_true (by omega)]; rfl
            have HGN : Hid (∀ i, i < k + 1 → turnOK Y l f ts i = true) := fun i hi => by
              by_cases e : i = k
              · subst e; exact HTK.out
              · exact HG.out i (by omega)
            refine wp_region_held_drew (S := (fun w' => w'.cell? ⟨w.heap.size, 25, none⟩ = some (.slice (some a5) Y.pi.length kp) ∧ w'.cell? ⟨wr.heap.size, 0, none⟩ = some (.int .i64 d) ∧ w'.cell? ⟨wr.heap.size, 1, none⟩ = some (.int .i64 j) ∧ w'.cell? (a5.add (j * 3)) = some (.int .i64 ps) ∧ w'.cell? ⟨(a5.add (j * 3)).block, (a5.add (j * 3)).off + 1, none⟩ = some (.int .i64 pa) ∧ w'.cell? ⟨(a5.add (j * 3)).block, (a5.add (j * 3)).off + 2, none⟩ = some (.int .i64 pb) ∧ Sem.run Try.prog (Instr.lookup 108 (.map (some w2.heap.size)) (.int .i64 j) false) w' = .ok (.int .i64 (cn + 1)) w')) (by kernel_rfl) ?_ (fun hHeld => ?_)
            · exact HS9.out _ (by exact (by repeat (first | with_reducible exact Below.refl _ _ | with_reducible assumption | with_reducible refine Below.drew ?_ | with_reducible refine below_drewN ?_ _ | (with_reducible refine Below.alloc ?_ ?_ _; rotate_left; (try simp) <;> omega) | (with_reducible refine Below.setCell ?_ ?_ _; rotate_left; (try simp) <;> omega))))
            refine tk 0 97 ?_
            refine tk 1 98 ?_
            refine tk 2 99 ?_
            refine tk 3 100 ?_
            refine tk 4 101 ?_
            refine tk 5 102 ?_
            refine tk 6 103 ?_
            refine tk 7 104 ?_
            (refine held_call 8 (some 105) 99 _ rfl (by kernel_rfl) (by rfl) ?_ (HAG.out _) ?_; rotate_left; rotate_left; (simp only [List.getElem?_toArray, List.getElem?_cons_zero, List.getElem?_cons_succ, Option.map_some]; refine congrArg some ?_; go_simp))
            rintro e wa ⟨rfl, hba⟩
            have hba' : Below w9.heap.size w9 wa := Below.trans (by exact (by repeat (first | with_reducible exact Below.refl _ _ | with_reducible assumption | with_reducible refine Below.drew ?_ | with_reducible refine below_drewN ?_ _ | (with_reducible refine Below.alloc ?_ ?_ _; rotate_left; (try simp) <;> omega) | (with_reducible refine Below.setCell ?_ ?_ _; rotate_left; (try simp) <;> omega)))) hba
            have hSa := HS9.out _ hba'
            refine ⟨_, rfl, hSa, fun hHeld => ?_⟩
            (try simp only [Act.put, List.setIfInBounds_toArray, List.set_cons_zero, List.set_cons_succ])
            refine tk 9 106 ?_
            refine tk 10 107 ?_
            refine tk 11 108 ?_
            refine tk 12 109 ?_
            refine tk 13 110 ?_
            refine tk 14 111 ?_
            refine tk 15 112 ?_
            refine tk 16 113 ?_
            refine tk 17 114 ?_
            refine tk 18 115 ?_
            refine tk 19 116 ?_
            refine tk 20 117 ?_
            refine tk 21 118 ?_
            refine tk 22 119 ?_
            refine tk 23 120 ?_
            refine wpAnyH_done (by kernel_rfl) ?_ _
            have hma := hm9.below hba' hm9.lt
            have hBa := hB29.trans (hba'.mono hB29.size)
            clear hSa hHeld
            go_wp2
            go_roundw
            case rel => (first | exact ⟨k + 1, n + 1, _, by omega, by omega, by go_num, hma, HGN, hBa⟩ | ((repeat apply Exists.intro); exact ⟨⟨k + 1, n + 1, _, by omega, by omega, by go_num, hma, HGN, hBa⟩, rfl⟩))
            case measure => simp [intOf]; omega

      · obtain rfl : k = ts.length := by omega
        have HR : Hid (R = true) := HPY.out (fun i hi => HG.out i (by omega))
        clear hlt
        go_wp2
        go_ret2
        rw [HR.out]
        exact ⟨rfl, hBr⟩
    · rw [planOK_len hlen]
      have hne : ((ts.length : Int) != (l.length : Int)) = true := by rw [bne_iff_ne]; omega
      have hne2 : (ts.length != l.length) = true := by rw [bne_iff_ne]; exact hlen
      clear hlen
      go_enter Try.func41, Try.ntmps41
      go_wp2_with (first | (refine wpList_load_guard (P := Try.prog) (by rfl) 29 (.tmp 4) rfl w.heap.size 0 rfl C.toList _ HR0.out Try.underlying29 rfl (by rw [HC28.out]; exact info29) ?_) | (go_at_call 82; refine (HBE.out _ hb0).mono ?_; rintro e w1 ⟨hb1, ⟨h0, _⟩ | ⟨_, bj, hbj, rfl, hj1⟩⟩; (exact absurd rfl h0); have hB1 : Below w.heap.size w w1 := hb0.trans (hb1.mono hb0.size); have k7 : Bk w1 (w.heap.size + 1) 42 #[.slice T ts.length ct] := b7.below hb1 b7.lt; have x7 := k7.cell 0 rfl; clear hb1))
      go_ret2
      exact ⟨rfl, hB1⟩
  · have hbf : decide (begE Y l f = 0) = false := decide_eq_false hb
    rw [hbf, Bool.false_and]
    generalize begE Y l f = N at *
    have hne : (N != 0) = true := by simp [hb]
    have HN := Lib.hid hb
    clear hb hbf
    go_enter Try.func41, Try.ntmps41
    go_wp2_with (first | (refine wpList_load_guard (P := Try.prog) (by rfl) 29 (.tmp 4) rfl w.heap.size 0 rfl C.toList _ HR0.out Try.underlying29 rfl (by rw [HC28.out]; exact info29) ?_) | (go_at_call 82; refine (HBE.out _ hb0).mono ?_; rintro e w1 ⟨hb1, ⟨_, rfl⟩ | ⟨h0, _⟩⟩; rotate_left; (exact absurd h0 HN.out); have hB1 : Below w.heap.size w w1 := hb0.trans (hb1.mono hb0.size)))
    go_ret2
    exact ⟨rfl, hB1⟩
end Go.Proofs.Ytjgnikmnadmheaa
