/- giornataref07.CheckPlan. Printed by wip/gen_t23.py. -/
import Derived.Test.YtjgnikmnadmheaaG02
import Derived.Test.YtjgnikmnadmheaaG16

namespace Go.Proofs.Ytjgnikmnadmheaa
open Go.RowKit

theorem skL_has (l : List Mas) (d need m : Int) : (skL l d need).contains m = (inB m 0 ((l.length : Int) - 1) && skAt l d need m.toNat) := by
  rw [Bool.eq_iff_iff, Bool.and_eq_true, inB_iff, List.contains_iff_mem]
  unfold skL skK
  rw [List.mem_map]
  constructor
  · rintro ⟨i, h, rfl⟩
    rw [List.mem_filter, List.mem_range] at h
    refine ⟨⟨Int.natCast_nonneg i, ?_⟩, ?_⟩
    · show (i : Int) ≤ _
      omega
    · exact h.2
  · rintro ⟨⟨h1, h2⟩, h3⟩
    refine ⟨m.toNat, ?_, ?_⟩
    · rw [List.mem_filter, List.mem_range]
      exact ⟨by omega, h3⟩
    · show (m.toNat : Int) = m
      omega
theorem skAt_at {l : List Mas} {d need : Int} {i : Nat} (h : i < l.length) : skAt l d need i = skB l[i] d need := by unfold skAt; rw [List.getElem?_eq_getElem h]
theorem lowK_mono {dry f : Int} {af days : List Int} : ∀ (d : Nat) {i j : Nat}, i ≤ j → j ≤ af.length → lowK dry f af days i ≤ lowK dry f af days j
  | _, i, 0, h, _ => by obtain rfl : i = 0 := by omega
                        exact Int.le_refl _
  | n, i, j + 1, h, hj => by
    by_cases e : i = j + 1
    · subst e; exact Int.le_refl _
    · have := lowK_mono n (dry := dry) (f := f) (af := af) (days := days) (show i ≤ j by omega) (by omega)
      rw [lowK_succ (by omega)]
      omega

set_option maxRecDepth 100000 in
set_option maxHeartbeats 6000000 in
theorem rcheckPlan_any (C : Array Value) (Y : Yd) (l : List Tk) (A : Option Addr) (c : Nat) (f : Int) (ts : List Tu) (T : Option Addr) (ct : Nat) (w : World) (hY : YardAt w w.heap.size C Y) (hs : Small Y) (hT : TasksAt w w.heap.size A l) (ht : tame l)
    (hP : Lies w w.heap.size T (turnsC ts)) (hn : ts.length ≤ 20) :
    Calls Try.prog 43 #[.agg C, .slice A l.length c, .int .i64 f, .agg #[.slice T ts.length ct]] w (TwoEnd (decide (begE Y l f = 0) && planOK Y l f ts) (begE Y l f) w) := by
  have HCO := Lib.hid (fun W (hb : Below w.heap.size w W) => rcommon_any C Y l A c W ((hY.below hb (Nat.le_refl _)).more hb.size) hs ((hT.below hb (Nat.le_refl _)).more hb.size) ht)
  have HYW := Lib.hid (fun W (hb : Below w.heap.size w W) => (hY.below hb (Nat.le_refl _)).more hb.size)
  have HTW := Lib.hid (fun W (hb : Below w.heap.size w W) => (hT.below hb (Nat.le_refl _)).more hb.size)
  have HPW := Lib.hid (fun W (hb : Below w.heap.size w W) => hP.below hb (Nat.le_refl _))
  have HC28 := Lib.hid hY.len
  have HTM := Lib.hid ht
  have HSM := Lib.hid hs
  have b4 : Bk ((w.alloc (.cells C 29)).alloc (.cells #[.slice T ts.length ct] 42)) w.heap.size 29 C := (Bk.new _ _ _).alloc _
  have b7 : Bk ((w.alloc (.cells C 29)).alloc (.cells #[.slice T ts.length ct] 42)) (w.heap.size + 1) 42 #[.slice T ts.length ct] := by simpa using Bk.new (w.alloc (.cells C 29)) 42 #[.slice T ts.length ct]
  have hb0 : Below w.heap.size w ((w.alloc (.cells C 29)).alloc (.cells #[.slice T ts.length ct] 42)) := by exact (by repeat (first | with_reducible exact Below.refl _ _ | with_reducible assumption | with_reducible refine Below.drew ?_ | with_reducible refine below_drewN ?_ _ | (with_reducible refine Below.alloc ?_ ?_ _; rotate_left; (try simp) <;> omega) | (with_reducible refine Below.setCell ?_ ?_ _; rotate_left; (try simp) <;> omega)))
  have HR0 := Lib.hid b4.range
  have HBE : Hid (begE Y l f = if comE Y l = 0 then (if inB f 0 100000 = true then 0 else 1) else comE Y l) := rfl
  have e27 := hY.dry
  obtain ⟨Ap, kp, e25, L2⟩ := hY.pi
  obtain ⟨Am, km, e26, L3⟩ := hY.ma
  have HL2 := Lib.hid (fun W (hb : Below w.heap.size w W) => L2.below hb (Nat.le_refl _))
  have HL3 := Lib.hid (fun W (hb : Below w.heap.size w W) => L3.below hb (Nat.le_refl _))
  clear hY hT ht hs hP L2 L3
  by_cases hc : comE Y l = 0
  · rw [hc] at HCO
    cases hd : inB f 0 100000 with
    | true =>
      have hb : begE Y l f = 0 := by rw [HBE.out, if_pos hc, hd]; rfl
      obtain ⟨ho, hvt, hf⟩ := begE_ok hb
      rw [hb]
      have hbt : decide ((0 : Int) = 0) = true := rfl
      rw [hbt, Bool.true_and]
      have HVT := Lib.hid hvt
      have HO := Lib.hid ho
      have HD := Lib.hid hd
      have hl12 := hvt.n
      clear hb hvt hbt ho hd hc HBE
      by_cases hlen : ts.length = l.length
      · have HPY := Lib.hid (planOK_yes (Y := Y) (f := f) hlen)
        have HPN := Lib.hid (fun i (hi : i < l.length) (h : turnOK Y l f ts i = false) => planOK_no (ts := ts) hi h)
        have hne : ((ts.length : Int) != (l.length : Int)) = false := by rw [hlen]; simp
        have hne2 : (ts.length != l.length) = false := by rw [hlen]; simp
        have HAT := Lib.hid (fun i (hi : i < l.length) (hi2 : i < ts.length) => turnOK_at (Y := Y) (f := f) hi hi2)
        have HOD := Lib.hid (fun k (h1 : k ≤ l.length) (h : ∀ j, j < k → turnOK Y l f ts j = true) => ok_days (okY_valid HO.out) hf k (by rw [hlen]; exact h1) h1 h)
        have hltn : ts.length ≤ l.length := by omega
        have hltn2 : l.length ≤ ts.length := by omega
        clear hlen
        generalize planOK Y l f ts = R at *
        go_enter Try.func43, Try.ntmps43
        go_wp2_with (first | (refine wpList_load_guard (P := Try.prog) (by rfl) 29 (.tmp 4) rfl w.heap.size 0 rfl C.toList _ HR0.out Try.underlying29 rfl (by rw [HC28.out]; exact info29) ?_) | (go_at_call 89; refine (HCO.out _ hb0).mono ?_; rintro e w1 ⟨rfl, hb1⟩; have hB1 : Below w.heap.size w w1 := hb0.trans (hb1.mono hb0.size); have k4 : Bk w1 w.heap.size 29 C := b4.below hb1 b4.lt; have k7 : Bk w1 (w.heap.size + 1) 42 #[.slice T ts.length ct] := b7.below hb1 b7.lt; have l7 := k7.lt; have x7 := k7.cell 0 rfl; clear hb1) | (go_at_call 81; refine (isDay_any _ _).mono ?_; rintro e w' ⟨rfl, rfl⟩; rw [HD.out]))
        go_loopw [11] (fun y wr => ∃ k : Nat, k ≤ l.length ∧ y = .int .i64 k ∧ Hid (∀ j, j < k → turnOK Y l f ts j = true) ∧ Below w1.heap.size w1 wr) (fun y _ => l.length - (intOf y).toNat)
        case atStart => exact ⟨0, by omega, rfl, fun j hj => absurd hj (by omega), Below.refl _ _⟩
        case round =>
        obtain ⟨k, hk, rfl, HG, hbr⟩ := hrel
        have hBr := hB1.trans (hbr.mono hB1.size)
        have k7r := k7.below hbr l7
        have x7r := k7r.cell 0 rfl
        by_cases hkl : k < l.length
        · have hlt : k < ts.length := by omega
          obtain ⟨a1, rfl, ha1, t0, t1, t2⟩ := turn_at (HPW.out wr hBr) hlt
          have HATk := Lib.hid (HAT.out k hkl hlt)
          have HDY := Lib.hid (HOD.out k hk HG.out)
          have hkI : (k : Int) < (l.length : Int) := by omega
          have hkI2 : (k : Int) < (ts.length : Int) := by omega
          have hk0 : 0 ≤ (k : Int) := by omega
          have HTK : Hid (∀ u, ts[k] = u → turnOK Y l f ts k = (dayOK Y l[k] f k ((ts.take k).map Tu.day) u.day && ((skL Y.ma u.day l[k].need).contains u.mas && (inB u.pit 0 ((Y.pi.length : Int) - 1) && pitTake Y ts k u)))) := fun u e => by subst e; exact HATk.out
          generalize hu : ts[k] = u at *
          have HUU := Lib.hid hu
          have HA := Lib.hid (HTK.out u rfl)
          clear hu HTK HATk
          obtain ⟨d, p, m⟩ := u
          dsimp only at *
          have hb2 : Below w1.heap.size w1 (wr.alloc (.cells #[.int .i64 d, .int .i64 p, .int .i64 m] 55)) := hbr.alloc hbr.size _
          have kt : Bk (wr.alloc (.cells #[.int .i64 d, .int .i64 p, .int .i64 m] 55)) wr.heap.size 55 #[.int .i64 d, .int .i64 p, .int .i64 m] := Bk.new _ _ _
          have hbt : w1.heap.size ≤ wr.heap.size := hbr.size
          go_upto_region 12 with fail
          obtain ⟨at_, rfl, hatb, _, _, _, _⟩ := task_at (HTW.out wr hBr).at_ hkl
          generalize hw2 : wr.alloc (.cells #[.int .i64 d, .int .i64 p, .int .i64 m] 55) = w2 at *
          generalize wr.heap.size = bt at *
          clear hw2 t0 t1 t2 x7r k7r hbr hBr
          have hbw := hb2
          have hBr2 := hB1.trans (hb2.mono hB1.size)
          have hsz1 := hB1.size
          have hktl := kt.lt
          have HBW : Hid (∀ W : World, Below w2.heap.size w2 W → Below w.heap.size w W) := fun W hb => hBr2.trans (hb.mono hBr2.size)
          have HB1 : Hid (∀ W : World, Below w2.heap.size w2 W → Below w1.heap.size w1 W) := fun W hb => hb2.trans (hb.mono hb2.size)
          have HK4 : Hid (∀ W : World, Below w2.heap.size w2 W → Bk W w.heap.size 29 C) := fun W hb => k4.below (HB1.out W hb) k4.lt
          have HK7 : Hid (∀ W : World, Below w2.heap.size w2 W → Bk W (w.heap.size + 1) 42 #[.slice (some a1) ts.length ct]) := fun W hb => k7.below (HB1.out W hb) l7
          have HKT : Hid (∀ W : World, Below w2.heap.size w2 W → Bk W bt 55 #[.int .i64 d, .int .i64 p, .int .i64 m]) := fun W hb => kt.below hb hktl
          have HRS0 : Hid (∀ W : World, Below w2.heap.size w2 W → Calls Try.prog 93 #[.agg C, .slice (some at_) l.length c, .int .i64 k, .int .i64 d] W (ShEnd (suitB Y l[k] k d) W)) := fun W hb => by
            rw [← rsuitB_ok HO.out]; exact rsuits_any C Y l (some at_) c k d W (HYW.out W (HBW.out W hb)) HSM.out (HTW.out W (HBW.out W hb)) HTM.out.1 hkl
          have hi29 : (Try.prog.info? 29).map (·.size) = some C.toList.length := by rw [HC28.out]; exact info29
          have hu29 := Try.underlying29
          have HF : Hid (turnOK Y l f ts k = false → R = false) := fun h => HPN.out k hkl h
          have hdb : ∀ x ∈ (ts.take k).map Tu.day, -1000 ≤ x ∧ x ≤ 200000 := fun x hx => by have := HDY.out x hx; have := hf.1; have := hf.2; omega
          have HDB := Lib.hid hdb; clear hdb
          have hf1 := hf.1
          have hf2 := hf.2
          have WF : IntKind.i64.wrap (f + 400) = f + 400 := IntWalk.i64_in _ (by omega)
          have WK : IntKind.i64.wrap ((k : Int) - 1) = (k : Int) - 1 := IntWalk.i64_in _ (by omega)
          have HBD := Lib.hid (fun (j : Nat) (hj : j ≤ l[k].af.length) => lowK_bd (af := l[k].af) hf (okY_valid HO.out).dry HDB.out j hj)
          have HS0 : Hid (lowS Y.dry f l[k].af ((ts.take k).map Tu.day) = lowK Y.dry f l[k].af ((ts.take k).map Tu.day) l[k].af.length) := rfl
          have HZ := Lib.hid (lowK_zero Y.dry f l[k].af ((ts.take k).map Tu.day))
          unfold dayOK at HA
          rw [HS0.out] at HA
          have HBD0 := HBD.out l[k].af.length (Nat.le_refl _)
          have hbdf := HBD0.1
          generalize hq : suitB Y l[k] k d = q at *
          generalize hlk : lowK Y.dry f l[k].af ((ts.take k).map Tu.day) = LK at *
          clear HBD0
          by_cases c1 : d < f
          · have HR : Hid (R = false) := HF.out (by rw [HA.out, show decide (LK l[k].af.length ≤ d) = false from decide_eq_false (by omega)]; simp)
            refine wp_region_held_drew (S := (fun w' => w'.rangeAt w.heap.size 0 C.toList ∧ w'.cell? ⟨bt, 0, none⟩ = some (.int .i64 d))) (by kernel_rfl) ?_ (fun hHeld => ?_)
            · exact ⟨(HK4.out _ (by exact (by repeat (first | with_reducible exact Below.refl _ _ | with_reducible assumption | with_reducible refine Below.drew ?_ | with_reducible refine below_drewN ?_ _ | (with_reducible refine Below.alloc ?_ ?_ _; rotate_left; (try simp) <;> omega) | (with_reducible refine Below.setCell ?_ ?_ _; rotate_left; (try simp) <;> omega))))).range, (HKT.out _ (by exact (by repeat (first | with_reducible exact Below.refl _ _ | with_reducible assumption | with_reducible refine Below.drew ?_ | with_reducible refine below_drewN ?_ _ | (with_reducible refine Below.alloc ?_ ?_ _; rotate_left; (try simp) <;> omega) | (with_reducible refine Below.setCell ?_ ?_ _; rotate_left; (try simp) <;> omega))))).cell 0 rfl⟩
            refine tk 0 42 ?_
            refine tk 1 43 ?_
            refine tk 2 44 ?_
            refine tk 3 45 ?_
            refine tk 4 46 ?_
            refine sk 5 47 ?_
            refine sk 6 48 ?_
            refine sk 7 49 ?_
            refine sk 8 50 ?_
            refine sk 9 51 ?_
            refine tk 10 52 ?_
            refine tk 11 53 ?_
            refine sk 12 54 ?_
            refine sk 13 55 ?_
            refine sk 14 56 ?_
            refine sk 15 57 ?_
            refine sk 16 58 ?_
            refine sk 17 59 ?_
            refine sk 18 60 ?_
            refine sk 19 61 ?_
            refine sk 20 62 ?_
            refine sk 21 63 ?_
            refine sk 22 64 ?_
            refine sk 23 65 ?_
            refine sk 24 66 ?_
            refine sk 25 67 ?_
            refine tk 26 68 ?_
            refine tk 27 69 ?_
            refine sk 28 70 ?_
            refine sk 29 71 ?_
            refine sk 30 72 ?_
            refine sk 31 73 ?_
            refine sk 32 74 ?_
            refine sk 33 75 ?_
            refine sk 34 76 ?_
            refine tk 35 77 ?_
            refine wpAnyH_done (by kernel_rfl) ?_ _
            go_wp2
            go_ret2
            rw [HR.out]
            exact ⟨rfl, HBW.out _ (by exact (by repeat (first | with_reducible exact Below.refl _ _ | with_reducible assumption | with_reducible refine Below.drew ?_ | with_reducible refine below_drewN ?_ _ | (with_reducible refine Below.alloc ?_ ?_ _; rotate_left; (try simp) <;> omega) | (with_reducible refine Below.setCell ?_ ?_ _; rotate_left; (try simp) <;> omega))))⟩
          · by_cases c2 : f + 400 ≤ d
            · have HR : Hid (R = false) := HF.out (by rw [HA.out, show decide (d < f + 400) = false from decide_eq_false (by omega)]; rfl)
              refine wp_region_held_drew (S := (fun w' => w'.rangeAt w.heap.size 0 C.toList ∧ w'.cell? ⟨bt, 0, none⟩ = some (.int .i64 d))) (by kernel_rfl) ?_ (fun hHeld => ?_)
              · exact ⟨(HK4.out _ (by exact (by repeat (first | with_reducible exact Below.refl _ _ | with_reducible assumption | with_reducible refine Below.drew ?_ | with_reducible refine below_drewN ?_ _ | (with_reducible refine Below.alloc ?_ ?_ _; rotate_left; (try simp) <;> omega) | (with_reducible refine Below.setCell ?_ ?_ _; rotate_left; (try simp) <;> omega))))).range, (HKT.out _ (by exact (by repeat (first | with_reducible exact Below.refl _ _ | with_reducible assumption | with_reducible refine Below.drew ?_ | with_reducible refine below_drewN ?_ _ | (with_reducible refine Below.alloc ?_ ?_ _; rotate_left; (try simp) <;> omega) | (with_reducible refine Below.setCell ?_ ?_ _; rotate_left; (try simp) <;> omega))))).cell 0 rfl⟩
              refine tk 0 42 ?_
              refine tk 1 43 ?_
              refine tk 2 44 ?_
              refine tk 3 45 ?_
              refine tk 4 46 ?_
              refine tk 5 47 ?_
              refine tk 6 48 ?_
              refine tk 7 49 ?_
              refine tk 8 50 ?_
              refine tk 9 51 ?_
              refine tk 10 52 ?_
              refine tk 11 53 ?_
              refine sk 12 54 ?_
              refine sk 13 55 ?_
              refine sk 14 56 ?_
              refine sk 15 57 ?_
              refine sk 16 58 ?_
              refine sk 17 59 ?_
              refine sk 18 60 ?_
              refine sk 19 61 ?_
              refine sk 20 62 ?_
              refine sk 21 63 ?_
              refine sk 22 64 ?_
              refine sk 23 65 ?_
              refine sk 24 66 ?_
              refine sk 25 67 ?_
              refine tk 26 68 ?_
              refine tk 27 69 ?_
              refine sk 28 70 ?_
              refine sk 29 71 ?_
              refine sk 30 72 ?_
              refine sk 31 73 ?_
              refine sk 32 74 ?_
              refine sk 33 75 ?_
              refine sk 34 76 ?_
              refine tk 35 77 ?_
              refine wpAnyH_done (by kernel_rfl) ?_ _
              go_wp2
              go_ret2
              rw [HR.out]
              exact ⟨rfl, HBW.out _ (by exact (by repeat (first | with_reducible exact Below.refl _ _ | with_reducible assumption | with_reducible refine Below.drew ?_ | with_reducible refine below_drewN ?_ _ | (with_reducible refine Below.alloc ?_ ?_ _; rotate_left; (try simp) <;> omega) | (with_reducible refine Below.setCell ?_ ?_ _; rotate_left; (try simp) <;> omega))))⟩
            · have HHD : Hid (turnOK Y l f ts k = (decide (LK l[k].af.length ≤ d) && q && ((skL Y.ma d l[k].need).contains m && (inB p 0 ((Y.pi.length : Int) - 1) && pitTake Y ts k ⟨d, p, m⟩)))) := by
                show _ = _
                rw [HA.out, show decide (d < f + 400) = true from decide_eq_true (by omega), Bool.true_and]
              have HTS : Hid (∀ W : World, Below w2.heap.size w2 W → ∀ j (hj : j < ts.length), W.cell? (a1.add (j * 3)) = some (.int .i64 ts[j].day) ∧ W.cell? ⟨(a1.add (j * 3)).block, (a1.add (j * 3)).off + 1, none⟩ = some (.int .i64 ts[j].pit)) := fun W hb j hj => by
                obtain ⟨b3, e3, _, q0, q1, _⟩ := turn_at (HPW.out W (HBW.out W hb)) hj
                cases e3
                exact ⟨q0, q1⟩
              have HTT : Hid (∀ W : World, Below w2.heap.size w2 W → W.cell? (at_.add (k * 4)) = some (.int .i64 l[k].work) ∧ W.cell? ⟨(at_.add (k * 4)).block, (at_.add (k * 4)).off + 1, none⟩ = some (.int .i64 l[k].need) ∧ W.cell? ⟨(at_.add (k * 4)).block, (at_.add (k * 4)).off + 2, none⟩ = some (.slice l[k].aA l[k].af.length l[k].ac)) := fun W hb => by
                obtain ⟨b3, e3, _, q0, q1, q2, _⟩ := task_at ((HTW.out W (HBW.out W hb)).at_) hkl
                cases e3
                exact ⟨q0, q1, q2⟩
              have HTA := Lib.hid (fun W (hb : Below w2.heap.size w2 W) => (HTW.out W (HBW.out W hb)).af l[k] (List.getElem_mem hkl))
              have HAF := Lib.hid (HVT.out.af k hkl)
              have han := (HTM.out.2 l[k] (List.getElem_mem hkl)).1
              have hdry := (okY_valid HO.out).dry
              have HDX : Hid (∀ j (hj : j < k), f ≤ (ts[j]'(Nat.lt_trans hj hlt)).day ∧ (ts[j]'(Nat.lt_trans hj hlt)).day < f + 400) := fun j hj => HDY.out _ (List.mem_map.2 ⟨_, List.mem_take_iff_getElem.2 ⟨j, by omega, rfl⟩, rfl⟩)
              have HGD : Hid (∀ j (hj : j < k), ((ts.take k).map Tu.day).getD j 0 = (ts[j]'(Nat.lt_trans hj hlt)).day) := fun j hj => by
                rw [List.getD_eq_getElem?_getD, List.getElem?_eq_getElem (by simp; omega)]
                simp
              have HK : Hid (∀ (j : Nat) (hj : j < l[k].af.length) (h : l[k].af[j].toNat < k), LK (j + 1) = max (LK j) ((ts[l[k].af[j].toNat]'(Nat.lt_trans h hlt)).day + Y.dry + 1)) := fun j hj h => by
                rw [← hlk, lowK_succ hj, HGD.out _ h]
              have HMO : Hid (∀ j, j ≤ l[k].af.length → LK j ≤ LK l[k].af.length) := fun j hj => by rw [← hlk]; exact lowK_mono 0 hj (Nat.le_refl _)
              have HL0 : Hid (LK 0 = lowB f ((ts.take k).map Tu.day)) := by show _ = _; rw [← hlk]; exact lowK_zero _ _ _ _
              have HLB0 : Hid (k = 0 → LK 0 = f) := fun h => by rw [HL0.out]; unfold lowB; rw [if_pos (by simp; omega)]
              have HLB1 : Hid (∀ h : 0 < k, LK 0 = max f ((ts[k - 1]'(Nat.lt_of_le_of_lt (Nat.sub_le _ _) hlt)).day + 1)) := fun h => by
                rw [HL0.out]; unfold lowB
                have e : ((ts.take k).map Tu.day).length = k := by simp; omega
                rw [if_neg (by omega), e, HGD.out (k - 1) (by omega)]
              clear HA HL0 HGD hlk HS0 HZ
              generalize hdq : Y.dry = dry at *
              by_cases c3 : 0 < k
              · have HPD : Hid (∀ W : World, Below w2.heap.size w2 W → W.cell? (a1.add ((k - 1) * 3)) = some (.int .i64 (ts[k - 1]'(Nat.lt_of_le_of_lt (Nat.sub_le _ _) hlt)).day)) := fun W hb => (HTS.out W hb (k - 1) _).1
                have hpd := HDX.out (k - 1) (by omega)
                have HL1 := Lib.hid (HLB1.out c3)
                generalize (ts[k - 1]'(Nat.lt_of_le_of_lt (Nat.sub_le _ _) hlt)).day = pd at *
                have hkm : ((k : Int) - 1).toNat = k - 1 := by omega
                have hkp : 0 ≤ (k : Int) - 1 := by omega
                have hk1I : 1 ≤ (k : Int) := by omega
                have hkq : (k : Int) - 1 < (ts.length : Int) := by omega
                have HS1 : Hid (∀ W : World, Below w2.heap.size w2 W → W.rangeAt w.heap.size 0 C.toList ∧ W.cell? ⟨bt, 0, none⟩ = some (.int .i64 d) ∧ W.cell? ⟨w.heap.size + 1, 0, none⟩ = some (.slice (some a1) ts.length ct) ∧ W.cell? (a1.add ((k - 1) * 3)) = some (.int .i64 pd)) := fun W hb => ⟨(HK4.out W hb).range, (HKT.out W hb).cell 0 rfl, (HK7.out W hb).cell 0 rfl, HPD.out W hb⟩
                by_cases c4 : d ≤ pd
                · have HR : Hid (R = false) := HF.out (by
                    have h1 := HL1.out
                    have h2 := HMO.out 0 (Nat.zero_le _)
                    rw [HHD.out, show decide (LK l[k].af.length ≤ d) = false from decide_eq_false (by omega)]; rfl)
                  refine wp_region_held_drew (S := (fun w' => w'.rangeAt w.heap.size 0 C.toList ∧ w'.cell? ⟨bt, 0, none⟩ = some (.int .i64 d) ∧ w'.cell? ⟨w.heap.size + 1, 0, none⟩ = some (.slice (some a1) ts.length ct) ∧ w'.cell? (a1.add ((k - 1) * 3)) = some (.int .i64 pd))) (by kernel_rfl) ?_ (fun hHeld => ?_)
                  · exact HS1.out _ (by exact (by repeat (first | with_reducible exact Below.refl _ _ | with_reducible assumption | with_reducible refine Below.drew ?_ | with_reducible refine below_drewN ?_ _ | (with_reducible refine Below.alloc ?_ ?_ _; rotate_left; (try simp) <;> omega) | (with_reducible refine Below.setCell ?_ ?_ _; rotate_left; (try simp) <;> omega))))
                  refine tk 0 42 ?_
                  refine tk 1 43 ?_
                  refine tk 2 44 ?_
                  refine tk 3 45 ?_
                  refine tk 4 46 ?_
                  refine tk 5 47 ?_
                  refine tk 6 48 ?_
                  refine tk 7 49 ?_
                  refine tk 8 50 ?_
                  refine tk 9 51 ?_
                  refine tk 10 52 ?_
                  refine tk 11 53 ?_
                  refine tk 12 54 ?_
                  refine tk 13 55 ?_
                  refine tk 14 56 ?_
                  refine tk 15 57 ?_
                  refine tk 16 58 ?_
                  refine tk 17 59 ?_
                  refine tk 18 60 ?_
                  refine tk 19 61 ?_
                  refine tk 20 62 ?_
                  refine tk 21 63 ?_
                  refine tk 22 64 ?_
                  refine tk 23 65 ?_
                  refine tk 24 66 ?_
                  refine tk 25 67 ?_
                  refine tk 26 68 ?_
                  refine tk 27 69 ?_
                  refine sk 28 70 ?_
                  refine sk 29 71 ?_
                  refine sk 30 72 ?_
                  refine sk 31 73 ?_
                  refine sk 32 74 ?_
                  refine sk 33 75 ?_
                  refine sk 34 76 ?_
                  refine tk 35 77 ?_
                  refine wpAnyH_done (by kernel_rfl) ?_ _
                  go_wp2
                  go_ret2
                  rw [HR.out]
                  exact ⟨rfl, HBW.out _ (by exact (by repeat (first | with_reducible exact Below.refl _ _ | with_reducible assumption | with_reducible refine Below.drew ?_ | with_reducible refine below_drewN ?_ _ | (with_reducible refine Below.alloc ?_ ?_ _; rotate_left; (try simp) <;> omega) | (with_reducible refine Below.setCell ?_ ?_ _; rotate_left; (try simp) <;> omega))))⟩
                · cases q with
                  | false =>
                    have HR : Hid (R = false) := HF.out (by rw [HHD.out]; simp)
                    refine wp_region_held_drew (S := (fun w' => w'.rangeAt w.heap.size 0 C.toList ∧ w'.cell? ⟨bt, 0, none⟩ = some (.int .i64 d) ∧ w'.cell? ⟨w.heap.size + 1, 0, none⟩ = some (.slice (some a1) ts.length ct) ∧ w'.cell? (a1.add ((k - 1) * 3)) = some (.int .i64 pd))) (by kernel_rfl) ?_ (fun hHeld => ?_)
                    · exact HS1.out _ (by exact (by repeat (first | with_reducible exact Below.refl _ _ | with_reducible assumption | with_reducible refine Below.drew ?_ | with_reducible refine below_drewN ?_ _ | (with_reducible refine Below.alloc ?_ ?_ _; rotate_left; (try simp) <;> omega) | (with_reducible refine Below.setCell ?_ ?_ _; rotate_left; (try simp) <;> omega))))
                    refine tk 0 42 ?_
                    refine tk 1 43 ?_
                    refine tk 2 44 ?_
                    refine tk 3 45 ?_
                    refine tk 4 46 ?_
                    refine tk 5 47 ?_
                    refine tk 6 48 ?_
                    refine tk 7 49 ?_
                    refine tk 8 50 ?_
                    refine tk 9 51 ?_
                    refine tk 10 52 ?_
                    refine tk 11 53 ?_
                    refine tk 12 54 ?_
                    refine tk 13 55 ?_
                    refine tk 14 56 ?_
                    refine tk 15 57 ?_
                    refine tk 16 58 ?_
                    refine tk 17 59 ?_
                    refine tk 18 60 ?_
                    refine tk 19 61 ?_
                    refine tk 20 62 ?_
                    refine tk 21 63 ?_
                    refine tk 22 64 ?_
                    refine tk 23 65 ?_
                    refine tk 24 66 ?_
                    refine tk 25 67 ?_
                    refine tk 26 68 ?_
                    refine tk 27 69 ?_
                    (refine held_row 28 (some 70) 29 (.tmp 4) (w.heap.size) 0 C.toList _ rfl rfl (by kernel_rfl) (by kernel_rfl) (by kernel_rfl) (by rfl) rfl (fun _ _ _ h => h) (by assumption) (fun _ hS => hS.1) Try.underlying29 rfl (by assumption) ?_; (try simp only [Act.put, List.setIfInBounds_toArray, List.set_cons_zero, List.set_cons_succ]))
                    refine tk 29 71 ?_
                    refine tk 30 72 ?_
                    refine tk 31 73 ?_
                    refine tk 32 74 ?_
                    (refine held_call 33 (some 75) 93 _ rfl (by kernel_rfl) (by rfl) ?_ (HRS0.out _ (by exact (by repeat (first | with_reducible exact Below.refl _ _ | with_reducible assumption | with_reducible refine Below.drew ?_ | with_reducible refine below_drewN ?_ _ | (with_reducible refine Below.alloc ?_ ?_ _; rotate_left; (try simp) <;> omega) | (with_reducible refine Below.setCell ?_ ?_ _; rotate_left; (try simp) <;> omega))))) ?_; rotate_left; rotate_left; (simp only [List.getElem?_toArray, List.getElem?_cons_zero, List.getElem?_cons_succ, Option.map_some]; refine congrArg some ?_; go_simp))
                    rintro e w5 ⟨rfl, hb5'⟩
                    have hb5 : Below w2.heap.size w2 w5 := Below.trans (by exact (by repeat (first | with_reducible exact Below.refl _ _ | with_reducible assumption | with_reducible refine Below.drew ?_ | with_reducible refine below_drewN ?_ _ | (with_reducible refine Below.alloc ?_ ?_ _; rotate_left; (try simp) <;> omega) | (with_reducible refine Below.setCell ?_ ?_ _; rotate_left; (try simp) <;> omega)))) hb5'
                    refine ⟨_, rfl, HS1.out w5 hb5, fun hHeld => ?_⟩
                    (try simp only [Act.put, List.setIfInBounds_toArray, List.set_cons_zero, List.set_cons_succ])
                    refine tk 34 76 ?_
                    refine tk 35 77 ?_
                    refine wpAnyH_done (by kernel_rfl) ?_ _
                    go_wp2
                    go_ret2
                    rw [HR.out]
                    exact ⟨rfl, HBW.out _ hb5⟩
                  | true =>
                    have HV0 : Hid (LK 0 ≤ d) := by have h1 := HL1.out; show _ ≤ _; omega
                    as_aux_lemma =>
                      refine wp_region_held_drew (S := (fun w' => w'.rangeAt w.heap.size 0 C.toList ∧ w'.cell? ⟨bt, 0, none⟩ = some (.int .i64 d) ∧ w'.cell? ⟨w.heap.size + 1, 0, none⟩ = some (.slice (some a1) ts.length ct) ∧ w'.cell? (a1.add ((k - 1) * 3)) = some (.int .i64 pd))) (by kernel_rfl) ?_ (fun hHeld => ?_)
                      · exact HS1.out _ (by exact (by repeat (first | with_reducible exact Below.refl _ _ | with_reducible assumption | with_reducible refine Below.drew ?_ | with_reducible refine below_drewN ?_ _ | (with_reducible refine Below.alloc ?_ ?_ _; rotate_left; (try simp) <;> omega) | (with_reducible refine Below.setCell ?_ ?_ _; rotate_left; (try simp) <;> omega))))
                      refine tk 0 42 ?_
                      refine tk 1 43 ?_
                      refine tk 2 44 ?_
                      refine tk 3 45 ?_
                      refine tk 4 46 ?_
                      refine tk 5 47 ?_
                      refine tk 6 48 ?_
                      refine tk 7 49 ?_
                      refine tk 8 50 ?_
                      refine tk 9 51 ?_
                      refine tk 10 52 ?_
                      refine tk 11 53 ?_
                      refine tk 12 54 ?_
                      refine tk 13 55 ?_
                      refine tk 14 56 ?_
                      refine tk 15 57 ?_
                      refine tk 16 58 ?_
                      refine tk 17 59 ?_
                      refine tk 18 60 ?_
                      refine tk 19 61 ?_
                      refine tk 20 62 ?_
                      refine tk 21 63 ?_
                      refine tk 22 64 ?_
                      refine tk 23 65 ?_
                      refine tk 24 66 ?_
                      refine tk 25 67 ?_
                      refine tk 26 68 ?_
                      refine tk 27 69 ?_
                      (refine held_row 28 (some 70) 29 (.tmp 4) (w.heap.size) 0 C.toList _ rfl rfl (by kernel_rfl) (by kernel_rfl) (by kernel_rfl) (by rfl) rfl (fun _ _ _ h => h) (by assumption) (fun _ hS => hS.1) Try.underlying29 rfl (by assumption) ?_; (try simp only [Act.put, List.setIfInBounds_toArray, List.set_cons_zero, List.set_cons_succ]))
                      refine tk 29 71 ?_
                      refine tk 30 72 ?_
                      refine tk 31 73 ?_
                      refine tk 32 74 ?_
                      (refine held_call 33 (some 75) 93 _ rfl (by kernel_rfl) (by rfl) ?_ (HRS0.out _ (by exact (by repeat (first | with_reducible exact Below.refl _ _ | with_reducible assumption | with_reducible refine Below.drew ?_ | with_reducible refine below_drewN ?_ _ | (with_reducible refine Below.alloc ?_ ?_ _; rotate_left; (try simp) <;> omega) | (with_reducible refine Below.setCell ?_ ?_ _; rotate_left; (try simp) <;> omega))))) ?_; rotate_left; rotate_left; (simp only [List.getElem?_toArray, List.getElem?_cons_zero, List.getElem?_cons_succ, Option.map_some]; refine congrArg some ?_; go_simp))
                      rintro e w5 ⟨rfl, hb5'⟩
                      have hb5 : Below w2.heap.size w2 w5 := Below.trans (by exact (by repeat (first | with_reducible exact Below.refl _ _ | with_reducible assumption | with_reducible refine Below.drew ?_ | with_reducible refine below_drewN ?_ _ | (with_reducible refine Below.alloc ?_ ?_ _; rotate_left; (try simp) <;> omega) | (with_reducible refine Below.setCell ?_ ?_ _; rotate_left; (try simp) <;> omega)))) hb5'
                      refine ⟨_, rfl, HS1.out w5 hb5, fun hHeld => ?_⟩
                      (try simp only [Act.put, List.setIfInBounds_toArray, List.set_cons_zero, List.set_cons_succ])
                      refine tk 34 76 ?_
                      refine tk 35 77 ?_
                      refine wpAnyH_done (by kernel_rfl) ?_ _
                      clear hHeld
                      have HHT : Hid (turnOK Y l f ts k = (decide (LK l[k].af.length ≤ d) && ((skL Y.ma d l[k].need).contains m && (inB p 0 ((Y.pi.length : Int) - 1) && pitTake Y ts k ⟨d, p, m⟩)))) := by show _ = _; rw [HHD.out, Bool.and_true]
                      clear HHD HLB0 HLB1 hb5'
                      generalize l[k] = t at *
                      obtain ⟨wk, nd, aA, ac, af, cA, cc, co⟩ := t
                      dsimp only at *
                      go_wp2
                      go_loopw [13] (fun y wr => ∃ j : Nat, j ≤ af.length ∧ y = .int .i64 j ∧ Hid (LK j ≤ d) ∧ Below w2.heap.size w2 wr) (fun y _ => af.length - (intOf y).toNat)
                      case atStart => exact ⟨0, by omega, rfl, HV0, hb5⟩
                      case round =>
                      clear hb5 HV0
                      obtain ⟨j, hj, rfl, HVJ, hbv⟩ := hrel
                      obtain ⟨q0, q1, q2⟩ := HTT.out wr hbv
                      obtain ⟨hdr1, hdr2⟩ := hdry
                      by_cases hjl : j < af.length
                      · obtain ⟨a2, rfl, ha2, d0⟩ := int_at (HTA.out wr hbv) hjl
                        have haf := HAF.out af[j] (List.getElem_mem hjl)
                        have hjn : af[j].toNat < k := by omega
                        have HX := Lib.hid (HK.out j hjl hjn)
                        have hdx := HDX.out af[j].toNat hjn
                        have htx := (HTS.out wr hbv af[j].toNat (Nat.lt_trans hjn hlt)).1
                        obtain ⟨jj, hjj⟩ : ∃ jj : Nat, af[j] = (jj : Int) := ⟨af[j].toNat, by omega⟩
                        have hj2 : af[j].toNat = jj := by omega
                        have hjk : jj < k := by omega
                        rw [hjj] at d0
                        generalize hxq : (ts[af[j].toNat]'(Nat.lt_trans hjn hlt)).day = x at *
                        rw [hj2] at htx
                        clear hxq hj2 hjj haf
                        have hjI : (jj : Int) < (ts.length : Int) := by omega
                        have hj0 : 0 ≤ (jj : Int) := by omega
                        have hjaI : (j : Int) < (af.length : Int) := by omega
                        have hja0 : 0 ≤ (j : Int) := by omega
                        have WX : IntKind.i64.wrap (x + dry) = x + dry := IntWalk.i64_in _ (by omega)
                        have y27 := (HK4.out wr hbv).cell 27 e27
                        have x7v := (HK7.out wr hbv).cell 0 rfl
                        have xtv := (HKT.out wr hbv).cell 0 rfl
                        go_upto_region 17 with fail
                        refine wp_region_held_drew (S := (fun w' => w'.cell? ⟨bt, 0, none⟩ = some (.int .i64 d) ∧ w'.cell? ⟨w.heap.size + 1, 0, none⟩ = some (.slice (some a1) ts.length ct) ∧ w'.cell? ⟨(at_.add (k * 4)).block, (at_.add (k * 4)).off + 2, none⟩ = some (.slice (some a2) af.length ac) ∧ w'.cell? (a2.add j) = some (.int .i64 jj) ∧ w'.cell? (a1.add (jj * 3)) = some (.int .i64 x) ∧ w'.cell? ⟨w.heap.size, 27, none⟩ = some (.int .i64 dry))) (by kernel_rfl) ?_ (fun hHeld => ?_)
                        · exact ⟨xtv, x7v, q2, d0, htx, y27⟩
                        refine tk 0 88 ?_
                        refine tk 1 89 ?_
                        refine tk 2 90 ?_
                        refine tk 3 91 ?_
                        refine tk 4 92 ?_
                        refine tk 5 93 ?_
                        refine tk 6 94 ?_
                        refine tk 7 95 ?_
                        refine tk 8 96 ?_
                        refine tk 9 97 ?_
                        refine tk 10 98 ?_
                        refine tk 11 99 ?_
                        refine tk 12 100 ?_
                        refine tk 13 101 ?_
                        refine tk 14 102 ?_
                        refine tk 15 103 ?_
                        refine tk 16 104 ?_
                        refine tk 17 105 ?_
                        refine tk 18 106 ?_
                        refine wpAnyH_done (by kernel_rfl) ?_ _
                        by_cases c5 : d ≤ x + dry
                        · have HR : Hid (R = false) := HF.out (by
                            have h1 := HMO.out (j + 1) (by omega)
                            rw [HX.out] at h1
                            rw [HHT.out, show decide (LK af.length ≤ d) = false from decide_eq_false (by omega)]; rfl)
                          clear HX
                          go_wp2
                          go_ret2
                          rw [HR.out]
                          exact ⟨rfl, HBW.out _ (by exact (by repeat (first | with_reducible exact Below.refl _ _ | with_reducible assumption | with_reducible refine Below.drew ?_ | with_reducible refine below_drewN ?_ _ | (with_reducible refine Below.alloc ?_ ?_ _; rotate_left; (try simp) <;> omega) | (with_reducible refine Below.setCell ?_ ?_ _; rotate_left; (try simp) <;> omega))))⟩
                        · have HVN : Hid (LK (j + 1) ≤ d) := by
                            show _ ≤ _
                            have h1 := HVJ.out
                            rw [HX.out]; omega
                          clear HX
                          go_wp2
                          go_roundw
                          case rel => exact ⟨j + 1, by omega, by go_num, HVN, by exact (by repeat (first | with_reducible exact Below.refl _ _ | with_reducible assumption | with_reducible refine Below.drew ?_ | with_reducible refine below_drewN ?_ _ | (with_reducible refine Below.alloc ?_ ?_ _; rotate_left; (try simp) <;> omega) | (with_reducible refine Below.setCell ?_ ?_ _; rotate_left; (try simp) <;> omega)))⟩
                          case measure => simp [intOf]; omega
                      · obtain rfl : j = af.length := by omega
                        have HHU : Hid (turnOK Y l f ts k = ((skL Y.ma d nd).contains m && (inB p 0 ((Y.pi.length : Int) - 1) && pitTake Y ts k ⟨d, p, m⟩))) := by show _ = _; rw [HHT.out, show decide (LK af.length ≤ d) = true from decide_eq_true HVJ.out, Bool.true_and]
                        clear HHT HTA HAF HK HMO hjl HBD
                        have hn3 := (okY_valid HO.out).n3
                        have hn2 := (okY_valid HO.out).n2
                        have WM : IntKind.i64.wrap ((Y.ma.length : Int) - 1) = (Y.ma.length : Int) - 1 := IntWalk.i64_in _ (by omega)
                        have WP : IntKind.i64.wrap ((Y.pi.length : Int) - 1) = (Y.pi.length : Int) - 1 := IntWalk.i64_in _ (by omega)
                        have HPV := Lib.hid (okY_valid HO.out).pi
                        rw [skL_has] at HHU
                        go_upto_region 19 with fail
                        clear q2 HVJ
                        cases hmm : inB m 0 ((Y.ma.length : Int) - 1) with
                        | false =>
                          have HR : Hid (R = false) := HF.out (by rw [HHU.out, hmm]; rfl)
                          have HMM := Lib.hid hmm; clear hmm
                          refine wp_region_held_drew (S := (fun w' => w'.cell? ⟨bt, 2, none⟩ = some (.int .i64 m) ∧ w'.cell? ⟨w.heap.size, 26, none⟩ = some (.slice Am Y.ma.length km))) (by kernel_rfl) ?_ (fun hHeld => ?_)
                          · exact ⟨(HKT.out _ (by exact (by repeat (first | with_reducible exact Below.refl _ _ | with_reducible assumption | with_reducible refine Below.drew ?_ | with_reducible refine below_drewN ?_ _ | (with_reducible refine Below.alloc ?_ ?_ _; rotate_left; (try simp) <;> omega) | (with_reducible refine Below.setCell ?_ ?_ _; rotate_left; (try simp) <;> omega))))).cell 2 rfl, (HK4.out _ (by exact (by repeat (first | with_reducible exact Below.refl _ _ | with_reducible assumption | with_reducible refine Below.drew ?_ | with_reducible refine below_drewN ?_ _ | (with_reducible refine Below.alloc ?_ ?_ _; rotate_left; (try simp) <;> omega) | (with_reducible refine Below.setCell ?_ ?_ _; rotate_left; (try simp) <;> omega))))).cell 26 e26⟩
                          refine tk 0 107 ?_
                          refine tk 1 108 ?_
                          refine tk 2 109 ?_
                          refine tk 3 110 ?_
                          refine tk 4 111 ?_
                          refine tk 5 112 ?_
                          (refine held_call 6 (some 113) 69 _ rfl (by kernel_rfl) (by rfl) ?_ (within_is _ _ _ false _ HMM.out) ?_; rotate_left; rotate_left; (simp only [List.getElem?_toArray, List.getElem?_cons_zero, List.getElem?_cons_succ, Option.map_some]; refine congrArg some ?_; go_simp))
                          rintro e w6 ⟨rfl, rfl⟩
                          refine ⟨_, rfl, hHeld, fun hHeld => ?_⟩
                          (try simp only [Act.put, List.setIfInBounds_toArray, List.set_cons_zero, List.set_cons_succ])
                          refine tk 7 114 ?_
                          refine tk 8 115 ?_
                          refine sk 9 116 ?_
                          refine sk 10 117 ?_
                          refine sk 11 118 ?_
                          refine sk 12 119 ?_
                          refine sk 13 120 ?_
                          refine sk 14 121 ?_
                          refine sk 15 122 ?_
                          refine sk 16 123 ?_
                          refine sk 17 124 ?_
                          refine sk 18 125 ?_
                          refine sk 19 126 ?_
                          refine sk 20 127 ?_
                          refine sk 21 128 ?_
                          refine sk 22 129 ?_
                          refine sk 23 130 ?_
                          refine tk 24 131 ?_
                          refine wpAnyH_done (by kernel_rfl) ?_ _
                          go_wp2
                          go_ret2
                          rw [HR.out]
                          exact ⟨rfl, HBW.out _ (by exact (by repeat (first | with_reducible exact Below.refl _ _ | with_reducible assumption | with_reducible refine Below.drew ?_ | with_reducible refine below_drewN ?_ _ | (with_reducible refine Below.alloc ?_ ?_ _; rotate_left; (try simp) <;> omega) | (with_reducible refine Below.setCell ?_ ?_ _; rotate_left; (try simp) <;> omega))))⟩
                        | true =>
                          have HMM := Lib.hid hmm
                          have hmi := inB_iff.1 hmm
                          obtain ⟨mj, hmj⟩ : ∃ mj : Nat, m = (mj : Int) := ⟨m.toNat, by omega⟩
                          subst hmj
                          have hml : mj < Y.ma.length := by omega
                          have hmI : (mj : Int) < (Y.ma.length : Int) := by omega
                          have hm0 : 0 ≤ (mj : Int) := by omega
                          have HHM : Hid (turnOK Y l f ts k = (skB Y.ma[mj] d nd && (inB p 0 ((Y.pi.length : Int) - 1) && pitTake Y ts k ⟨d, p, mj⟩))) := by show _ = _; rw [HHU.out, hmm, Int.toNat_natCast, skAt_at hml, Bool.true_and]
                          clear hmm hmi HHU
                          obtain ⟨a4, rfl, ha4, _, _, _, _⟩ := mas_at (HL3.out wr (HBW.out wr hbv)) hml
                          have HM4 : Hid (∀ W : World, Below w2.heap.size w2 W → W.cell? ⟨bt, 2, none⟩ = some (.int .i64 mj) ∧ W.cell? ⟨bt, 0, none⟩ = some (.int .i64 d) ∧ W.cell? ⟨w.heap.size, 26, none⟩ = some (.slice (some a4) Y.ma.length km) ∧ W.cell? (a4.add (mj * 4)) = some (.string Y.ma[mj].name) ∧ W.cell? ⟨(a4.add (mj * 4)).block, (a4.add (mj * 4)).off + 1, none⟩ = some (.int .i64 Y.ma[mj].f) ∧ W.cell? ⟨(a4.add (mj * 4)).block, (a4.add (mj * 4)).off + 2, none⟩ = some (.int .i64 Y.ma[mj].u) ∧ W.cell? ⟨(a4.add (mj * 4)).block, (a4.add (mj * 4)).off + 3, none⟩ = some (.int .i64 Y.ma[mj].k) ∧ W.cell? ⟨(at_.add (k * 4)).block, (at_.add (k * 4)).off + 1, none⟩ = some (.int .i64 nd)) := fun W hb => by
                            obtain ⟨b4', e4, _, n0, n1, n2, n3⟩ := mas_at (HL3.out W (HBW.out W hb)) hml
                            cases e4
                            exact ⟨(HKT.out W hb).cell 2 rfl, (HKT.out W hb).cell 0 rfl, (HK4.out W hb).cell 26 e26, n0, n1, n2, n3, (HTT.out W hb).2.1⟩
                          have HAB0 := Lib.hid (fun W => able_any Y.ma[mj] d nd W)
                          generalize Y.ma[mj] = ms at *
                          obtain ⟨mn, mf, mu, mk⟩ := ms
                          dsimp only [Mas.agg] at HM4 HAB0
                          generalize hsk : skB ⟨mn, mf, mu, mk⟩ d nd = sk at *
                          clear hsk q0 q1
                          cases sk with
                          | false =>
                            have HAB := HAB0
                            have HR : Hid (R = false) := HF.out (by rw [HHM.out]; rfl)
                            refine wp_region_held_drew (S := (fun w' => w'.cell? ⟨bt, 2, none⟩ = some (.int .i64 mj) ∧ w'.cell? ⟨bt, 0, none⟩ = some (.int .i64 d) ∧ w'.cell? ⟨w.heap.size, 26, none⟩ = some (.slice (some a4) Y.ma.length km) ∧ w'.cell? (a4.add (mj * 4)) = some (.string mn) ∧ w'.cell? ⟨(a4.add (mj * 4)).block, (a4.add (mj * 4)).off + 1, none⟩ = some (.int .i64 mf) ∧ w'.cell? ⟨(a4.add (mj * 4)).block, (a4.add (mj * 4)).off + 2, none⟩ = some (.int .i64 mu) ∧ w'.cell? ⟨(a4.add (mj * 4)).block, (a4.add (mj * 4)).off + 3, none⟩ = some (.int .i64 mk) ∧ w'.cell? ⟨(at_.add (k * 4)).block, (at_.add (k * 4)).off + 1, none⟩ = some (.int .i64 nd))) (by kernel_rfl) ?_ (fun hHeld => ?_)
                            · exact HM4.out _ (by exact (by repeat (first | with_reducible exact Below.refl _ _ | with_reducible assumption | with_reducible refine Below.drew ?_ | with_reducible refine below_drewN ?_ _ | (with_reducible refine Below.alloc ?_ ?_ _; rotate_left; (try simp) <;> omega) | (with_reducible refine Below.setCell ?_ ?_ _; rotate_left; (try simp) <;> omega))))
                            refine tk 0 107 ?_
                            refine tk 1 108 ?_
                            refine tk 2 109 ?_
                            refine tk 3 110 ?_
                            refine tk 4 111 ?_
                            refine tk 5 112 ?_
                            (refine held_call 6 (some 113) 69 _ rfl (by kernel_rfl) (by rfl) ?_ (within_is _ _ _ true _ HMM.out) ?_; rotate_left; rotate_left; (simp only [List.getElem?_toArray, List.getElem?_cons_zero, List.getElem?_cons_succ, Option.map_some]; refine congrArg some ?_; go_simp))
                            rintro e w6 ⟨rfl, rfl⟩
                            refine ⟨_, rfl, hHeld, fun hHeld => ?_⟩
                            (try simp only [Act.put, List.setIfInBounds_toArray, List.set_cons_zero, List.set_cons_succ])
                            refine tk 7 114 ?_
                            refine tk 8 115 ?_
                            refine tk 9 116 ?_
                            refine tk 10 117 ?_
                            refine tk 11 118 ?_
                            refine tk 12 119 ?_
                            refine tk 13 120 ?_
                            refine tk 14 121 ?_
                            refine tk 15 122 ?_
                            refine tk 16 123 ?_
                            refine tk 17 124 ?_
                            refine tk 18 125 ?_
                            refine tk 19 126 ?_
                            refine tk 20 127 ?_
                            refine tk 21 128 ?_
                            (refine held_call 22 (some 129) 100 _ rfl (by kernel_rfl) (by rfl) ?_ (HAB.out _) ?_; rotate_left; rotate_left; (simp only [List.getElem?_toArray, List.getElem?_cons_zero, List.getElem?_cons_succ, Option.map_some]; refine congrArg some ?_; go_simp))
                            rintro e w7 ⟨rfl, hb7'⟩
                            have hb7 : Below w2.heap.size w2 w7 := Below.trans (by exact (by repeat (first | with_reducible exact Below.refl _ _ | with_reducible assumption | with_reducible refine Below.drew ?_ | with_reducible refine below_drewN ?_ _ | (with_reducible refine Below.alloc ?_ ?_ _; rotate_left; (try simp) <;> omega) | (with_reducible refine Below.setCell ?_ ?_ _; rotate_left; (try simp) <;> omega)))) (hb7'.mono (by have := hbv.size; first | exact this | (simp; omega)))
                            refine ⟨_, rfl, HM4.out w7 hb7, fun hHeld => ?_⟩
                            (try simp only [Act.put, List.setIfInBounds_toArray, List.set_cons_zero, List.set_cons_succ])
                            refine tk 23 130 ?_
                            refine tk 24 131 ?_
                            refine wpAnyH_done (by kernel_rfl) ?_ _
                            go_wp2
                            go_ret2
                            rw [HR.out]
                            exact ⟨rfl, HBW.out _ hb7⟩
                          | true =>
                            have HAB := HAB0
                            have HHP : Hid (turnOK Y l f ts k = (inB p 0 ((Y.pi.length : Int) - 1) && pitTake Y ts k ⟨d, p, mj⟩)) := by show _ = _; rw [HHM.out, Bool.true_and]
                            clear HHM
                            refine wp_region_held_drew (S := (fun w' => w'.cell? ⟨bt, 2, none⟩ = some (.int .i64 mj) ∧ w'.cell? ⟨bt, 0, none⟩ = some (.int .i64 d) ∧ w'.cell? ⟨w.heap.size, 26, none⟩ = some (.slice (some a4) Y.ma.length km) ∧ w'.cell? (a4.add (mj * 4)) = some (.string mn) ∧ w'.cell? ⟨(a4.add (mj * 4)).block, (a4.add (mj * 4)).off + 1, none⟩ = some (.int .i64 mf) ∧ w'.cell? ⟨(a4.add (mj * 4)).block, (a4.add (mj * 4)).off + 2, none⟩ = some (.int .i64 mu) ∧ w'.cell? ⟨(a4.add (mj * 4)).block, (a4.add (mj * 4)).off + 3, none⟩ = some (.int .i64 mk) ∧ w'.cell? ⟨(at_.add (k * 4)).block, (at_.add (k * 4)).off + 1, none⟩ = some (.int .i64 nd))) (by kernel_rfl) ?_ (fun hHeld => ?_)
                            · exact HM4.out _ (by exact (by repeat (first | with_reducible exact Below.refl _ _ | with_reducible assumption | with_reducible refine Below.drew ?_ | with_reducible refine below_drewN ?_ _ | (with_reducible refine Below.alloc ?_ ?_ _; rotate_left; (try simp) <;> omega) | (with_reducible refine Below.setCell ?_ ?_ _; rotate_left; (try simp) <;> omega))))
                            refine tk 0 107 ?_
                            refine tk 1 108 ?_
                            refine tk 2 109 ?_
                            refine tk 3 110 ?_
                            refine tk 4 111 ?_
                            refine tk 5 112 ?_
                            (refine held_call 6 (some 113) 69 _ rfl (by kernel_rfl) (by rfl) ?_ (within_is _ _ _ true _ HMM.out) ?_; rotate_left; rotate_left; (simp only [List.getElem?_toArray, List.getElem?_cons_zero, List.getElem?_cons_succ, Option.map_some]; refine congrArg some ?_; go_simp))
                            rintro e w6 ⟨rfl, rfl⟩
                            refine ⟨_, rfl, hHeld, fun hHeld => ?_⟩
                            (try simp only [Act.put, List.setIfInBounds_toArray, List.set_cons_zero, List.set_cons_succ])
                            refine tk 7 114 ?_
                            refine tk 8 115 ?_
                            refine tk 9 116 ?_
                            refine tk 10 117 ?_
                            refine tk 11 118 ?_
                            refine tk 12 119 ?_
                            refine tk 13 120 ?_
                            refine tk 14 121 ?_
                            refine tk 15 122 ?_
                            refine tk 16 123 ?_
                            refine tk 17 124 ?_
                            refine tk 18 125 ?_
                            refine tk 19 126 ?_
                            refine tk 20 127 ?_
                            refine tk 21 128 ?_
                            (refine held_call 22 (some 129) 100 _ rfl (by kernel_rfl) (by rfl) ?_ (HAB.out _) ?_; rotate_left; rotate_left; (simp only [List.getElem?_toArray, List.getElem?_cons_zero, List.getElem?_cons_succ, Option.map_some]; refine congrArg some ?_; go_simp))
                            rintro e w7 ⟨rfl, hb7'⟩
                            have hb7 : Below w2.heap.size w2 w7 := Below.trans (by exact (by repeat (first | with_reducible exact Below.refl _ _ | with_reducible assumption | with_reducible refine Below.drew ?_ | with_reducible refine below_drewN ?_ _ | (with_reducible refine Below.alloc ?_ ?_ _; rotate_left; (try simp) <;> omega) | (with_reducible refine Below.setCell ?_ ?_ _; rotate_left; (try simp) <;> omega)))) (hb7'.mono (by have := hbv.size; first | exact this | (simp; omega)))
                            refine ⟨_, rfl, HM4.out w7 hb7, fun hHeld => ?_⟩
                            (try simp only [Act.put, List.setIfInBounds_toArray, List.set_cons_zero, List.set_cons_succ])
                            refine tk 23 130 ?_
                            refine tk 24 131 ?_
                            refine wpAnyH_done (by kernel_rfl) ?_ _
                            clear hHeld
                            go_upto_region 21 with fail
                            cases hii : inB p 0 ((Y.pi.length : Int) - 1) with
                            | false =>
                              have HR : Hid (R = false) := HF.out (by rw [HHP.out, hii]; rfl)
                              have HII := Lib.hid hii; clear hii
                              refine wp_region_held_drew (S := (fun w' => w'.cell? ⟨bt, 1, none⟩ = some (.int .i64 p) ∧ w'.cell? ⟨w.heap.size, 25, none⟩ = some (.slice Ap Y.pi.length kp))) (by kernel_rfl) ?_ (fun hHeld => ?_)
                              · exact ⟨(HKT.out _ (by exact (by repeat (first | with_reducible exact Below.refl _ _ | with_reducible assumption | with_reducible refine Below.drew ?_ | with_reducible refine below_drewN ?_ _ | (with_reducible refine Below.alloc ?_ ?_ _; rotate_left; (try simp) <;> omega) | (with_reducible refine Below.setCell ?_ ?_ _; rotate_left; (try simp) <;> omega))))).cell 1 rfl, (HK4.out _ (by exact (by repeat (first | with_reducible exact Below.refl _ _ | with_reducible assumption | with_reducible refine Below.drew ?_ | with_reducible refine below_drewN ?_ _ | (with_reducible refine Below.alloc ?_ ?_ _; rotate_left; (try simp) <;> omega) | (with_reducible refine Below.setCell ?_ ?_ _; rotate_left; (try simp) <;> omega))))).cell 25 e25⟩
                              refine tk 0 132 ?_
                              refine tk 1 133 ?_
                              refine tk 2 134 ?_
                              refine tk 3 135 ?_
                              refine tk 4 136 ?_
                              refine tk 5 137 ?_
                              (refine held_call 6 (some 138) 69 _ rfl (by kernel_rfl) (by rfl) ?_ (within_is _ _ _ false _ HII.out) ?_; rotate_left; rotate_left; (simp only [List.getElem?_toArray, List.getElem?_cons_zero, List.getElem?_cons_succ, Option.map_some]; refine congrArg some ?_; go_simp))
                              rintro e w8 ⟨rfl, rfl⟩
                              refine ⟨_, rfl, hHeld, fun hHeld => ?_⟩
                              (try simp only [Act.put, List.setIfInBounds_toArray, List.set_cons_zero, List.set_cons_succ])
                              refine tk 7 139 ?_
                              refine tk 8 140 ?_
                              refine sk 9 141 ?_
                              refine sk 10 142 ?_
                              refine sk 11 143 ?_
                              refine sk 12 144 ?_
                              refine sk 13 145 ?_
                              refine sk 14 146 ?_
                              refine sk 15 147 ?_
                              refine sk 16 148 ?_
                              refine sk 17 149 ?_
                              refine sk 18 150 ?_
                              refine sk 19 151 ?_
                              refine sk 20 152 ?_
                              refine sk 21 153 ?_
                              refine sk 22 154 ?_
                              refine sk 23 155 ?_
                              refine sk 24 156 ?_
                              refine sk 25 157 ?_
                              refine sk 26 158 ?_
                              refine tk 27 159 ?_
                              refine wpAnyH_done (by kernel_rfl) ?_ _
                              go_wp2
                              go_ret2
                              rw [HR.out]
                              exact ⟨rfl, HBW.out _ (by exact (by repeat (first | with_reducible exact Below.refl _ _ | with_reducible assumption | with_reducible refine Below.drew ?_ | with_reducible refine below_drewN ?_ _ | (with_reducible refine Below.alloc ?_ ?_ _; rotate_left; (try simp) <;> omega) | (with_reducible refine Below.setCell ?_ ?_ _; rotate_left; (try simp) <;> omega))))⟩
                            | true =>
                              have HII := Lib.hid hii
                              have hpi := inB_iff.1 hii
                              obtain ⟨pj, hpj⟩ : ∃ pj : Nat, p = (pj : Int) := ⟨p.toNat, by omega⟩
                              subst hpj
                              have hpl : pj < Y.pi.length := by omega
                              have hpI : (pj : Int) < (Y.pi.length : Int) := by omega
                              have hp0 : 0 ≤ (pj : Int) := by omega
                              have HHQ : Hid (turnOK Y l f ts k = (agedB Y.pi[pj] d && decide (cntP (ts.take (k + 1)) pj ≤ Y.pi[pj].b))) := by
                                show _ = _
                                rw [HHP.out, hii, Bool.true_and]
                                show (match Y.pi[(pj : Int).toNat]? with | some p => agedB p d && decide (cntP (ts.take (k + 1)) pj ≤ p.b) | none => false) = _
                                rw [Int.toNat_natCast, List.getElem?_eq_getElem hpl]
                              clear hii hpi HHP
                              obtain ⟨⟨ps1, ps2⟩, ⟨pa1, pa2⟩, pb1, pb2⟩ := HPV.out _ (List.getElem_mem hpl)
                              obtain ⟨a5, rfl, ha5, _, _, _⟩ := pit_at (HL2.out w7 (HBW.out w7 hb7)) hpl
                              have HP5 : Hid (∀ W : World, Below w2.heap.size w2 W → W.cell? ⟨bt, 1, none⟩ = some (.int .i64 pj) ∧ W.cell? ⟨bt, 0, none⟩ = some (.int .i64 d) ∧ W.cell? ⟨w.heap.size, 25, none⟩ = some (.slice (some a5) Y.pi.length kp) ∧ W.cell? (a5.add (pj * 3)) = some (.int .i64 Y.pi[pj].s) ∧ W.cell? ⟨(a5.add (pj * 3)).block, (a5.add (pj * 3)).off + 1, none⟩ = some (.int .i64 Y.pi[pj].a) ∧ W.cell? ⟨(a5.add (pj * 3)).block, (a5.add (pj * 3)).off + 2, none⟩ = some (.int .i64 Y.pi[pj].b)) := fun W hb => by
                                obtain ⟨b5', e5, _, n0, n1, n2⟩ := pit_at (HL2.out W (HBW.out W hb)) hpl
                                cases e5
                                exact ⟨(HKT.out W hb).cell 1 rfl, (HKT.out W hb).cell 0 rfl, (HK4.out W hb).cell 25 e25, n0, n1, n2⟩
                              have HAGD : Hid (agedB Y.pi[pj] d = decide (Y.pi[pj].s + Y.pi[pj].a ≤ d)) := rfl
                              generalize Y.pi[pj] = pp at *
                              obtain ⟨ps, pa, pb⟩ := pp
                              dsimp only at *
                              have WS : IntKind.i64.wrap (ps + pa) = ps + pa := IntWalk.i64_in _ (by omega)
                              by_cases c7 : d < ps + pa
                              · have HR : Hid (R = false) := HF.out (by rw [HHQ.out, HAGD.out, show decide (ps + pa ≤ d) = false from decide_eq_false (by omega)]; rfl)
                                refine wp_region_held_drew (S := (fun w' => w'.cell? ⟨bt, 1, none⟩ = some (.int .i64 pj) ∧ w'.cell? ⟨bt, 0, none⟩ = some (.int .i64 d) ∧ w'.cell? ⟨w.heap.size, 25, none⟩ = some (.slice (some a5) Y.pi.length kp) ∧ w'.cell? (a5.add (pj * 3)) = some (.int .i64 ps) ∧ w'.cell? ⟨(a5.add (pj * 3)).block, (a5.add (pj * 3)).off + 1, none⟩ = some (.int .i64 pa) ∧ w'.cell? ⟨(a5.add (pj * 3)).block, (a5.add (pj * 3)).off + 2, none⟩ = some (.int .i64 pb))) (by kernel_rfl) ?_ (fun hHeld => ?_)
                                · exact HP5.out _ (by exact (by repeat (first | with_reducible exact Below.refl _ _ | with_reducible assumption | with_reducible refine Below.drew ?_ | with_reducible refine below_drewN ?_ _ | (with_reducible refine Below.alloc ?_ ?_ _; rotate_left; (try simp) <;> omega) | (with_reducible refine Below.setCell ?_ ?_ _; rotate_left; (try simp) <;> omega))))
                                refine tk 0 132 ?_
                                refine tk 1 133 ?_
                                refine tk 2 134 ?_
                                refine tk 3 135 ?_
                                refine tk 4 136 ?_
                                refine tk 5 137 ?_
                                (refine held_call 6 (some 138) 69 _ rfl (by kernel_rfl) (by rfl) ?_ (within_is _ _ _ true _ HII.out) ?_; rotate_left; rotate_left; (simp only [List.getElem?_toArray, List.getElem?_cons_zero, List.getElem?_cons_succ, Option.map_some]; refine congrArg some ?_; go_simp))
                                rintro e w8 ⟨rfl, rfl⟩
                                refine ⟨_, rfl, hHeld, fun hHeld => ?_⟩
                                (try simp only [Act.put, List.setIfInBounds_toArray, List.set_cons_zero, List.set_cons_succ])
                                refine tk 7 139 ?_
                                refine tk 8 140 ?_
                                refine tk 9 141 ?_
                                refine tk 10 142 ?_
                                refine tk 11 143 ?_
                                refine tk 12 144 ?_
                                refine tk 13 145 ?_
                                refine tk 14 146 ?_
                                refine tk 15 147 ?_
                                refine tk 16 148 ?_
                                refine tk 17 149 ?_
                                refine tk 18 150 ?_
                                refine tk 19 151 ?_
                                refine tk 20 152 ?_
                                refine tk 21 153 ?_
                                refine tk 22 154 ?_
                                refine tk 23 155 ?_
                                refine tk 24 156 ?_
                                refine tk 25 157 ?_
                                refine tk 26 158 ?_
                                refine tk 27 159 ?_
                                refine wpAnyH_done (by kernel_rfl) ?_ _
                                go_wp2
                                go_ret2
                                rw [HR.out]
                                exact ⟨rfl, HBW.out _ (by exact (by repeat (first | with_reducible exact Below.refl _ _ | with_reducible assumption | with_reducible refine Below.drew ?_ | with_reducible refine below_drewN ?_ _ | (with_reducible refine Below.alloc ?_ ?_ _; rotate_left; (try simp) <;> omega) | (with_reducible refine Below.setCell ?_ ?_ _; rotate_left; (try simp) <;> omega))))⟩
                              · have HHZ : Hid (turnOK Y l f ts k = decide (cntP (ts.take (k + 1)) pj ≤ pb)) := by show _ = _; rw [HHQ.out, HAGD.out, show decide (ps + pa ≤ d) = true from decide_eq_true (by omega), Bool.true_and]
                                clear HHQ HAGD
                                refine wp_region_held_drew (S := (fun w' => w'.cell? ⟨bt, 1, none⟩ = some (.int .i64 pj) ∧ w'.cell? ⟨bt, 0, none⟩ = some (.int .i64 d) ∧ w'.cell? ⟨w.heap.size, 25, none⟩ = some (.slice (some a5) Y.pi.length kp) ∧ w'.cell? (a5.add (pj * 3)) = some (.int .i64 ps) ∧ w'.cell? ⟨(a5.add (pj * 3)).block, (a5.add (pj * 3)).off + 1, none⟩ = some (.int .i64 pa) ∧ w'.cell? ⟨(a5.add (pj * 3)).block, (a5.add (pj * 3)).off + 2, none⟩ = some (.int .i64 pb))) (by kernel_rfl) ?_ (fun hHeld => ?_)
                                · exact HP5.out _ (by exact (by repeat (first | with_reducible exact Below.refl _ _ | with_reducible assumption | with_reducible refine Below.drew ?_ | with_reducible refine below_drewN ?_ _ | (with_reducible refine Below.alloc ?_ ?_ _; rotate_left; (try simp) <;> omega) | (with_reducible refine Below.setCell ?_ ?_ _; rotate_left; (try simp) <;> omega))))
                                refine tk 0 132 ?_
                                refine tk 1 133 ?_
                                refine tk 2 134 ?_
                                refine tk 3 135 ?_
                                refine tk 4 136 ?_
                                refine tk 5 137 ?_
                                (refine held_call 6 (some 138) 69 _ rfl (by kernel_rfl) (by rfl) ?_ (within_is _ _ _ true _ HII.out) ?_; rotate_left; rotate_left; (simp only [List.getElem?_toArray, List.getElem?_cons_zero, List.getElem?_cons_succ, Option.map_some]; refine congrArg some ?_; go_simp))
                                rintro e w8 ⟨rfl, rfl⟩
                                refine ⟨_, rfl, hHeld, fun hHeld => ?_⟩
                                (try simp only [Act.put, List.setIfInBounds_toArray, List.set_cons_zero, List.set_cons_succ])
                                refine tk 7 139 ?_
                                refine tk 8 140 ?_
                                refine tk 9 141 ?_
                                refine tk 10 142 ?_
                                refine tk 11 143 ?_
                                refine tk 12 144 ?_
                                refine tk 13 145 ?_
                                refine tk 14 146 ?_
                                refine tk 15 147 ?_
                                refine tk 16 148 ?_
                                refine tk 17 149 ?_
                                refine tk 18 150 ?_
                                refine tk 19 151 ?_
                                refine tk 20 152 ?_
                                refine tk 21 153 ?_
                                refine tk 22 154 ?_
                                refine tk 23 155 ?_
                                refine tk 24 156 ?_
                                refine tk 25 157 ?_
                                refine tk 26 158 ?_
                                refine tk 27 159 ?_
                                refine wpAnyH_done (by kernel_rfl) ?_ _
                                clear hHeld
                                go_wp2
                                go_loopw [14, 15] (fun s y wr => ∃ i : Nat, i ≤ k + 1 ∧ y = .int .i64 i ∧ s = .int .i64 (cntP (ts.take i) pj) ∧ Below w2.heap.size w2 wr) (fun _ y _ => k + 1 - (intOf y).toNat)
                                case atStart => exact ⟨0, by omega, rfl, by simp [cntP], by exact (by repeat (first | with_reducible exact Below.refl _ _ | with_reducible assumption | with_reducible refine Below.drew ?_ | with_reducible refine below_drewN ?_ _ | (with_reducible refine Below.alloc ?_ ?_ _; rotate_left; (try simp) <;> omega) | (with_reducible refine Below.setCell ?_ ?_ _; rotate_left; (try simp) <;> omega)))⟩
                                case round =>
                                clear hb7
                                obtain ⟨i, hik, rfl, rfl, hbx⟩ := hrel
                                have hcb := cntP_bd (ts.take i) pj
                                have hcl : (ts.take i).length ≤ 20 := by simp; omega
                                have HCT : Hid (∀ h : i < ts.length, cntP (ts.take (i + 1)) pj = if ts[i].pit = pj then cntP (ts.take i) pj + 1 else cntP (ts.take i) pj) := fun h => cntP_take h _
                                have HZ1 : Hid (i = k + 1 → turnOK Y l f ts k = decide (cntP (ts.take i) pj ≤ pb)) := fun h => by subst h; exact HHZ.out
                                by_cases hil : i ≤ k
                                · have hilt : i < ts.length := by omega
                                  have htp := (HTS.out wr hbx i hilt).2
                                  have HCI := Lib.hid (HCT.out hilt)
                                  generalize cntP (ts.take i) pj = cn at *
                                  generalize ts[i].pit = tp at *
                                  have hiI : (i : Int) ≤ (k : Int) := by omega
                                  have hiI2 : (i : Int) < (ts.length : Int) := by omega
                                  have hi0 : 0 ≤ (i : Int) := by omega
                                  have x7x := (HK7.out wr hbx).cell 0 rfl
                                  have xt1 := (HKT.out wr hbx).cell 1 rfl
                                  have WC : IntKind.i64.wrap (cn + 1) = cn + 1 := IntWalk.i64_in _ (by omega)
                                  clear HCT HZ1
                                  go_upto_region 27 with fail
                                  by_cases c8 : tp = (pj : Int)
                                  · have HC9 : Hid (cntP (ts.take (i + 1)) pj = cn + 1) := by show _ = _; rw [HCI.out, if_pos c8]
                                    subst c8
                                    refine wp_region_held_drew (S := (fun w' => w'.cell? ⟨bt, 1, none⟩ = some (.int .i64 pj) ∧ w'.cell? ⟨w.heap.size + 1, 0, none⟩ = some (.slice (some a1) ts.length ct) ∧ w'.cell? ⟨(a1.add (i * 3)).block, (a1.add (i * 3)).off + 1, none⟩ = some (.int .i64 pj))) (by kernel_rfl) ?_ (fun hHeld => ?_)
                                    · exact ⟨xt1, x7x, htp⟩
                                    refine tk 0 165 ?_
                                    refine tk 1 166 ?_
                                    refine tk 2 167 ?_
                                    refine tk 3 168 ?_
                                    refine tk 4 169 ?_
                                    refine tk 5 170 ?_
                                    refine tk 6 171 ?_
                                    refine tk 7 172 ?_
                                    refine tk 8 173 ?_
                                    refine wpAnyH_done (by kernel_rfl) ?_ _
                                    go_wp2
                                    go_roundw
                                    case rel => exact ⟨i + 1, by omega, by go_num, by rw [HC9.out], by exact (by repeat (first | with_reducible exact Below.refl _ _ | with_reducible assumption | with_reducible refine Below.drew ?_ | with_reducible refine below_drewN ?_ _ | (with_reducible refine Below.alloc ?_ ?_ _; rotate_left; (try simp) <;> omega) | (with_reducible refine Below.setCell ?_ ?_ _; rotate_left; (try simp) <;> omega)))⟩
                                    case measure => simp [intOf]; omega
                                  · have HC9 : Hid (cntP (ts.take (i + 1)) pj = cn) := by show _ = _; rw [HCI.out, if_neg c8]
                                    have c9 : (tp == (pj : Int)) = false := by simpa using c8
                                    refine wp_region_held_drew (S := (fun w' => w'.cell? ⟨bt, 1, none⟩ = some (.int .i64 pj) ∧ w'.cell? ⟨w.heap.size + 1, 0, none⟩ = some (.slice (some a1) ts.length ct) ∧ w'.cell? ⟨(a1.add (i * 3)).block, (a1.add (i * 3)).off + 1, none⟩ = some (.int .i64 tp))) (by kernel_rfl) ?_ (fun hHeld => ?_)
                                    · exact ⟨xt1, x7x, htp⟩
                                    refine tk 0 165 ?_
                                    refine tk 1 166 ?_
                                    refine tk 2 167 ?_
                                    refine tk 3 168 ?_
                                    refine tk 4 169 ?_
                                    refine tk 5 170 ?_
                                    refine tk 6 171 ?_
                                    refine tk 7 172 ?_
                                    refine tk 8 173 ?_
                                    refine wpAnyH_done (by kernel_rfl) ?_ _
                                    go_wp2
                                    go_roundw
                                    case rel => exact ⟨i + 1, by omega, by go_num, by rw [HC9.out], by exact (by repeat (first | with_reducible exact Below.refl _ _ | with_reducible assumption | with_reducible refine Below.drew ?_ | with_reducible refine below_drewN ?_ _ | (with_reducible refine Below.alloc ?_ ?_ _; rotate_left; (try simp) <;> omega) | (with_reducible refine Below.setCell ?_ ?_ _; rotate_left; (try simp) <;> omega)))⟩
                                    case measure => simp [intOf]; omega
                                · have HZ2 := Lib.hid (HZ1.out (by omega))
                                  generalize cntP (ts.take i) pj = cn at *
                                  obtain ⟨g1, g0, g2, g3, g4, g5⟩ := HP5.out wr hbx
                                  have hiN : ¬ (i : Int) ≤ (k : Int) := by omega
                                  by_cases c9 : pb < cn
                                  · have HR : Hid (R = false) := HF.out (by rw [HZ2.out]; exact decide_eq_false (by omega))
                                    clear HCT HZ1
                                    go_wp2
                                    go_ret2
                                    rw [HR.out]
                                    exact ⟨rfl, HBW.out _ hbx⟩
                                  · have HTK : Hid (turnOK Y l f ts k = true) := by show _ = _; rw [HZ2.out]; exact decide_eq_true (by omega)
                                    clear HCT HZ1
                                    go_wp2
                                    go_roundw
                                    case rel => exact ⟨k + 1, by omega, by go_num, fun e he => by
                                      by_cases hek : e = k
                                      · subst hek; exact HTK.out
                                      · exact HG.out e (by omega), HB1.out _ hbx⟩
                                    case measure => simp [intOf]; omega
              · have HL1 := Lib.hid (HLB0.out (by omega))
                have hk3 : ¬ (1 ≤ (k : Int)) := by omega
                cases q with
                | false =>
                  have HR : Hid (R = false) := HF.out (by rw [HHD.out]; simp)
                  refine wp_region_held_drew (S := (fun w' => w'.rangeAt w.heap.size 0 C.toList ∧ w'.cell? ⟨bt, 0, none⟩ = some (.int .i64 d))) (by kernel_rfl) ?_ (fun hHeld => ?_)
                  · exact ⟨(HK4.out _ (by exact (by repeat (first | with_reducible exact Below.refl _ _ | with_reducible assumption | with_reducible refine Below.drew ?_ | with_reducible refine below_drewN ?_ _ | (with_reducible refine Below.alloc ?_ ?_ _; rotate_left; (try simp) <;> omega) | (with_reducible refine Below.setCell ?_ ?_ _; rotate_left; (try simp) <;> omega))))).range, (HKT.out _ (by exact (by repeat (first | with_reducible exact Below.refl _ _ | with_reducible assumption | with_reducible refine Below.drew ?_ | with_reducible refine below_drewN ?_ _ | (with_reducible refine Below.alloc ?_ ?_ _; rotate_left; (try simp) <;> omega) | (with_reducible refine Below.setCell ?_ ?_ _; rotate_left; (try simp) <;> omega))))).cell 0 rfl⟩
                  refine tk 0 42 ?_
                  refine tk 1 43 ?_
                  refine tk 2 44 ?_
                  refine tk 3 45 ?_
                  refine tk 4 46 ?_
                  refine tk 5 47 ?_
                  refine tk 6 48 ?_
                  refine tk 7 49 ?_
                  refine tk 8 50 ?_
                  refine tk 9 51 ?_
                  refine tk 10 52 ?_
                  refine tk 11 53 ?_
                  refine tk 12 54 ?_
                  refine tk 13 55 ?_
                  refine tk 14 56 ?_
                  refine sk 15 57 ?_
                  refine sk 16 58 ?_
                  refine sk 17 59 ?_
                  refine sk 18 60 ?_
                  refine sk 19 61 ?_
                  refine sk 20 62 ?_
                  refine sk 21 63 ?_
                  refine sk 22 64 ?_
                  refine sk 23 65 ?_
                  refine sk 24 66 ?_
                  refine tk 25 67 ?_
                  refine tk 26 68 ?_
                  refine tk 27 69 ?_
                  (refine held_row 28 (some 70) 29 (.tmp 4) (w.heap.size) 0 C.toList _ rfl rfl (by kernel_rfl) (by kernel_rfl) (by kernel_rfl) (by rfl) rfl (fun _ _ _ h => h) (by assumption) (fun _ hS => hS.1) Try.underlying29 rfl (by assumption) ?_; (try simp only [Act.put, List.setIfInBounds_toArray, List.set_cons_zero, List.set_cons_succ]))
                  refine tk 29 71 ?_
                  refine tk 30 72 ?_
                  refine tk 31 73 ?_
                  refine tk 32 74 ?_
                  (refine held_call 33 (some 75) 93 _ rfl (by kernel_rfl) (by rfl) ?_ (HRS0.out _ (by exact (by repeat (first | with_reducible exact Below.refl _ _ | with_reducible assumption | with_reducible refine Below.drew ?_ | with_reducible refine below_drewN ?_ _ | (with_reducible refine Below.alloc ?_ ?_ _; rotate_left; (try simp) <;> omega) | (with_reducible refine Below.setCell ?_ ?_ _; rotate_left; (try simp) <;> omega))))) ?_; rotate_left; rotate_left; (simp only [List.getElem?_toArray, List.getElem?_cons_zero, List.getElem?_cons_succ, Option.map_some]; refine congrArg some ?_; go_simp))
                  rintro e w5 ⟨rfl, hb5'⟩
                  have hb5 : Below w2.heap.size w2 w5 := Below.trans (by exact (by repeat (first | with_reducible exact Below.refl _ _ | with_reducible assumption | with_reducible refine Below.drew ?_ | with_reducible refine below_drewN ?_ _ | (with_reducible refine Below.alloc ?_ ?_ _; rotate_left; (try simp) <;> omega) | (with_reducible refine Below.setCell ?_ ?_ _; rotate_left; (try simp) <;> omega)))) hb5'
                  refine ⟨_, rfl, ⟨(HK4.out _ hb5).range, (HKT.out _ hb5).cell 0 rfl⟩, fun hHeld => ?_⟩
                  (try simp only [Act.put, List.setIfInBounds_toArray, List.set_cons_zero, List.set_cons_succ])
                  refine tk 34 76 ?_
                  refine tk 35 77 ?_
                  refine wpAnyH_done (by kernel_rfl) ?_ _
                  go_wp2
                  go_ret2
                  rw [HR.out]
                  exact ⟨rfl, HBW.out _ hb5⟩
                | true =>
                  have HV0 : Hid (LK 0 ≤ d) := by have h1 := HL1.out; show _ ≤ _; omega
                  as_aux_lemma =>
                    refine wp_region_held_drew (S := (fun w' => w'.rangeAt w.heap.size 0 C.toList ∧ w'.cell? ⟨bt, 0, none⟩ = some (.int .i64 d))) (by kernel_rfl) ?_ (fun hHeld => ?_)
                    · exact ⟨(HK4.out _ (by exact (by repeat (first | with_reducible exact Below.refl _ _ | with_reducible assumption | with_reducible refine Below.drew ?_ | with_reducible refine below_drewN ?_ _ | (with_reducible refine Below.alloc ?_ ?_ _; rotate_left; (try simp) <;> omega) | (with_reducible refine Below.setCell ?_ ?_ _; rotate_left; (try simp) <;> omega))))).range, (HKT.out _ (by exact (by repeat (first | with_reducible exact Below.refl _ _ | with_reducible assumption | with_reducible refine Below.drew ?_ | with_reducible refine below_drewN ?_ _ | (with_reducible refine Below.alloc ?_ ?_ _; rotate_left; (try simp) <;> omega) | (with_reducible refine Below.setCell ?_ ?_ _; rotate_left; (try simp) <;> omega))))).cell 0 rfl⟩
                    refine tk 0 42 ?_
                    refine tk 1 43 ?_
                    refine tk 2 44 ?_
                    refine tk 3 45 ?_
                    refine tk 4 46 ?_
                    refine tk 5 47 ?_
                    refine tk 6 48 ?_
                    refine tk 7 49 ?_
                    refine tk 8 50 ?_
                    refine tk 9 51 ?_
                    refine tk 10 52 ?_
                    refine tk 11 53 ?_
                    refine tk 12 54 ?_
                    refine tk 13 55 ?_
                    refine tk 14 56 ?_
                    refine sk 15 57 ?_
                    refine sk 16 58 ?_
                    refine sk 17 59 ?_
                    refine sk 18 60 ?_
                    refine sk 19 61 ?_
                    refine sk 20 62 ?_
                    refine sk 21 63 ?_
                    refine sk 22 64 ?_
                    refine sk 23 65 ?_
                    refine sk 24 66 ?_
                    refine tk 25 67 ?_
                    refine tk 26 68 ?_
                    refine tk 27 69 ?_
                    (refine held_row 28 (some 70) 29 (.tmp 4) (w.heap.size) 0 C.toList _ rfl rfl (by kernel_rfl) (by kernel_rfl) (by kernel_rfl) (by rfl) rfl (fun _ _ _ h => h) (by assumption) (fun _ hS => hS.1) Try.underlying29 rfl (by assumption) ?_; (try simp only [Act.put, List.setIfInBounds_toArray, List.set_cons_zero, List.set_cons_succ]))
                    refine tk 29 71 ?_
                    refine tk 30 72 ?_
                    refine tk 31 73 ?_
                    refine tk 32 74 ?_
                    (refine held_call 33 (some 75) 93 _ rfl (by kernel_rfl) (by rfl) ?_ (HRS0.out _ (by exact (by repeat (first | with_reducible exact Below.refl _ _ | with_reducible assumption | with_reducible refine Below.drew ?_ | with_reducible refine below_drewN ?_ _ | (with_reducible refine Below.alloc ?_ ?_ _; rotate_left; (try simp) <;> omega) | (with_reducible refine Below.setCell ?_ ?_ _; rotate_left; (try simp) <;> omega))))) ?_; rotate_left; rotate_left; (simp only [List.getElem?_toArray, List.getElem?_cons_zero, List.getElem?_cons_succ, Option.map_some]; refine congrArg some ?_; go_simp))
                    rintro e w5 ⟨rfl, hb5'⟩
                    have hb5 : Below w2.heap.size w2 w5 := Below.trans (by exact (by repeat (first | with_reducible exact Below.refl _ _ | with_reducible assumption | with_reducible refine Below.drew ?_ | with_reducible refine below_drewN ?_ _ | (with_reducible refine Below.alloc ?_ ?_ _; rotate_left; (try simp) <;> omega) | (with_reducible refine Below.setCell ?_ ?_ _; rotate_left; (try simp) <;> omega)))) hb5'
                    refine ⟨_, rfl, ⟨(HK4.out _ hb5).range, (HKT.out _ hb5).cell 0 rfl⟩, fun hHeld => ?_⟩
                    (try simp only [Act.put, List.setIfInBounds_toArray, List.set_cons_zero, List.set_cons_succ])
                    refine tk 34 76 ?_
                    refine tk 35 77 ?_
                    refine wpAnyH_done (by kernel_rfl) ?_ _
                    clear hk3 c3
                    clear hHeld
                    have HHT : Hid (turnOK Y l f ts k = (decide (LK l[k].af.length ≤ d) && ((skL Y.ma d l[k].need).contains m && (inB p 0 ((Y.pi.length : Int) - 1) && pitTake Y ts k ⟨d, p, m⟩)))) := by show _ = _; rw [HHD.out, Bool.and_true]
                    clear HHD HLB0 HLB1 hb5'
                    generalize l[k] = t at *
                    obtain ⟨wk, nd, aA, ac, af, cA, cc, co⟩ := t
                    dsimp only at *
                    go_wp2
                    go_loopw [13] (fun y wr => ∃ j : Nat, j ≤ af.length ∧ y = .int .i64 j ∧ Hid (LK j ≤ d) ∧ Below w2.heap.size w2 wr) (fun y _ => af.length - (intOf y).toNat)
                    case atStart => exact ⟨0, by omega, rfl, HV0, hb5⟩
                    case round =>
                    clear hb5 HV0
                    obtain ⟨j, hj, rfl, HVJ, hbv⟩ := hrel
                    obtain ⟨q0, q1, q2⟩ := HTT.out wr hbv
                    obtain ⟨hdr1, hdr2⟩ := hdry
                    by_cases hjl : j < af.length
                    · obtain ⟨a2, rfl, ha2, d0⟩ := int_at (HTA.out wr hbv) hjl
                      have haf := HAF.out af[j] (List.getElem_mem hjl)
                      have hjn : af[j].toNat < k := by omega
                      have HX := Lib.hid (HK.out j hjl hjn)
                      have hdx := HDX.out af[j].toNat hjn
                      have htx := (HTS.out wr hbv af[j].toNat (Nat.lt_trans hjn hlt)).1
                      obtain ⟨jj, hjj⟩ : ∃ jj : Nat, af[j] = (jj : Int) := ⟨af[j].toNat, by omega⟩
                      have hj2 : af[j].toNat = jj := by omega
                      have hjk : jj < k := by omega
                      rw [hjj] at d0
                      generalize hxq : (ts[af[j].toNat]'(Nat.lt_trans hjn hlt)).day = x at *
                      rw [hj2] at htx
                      clear hxq hj2 hjj haf
                      have hjI : (jj : Int) < (ts.length : Int) := by omega
                      have hj0 : 0 ≤ (jj : Int) := by omega
                      have hjaI : (j : Int) < (af.length : Int) := by omega
                      have hja0 : 0 ≤ (j : Int) := by omega
                      have WX : IntKind.i64.wrap (x + dry) = x + dry := IntWalk.i64_in _ (by omega)
                      have y27 := (HK4.out wr hbv).cell 27 e27
                      have x7v := (HK7.out wr hbv).cell 0 rfl
                      have xtv := (HKT.out wr hbv).cell 0 rfl
                      go_upto_region 17 with fail
                      refine wp_region_held_drew (S := (fun w' => w'.cell? ⟨bt, 0, none⟩ = some (.int .i64 d) ∧ w'.cell? ⟨w.heap.size + 1, 0, none⟩ = some (.slice (some a1) ts.length ct) ∧ w'.cell? ⟨(at_.add (k * 4)).block, (at_.add (k * 4)).off + 2, none⟩ = some (.slice (some a2) af.length ac) ∧ w'.cell? (a2.add j) = some (.int .i64 jj) ∧ w'.cell? (a1.add (jj * 3)) = some (.int .i64 x) ∧ w'.cell? ⟨w.heap.size, 27, none⟩ = some (.int .i64 dry))) (by kernel_rfl) ?_ (fun hHeld => ?_)
                      · exact ⟨xtv, x7v, q2, d0, htx, y27⟩
                      refine tk 0 88 ?_
                      refine tk 1 89 ?_
                      refine tk 2 90 ?_
                      refine tk 3 91 ?_
                      refine tk 4 92 ?_
                      refine tk 5 93 ?_
                      refine tk 6 94 ?_
                      refine tk 7 95 ?_
                      refine tk 8 96 ?_
                      refine tk 9 97 ?_
                      refine tk 10 98 ?_
                      refine tk 11 99 ?_
                      refine tk 12 100 ?_
                      refine tk 13 101 ?_
                      refine tk 14 102 ?_
                      refine tk 15 103 ?_
                      refine tk 16 104 ?_
                      refine tk 17 105 ?_
                      refine tk 18 106 ?_
                      refine wpAnyH_done (by kernel_rfl) ?_ _
                      by_cases c5 : d ≤ x + dry
                      · have HR : Hid (R = false) := HF.out (by
                          have h1 := HMO.out (j + 1) (by omega)
                          rw [HX.out] at h1
                          rw [HHT.out, show decide (LK af.length ≤ d) = false from decide_eq_false (by omega)]; rfl)
                        clear HX
                        go_wp2
                        go_ret2
                        rw [HR.out]
                        exact ⟨rfl, HBW.out _ (by exact (by repeat (first | with_reducible exact Below.refl _ _ | with_reducible assumption | with_reducible refine Below.drew ?_ | with_reducible refine below_drewN ?_ _ | (with_reducible refine Below.alloc ?_ ?_ _; rotate_left; (try simp) <;> omega) | (with_reducible refine Below.setCell ?_ ?_ _; rotate_left; (try simp) <;> omega))))⟩
                      · have HVN : Hid (LK (j + 1) ≤ d) := by
                          show _ ≤ _
                          have h1 := HVJ.out
                          rw [HX.out]; omega
                        clear HX
                        go_wp2
                        go_roundw
                        case rel => exact ⟨j + 1, by omega, by go_num, HVN, by exact (by repeat (first | with_reducible exact Below.refl _ _ | with_reducible assumption | with_reducible refine Below.drew ?_ | with_reducible refine below_drewN ?_ _ | (with_reducible refine Below.alloc ?_ ?_ _; rotate_left; (try simp) <;> omega) | (with_reducible refine Below.setCell ?_ ?_ _; rotate_left; (try simp) <;> omega)))⟩
                        case measure => simp [intOf]; omega
                    · obtain rfl : j = af.length := by omega
                      have HHU : Hid (turnOK Y l f ts k = ((skL Y.ma d nd).contains m && (inB p 0 ((Y.pi.length : Int) - 1) && pitTake Y ts k ⟨d, p, m⟩))) := by show _ = _; rw [HHT.out, show decide (LK af.length ≤ d) = true from decide_eq_true HVJ.out, Bool.true_and]
                      clear HHT HTA HAF HK HMO hjl HBD
                      have hn3 := (okY_valid HO.out).n3
                      have hn2 := (okY_valid HO.out).n2
                      have WM : IntKind.i64.wrap ((Y.ma.length : Int) - 1) = (Y.ma.length : Int) - 1 := IntWalk.i64_in _ (by omega)
                      have WP : IntKind.i64.wrap ((Y.pi.length : Int) - 1) = (Y.pi.length : Int) - 1 := IntWalk.i64_in _ (by omega)
                      have HPV := Lib.hid (okY_valid HO.out).pi
                      rw [skL_has] at HHU
                      go_upto_region 19 with fail
                      clear q2 HVJ
                      cases hmm : inB m 0 ((Y.ma.length : Int) - 1) with
                      | false =>
                        have HR : Hid (R = false) := HF.out (by rw [HHU.out, hmm]; rfl)
                        have HMM := Lib.hid hmm; clear hmm
                        refine wp_region_held_drew (S := (fun w' => w'.cell? ⟨bt, 2, none⟩ = some (.int .i64 m) ∧ w'.cell? ⟨w.heap.size, 26, none⟩ = some (.slice Am Y.ma.length km))) (by kernel_rfl) ?_ (fun hHeld => ?_)
                        · exact ⟨(HKT.out _ (by exact (by repeat (first | with_reducible exact Below.refl _ _ | with_reducible assumption | with_reducible refine Below.drew ?_ | with_reducible refine below_drewN ?_ _ | (with_reducible refine Below.alloc ?_ ?_ _; rotate_left; (try simp) <;> omega) | (with_reducible refine Below.setCell ?_ ?_ _; rotate_left; (try simp) <;> omega))))).cell 2 rfl, (HK4.out _ (by exact (by repeat (first | with_reducible exact Below.refl _ _ | with_reducible assumption | with_reducible refine Below.drew ?_ | with_reducible refine below_drewN ?_ _ | (with_reducible refine Below.alloc ?_ ?_ _; rotate_left; (try simp) <;> omega) | (with_reducible refine Below.setCell ?_ ?_ _; rotate_left; (try simp) <;> omega))))).cell 26 e26⟩
                        refine tk 0 107 ?_
                        refine tk 1 108 ?_
                        refine tk 2 109 ?_
                        refine tk 3 110 ?_
                        refine tk 4 111 ?_
                        refine tk 5 112 ?_
                        (refine held_call 6 (some 113) 69 _ rfl (by kernel_rfl) (by rfl) ?_ (within_is _ _ _ false _ HMM.out) ?_; rotate_left; rotate_left; (simp only [List.getElem?_toArray, List.getElem?_cons_zero, List.getElem?_cons_succ, Option.map_some]; refine congrArg some ?_; go_simp))
                        rintro e w6 ⟨rfl, rfl⟩
                        refine ⟨_, rfl, hHeld, fun hHeld => ?_⟩
                        (try simp only [Act.put, List.setIfInBounds_toArray, List.set_cons_zero, List.set_cons_succ])
                        refine tk 7 114 ?_
                        refine tk 8 115 ?_
                        refine sk 9 116 ?_
                        refine sk 10 117 ?_
                        refine sk 11 118 ?_
                        refine sk 12 119 ?_
                        refine sk 13 120 ?_
                        refine sk 14 121 ?_
                        refine sk 15 122 ?_
                        refine sk 16 123 ?_
                        refine sk 17 124 ?_
                        refine sk 18 125 ?_
                        refine sk 19 126 ?_
                        refine sk 20 127 ?_
                        refine sk 21 128 ?_
                        refine sk 22 129 ?_
                        refine sk 23 130 ?_
                        refine tk 24 131 ?_
                        refine wpAnyH_done (by kernel_rfl) ?_ _
                        go_wp2
                        go_ret2
                        rw [HR.out]
                        exact ⟨rfl, HBW.out _ (by exact (by repeat (first | with_reducible exact Below.refl _ _ | with_reducible assumption | with_reducible refine Below.drew ?_ | with_reducible refine below_drewN ?_ _ | (with_reducible refine Below.alloc ?_ ?_ _; rotate_left; (try simp) <;> omega) | (with_reducible refine Below.setCell ?_ ?_ _; rotate_left; (try simp) <;> omega))))⟩
                      | true =>
                        have HMM := Lib.hid hmm
                        have hmi := inB_iff.1 hmm
                        obtain ⟨mj, hmj⟩ : ∃ mj : Nat, m = (mj : Int) := ⟨m.toNat, by omega⟩
                        subst hmj
                        have hml : mj < Y.ma.length := by omega
                        have hmI : (mj : Int) < (Y.ma.length : Int) := by omega
                        have hm0 : 0 ≤ (mj : Int) := by omega
                        have HHM : Hid (turnOK Y l f ts k = (skB Y.ma[mj] d nd && (inB p 0 ((Y.pi.length : Int) - 1) && pitTake Y ts k ⟨d, p, mj⟩))) := by show _ = _; rw [HHU.out, hmm, Int.toNat_natCast, skAt_at hml, Bool.true_and]
                        clear hmm hmi HHU
                        obtain ⟨a4, rfl, ha4, _, _, _, _⟩ := mas_at (HL3.out wr (HBW.out wr hbv)) hml
                        have HM4 : Hid (∀ W : World, Below w2.heap.size w2 W → W.cell? ⟨bt, 2, none⟩ = some (.int .i64 mj) ∧ W.cell? ⟨bt, 0, none⟩ = some (.int .i64 d) ∧ W.cell? ⟨w.heap.size, 26, none⟩ = some (.slice (some a4) Y.ma.length km) ∧ W.cell? (a4.add (mj * 4)) = some (.string Y.ma[mj].name) ∧ W.cell? ⟨(a4.add (mj * 4)).block, (a4.add (mj * 4)).off + 1, none⟩ = some (.int .i64 Y.ma[mj].f) ∧ W.cell? ⟨(a4.add (mj * 4)).block, (a4.add (mj * 4)).off + 2, none⟩ = some (.int .i64 Y.ma[mj].u) ∧ W.cell? ⟨(a4.add (mj * 4)).block, (a4.add (mj * 4)).off + 3, none⟩ = some (.int .i64 Y.ma[mj].k) ∧ W.cell? ⟨(at_.add (k * 4)).block, (at_.add (k * 4)).off + 1, none⟩ = some (.int .i64 nd)) := fun W hb => by
                          obtain ⟨b4', e4, _, n0, n1, n2, n3⟩ := mas_at (HL3.out W (HBW.out W hb)) hml
                          cases e4
                          exact ⟨(HKT.out W hb).cell 2 rfl, (HKT.out W hb).cell 0 rfl, (HK4.out W hb).cell 26 e26, n0, n1, n2, n3, (HTT.out W hb).2.1⟩
                        have HAB0 := Lib.hid (fun W => able_any Y.ma[mj] d nd W)
                        generalize Y.ma[mj] = ms at *
                        obtain ⟨mn, mf, mu, mk⟩ := ms
                        dsimp only [Mas.agg] at HM4 HAB0
                        generalize hsk : skB ⟨mn, mf, mu, mk⟩ d nd = sk at *
                        clear hsk q0 q1
                        cases sk with
                        | false =>
                          have HAB := HAB0
                          have HR : Hid (R = false) := HF.out (by rw [HHM.out]; rfl)
                          refine wp_region_held_drew (S := (fun w' => w'.cell? ⟨bt, 2, none⟩ = some (.int .i64 mj) ∧ w'.cell? ⟨bt, 0, none⟩ = some (.int .i64 d) ∧ w'.cell? ⟨w.heap.size, 26, none⟩ = some (.slice (some a4) Y.ma.length km) ∧ w'.cell? (a4.add (mj * 4)) = some (.string mn) ∧ w'.cell? ⟨(a4.add (mj * 4)).block, (a4.add (mj * 4)).off + 1, none⟩ = some (.int .i64 mf) ∧ w'.cell? ⟨(a4.add (mj * 4)).block, (a4.add (mj * 4)).off + 2, none⟩ = some (.int .i64 mu) ∧ w'.cell? ⟨(a4.add (mj * 4)).block, (a4.add (mj * 4)).off + 3, none⟩ = some (.int .i64 mk) ∧ w'.cell? ⟨(at_.add (k * 4)).block, (at_.add (k * 4)).off + 1, none⟩ = some (.int .i64 nd))) (by kernel_rfl) ?_ (fun hHeld => ?_)
                          · exact HM4.out _ (by exact (by repeat (first | with_reducible exact Below.refl _ _ | with_reducible assumption | with_reducible refine Below.drew ?_ | with_reducible refine below_drewN ?_ _ | (with_reducible refine Below.alloc ?_ ?_ _; rotate_left; (try simp) <;> omega) | (with_reducible refine Below.setCell ?_ ?_ _; rotate_left; (try simp) <;> omega))))
                          refine tk 0 107 ?_
                          refine tk 1 108 ?_
                          refine tk 2 109 ?_
                          refine tk 3 110 ?_
                          refine tk 4 111 ?_
                          refine tk 5 112 ?_
                          (refine held_call 6 (some 113) 69 _ rfl (by kernel_rfl) (by rfl) ?_ (within_is _ _ _ true _ HMM.out) ?_; rotate_left; rotate_left; (simp only [List.getElem?_toArray, List.getElem?_cons_zero, List.getElem?_cons_succ, Option.map_some]; refine congrArg some ?_; go_simp))
                          rintro e w6 ⟨rfl, rfl⟩
                          refine ⟨_, rfl, hHeld, fun hHeld => ?_⟩
                          (try simp only [Act.put, List.setIfInBounds_toArray, List.set_cons_zero, List.set_cons_succ])
                          refine tk 7 114 ?_
                          refine tk 8 115 ?_
                          refine tk 9 116 ?_
                          refine tk 10 117 ?_
                          refine tk 11 118 ?_
                          refine tk 12 119 ?_
                          refine tk 13 120 ?_
                          refine tk 14 121 ?_
                          refine tk 15 122 ?_
                          refine tk 16 123 ?_
                          refine tk 17 124 ?_
                          refine tk 18 125 ?_
                          refine tk 19 126 ?_
                          refine tk 20 127 ?_
                          refine tk 21 128 ?_
                          (refine held_call 22 (some 129) 100 _ rfl (by kernel_rfl) (by rfl) ?_ (HAB.out _) ?_; rotate_left; rotate_left; (simp only [List.getElem?_toArray, List.getElem?_cons_zero, List.getElem?_cons_succ, Option.map_some]; refine congrArg some ?_; go_simp))
                          rintro e w7 ⟨rfl, hb7'⟩
                          have hb7 : Below w2.heap.size w2 w7 := Below.trans (by exact (by repeat (first | with_reducible exact Below.refl _ _ | with_reducible assumption | with_reducible refine Below.drew ?_ | with_reducible refine below_drewN ?_ _ | (with_reducible refine Below.alloc ?_ ?_ _; rotate_left; (try simp) <;> omega) | (with_reducible refine Below.setCell ?_ ?_ _; rotate_left; (try simp) <;> omega)))) (hb7'.mono (by have := hbv.size; first | exact this | (simp; omega)))
                          refine ⟨_, rfl, HM4.out w7 hb7, fun hHeld => ?_⟩
                          (try simp only [Act.put, List.setIfInBounds_toArray, List.set_cons_zero, List.set_cons_succ])
                          refine tk 23 130 ?_
                          refine tk 24 131 ?_
                          refine wpAnyH_done (by kernel_rfl) ?_ _
                          go_wp2
                          go_ret2
                          rw [HR.out]
                          exact ⟨rfl, HBW.out _ hb7⟩
                        | true =>
                          have HAB := HAB0
                          have HHP : Hid (turnOK Y l f ts k = (inB p 0 ((Y.pi.length : Int) - 1) && pitTake Y ts k ⟨d, p, mj⟩)) := by show _ = _; rw [HHM.out, Bool.true_and]
                          clear HHM
                          refine wp_region_held_drew (S := (fun w' => w'.cell? ⟨bt, 2, none⟩ = some (.int .i64 mj) ∧ w'.cell? ⟨bt, 0, none⟩ = some (.int .i64 d) ∧ w'.cell? ⟨w.heap.size, 26, none⟩ = some (.slice (some a4) Y.ma.length km) ∧ w'.cell? (a4.add (mj * 4)) = some (.string mn) ∧ w'.cell? ⟨(a4.add (mj * 4)).block, (a4.add (mj * 4)).off + 1, none⟩ = some (.int .i64 mf) ∧ w'.cell? ⟨(a4.add (mj * 4)).block, (a4.add (mj * 4)).off + 2, none⟩ = some (.int .i64 mu) ∧ w'.cell? ⟨(a4.add (mj * 4)).block, (a4.add (mj * 4)).off + 3, none⟩ = some (.int .i64 mk) ∧ w'.cell? ⟨(at_.add (k * 4)).block, (at_.add (k * 4)).off + 1, none⟩ = some (.int .i64 nd))) (by kernel_rfl) ?_ (fun hHeld => ?_)
                          · exact HM4.out _ (by exact (by repeat (first | with_reducible exact Below.refl _ _ | with_reducible assumption | with_reducible refine Below.drew ?_ | with_reducible refine below_drewN ?_ _ | (with_reducible refine Below.alloc ?_ ?_ _; rotate_left; (try simp) <;> omega) | (with_reducible refine Below.setCell ?_ ?_ _; rotate_left; (try simp) <;> omega))))
                          refine tk 0 107 ?_
                          refine tk 1 108 ?_
                          refine tk 2 109 ?_
                          refine tk 3 110 ?_
                          refine tk 4 111 ?_
                          refine tk 5 112 ?_
                          (refine held_call 6 (some 113) 69 _ rfl (by kernel_rfl) (by rfl) ?_ (within_is _ _ _ true _ HMM.out) ?_; rotate_left; rotate_left; (simp only [List.getElem?_toArray, List.getElem?_cons_zero, List.getElem?_cons_succ, Option.map_some]; refine congrArg some ?_; go_simp))
                          rintro e w6 ⟨rfl, rfl⟩
                          refine ⟨_, rfl, hHeld, fun hHeld => ?_⟩
                          (try simp only [Act.put, List.setIfInBounds_toArray, List.set_cons_zero, List.set_cons_succ])
                          refine tk 7 114 ?_
                          refine tk 8 115 ?_
                          refine tk 9 116 ?_
                          refine tk 10 117 ?_
                          refine tk 11 118 ?_
                          refine tk 12 119 ?_
                          refine tk 13 120 ?_
                          refine tk 14 121 ?_
                          refine tk 15 122 ?_
                          refine tk 16 123 ?_
                          refine tk 17 124 ?_
                          refine tk 18 125 ?_
                          refine tk 19 126 ?_
                          refine tk 20 127 ?_
                          refine tk 21 128 ?_
                          (refine held_call 22 (some 129) 100 _ rfl (by kernel_rfl) (by rfl) ?_ (HAB.out _) ?_; rotate_left; rotate_left; (simp only [List.getElem?_toArray, List.getElem?_cons_zero, List.getElem?_cons_succ, Option.map_some]; refine congrArg some ?_; go_simp))
                          rintro e w7 ⟨rfl, hb7'⟩
                          have hb7 : Below w2.heap.size w2 w7 := Below.trans (by exact (by repeat (first | with_reducible exact Below.refl _ _ | with_reducible assumption | with_reducible refine Below.drew ?_ | with_reducible refine below_drewN ?_ _ | (with_reducible refine Below.alloc ?_ ?_ _; rotate_left; (try simp) <;> omega) | (with_reducible refine Below.setCell ?_ ?_ _; rotate_left; (try simp) <;> omega)))) (hb7'.mono (by have := hbv.size; first | exact this | (simp; omega)))
                          refine ⟨_, rfl, HM4.out w7 hb7, fun hHeld => ?_⟩
                          (try simp only [Act.put, List.setIfInBounds_toArray, List.set_cons_zero, List.set_cons_succ])
                          refine tk 23 130 ?_
                          refine tk 24 131 ?_
                          refine wpAnyH_done (by kernel_rfl) ?_ _
                          clear hHeld
                          go_upto_region 21 with fail
                          cases hii : inB p 0 ((Y.pi.length : Int) - 1) with
                          | false =>
                            have HR : Hid (R = false) := HF.out (by rw [HHP.out, hii]; rfl)
                            have HII := Lib.hid hii; clear hii
                            refine wp_region_held_drew (S := (fun w' => w'.cell? ⟨bt, 1, none⟩ = some (.int .i64 p) ∧ w'.cell? ⟨w.heap.size, 25, none⟩ = some (.slice Ap Y.pi.length kp))) (by kernel_rfl) ?_ (fun hHeld => ?_)
                            · exact ⟨(HKT.out _ (by exact (by repeat (first | with_reducible exact Below.refl _ _ | with_reducible assumption | with_reducible refine Below.drew ?_ | with_reducible refine below_drewN ?_ _ | (with_reducible refine Below.alloc ?_ ?_ _; rotate_left; (try simp) <;> omega) | (with_reducible refine Below.setCell ?_ ?_ _; rotate_left; (try simp) <;> omega))))).cell 1 rfl, (HK4.out _ (by exact (by repeat (first | with_reducible exact Below.refl _ _ | with_reducible assumption | with_reducible refine Below.drew ?_ | with_reducible refine below_drewN ?_ _ | (with_reducible refine Below.alloc ?_ ?_ _; rotate_left; (try simp) <;> omega) | (with_reducible refine Below.setCell ?_ ?_ _; rotate_left; (try simp) <;> omega))))).cell 25 e25⟩
                            refine tk 0 132 ?_
                            refine tk 1 133 ?_
                            refine tk 2 134 ?_
                            refine tk 3 135 ?_
                            refine tk 4 136 ?_
                            refine tk 5 137 ?_
                            (refine held_call 6 (some 138) 69 _ rfl (by kernel_rfl) (by rfl) ?_ (within_is _ _ _ false _ HII.out) ?_; rotate_left; rotate_left; (simp only [List.getElem?_toArray, List.getElem?_cons_zero, List.getElem?_cons_succ, Option.map_some]; refine congrArg some ?_; go_simp))
                            rintro e w8 ⟨rfl, rfl⟩
                            refine ⟨_, rfl, hHeld, fun hHeld => ?_⟩
                            (try simp only [Act.put, List.setIfInBounds_toArray, List.set_cons_zero, List.set_cons_succ])
                            refine tk 7 139 ?_
                            refine tk 8 140 ?_
                            refine sk 9 141 ?_
                            refine sk 10 142 ?_
                            refine sk 11 143 ?_
                            refine sk 12 144 ?_
                            refine sk 13 145 ?_
                            refine sk 14 146 ?_
                            refine sk 15 147 ?_
                            refine sk 16 148 ?_
                            refine sk 17 149 ?_
                            refine sk 18 150 ?_
                            refine sk 19 151 ?_
                            refine sk 20 152 ?_
                            refine sk 21 153 ?_
                            refine sk 22 154 ?_
                            refine sk 23 155 ?_
                            refine sk 24 156 ?_
                            refine sk 25 157 ?_
                            refine sk 26 158 ?_
                            refine tk 27 159 ?_
                            refine wpAnyH_done (by kernel_rfl) ?_ _
                            go_wp2
                            go_ret2
                            rw [HR.out]
                            exact ⟨rfl, HBW.out _ (by exact (by repeat (first | with_reducible exact Below.refl _ _ | with_reducible assumption | with_reducible refine Below.drew ?_ | with_reducible refine below_drewN ?_ _ | (with_reducible refine Below.alloc ?_ ?_ _; rotate_left; (try simp) <;> omega) | (with_reducible refine Below.setCell ?_ ?_ _; rotate_left; (try simp) <;> omega))))⟩
                          | true =>
                            have HII := Lib.hid hii
                            have hpi := inB_iff.1 hii
                            obtain ⟨pj, hpj⟩ : ∃ pj : Nat, p = (pj : Int) := ⟨p.toNat, by omega⟩
                            subst hpj
                            have hpl : pj < Y.pi.length := by omega
                            have hpI : (pj : Int) < (Y.pi.length : Int) := by omega
                            have hp0 : 0 ≤ (pj : Int) := by omega
                            have HHQ : Hid (turnOK Y l f ts k = (agedB Y.pi[pj] d && decide (cntP (ts.take (k + 1)) pj ≤ Y.pi[pj].b))) := by
                              show _ = _
                              rw [HHP.out, hii, Bool.true_and]
                              show (match Y.pi[(pj : Int).toNat]? with | some p => agedB p d && decide (cntP (ts.take (k + 1)) pj ≤ p.b) | none => false) = _
                              rw [Int.toNat_natCast, List.getElem?_eq_getElem hpl]
                            clear hii hpi HHP
                            obtain ⟨⟨ps1, ps2⟩, ⟨pa1, pa2⟩, pb1, pb2⟩ := HPV.out _ (List.getElem_mem hpl)
                            obtain ⟨a5, rfl, ha5, _, _, _⟩ := pit_at (HL2.out w7 (HBW.out w7 hb7)) hpl
                            have HP5 : Hid (∀ W : World, Below w2.heap.size w2 W → W.cell? ⟨bt, 1, none⟩ = some (.int .i64 pj) ∧ W.cell? ⟨bt, 0, none⟩ = some (.int .i64 d) ∧ W.cell? ⟨w.heap.size, 25, none⟩ = some (.slice (some a5) Y.pi.length kp) ∧ W.cell? (a5.add (pj * 3)) = some (.int .i64 Y.pi[pj].s) ∧ W.cell? ⟨(a5.add (pj * 3)).block, (a5.add (pj * 3)).off + 1, none⟩ = some (.int .i64 Y.pi[pj].a) ∧ W.cell? ⟨(a5.add (pj * 3)).block, (a5.add (pj * 3)).off + 2, none⟩ = some (.int .i64 Y.pi[pj].b)) := fun W hb => by
                              obtain ⟨b5', e5, _, n0, n1, n2⟩ := pit_at (HL2.out W (HBW.out W hb)) hpl
                              cases e5
                              exact ⟨(HKT.out W hb).cell 1 rfl, (HKT.out W hb).cell 0 rfl, (HK4.out W hb).cell 25 e25, n0, n1, n2⟩
                            have HAGD : Hid (agedB Y.pi[pj] d = decide (Y.pi[pj].s + Y.pi[pj].a ≤ d)) := rfl
                            generalize Y.pi[pj] = pp at *
                            obtain ⟨ps, pa, pb⟩ := pp
                            dsimp only at *
                            have WS : IntKind.i64.wrap (ps + pa) = ps + pa := IntWalk.i64_in _ (by omega)
                            by_cases c7 : d < ps + pa
                            · have HR : Hid (R = false) := HF.out (by rw [HHQ.out, HAGD.out, show decide (ps + pa ≤ d) = false from decide_eq_false (by omega)]; rfl)
                              refine wp_region_held_drew (S := (fun w' => w'.cell? ⟨bt, 1, none⟩ = some (.int .i64 pj) ∧ w'.cell? ⟨bt, 0, none⟩ = some (.int .i64 d) ∧ w'.cell? ⟨w.heap.size, 25, none⟩ = some (.slice (some a5) Y.pi.length kp) ∧ w'.cell? (a5.add (pj * 3)) = some (.int .i64 ps) ∧ w'.cell? ⟨(a5.add (pj * 3)).block, (a5.add (pj * 3)).off + 1, none⟩ = some (.int .i64 pa) ∧ w'.cell? ⟨(a5.add (pj * 3)).block, (a5.add (pj * 3)).off + 2, none⟩ = some (.int .i64 pb))) (by kernel_rfl) ?_ (fun hHeld => ?_)
                              · exact HP5.out _ (by exact (by repeat (first | with_reducible exact Below.refl _ _ | with_reducible assumption | with_reducible refine Below.drew ?_ | with_reducible refine below_drewN ?_ _ | (with_reducible refine Below.alloc ?_ ?_ _; rotate_left; (try simp) <;> omega) | (with_reducible refine Below.setCell ?_ ?_ _; rotate_left; (try simp) <;> omega))))
                              refine tk 0 132 ?_
                              refine tk 1 133 ?_
                              refine tk 2 134 ?_
                              refine tk 3 135 ?_
                              refine tk 4 136 ?_
                              refine tk 5 137 ?_
                              (refine held_call 6 (some 138) 69 _ rfl (by kernel_rfl) (by rfl) ?_ (within_is _ _ _ true _ HII.out) ?_; rotate_left; rotate_left; (simp only [List.getElem?_toArray, List.getElem?_cons_zero, List.getElem?_cons_succ, Option.map_some]; refine congrArg some ?_; go_simp))
                              rintro e w8 ⟨rfl, rfl⟩
                              refine ⟨_, rfl, hHeld, fun hHeld => ?_⟩
                              (try simp only [Act.put, List.setIfInBounds_toArray, List.set_cons_zero, List.set_cons_succ])
                              refine tk 7 139 ?_
                              refine tk 8 140 ?_
                              refine tk 9 141 ?_
                              refine tk 10 142 ?_
                              refine tk 11 143 ?_
                              refine tk 12 144 ?_
                              refine tk 13 145 ?_
                              refine tk 14 146 ?_
                              refine tk 15 147 ?_
                              refine tk 16 148 ?_
                              refine tk 17 149 ?_
                              refine tk 18 150 ?_
                              refine tk 19 151 ?_
                              refine tk 20 152 ?_
                              refine tk 21 153 ?_
                              refine tk 22 154 ?_
                              refine tk 23 155 ?_
                              refine tk 24 156 ?_
                              refine tk 25 157 ?_
                              refine tk 26 158 ?_
                              refine tk 27 159 ?_
                              refine wpAnyH_done (by kernel_rfl) ?_ _
                              go_wp2
                              go_ret2
                              rw [HR.out]
                              exact ⟨rfl, HBW.out _ (by exact (by repeat (first | with_reducible exact Below.refl _ _ | with_reducible assumption | with_reducible refine Below.drew ?_ | with_reducible refine below_drewN ?_ _ | (with_reducible refine Below.alloc ?_ ?_ _; rotate_left; (try simp) <;> omega) | (with_reducible refine Below.setCell ?_ ?_ _; rotate_left; (try simp) <;> omega))))⟩
                            · have HHZ : Hid (turnOK Y l f ts k = decide (cntP (ts.take (k + 1)) pj ≤ pb)) := by show _ = _; rw [HHQ.out, HAGD.out, show decide (ps + pa ≤ d) = true from decide_eq_true (by omega), Bool.true_and]
                              clear HHQ HAGD
                              refine wp_region_held_drew (S := (fun w' => w'.cell? ⟨bt, 1, none⟩ = some (.int .i64 pj) ∧ w'.cell? ⟨bt, 0, none⟩ = some (.int .i64 d) ∧ w'.cell? ⟨w.heap.size, 25, none⟩ = some (.slice (some a5) Y.pi.length kp) ∧ w'.cell? (a5.add (pj * 3)) = some (.int .i64 ps) ∧ w'.cell? ⟨(a5.add (pj * 3)).block, (a5.add (pj * 3)).off + 1, none⟩ = some (.int .i64 pa) ∧ w'.cell? ⟨(a5.add (pj * 3)).block, (a5.add (pj * 3)).off + 2, none⟩ = some (.int .i64 pb))) (by kernel_rfl) ?_ (fun hHeld => ?_)
                              · exact HP5.out _ (by exact (by repeat (first | with_reducible exact Below.refl _ _ | with_reducible assumption | with_reducible refine Below.drew ?_ | with_reducible refine below_drewN ?_ _ | (with_reducible refine Below.alloc ?_ ?_ _; rotate_left; (try simp) <;> omega) | (with_reducible refine Below.setCell ?_ ?_ _; rotate_left; (try simp) <;> omega))))
                              refine tk 0 132 ?_
                              refine tk 1 133 ?_
                              refine tk 2 134 ?_
                              refine tk 3 135 ?_
                              refine tk 4 136 ?_
                              refine tk 5 137 ?_
                              (refine held_call 6 (some 138) 69 _ rfl (by kernel_rfl) (by rfl) ?_ (within_is _ _ _ true _ HII.out) ?_; rotate_left; rotate_left; (simp only [List.getElem?_toArray, List.getElem?_cons_zero, List.getElem?_cons_succ, Option.map_some]; refine congrArg some ?_; go_simp))
                              rintro e w8 ⟨rfl, rfl⟩
                              refine ⟨_, rfl, hHeld, fun hHeld => ?_⟩
                              (try simp only [Act.put, List.setIfInBounds_toArray, List.set_cons_zero, List.set_cons_succ])
                              refine tk 7 139 ?_
                              refine tk 8 140 ?_
                              refine tk 9 141 ?_
                              refine tk 10 142 ?_
                              refine tk 11 143 ?_
                              refine tk 12 144 ?_
                              refine tk 13 145 ?_
                              refine tk 14 146 ?_
                              refine tk 15 147 ?_
                              refine tk 16 148 ?_
                              refine tk 17 149 ?_
                              refine tk 18 150 ?_
                              refine tk 19 151 ?_
                              refine tk 20 152 ?_
                              refine tk 21 153 ?_
                              refine tk 22 154 ?_
                              refine tk 23 155 ?_
                              refine tk 24 156 ?_
                              refine tk 25 157 ?_
                              refine tk 26 158 ?_
                              refine tk 27 159 ?_
                              refine wpAnyH_done (by kernel_rfl) ?_ _
                              clear hHeld
                              go_wp2
                              go_loopw [14, 15] (fun s y wr => ∃ i : Nat, i ≤ k + 1 ∧ y = .int .i64 i ∧ s = .int .i64 (cntP (ts.take i) pj) ∧ Below w2.heap.size w2 wr) (fun _ y _ => k + 1 - (intOf y).toNat)
                              case atStart => exact ⟨0, by omega, rfl, by simp [cntP], by exact (by repeat (first | with_reducible exact Below.refl _ _ | with_reducible assumption | with_reducible refine Below.drew ?_ | with_reducible refine below_drewN ?_ _ | (with_reducible refine Below.alloc ?_ ?_ _; rotate_left; (try simp) <;> omega) | (with_reducible refine Below.setCell ?_ ?_ _; rotate_left; (try simp) <;> omega)))⟩
                              case round =>
                              clear hb7
                              obtain ⟨i, hik, rfl, rfl, hbx⟩ := hrel
                              have hcb := cntP_bd (ts.take i) pj
                              have hcl : (ts.take i).length ≤ 20 := by simp; omega
                              have HCT : Hid (∀ h : i < ts.length, cntP (ts.take (i + 1)) pj = if ts[i].pit = pj then cntP (ts.take i) pj + 1 else cntP (ts.take i) pj) := fun h => cntP_take h _
                              have HZ1 : Hid (i = k + 1 → turnOK Y l f ts k = decide (cntP (ts.take i) pj ≤ pb)) := fun h => by subst h; exact HHZ.out
                              by_cases hil : i ≤ k
                              · have hilt : i < ts.length := by omega
                                have htp := (HTS.out wr hbx i hilt).2
                                have HCI := Lib.hid (HCT.out hilt)
                                generalize cntP (ts.take i) pj = cn at *
                                generalize ts[i].pit = tp at *
                                have hiI : (i : Int) ≤ (k : Int) := by omega
                                have hiI2 : (i : Int) < (ts.length : Int) := by omega
                                have hi0 : 0 ≤ (i : Int) := by omega
                                have x7x := (HK7.out wr hbx).cell 0 rfl
                                have xt1 := (HKT.out wr hbx).cell 1 rfl
                                have WC : IntKind.i64.wrap (cn + 1) = cn + 1 := IntWalk.i64_in _ (by omega)
                                clear HCT HZ1
                                go_upto_region 27 with fail
                                by_cases c8 : tp = (pj : Int)
                                · have HC9 : Hid (cntP (ts.take (i + 1)) pj = cn + 1) := by show _ = _; rw [HCI.out, if_pos c8]
                                  subst c8
                                  refine wp_region_held_drew (S := (fun w' => w'.cell? ⟨bt, 1, none⟩ = some (.int .i64 pj) ∧ w'.cell? ⟨w.heap.size + 1, 0, none⟩ = some (.slice (some a1) ts.length ct) ∧ w'.cell? ⟨(a1.add (i * 3)).block, (a1.add (i * 3)).off + 1, none⟩ = some (.int .i64 pj))) (by kernel_rfl) ?_ (fun hHeld => ?_)
                                  · exact ⟨xt1, x7x, htp⟩
                                  refine tk 0 165 ?_
                                  refine tk 1 166 ?_
                                  refine tk 2 167 ?_
                                  refine tk 3 168 ?_
                                  refine tk 4 169 ?_
                                  refine tk 5 170 ?_
                                  refine tk 6 171 ?_
                                  refine tk 7 172 ?_
                                  refine tk 8 173 ?_
                                  refine wpAnyH_done (by kernel_rfl) ?_ _
                                  go_wp2
                                  go_roundw
                                  case rel => exact ⟨i + 1, by omega, by go_num, by rw [HC9.out], by exact (by repeat (first | with_reducible exact Below.refl _ _ | with_reducible assumption | with_reducible refine Below.drew ?_ | with_reducible refine below_drewN ?_ _ | (with_reducible refine Below.alloc ?_ ?_ _; rotate_left; (try simp) <;> omega) | (with_reducible refine Below.setCell ?_ ?_ _; rotate_left; (try simp) <;> omega)))⟩
                                  case measure => simp [intOf]; omega
                                · have HC9 : Hid (cntP (ts.take (i + 1)) pj = cn) := by show _ = _; rw [HCI.out, if_neg c8]
                                  have c9 : (tp == (pj : Int)) = false := by simpa using c8
                                  refine wp_region_held_drew (S := (fun w' => w'.cell? ⟨bt, 1, none⟩ = some (.int .i64 pj) ∧ w'.cell? ⟨w.heap.size + 1, 0, none⟩ = some (.slice (some a1) ts.length ct) ∧ w'.cell? ⟨(a1.add (i * 3)).block, (a1.add (i * 3)).off + 1, none⟩ = some (.int .i64 tp))) (by kernel_rfl) ?_ (fun hHeld => ?_)
                                  · exact ⟨xt1, x7x, htp⟩
                                  refine tk 0 165 ?_
                                  refine tk 1 166 ?_
                                  refine tk 2 167 ?_
                                  refine tk 3 168 ?_
                                  refine tk 4 169 ?_
                                  refine tk 5 170 ?_
                                  refine tk 6 171 ?_
                                  refine tk 7 172 ?_
                                  refine tk 8 173 ?_
                                  refine wpAnyH_done (by kernel_rfl) ?_ _
                                  go_wp2
                                  go_roundw
                                  case rel => exact ⟨i + 1, by omega, by go_num, by rw [HC9.out], by exact (by repeat (first | with_reducible exact Below.refl _ _ | with_reducible assumption | with_reducible refine Below.drew ?_ | with_reducible refine below_drewN ?_ _ | (with_reducible refine Below.alloc ?_ ?_ _; rotate_left; (try simp) <;> omega) | (with_reducible refine Below.setCell ?_ ?_ _; rotate_left; (try simp) <;> omega)))⟩
                                  case measure => simp [intOf]; omega
                              · have HZ2 := Lib.hid (HZ1.out (by omega))
                                generalize cntP (ts.take i) pj = cn at *
                                obtain ⟨g1, g0, g2, g3, g4, g5⟩ := HP5.out wr hbx
                                have hiN : ¬ (i : Int) ≤ (k : Int) := by omega
                                by_cases c9 : pb < cn
                                · have HR : Hid (R = false) := HF.out (by rw [HZ2.out]; exact decide_eq_false (by omega))
                                  clear HCT HZ1
                                  go_wp2
                                  go_ret2
                                  rw [HR.out]
                                  exact ⟨rfl, HBW.out _ hbx⟩
                                · have HTK : Hid (turnOK Y l f ts k = true) := by show _ = _; rw [HZ2.out]; exact decide_eq_true (by omega)
                                  clear HCT HZ1
                                  go_wp2
                                  go_roundw
                                  case rel => exact ⟨k + 1, by omega, by go_num, fun e he => by
                                    by_cases hek : e = k
                                    · subst hek; exact HTK.out
                                    · exact HG.out e (by omega), HB1.out _ hbx⟩
                                  case measure => simp [intOf]; omega
        · obtain rfl : k = l.length := by omega
          have HR : Hid (R = true) := HPY.out fun i hi => HG.out i hi
          go_wp2
          go_ret2
          rw [HR.out]
          exact ⟨rfl, hBr⟩
      · rw [planOK_len hlen]
        have hne : ((ts.length : Int) != (l.length : Int)) = true := by simp; omega
        have hne2 : (ts.length != l.length) = true := by simp; omega
        clear hlen
        go_enter Try.func43, Try.ntmps43
        go_wp2_with (first | (refine wpList_load_guard (P := Try.prog) (by rfl) 29 (.tmp 4) rfl w.heap.size 0 rfl C.toList _ HR0.out Try.underlying29 rfl (by rw [HC28.out]; exact info29) ?_) | (go_at_call 89; refine (HCO.out _ hb0).mono ?_; rintro e w1 ⟨rfl, hb1⟩; have hB1 : Below w.heap.size w w1 := hb0.trans (hb1.mono hb0.size); have k4 : Bk w1 w.heap.size 29 C := b4.below hb1 b4.lt; have k7 : Bk w1 (w.heap.size + 1) 42 #[.slice T ts.length ct] := b7.below hb1 b7.lt; have l7 := k7.lt; have x7 := k7.cell 0 rfl; clear hb1) | (go_at_call 81; refine (isDay_any _ _).mono ?_; rintro e w' ⟨rfl, rfl⟩; rw [HD.out]))
        go_ret2
        exact ⟨rfl, hB1⟩
    | false =>
      have hn2 : begE Y l f = 1 := by rw [HBE.out, if_pos hc, hd]; rfl
      rw [hn2]
      have hbf : decide ((1 : Int) = 0) = false := rfl
      rw [hbf, Bool.false_and]
      have HD := Lib.hid hd
      clear hn2 hbf hd hc HBE
      go_enter Try.func43, Try.ntmps43
      go_wp2_with (first | (refine wpList_load_guard (P := Try.prog) (by rfl) 29 (.tmp 4) rfl w.heap.size 0 rfl C.toList _ HR0.out Try.underlying29 rfl (by rw [HC28.out]; exact info29) ?_) | (go_at_call 89; refine (HCO.out _ hb0).mono ?_; rintro e w1 ⟨rfl, hb1⟩; have hB1 : Below w.heap.size w w1 := hb0.trans (hb1.mono hb0.size); have k4 : Bk w1 w.heap.size 29 C := b4.below hb1 b4.lt; have k7 : Bk w1 (w.heap.size + 1) 42 #[.slice T ts.length ct] := b7.below hb1 b7.lt; have l7 := k7.lt; have x7 := k7.cell 0 rfl; clear hb1) | (go_at_call 81; refine (isDay_any _ _).mono ?_; rintro e w' ⟨rfl, rfl⟩; rw [HD.out]))
      go_ret2
      exact ⟨rfl, hB1⟩
  · have hn2 : begE Y l f = comE Y l := by rw [HBE.out, if_neg hc]
    rw [hn2]
    have hbf : decide (comE Y l = 0) = false := decide_eq_false hc
    rw [hbf, Bool.false_and]
    generalize comE Y l = N at *
    have hne : (N != 0) = true := by simp [hc]
    clear hn2 hbf hc HBE
    go_enter Try.func43, Try.ntmps43
    go_wp2_with (first | (refine wpList_load_guard (P := Try.prog) (by rfl) 29 (.tmp 4) rfl w.heap.size 0 rfl C.toList _ HR0.out Try.underlying29 rfl (by rw [HC28.out]; exact info29) ?_) | (go_at_call 89; refine (HCO.out _ hb0).mono ?_; rintro e w1 ⟨rfl, hb1⟩; have hB1 : Below w.heap.size w w1 := hb0.trans (hb1.mono hb0.size); have k4 : Bk w1 w.heap.size 29 C := b4.below hb1 b4.lt; have k7 : Bk w1 (w.heap.size + 1) 42 #[.slice T ts.length ct] := b7.below hb1 b7.lt; have l7 := k7.lt; have x7 := k7.cell 0 rfl; clear hb1))
    go_ret2
    exact ⟨rfl, hB1⟩
end Go.Proofs.Ytjgnikmnadmheaa
