/- The usual pit and the usual master: the reference's. -/
import Derived.Laws.IdiomCopy
import Derived.Lib.LazyBuf
import Derived.Lib.SliceRun
import Derived.WalkSpells
import Derived.Test.YtjgnikmnadmheaaG02
import Derived.Test.YtjgnikmnadmheaaG04
import Derived.Test.YtjgnikmnadmheaaG62

namespace Go.Proofs.Ytjgnikmnadmheaa
open Go.RowKit

theorem turn_at {w : World} {B : Nat} {A : Option Addr} {l : List Tu} (h : Lies w B A (turnsC l)) {k : Nat} (hk : k < l.length) :
    ∃ ad, A = some ad ∧ ad.block < B ∧ w.cell? (ad.add (k * 3)) = some (.int .i64 l[k].day) ∧ w.cell? ⟨(ad.add (k * 3)).block, (ad.add (k * 3)).off + 1, none⟩ = some (.int .i64 l[k].pit) ∧ w.cell? ⟨(ad.add (k * 3)).block, (ad.add (k * 3)).off + 2, none⟩ = some (.int .i64 l[k].mas) := by
  obtain ⟨ad, e, hb, hc⟩ := Lies.rec_at (f := Tu.cells) (n := 3) (fun _ => rfl) h (by omega) hk
  refine ⟨ad, e, hb, hc 0 _ rfl, ?_, ?_⟩
  · rw [← add_rec _ _ _ (by omega)]; exact hc 1 _ rfl
  · rw [← add_rec _ _ _ (by omega)]; exact hc 2 _ rfl
def cntP (ts : List Tu) (i : Int) : Int := (ts.countP (fun t => decide (t.pit = i)) : Nat)
theorem cntP_take {ts : List Tu} {k : Nat} (hk : k < ts.length) (i : Int) : cntP (ts.take (k + 1)) i = if ts[k].pit = i then cntP (ts.take k) i + 1 else cntP (ts.take k) i := by
  unfold cntP
  rw [List.take_succ_eq_append_getElem hk, List.countP_append, List.countP_singleton]
  by_cases h : ts[k].pit = i <;> simp [h]
theorem cntP_bd (ts : List Tu) (i : Int) : 0 ≤ cntP ts i ∧ cntP ts i ≤ ts.length := by
  unfold cntP
  have := List.countP_le_length (p := fun t : Tu => decide (t.pit = i)) (l := ts)
  omega
theorem cntP_snoc (ts : List Tu) (t : Tu) (i : Int) : cntP (ts ++ [t]) i = if t.pit = i then cntP ts i + 1 else cntP ts i := by
  unfold cntP
  rw [List.countP_append, List.countP_singleton]
  by_cases h : t.pit = i <;> simp [h]
def pitOK (pi : List Pit) (ts : List Tu) (d : Int) (i : Nat) : Bool := match pi[i]? with
  | some p => agedB p d && decide (cntP ts i < p.b)
  | none => false
theorem pitOK_at {pi : List Pit} {ts : List Tu} {d : Int} {i : Nat} (h : i < pi.length) : pitOK pi ts d i = (agedB pi[i] d && decide (cntP ts i < pi[i].b)) := by unfold pitOK; rw [List.getElem?_eq_getElem h]
def pitOf (pi : List Pit) (ts : List Tu) (d : Int) : Int := match (List.range pi.length).find? (pitOK pi ts d) with
  | some i => (i : Int)
  | none => -1
theorem pitOf_yes {pi : List Pit} {ts : List Tu} {d : Int} {i : Nat} (hi : i < pi.length) (h : pitOK pi ts d i = true) (hn : ∀ j, j < i → pitOK pi ts d j = false) : pitOf pi ts d = i := by
  unfold pitOf
  have : (List.range pi.length).find? (pitOK pi ts d) = some i := by
    rw [List.find?_range_eq_some]
    exact ⟨h, by simpa using hi, fun j hj => by rw [hn j hj]; rfl⟩
  rw [this]
theorem pitOf_no {pi : List Pit} {ts : List Tu} {d : Int} (hn : ∀ j, j < pi.length → pitOK pi ts d j = false) : pitOf pi ts d = -1 := by
  unfold pitOf
  have : (List.range pi.length).find? (pitOK pi ts d) = none := by
    rw [List.find?_eq_none]
    intro j hj
    rw [hn j (by simpa using hj)]; simp
  rw [this]
def skillAt (ma : List Mas) (i : Int) : Int := match ma[i.toNat]? with
  | some m => m.k
  | none => 0
def bestStep (ma : List Mas) (b i : Int) : Int := if b < 0 ∨ skillAt ma i < skillAt ma b then i else b
def bestM (ma : List Mas) (L : List Int) : Int := L.foldl (bestStep ma) (-1)
theorem bestM_snoc (ma : List Mas) (L : List Int) (i : Int) : bestM ma (L ++ [i]) = bestStep ma (bestM ma L) i := by unfold bestM; rw [List.foldl_append]; rfl
theorem bestF_bd (ma : List Mas) : ∀ (L : List Int) (b : Int), (-1 ≤ b ∧ b < ma.length) → (∀ x ∈ L, 0 ≤ x ∧ x < (ma.length : Int)) → -1 ≤ L.foldl (bestStep ma) b ∧ L.foldl (bestStep ma) b < ma.length
  | [], b, hb, _ => hb
  | i :: L, b, hb, h => by
    have h2 := h i (by simp)
    refine bestF_bd ma L (bestStep ma b i) ?_ (fun x hx => h x (by simp [hx]))
    unfold bestStep
    split <;> omega
theorem bestM_bd (ma : List Mas) (L : List Int) (h : ∀ x ∈ L, 0 ≤ x ∧ x < (ma.length : Int)) : -1 ≤ bestM ma L ∧ bestM ma L < ma.length := bestF_bd ma L (-1) (by omega) h
theorem skL_bd (ma : List Mas) (d need : Int) : ∀ x ∈ skL ma d need, 0 ≤ x ∧ x < (ma.length : Int) := fun x hx => by
  unfold skL skK at hx
  rw [List.mem_map] at hx
  obtain ⟨j, hj, rfl⟩ := hx
  rw [List.mem_filter, List.mem_range] at hj
  exact ⟨Int.natCast_nonneg _, by have := hj.1; show (j : Int) < _; omega⟩

set_option maxRecDepth 100000 in
set_option maxHeartbeats 1000000 in
theorem rpit_any (C : Array Value) (Y : Yd) (ts : List Tu) (T : Option Addr) (ct : Nat) (d : Int) (w : World) (hY : YardAt w w.heap.size C Y) (hv : Valid Y) (hT : Lies w w.heap.size T (turnsC ts)) (hn : ts.length ≤ 1000) :
    Calls Try.prog 101 #[.agg C, .slice T ts.length ct, .int .i64 d] w (IntEnd (pitOf Y.pi ts d) w) := by
  obtain ⟨A2, k2, e2, L2⟩ := hY.pi
  have hm := hv.n2
  have HP := Lib.hid hv.pi
  have HTT := Lib.hid (fun W (hb : Below w.heap.size w W) => hT.below hb (Nat.le_refl _))
  have HYS := Lib.hid (fun i (hi : i < Y.pi.length) (h : pitOK Y.pi ts d i = true) (hn : ∀ j, j < i → pitOK Y.pi ts d j = false) => pitOf_yes hi h hn)
  have HNO := Lib.hid (fun (hn : ∀ j, j < Y.pi.length → pitOK Y.pi ts d j = false) => pitOf_no hn)
  have HAT := Lib.hid (fun i (hi : i < Y.pi.length) => pitOK_at (ts := ts) (d := d) hi)
  generalize pitOf Y.pi ts d = R at *
  clear hY hv hT
  have b0 : Bk (w.alloc (.cells C 29)) w.heap.size 29 C := Bk.new w 29 C
  have hb0 : Below w.heap.size w (w.alloc (.cells C 29)) := by exact (by repeat (first | with_reducible exact Below.refl _ _ | with_reducible assumption | with_reducible refine Below.drew ?_ | with_reducible refine below_drewN ?_ _ | (with_reducible refine Below.alloc ?_ ?_ _; rotate_left; (try simp) <;> omega) | (with_reducible refine Below.setCell ?_ ?_ _; rotate_left; (try simp) <;> omega)))
  have x0 := b0.cell 25 e2
  go_enter Try.func101, Try.ntmps101
  go_wp2
  go_loopw [7] (fun y wr => ∃ i : Nat, i ≤ Y.pi.length ∧ y = .int .i64 i ∧ Hid (∀ j, j < i → pitOK Y.pi ts d j = false) ∧ Below w.heap.size w wr ∧ Bk wr w.heap.size 29 C) (fun y _ => Y.pi.length - (intOf y).toNat)
  case atStart => exact ⟨0, by omega, rfl, fun j hj => absurd hj (by omega), hb0, b0⟩
  case round =>
  clear b0 hb0 x0
  obtain ⟨i, hi, rfl, HN, hbw, hbk⟩ := hrel
  have hbs := hbk.lt
  have x1 := hbk.cell 25 e2
  by_cases hlt : i < Y.pi.length
  · obtain ⟨a1, rfl, ha1, c0, c1, c2⟩ := pit_at (L2.below hbw (Nat.le_refl _)) hlt
    obtain ⟨⟨p1, p2⟩, ⟨p3, p4⟩, p5, p6⟩ := HP.out _ (List.getElem_mem hlt)
    have HA := Lib.hid (HAT.out i hlt)
    have HB : Hid (agedB Y.pi[i] d = decide (Y.pi[i].s + Y.pi[i].a ≤ d)) := rfl
    have HFY := Lib.hid (fun (h : pitOK Y.pi ts d i = true) => HYS.out i hlt h HN.out)
    have HFN := Lib.hid (fun (h : pitOK Y.pi ts d i = false) => show Hid (∀ j, j < i + 1 → pitOK Y.pi ts d j = false) from fun j hj => by
      by_cases e : j = i
      · subst e; exact h
      · exact HN.out j (by omega))
    generalize pitOK Y.pi ts d i = ok at *
    generalize agedB Y.pi[i] d = ag at *
    generalize Y.pi[i] = p at *
    obtain ⟨s, a, b⟩ := p
    dsimp only at *
    have hi0 : 0 ≤ (i : Int) := by omega
    have hiI : (i : Int) < (Y.pi.length : Int) := by omega
    go_wp2
    go_loopw [8, 9] (fun u y wx => ∃ k : Nat, k ≤ ts.length ∧ y = .int .i64 k ∧ u = .int .i64 (cntP (ts.take k) i) ∧ wx = wr) (fun _ y _ => ts.length - (intOf y).toNat)
    case atStart => exact ⟨0, by omega, rfl, rfl, rfl⟩
    case round =>
    obtain ⟨k, hk, rfl, rfl, rfl⟩ := hrel
    have hcb := cntP_bd (ts.take k) i
    have htl : (ts.take k).length ≤ k := List.length_take_le _ _
    obtain ⟨hc0, hc1⟩ := hcb
    by_cases hkt : k < ts.length
    · obtain ⟨a2, rfl, ha2, t0, t1, t2⟩ := turn_at (HTT.out _ hbw) hkt
      have HC := Lib.hid (cntP_take hkt i)
      generalize cntP (ts.take k) i = n at *
      generalize ts[k].pit = q at *
      have hkI : (k : Int) < (ts.length : Int) := by omega
      have hk0 : 0 ≤ (k : Int) := by omega
      by_cases hq : q = i
      · have hq1 : (q == (i : Int)) = true := by simp [hq]
        have HE : Hid (cntP (ts.take (k + 1)) i = n + 1) := by show _ = _; rw [HC.out, if_pos hq]
        clear hq
        go_wp2
        go_roundw
        case rel => exact ⟨k + 1, by omega, by go_num, by rw [HE.out], by first | trivial | rfl⟩
        case measure => simp [intOf]; omega
      · have hq1 : (q == (i : Int)) = false := by simp [hq]
        have HE : Hid (cntP (ts.take (k + 1)) i = n) := by show _ = _; rw [HC.out, if_neg hq]
        clear hq
        go_wp2
        go_roundw
        case rel => exact ⟨k + 1, by omega, by go_num, by rw [HE.out], by first | trivial | rfl⟩
        case measure => simp [intOf]; omega
    · obtain rfl : k = ts.length := by omega
      have HT1 : Hid (cntP (ts.take ts.length) i = cntP ts i) := by show _ = _; rw [List.take_length]
      rw [HT1.out] at hc0 hc1 ⊢
      generalize cntP ts i = n at *
      have W1 : IntKind.i64.wrap (s + a) = s + a := IntWalk.i64_in _ (by omega)
      clear hkt
      go_wp2
      by_cases h1 : s + a ≤ d
      · by_cases h2 : n < b
        · have HR := Lib.hid (HFY.out (by rw [HA.out, HB.out]; simp [h1, h2]))
          refine wp_region_held_drew (S := (fun w' => w'.cell? ⟨w.heap.size, 25, none⟩ = some (.slice (some a1) Y.pi.length k2) ∧ w'.cell? (a1.add (i * 3)) = some (.int .i64 s) ∧ w'.cell? ⟨(a1.add (i * 3)).block, (a1.add (i * 3)).off + 1, none⟩ = some (.int .i64 a) ∧ w'.cell? ⟨(a1.add (i * 3)).block, (a1.add (i * 3)).off + 2, none⟩ = some (.int .i64 b))) (by kernel_rfl) ?_ (fun hHeld => ?_)
          · (refine ⟨?_, ?_, ?_, ?_⟩ <;> first | assumption | go_keep)
          refine tk 0 32 ?_
          refine tk 1 33 ?_
          refine tk 2 34 ?_
          refine tk 3 35 ?_
          refine tk 4 36 ?_
          refine tk 5 37 ?_
          refine tk 6 38 ?_
          refine tk 7 39 ?_
          refine tk 8 40 ?_
          refine tk 9 41 ?_
          refine tk 10 42 ?_
          refine tk 11 43 ?_
          refine tk 12 44 ?_
          refine tk 13 45 ?_
          refine tk 14 46 ?_
          refine tk 15 47 ?_
          refine tk 16 48 ?_
          refine tk 17 49 ?_
          refine tk 18 50 ?_
          refine tk 19 51 ?_
          refine tk 20 52 ?_
          refine tk 21 53 ?_
          refine tk 22 54 ?_
          refine tk 23 55 ?_
          refine tk 24 56 ?_
          refine wpAnyH_done (by kernel_rfl) ?_ _
          go_wp2
          go_ret
          exact int_end HR.out.symm (by exact (by repeat (first | with_reducible exact Below.refl _ _ | with_reducible assumption | with_reducible refine Below.drew ?_ | with_reducible refine below_drewN ?_ _ | (with_reducible refine Below.alloc ?_ ?_ _; rotate_left; (try simp) <;> omega) | (with_reducible refine Below.setCell ?_ ?_ _; rotate_left; (try simp) <;> omega))))
        · have HR := Lib.hid (HFN.out (by rw [HA.out, HB.out]; simp [h1, h2]))
          refine wp_region_held_drew (S := (fun w' => w'.cell? ⟨w.heap.size, 25, none⟩ = some (.slice (some a1) Y.pi.length k2) ∧ w'.cell? (a1.add (i * 3)) = some (.int .i64 s) ∧ w'.cell? ⟨(a1.add (i * 3)).block, (a1.add (i * 3)).off + 1, none⟩ = some (.int .i64 a) ∧ w'.cell? ⟨(a1.add (i * 3)).block, (a1.add (i * 3)).off + 2, none⟩ = some (.int .i64 b))) (by kernel_rfl) ?_ (fun hHeld => ?_)
          · (refine ⟨?_, ?_, ?_, ?_⟩ <;> first | assumption | go_keep)
          refine tk 0 32 ?_
          refine tk 1 33 ?_
          refine tk 2 34 ?_
          refine tk 3 35 ?_
          refine tk 4 36 ?_
          refine tk 5 37 ?_
          refine tk 6 38 ?_
          refine tk 7 39 ?_
          refine tk 8 40 ?_
          refine tk 9 41 ?_
          refine tk 10 42 ?_
          refine tk 11 43 ?_
          refine tk 12 44 ?_
          refine tk 13 45 ?_
          refine tk 14 46 ?_
          refine tk 15 47 ?_
          refine tk 16 48 ?_
          refine tk 17 49 ?_
          refine tk 18 50 ?_
          refine tk 19 51 ?_
          refine tk 20 52 ?_
          refine tk 21 53 ?_
          refine tk 22 54 ?_
          refine tk 23 55 ?_
          refine tk 24 56 ?_
          refine wpAnyH_done (by kernel_rfl) ?_ _
          go_wp2
          go_roundw
          case rel => exact ⟨i + 1, by omega, by go_num, HR.out, by exact (by repeat (first | with_reducible exact Below.refl _ _ | with_reducible assumption | with_reducible refine Below.drew ?_ | with_reducible refine below_drewN ?_ _ | (with_reducible refine Below.alloc ?_ ?_ _; rotate_left; (try simp) <;> omega) | (with_reducible refine Below.setCell ?_ ?_ _; rotate_left; (try simp) <;> omega))), by exact (by repeat (first | with_reducible assumption | with_reducible exact Bk.new _ _ _ | with_reducible refine Bk.drew ?_ | with_reducible refine Bk.drewN ?_ _ | with_reducible refine Bk.alloc ?_ _ | (with_reducible refine Bk.far ?_ ?_ _; rotate_left; (try simp) <;> omega)))⟩
          case measure => simp [intOf]; omega
      · have HR := Lib.hid (HFN.out (by rw [HA.out, HB.out]; simp [h1]))
        refine wp_region_held_drew (S := (fun w' => w'.cell? ⟨w.heap.size, 25, none⟩ = some (.slice (some a1) Y.pi.length k2) ∧ w'.cell? (a1.add (i * 3)) = some (.int .i64 s) ∧ w'.cell? ⟨(a1.add (i * 3)).block, (a1.add (i * 3)).off + 1, none⟩ = some (.int .i64 a) ∧ w'.cell? ⟨(a1.add (i * 3)).block, (a1.add (i * 3)).off + 2, none⟩ = some (.int .i64 b))) (by kernel_rfl) ?_ (fun hHeld => ?_)
        · (refine ⟨?_, ?_, ?_, ?_⟩ <;> first | assumption | go_keep)
        refine tk 0 32 ?_
        refine tk 1 33 ?_
        refine tk 2 34 ?_
        refine tk 3 35 ?_
        refine tk 4 36 ?_
        refine tk 5 37 ?_
        refine tk 6 38 ?_
        refine tk 7 39 ?_
        refine tk 8 40 ?_
        refine tk 9 41 ?_
        refine tk 10 42 ?_
        refine tk 11 43 ?_
        refine tk 12 44 ?_
        refine tk 13 45 ?_
        refine tk 14 46 ?_
        refine tk 15 47 ?_
        refine sk 16 48 ?_
        refine sk 17 49 ?_
        refine sk 18 50 ?_
        refine sk 19 51 ?_
        refine sk 20 52 ?_
        refine sk 21 53 ?_
        refine sk 22 54 ?_
        refine sk 23 55 ?_
        refine tk 24 56 ?_
        refine wpAnyH_done (by kernel_rfl) ?_ _
        go_wp2
        go_roundw
        case rel => exact ⟨i + 1, by omega, by go_num, HR.out, by exact (by repeat (first | with_reducible exact Below.refl _ _ | with_reducible assumption | with_reducible refine Below.drew ?_ | with_reducible refine below_drewN ?_ _ | (with_reducible refine Below.alloc ?_ ?_ _; rotate_left; (try simp) <;> omega) | (with_reducible refine Below.setCell ?_ ?_ _; rotate_left; (try simp) <;> omega))), by exact (by repeat (first | with_reducible assumption | with_reducible exact Bk.new _ _ _ | with_reducible refine Bk.drew ?_ | with_reducible refine Bk.drewN ?_ _ | with_reducible refine Bk.alloc ?_ _ | (with_reducible refine Bk.far ?_ ?_ _; rotate_left; (try simp) <;> omega)))⟩
        case measure => simp [intOf]; omega
  · have HE := Lib.hid (HNO.out (fun j hj => HN.out j (by omega)))
    obtain rfl : i = Y.pi.length := by omega
    clear hlt
    go_wp2
    go_ret
    exact int_end HE.out.symm hbw
end Go.Proofs.Ytjgnikmnadmheaa

namespace Go.Proofs.Ytjgnikmnadmheaa
open Go.RowKit

theorem skillAt_nat {ma : List Mas} {j : Nat} (h : j < ma.length) : skillAt ma (j : Int) = ma[j].k := by unfold skillAt; rw [Int.toNat_natCast, List.getElem?_eq_getElem h]
set_option maxRecDepth 100000 in
set_option maxHeartbeats 1000000 in
theorem rmaster_any (C : Array Value) (Y : Yd) (d need : Int) (w : World) (hY : YardAt w w.heap.size C Y) (ho : okY Y = true) :
    Calls Try.prog 102 #[.agg C, .int .i64 d, .int .i64 need] w (IntEnd (bestM Y.ma (skL Y.ma d need)) w) := by
  have hv := okY_valid ho
  obtain ⟨A3, k3, e3, L3⟩ := hY.ma
  have hm := hv.n3
  have HLOAD := load_any hY
  have HC28 := Lib.hid hY.len
  have HSK : Hid (∀ W : World, Below w.heap.size w W → Calls Try.prog 50 #[.agg C, .int .i64 d, .int .i64 need] W (IntsEnd (skL Y.ma d need) W)) := fun W hb => by
    have := rSkilled_any C Y d need W ((hY.below hb (Nat.le_refl _)).more hb.size) (small_valid hv)
    unfold skO at this
    rw [if_pos ho] at this
    exact this
  have HLB := Lib.hid (skL_bd Y.ma d need)
  have hln := skK_len Y.ma d need Y.ma.length
  rw [show skK Y.ma d need Y.ma.length = skL Y.ma d need from rfl] at hln
  generalize skL Y.ma d need = L at *
  have HST := Lib.hid (fun k (hk : k < L.length) => show bestM Y.ma (L.take (k + 1)) = bestStep Y.ma (bestM Y.ma (L.take k)) L[k] from by rw [List.take_succ_eq_append_getElem hk, bestM_snoc])
  have HBD := Lib.hid (fun k => bestM_bd Y.ma (L.take k) (fun x hx => HLB.out x (List.mem_of_mem_take hx)))
  clear hY hv ho
  go_enter Try.func102, Try.ntmps102
  go_wp2_with (first | (refine wpList_load_guard (P := Try.prog) (by rfl) 29 (.tmp 3) rfl w.heap.size 0 rfl C.toList _ (HLOAD.out _ _ (by exact (by repeat (first | with_reducible assumption | with_reducible exact Bk.new _ _ _ | with_reducible refine Bk.drew ?_ | with_reducible refine Bk.drewN ?_ _ | with_reducible refine Bk.alloc ?_ _ | (with_reducible refine Bk.far ?_ ?_ _; rotate_left; (try simp) <;> omega))))) Try.underlying29 rfl (by rw [HC28.out]; exact info29) ?_) | (go_at_call 50; refine (HSK.out _ (by exact (by repeat (first | with_reducible exact Below.refl _ _ | with_reducible assumption | with_reducible refine Below.drew ?_ | with_reducible refine below_drewN ?_ _ | (with_reducible refine Below.alloc ?_ ?_ _; rotate_left; (try simp) <;> omega) | (with_reducible refine Below.setCell ?_ ?_ _; rotate_left; (try simp) <;> omega))))).mono ?_; rintro e w1 ⟨v1, rfl, ho1, hb1⟩; obtain ⟨A1, c1, rfl, _, _⟩ := ownsSlice ho1; have hB1 : Below w.heap.size w w1 := Below.trans (by exact (by repeat (first | with_reducible exact Below.refl _ _ | with_reducible assumption | with_reducible refine Below.drew ?_ | with_reducible refine below_drewN ?_ _ | (with_reducible refine Below.alloc ?_ ?_ _; rotate_left; (try simp) <;> omega) | (with_reducible refine Below.setCell ?_ ?_ _; rotate_left; (try simp) <;> omega)))) (hb1.mono (by simp)); have hK1 : Bk w1 w.heap.size 29 C := Bk.below (by exact (by repeat (first | with_reducible assumption | with_reducible exact Bk.new _ _ _ | with_reducible refine Bk.drew ?_ | with_reducible refine Bk.drewN ?_ _ | with_reducible refine Bk.alloc ?_ _ | (with_reducible refine Bk.far ?_ ?_ _; rotate_left; (try simp) <;> omega)))) hb1 (by simp); have hL1 := ownsRow_lies ho1; clear ho1 hb1))
  go_loopw [8, 9] (fun b y wr => ∃ k : Nat, k ≤ L.length ∧ y = .int .i64 k ∧ b = .int .i64 (bestM Y.ma (L.take k)) ∧ Below w1.heap.size w1 wr) (fun _ y _ => L.length - (intOf y).toNat)
  case atStart => exact ⟨0, by omega, rfl, rfl, Below.refl _ _⟩
  case round =>
  obtain ⟨k, hk, rfl, rfl, hbw⟩ := hrel
  have hbs := hbw.size
  have hkr := hK1.below hbw hK1.lt
  have x1 := hkr.cell 26 e3
  have hbd := HBD.out k
  by_cases hlt : k < L.length
  · obtain ⟨a1, rfl, ha1, c0⟩ := int_at (hL1.below hbw (Nat.le_refl _)) hlt
    have hx := HLB.out L[k] (List.getElem_mem hlt)
    have HS := Lib.hid (HST.out k hlt)
    have hB : Below w.heap.size w wr := hB1.trans (hbw.mono hB1.size)
    generalize bestM Y.ma (L.take k) = b at *
    obtain ⟨j, hj⟩ : ∃ j : Nat, L[k] = (j : Int) := ⟨L[k].toNat, by omega⟩
    rw [hj] at c0 hx HS
    have HJ := Lib.hid hj; clear hj
    have hjn : j < Y.ma.length := by omega
    obtain ⟨a3, rfl, ha3, _, _, _, m3⟩ := mas_at (L3.below hB (Nat.le_refl _)) hjn
    have HSJ := Lib.hid (skillAt_nat hjn)
    generalize Y.ma[j].k = kj at *
    have hkI : (k : Int) < (L.length : Int) := by omega
    have hk0 : 0 ≤ (k : Int) := by omega
    have hjI : (j : Int) < (Y.ma.length : Int) := by omega
    have hj0 : 0 ≤ (j : Int) := by omega
    obtain ⟨hbd0, hbd1⟩ := hbd
    by_cases hneg : b < 0
    · have HE : Hid (bestM Y.ma (L.take (k + 1)) = j) := by show _ = _; rw [HS.out]; unfold bestStep; rw [if_pos (.inl hneg)]
      go_wp2
      refine wp_region_held_drew (S := (fun w' => w'.cell? (a1.add k) = some (.int .i64 j))) (by kernel_rfl) ?_ (fun hHeld => ?_)
      · first | assumption | go_keep
      refine tk 0 20 ?_
      refine tk 1 21 ?_
      refine tk 2 22 ?_
      refine sk 3 23 ?_
      refine sk 4 24 ?_
      refine sk 5 25 ?_
      refine sk 6 26 ?_
      refine sk 7 27 ?_
      refine sk 8 28 ?_
      refine sk 9 29 ?_
      refine sk 10 30 ?_
      refine sk 11 31 ?_
      refine sk 12 32 ?_
      refine sk 13 33 ?_
      refine sk 14 34 ?_
      refine sk 15 35 ?_
      refine sk 16 36 ?_
      refine sk 17 37 ?_
      refine sk 18 38 ?_
      refine tk 19 39 ?_
      refine wpAnyH_done (by kernel_rfl) ?_ _
      have c1 : wr.drew.cell? (a1.add k) = some (.int .i64 j) := c0
      go_wp2
      go_roundw
      case rel => exact ⟨k + 1, by omega, by go_num, by rw [HE.out], by exact (by repeat (first | with_reducible exact Below.refl _ _ | with_reducible assumption | with_reducible refine Below.drew ?_ | with_reducible refine below_drewN ?_ _ | (with_reducible refine Below.alloc ?_ ?_ _; rotate_left; (try simp) <;> omega) | (with_reducible refine Below.setCell ?_ ?_ _; rotate_left; (try simp) <;> omega)))⟩
      case measure => simp [intOf]; omega
    · obtain ⟨i, hi⟩ : ∃ i : Nat, b = (i : Int) := ⟨b.toNat, by omega⟩
      subst hi
      have hin : i < Y.ma.length := by omega
      obtain ⟨a4, e4, ha4, _, _, _, n3⟩ := mas_at (L3.below hB (Nat.le_refl _)) hin
      cases e4
      have HSI := Lib.hid (skillAt_nat hin)
      generalize Y.ma[i].k = ki at *
      have hiI : (i : Int) < (Y.ma.length : Int) := by omega
      have hi0 : 0 ≤ (i : Int) := by omega
      by_cases hlt2 : kj < ki
      · have HE : Hid (bestM Y.ma (L.take (k + 1)) = j) := by show _ = _; rw [HS.out]; unfold bestStep; rw [if_pos (.inr (by rw [HSJ.out, HSI.out]; exact hlt2))]
        go_wp2
        refine wp_region_held_drew (S := (fun w' => w'.cell? (a1.add k) = some (.int .i64 j) ∧ w'.cell? ⟨w.heap.size, 26, none⟩ = some (.slice (some a3) Y.ma.length k3) ∧ w'.cell? ⟨(a3.add (j * 4)).block, (a3.add (j * 4)).off + 3, none⟩ = some (.int .i64 kj) ∧ w'.cell? ⟨(a3.add (i * 4)).block, (a3.add (i * 4)).off + 3, none⟩ = some (.int .i64 ki))) (by kernel_rfl) ?_ (fun hHeld => ?_)
        · (refine ⟨?_, ?_, ?_, ?_⟩ <;> first | assumption | go_keep)
        refine tk 0 20 ?_
        refine tk 1 21 ?_
        refine tk 2 22 ?_
        refine tk 3 23 ?_
        refine tk 4 24 ?_
        refine tk 5 25 ?_
        refine tk 6 26 ?_
        refine tk 7 27 ?_
        refine tk 8 28 ?_
        refine tk 9 29 ?_
        refine tk 10 30 ?_
        refine tk 11 31 ?_
        refine tk 12 32 ?_
        refine tk 13 33 ?_
        refine tk 14 34 ?_
        refine tk 15 35 ?_
        refine tk 16 36 ?_
        refine tk 17 37 ?_
        refine tk 18 38 ?_
        refine tk 19 39 ?_
        refine wpAnyH_done (by kernel_rfl) ?_ _
        have c1 : wr.drew.cell? (a1.add k) = some (.int .i64 j) := c0
        go_wp2
        go_roundw
        case rel => exact ⟨k + 1, by omega, by go_num, by rw [HE.out], by exact (by repeat (first | with_reducible exact Below.refl _ _ | with_reducible assumption | with_reducible refine Below.drew ?_ | with_reducible refine below_drewN ?_ _ | (with_reducible refine Below.alloc ?_ ?_ _; rotate_left; (try simp) <;> omega) | (with_reducible refine Below.setCell ?_ ?_ _; rotate_left; (try simp) <;> omega)))⟩
        case measure => simp [intOf]; omega
      · have HE : Hid (bestM Y.ma (L.take (k + 1)) = i) := by show _ = _; rw [HS.out]; unfold bestStep; rw [if_neg (by rw [HSJ.out, HSI.out]; omega)]
        go_wp2
        refine wp_region_held_drew (S := (fun w' => w'.cell? (a1.add k) = some (.int .i64 j) ∧ w'.cell? ⟨w.heap.size, 26, none⟩ = some (.slice (some a3) Y.ma.length k3) ∧ w'.cell? ⟨(a3.add (j * 4)).block, (a3.add (j * 4)).off + 3, none⟩ = some (.int .i64 kj) ∧ w'.cell? ⟨(a3.add (i * 4)).block, (a3.add (i * 4)).off + 3, none⟩ = some (.int .i64 ki))) (by kernel_rfl) ?_ (fun hHeld => ?_)
        · (refine ⟨?_, ?_, ?_, ?_⟩ <;> first | assumption | go_keep)
        refine tk 0 20 ?_
        refine tk 1 21 ?_
        refine tk 2 22 ?_
        refine tk 3 23 ?_
        refine tk 4 24 ?_
        refine tk 5 25 ?_
        refine tk 6 26 ?_
        refine tk 7 27 ?_
        refine tk 8 28 ?_
        refine tk 9 29 ?_
        refine tk 10 30 ?_
        refine tk 11 31 ?_
        refine tk 12 32 ?_
        refine tk 13 33 ?_
        refine tk 14 34 ?_
        refine tk 15 35 ?_
        refine tk 16 36 ?_
        refine tk 17 37 ?_
        refine tk 18 38 ?_
        refine tk 19 39 ?_
        refine wpAnyH_done (by kernel_rfl) ?_ _
        go_wp2
        go_roundw
        case rel => exact ⟨k + 1, by omega, by go_num, by rw [HE.out], by exact (by repeat (first | with_reducible exact Below.refl _ _ | with_reducible assumption | with_reducible refine Below.drew ?_ | with_reducible refine below_drewN ?_ _ | (with_reducible refine Below.alloc ?_ ?_ _; rotate_left; (try simp) <;> omega) | (with_reducible refine Below.setCell ?_ ?_ _; rotate_left; (try simp) <;> omega)))⟩
        case measure => simp [intOf]; omega
  · obtain rfl : k = L.length := by omega
    clear hlt
    go_wp2
    go_ret
    exact int_end (by rw [List.take_length]) (hB1.trans (hbw.mono hB1.size))
end Go.Proofs.Ytjgnikmnadmheaa

namespace Go.Proofs.Ytjgnikmnadmheaa
open Go.RowKit Go.Shelf Go.Lib

def insL (l : List Int) (i : Nat) (x : Int) : List Int := l.take i ++ x :: l.drop i
theorem insL_len (l : List Int) (i : Nat) (x : Int) (hi : i ≤ l.length) : (insL l i x).length = l.length + 1 := by
  unfold insL; simp; omega
theorem ints_insL (l : List Int) (i : Nat) (x : Int) : ints (insL l i x) = (ints l).take i ++ Value.int .i64 x :: (ints l).drop i := by
  unfold insL ints; simp
theorem ins_at {cs : List Value} {i : Nat} {x : Value} (hi : i ≤ cs.length) {j : Nat} {u : Value} (h : (cs.take i ++ x :: cs.drop i)[j]? = some u) :
    (j < i ∧ cs[j]? = some u) ∨ (j = i ∧ u = x) ∨ (i < j ∧ j ≤ cs.length ∧ (cs.drop i)[j - (i + 1)]? = some u) := by
  have hl : (cs.take i).length = i := by simp; omega
  rcases Nat.lt_trichotomy j i with hj | rfl | hj
  · rw [List.getElem?_append_left (by omega), List.getElem?_take, if_pos hj] at h
    exact .inl ⟨hj, h⟩
  · rw [List.getElem?_append_right (by omega), hl] at h
    simp at h
    exact .inr (.inl ⟨rfl, h.symm⟩)
  · rw [List.getElem?_append_right (by omega), hl] at h
    rw [show j - i = (j - (i + 1)) + 1 by omega, List.getElem?_cons_succ] at h
    have := (List.getElem?_eq_some_iff.1 h).1
    simp at this
    exact .inr (.inr ⟨hj, by omega, h⟩)
theorem drop_cell {W : World} {g o : Nat} {cs : List Value} {i : Nat} {k : Nat} {u : Value} (hs : ∀ j, j < (cs.drop i).length → (W.cell? ⟨g, o + j, none⟩).isSome = true) (h : (cs.drop i)[k]? = some u) :
    (W.setCells g o (cs.drop i)).cell? ⟨g, o + k, none⟩ = some u := by
  obtain ⟨hk, e⟩ := List.getElem?_eq_some_iff.1 h
  rw [World.cell?_setCells_in g (cs.drop i) o W hs k hk, e]
theorem one_cell {W : World} {g o : Nat} {x : Value} (hs : (W.cell? ⟨g, o, none⟩).isSome = true) : (W.setCells g o [x]).cell? ⟨g, o, none⟩ = some x := by
  have := World.cell?_setCells_in g [x] o W (fun j hj => by rw [show j = 0 by simpa using hj]; exact hs) 0 (by simp)
  simpa using this
theorem far_cell {W : World} {g o k : Nat} {vs : List Value} (h : k < o ∨ o + vs.length ≤ k) : (W.setCells g o vs).cell? ⟨g, k, none⟩ = W.cell? ⟨g, k, none⟩ :=
  World.cell?_setCells_out g vs o W ⟨g, k, none⟩ (fun _ _ => h)

/-- the tail is laid, then the new cell -/
theorem ins_cells1 {W : World} {g i : Nat} {cs : List Value} {x : Value} (hi : i ≤ cs.length) (hs : ∀ j, j < cs.length + 1 → (W.cell? ⟨g, j, none⟩).isSome = true) (hp : ∀ j u, j < i → cs[j]? = some u → W.cell? ⟨g, j, none⟩ = some u) :
    ∀ j u, (cs.take i ++ x :: cs.drop i)[j]? = some u → ((W.setCells g (i + 1) (cs.drop i)).setCells g i [x]).cell? ⟨g, j, none⟩ = some u := fun j u hu => by
  have hl : (cs.drop i).length = cs.length - i := by simp
  rcases ins_at hi hu with ⟨hj, h⟩ | ⟨rfl, rfl⟩ | ⟨hj, hj2, h⟩
  · rw [far_cell (by left; omega), far_cell (by left; omega)]; exact hp j u hj h
  · refine one_cell ?_
    rw [far_cell (by left; omega)]; exact hs _ (by omega)
  · rw [far_cell (by right; first | omega | (simp; omega) | simp)]
    have := drop_cell (W := W) (g := g) (o := i + 1) (k := j - (i + 1)) (fun k hk => hs _ (by omega)) h
    rw [show i + 1 + (j - (i + 1)) = j by omega] at this
    exact this
/-- the new cell is laid, then the tail -/
theorem ins_cells2 {W : World} {g i : Nat} {cs : List Value} {x : Value} (hi : i ≤ cs.length) (hs : ∀ j, j < cs.length + 1 → (W.cell? ⟨g, j, none⟩).isSome = true) (hp : ∀ j u, j < i → cs[j]? = some u → W.cell? ⟨g, j, none⟩ = some u) :
    ∀ j u, (cs.take i ++ x :: cs.drop i)[j]? = some u → ((W.setCells g i [x]).setCells g (i + 1) (cs.drop i)).cell? ⟨g, j, none⟩ = some u := fun j u hu => by
  have hl : (cs.drop i).length = cs.length - i := by simp
  rcases ins_at hi hu with ⟨hj, h⟩ | ⟨rfl, rfl⟩ | ⟨hj, hj2, h⟩
  · rw [far_cell (by left; omega), far_cell (by left; omega)]; exact hp j u hj h
  · rw [far_cell (by left; omega)]; exact one_cell (hs _ (by omega))
  · have := drop_cell (W := W.setCells g i [x]) (g := g) (o := i + 1) (k := j - (i + 1)) (fun k hk => by rw [far_cell (by right; first | omega | (simp; omega) | simp)]; exact hs _ (by omega)) h
    rw [show i + 1 + (j - (i + 1)) = j by omega] at this
    exact this
def InsEnd (l : List Int) (base : Nat) (w : World) (e : Ending) (w' : World) : Prop := ∃ g c R, e = .returned (.slice (some ⟨g, 0, none⟩) l.length c) ∧ Lies w' w'.heap.size (some ⟨g, 0, none⟩) (ints l) ∧ base ≤ g ∧ Bk w' g 3 R ∧ l.length ≤ c ∧ Below base w w'
theorem Bk.setCells {t b : Nat} : ∀ (vs : List Value) (o : Nat) (w : World) (C : Array Value), Bk w b t C → ∃ C2, Bk (w.setCells b o vs) b t C2 ∧ C2.size = C.size ∧ ∀ j, C2[j]? = if o ≤ j ∧ j < o + vs.length ∧ j < C.size then vs[j - o]? else C[j]?
  | [], o, w, C, h => ⟨C, h, rfl, fun j => by rw [if_neg (by simp; omega)]⟩
  | v :: r, o, w, C, h => by
    obtain ⟨C2, h1, h2, h3⟩ := Bk.setCells r (o + 1) _ _ (h.set o v)
    refine ⟨C2, h1, by simpa using h2, fun j => ?_⟩
    rw [h3 j]
    simp only [Array.size_setIfInBounds, List.length_cons]
    by_cases hj : j = o
    · subst hj
      rw [if_neg (by omega)]
      by_cases hc : j < C.size
      · rw [if_pos (by omega)]; simp [hc]
      · rw [if_neg (by omega)]; simp [hc]
    · by_cases hc : o + 1 ≤ j ∧ j < o + 1 + r.length ∧ j < C.size
      · rw [if_pos hc, if_pos (by omega), show j - o = (j - (o + 1)) + 1 by omega]; rfl
      · rw [if_neg hc, if_neg (by omega), Array.getElem?_setIfInBounds_ne (by omega)]
/-- all but one block is as it was -/
structure Far (w w' : World) (b : Nat) : Prop where
  size : w'.heap.size = w.heap.size
  blk : ∀ g, g ≠ b → w'.heap[g]? = w.heap[g]?
  bel : ∀ B a, B ≤ b → Below B a w → Below B a w'
theorem lies_at {w : World} {g : Nat} {cs : List Value} (h : ∀ j u, cs[j]? = some u → w.cell? ⟨g, j, none⟩ = some u) (hne : cs ≠ []) : Lies w w.heap.size (some ⟨g, 0, none⟩) cs := by
  obtain ⟨u, hu⟩ : ∃ u, cs[0]? = some u := by
    cases cs with
    | nil => exact absurd rfl hne
    | cons x r => exact ⟨x, rfl⟩
  exact Lies.lit h (block_lt_of_cell (h 0 u hu))

set_option maxHeartbeats 400000 in
theorem insert_any (l : List Int) (i : Nat) (x : Int) (v : Value) (base vb : Nat) (w : World) (ho : w.ownsRow base 3 1 v l.length (ints l)) (hb : Bk w vb 3 #[.int .i64 x]) (hne : vb < base ∨ some vb ≠ v.ownBlock) (hi : i ≤ l.length) (hm : l.length ≤ 1000) (hbase : base ≤ w.heap.size) :
    Calls Try.prog 77 #[v, .int .i64 i, .slice (some ⟨vb, 0, none⟩) 1 1] w (InsEnd (insL l i x) base w) := by
  have hll : (ints l).length = l.length := ints_len l
  have hvs : ∀ j u, ([Value.int .i64 x])[j]? = some u → w.cell? ⟨vb, 0 + j, none⟩ = some u := fun j u hu => by rw [Nat.zero_add]; exact hb.cell j (by simpa using hu)
  have h1v : ∀ u ∈ ([Value.int .i64 x]), u.oneCell' = true := fun u hu => by simp at hu; subst hu; rfl
  have h1c : ∀ u ∈ ints l, u.oneCell' = true := fun u hu => by unfold ints at hu; obtain ⟨k, _, rfl⟩ := List.mem_map.1 hu; rfl
  have hlen := insL_len l i x hi
  have hne' : ints (insL l i x) ≠ [] := fun e => by have := congrArg List.length e; rw [ints_len, hlen] at this; simp at this
  rcases ho.2 with ⟨rfl, hn⟩ | ⟨g, cap, cur, rfl, hg, hcur, hnc, hcm, hsz, htake⟩
  · have hl0 : l = [] := List.length_eq_zero_iff.1 hn
    subst hl0
    obtain rfl : i = 0 := by simpa using hi
    refine (Any2.slices_Insert_int_end_grow (P := Try.prog) Lay21 none 0 0 vb 0 1 1 [] [.int .i64 x] w (by omega) (by omega) (by omega) (by omega) rfl rfl (fun _ => rfl) (fun a ha => by cases ha) hvs h1v).mono ?_
    rintro e w' ⟨rfl, rfl⟩
    refine ⟨w.heap.size, _, _, rfl, ?_, hbase, heap_alloc_new w.drew _, grownCap_ge w 1 0 3, by exact (by repeat (first | with_reducible exact Below.refl _ _ | with_reducible assumption | with_reducible refine Below.drew ?_ | with_reducible refine below_drewN ?_ _ | (with_reducible refine Below.alloc ?_ ?_ _; rotate_left; (try simp) <;> omega) | (with_reducible refine Below.setCell ?_ ?_ _; rotate_left; (try simp) <;> omega)))⟩
    refine lies_at (fun j u hu => ?_) hne'
    rw [ints_insL] at hu
    have hj : j = 0 ∧ u = .int .i64 x := by
      cases j with
      | zero => simp [ints] at hu; exact ⟨rfl, hu.symm⟩
      | succ j => simp [ints] at hu
    obtain ⟨rfl, rfl⟩ := hj
    rw [cell_of_row _ w.heap.size 0 _ (Lay21_ren.t 3) (0, 0) (heap_alloc_new w.drew _), Array.getElem?_append_left (by simp)]
    simp
  · have hcell : ∀ j u, (ints l)[j]? = some u → w.cell? ⟨g, j, none⟩ = some u := fun j u hu => by
      rw [cell_of_row w g j cur 3 (0, 0) hcur, ← Array.getElem?_toList]
      rw [← htake, List.getElem?_take] at hu
      split at hu
      · exact hu
      · cases hu
    have hsome : ∀ j, j < cap → (w.cell? ⟨g, j, none⟩).isSome = true := fun j hj => by
      rw [cell_of_row w g j cur 3 (0, 0) hcur]
      simp; omega
    have hgl : g < w.heap.size := (Array.getElem?_eq_some_iff.1 hcur).1
    have hvg : vb ≠ g := by
      rcases hne with h | h
      · omega
      · intro e; subst e; exact h rfl
    by_cases hroom : l.length + 1 ≤ cap
    · by_cases hlt : i < l.length
      · have hfr : ∀ o, w.frozen? ⟨g, o, none⟩ = false := fun o => by simp [World.frozen?, hcur]
        refine (Any2.slices_Insert_int_shift (P := Try.prog) Lay21 g 0 l.length cap i vb 0 1 1 (ints l) [.int .i64 x] w hlt (by omega) hroom (by unfold maxLen at hcm; omega) hvg hll rfl (fun j u hu => by rw [Nat.zero_add]; exact hcell j u hu) (fun j hj => by rw [Nat.zero_add]; exact hsome j (by omega)) (fun j _ => hfr _) hvs h1c h1v 3 3 1 cur.size (by simp [World.shape?, show w.heap[vb]? = some (.cells #[.int .i64 x] 3 (0, 0)) from hb]) (by simp [World.shape?, hcur]) (by omega) (hb.fro 0) (hb.fro 1)).mono ?_
        rintro e w' ⟨rfl, rfl⟩
        rw [Nat.zero_add, Nat.zero_add]
        obtain ⟨R1, hR1, _, _⟩ := Bk.setCells ((ints l).drop i) (i + 1) w.drew cur hcur
        obtain ⟨R2, hR2, _, _⟩ := Bk.setCells [.int .i64 x] i _ R1 hR1
        refine ⟨g, _, _, by rw [hlen], ?_, hg, hR2, by omega, ?_⟩
        · rw [ints_insL] at hne' ⊢
          exact lies_at (ins_cells1 (W := w.drew) (by omega) (fun j hj => by simpa using hsome j (by omega)) (fun j u _ hu => by simpa using hcell j u hu)) hne'
        · exact below_setCells hg _ _ _ (below_setCells hg _ _ _ (by exact (by repeat (first | with_reducible exact Below.refl _ _ | with_reducible assumption | with_reducible refine Below.drew ?_ | with_reducible refine below_drewN ?_ _ | (with_reducible refine Below.alloc ?_ ?_ _; rotate_left; (try simp) <;> omega) | (with_reducible refine Below.setCell ?_ ?_ _; rotate_left; (try simp) <;> omega)))))
      · obtain rfl : i = l.length := by omega
        refine (Any2.slices_Insert_int_end_room (P := Try.prog) Lay21 g 0 l.length cap vb 0 1 1 [.int .i64 x] w (by omega) hroom (by unfold maxLen at hcm; omega) rfl (fun j hj => by rw [Nat.zero_add]; exact hsome _ (by omega)) (fun j _ => by simp [World.frozen?, hcur]) hvs h1v).mono ?_
        rintro e w' ⟨rfl, rfl⟩
        rw [Nat.zero_add]
        obtain ⟨R2, hR2, _, _⟩ := Bk.setCells [.int .i64 x] l.length w cur hcur
        refine ⟨g, _, _, by rw [hlen], ?_, hg, hR2, by omega, below_setCells hg _ _ _ (Below.refl _ _)⟩
        rw [ints_insL] at hne' ⊢
        have := ins_cells1 (W := w) (g := g) (i := l.length) (cs := ints l) (x := .int .i64 x) (by omega) (fun j hj => hsome j (by omega)) (fun j u _ hu => hcell j u hu)
        rw [List.drop_of_length_le (by omega)] at this hne' ⊢
        exact lies_at this hne'
    · by_cases hlt : i < l.length
      · refine (Any2.slices_Insert_int_grow (P := Try.prog) Lay21 g 0 l.length cap i vb 0 1 1 (ints l) [.int .i64 x] w hlt (by omega) hnc (by omega) (by omega) hll rfl (fun j u hu => by rw [Nat.zero_add]; exact hcell j u hu) hvs h1c h1v).mono ?_
        have hcap := grownCap_ge w (l.length + 1) cap 3
        rintro e w' ⟨rfl, rfl⟩
        have hk0 : Bk (w.alloc (.cells (((ints l).take i).toArray ++ Builtin.zeroCells (Value.int .i64 0).cells (l.length + 1 - i) ++ Builtin.zeroCells (Value.int .i64 0).cells (grownCap w (l.length + 1) cap 3 - (l.length + 1))) 3)).drew w.heap.size 3 _ := heap_alloc_new w _
        obtain ⟨R1, hR1, _, _⟩ := Bk.setCells [.int .i64 x] i _ _ hk0
        obtain ⟨R2, hR2, _, _⟩ := Bk.setCells ((ints l).drop i) (i + 1) (World.setCells _ w.heap.size i [.int .i64 x]).drew R1 hR1
        refine ⟨w.heap.size, _, R2, by rw [hlen], ?_, hbase, hR2, by rw [hlen]; exact hcap, ?_⟩
        · rw [ints_insL] at hne' ⊢
          have hcs : ∀ j, (w.alloc (.cells (((ints l).take i).toArray ++ Builtin.zeroCells (Value.int .i64 0).cells (l.length + 1 - i) ++ Builtin.zeroCells (Value.int .i64 0).cells (grownCap w (l.length + 1) cap 3 - (l.length + 1))) 3)).cell? ⟨w.heap.size, j, none⟩ = (((ints l).take i).toArray ++ Builtin.zeroCells (Value.int .i64 0).cells (l.length + 1 - i) ++ Builtin.zeroCells (Value.int .i64 0).cells (grownCap w (l.length + 1) cap 3 - (l.length + 1)))[j]? := fun j => cell_of_row _ _ j _ 3 (0, 0) (heap_alloc_new w _)
          rw [drew_setCells]
          refine lies_at (ins_cells2 (W := (w.alloc (.cells (((ints l).take i).toArray ++ Builtin.zeroCells (Value.int .i64 0).cells (l.length + 1 - i) ++ Builtin.zeroCells (Value.int .i64 0).cells (grownCap w (l.length + 1) cap 3 - (l.length + 1))) 3)).drew.drew) (g := w.heap.size) (i := i) (cs := ints l) (x := .int .i64 x) (by omega) (fun j hj => ?_) (fun j u hj hu => ?_)) hne'
          · rw [World.cell?_drew, World.cell?_drew, hcs]
            have : j < (((ints l).take i).toArray ++ Builtin.zeroCells (Value.int .i64 0).cells (l.length + 1 - i) ++ Builtin.zeroCells (Value.int .i64 0).cells (grownCap w (l.length + 1) cap 3 - (l.length + 1))).size := by
              simp [Builtin.zeroCells, Value.cells]; omega
            rw [Array.getElem?_eq_getElem this]; rfl
          · rw [World.cell?_drew, World.cell?_drew, hcs, Array.getElem?_append_left (by simp [Builtin.zeroCells, Value.cells]; omega), Array.getElem?_append_left (by simp; omega)]
            simp only [List.getElem?_toArray, List.getElem?_take, hj, if_true]
            exact hu
        · exact below_setCells hbase _ _ _ ((below_setCells hbase _ _ _ (((Below.refl _ _).alloc hbase _).drew)).drew)
      · obtain rfl : i = l.length := by omega
        refine (Any2.slices_Insert_int_end_grow (P := Try.prog) Lay21 (some ⟨g, 0, none⟩) l.length cap vb 0 1 1 (ints l) [.int .i64 x] w (by omega) hnc (by omega) (by omega) hll rfl (fun e => by cases e) (fun a ha j u hu => ?_) hvs h1v).mono ?_
        · cases ha
          rw [show (⟨g, 0, none⟩ : Addr).add j = ⟨g, j, none⟩ by unfold Addr.add; split <;> simp_all]
          exact hcell j u hu
        rintro e w' ⟨rfl, rfl⟩
        refine ⟨w.heap.size, _, _, by rw [hlen], ?_, hbase, heap_alloc_new w.drew _, by rw [hlen]; exact grownCap_ge w (l.length + 1) cap 3, ((Below.refl _ _).drew).alloc hbase _⟩
        rw [ints_insL] at hne' ⊢
        rw [List.take_of_length_le (by omega), List.drop_of_length_le (by omega)] at hne' ⊢
        refine lies_at (fun j u hu => ?_) hne'
        rw [cell_of_row _ w.heap.size j _ (Lay21_ren.t 3) (0, 0) (heap_alloc_new w.drew _)]
        have hj := (List.getElem?_eq_some_iff.1 hu).1
        rw [Array.getElem?_append_left (by simpa using hj)]
        simpa using hu
end Go.Proofs.Ytjgnikmnadmheaa

namespace Go.Proofs.Ytjgnikmnadmheaa
open Go.RowKit Go.Shelf Go.Lib

theorem info87 : (Try.prog.info? 87).map (fun i => (i.zero, i.size, i.bytes)) = some (some (.agg #[.int .i64 0, .int .i64 0, .int .i64 0]), 3, 24) := by kernel_rfl
theorem info78 : (Try.prog.info? 78).map (fun i => (i.zero, i.size, i.bytes)) = some (some (.agg #[.string ByteArray.empty, .int .i64 0, .int .i64 0, .int .i64 0]), 4, 40) := by kernel_rfl
/-- a row that a call made -/
def RowEnd (E s n : Nat) (cs : List Value) (w : World) (e : Ending) (w' : World) : Prop := ∃ v : Value, e = .returned v ∧ w'.ownsRow w.heap.size E s v n cs ∧ Below w.heap.size w w'
theorem one_ints (l : List Int) : ∀ u ∈ ints l, u.oneCell' = true := fun u hu => by unfold ints at hu; obtain ⟨k, _, rfl⟩ := List.mem_map.1 hu; rfl
theorem one_pits (l : List Pit) : ∀ u ∈ pitsC l, u.oneCell' = true := fun u hu => by
  unfold pitsC at hu; obtain ⟨p, _, hp⟩ := List.mem_flatMap.1 hu
  simp at hp; rcases hp with rfl | rfl | rfl <;> rfl
theorem one_mass (l : List Mas) : ∀ u ∈ massC l, u.oneCell' = true := fun u hu => by
  unfold massC at hu; obtain ⟨p, _, hp⟩ := List.mem_flatMap.1 hu
  simp at hp; rcases hp with rfl | rfl | rfl | rfl <;> rfl
theorem pits_len (l : List Pit) : (pitsC l).length = l.length * 3 := flat_length Pit.cells 3 (fun _ => rfl) l
theorem mass_len (l : List Mas) : (massC l).length = l.length * 4 := flat_length Mas.cells 4 (fun _ => rfl) l

set_option maxHeartbeats 400000 in
theorem clone_ints (l : List Int) (A : Option Addr) (c : Nat) (w : World) (hl : Lies w w.heap.size A (ints l)) (hm : l.length ≤ 1000) : Calls Try.prog 78 #[.slice A l.length c] w (RowEnd 3 1 l.length (ints l) w) := by
  have hln : (ints l).length = l.length * 1 := by rw [ints_len]; omega
  have q22 : ∀ (w : World) (a : Option Addr) (n c n' c' : Nat), (binOp .eql 25 (.slice a n c) (.slice none n' c')).run Try.prog w = .ok (.bool a.isNone) w := fun w a n c n' c' => Lib.run_eql_slice_nil w _ _ a n c n' c' Try.underlying25
  have u22 : ∀ w, Sem.run Try.prog (underlying 25) w = .ok (TypeDesc.slice 3) w := run_underlying Try.underlying25
  obtain ⟨i0, hi, hz0, hz1, hz2⟩ := info_parts info3
  have I := Lib.hid (And.intro hi (And.intro hz0 (And.intro hz1 hz2))); clear hi hz0 hz1 hz2
  cases A with
  | none =>
    have h0 : l = [] := Classical.byContradiction fun hne => by
      have : ints l ≠ [] := fun e => by rw [e] at hln; simp at hln; exact hne (List.length_eq_zero_iff.1 (by omega))
      obtain ⟨ad, e, _⟩ := hl this
      cases e
    subst h0
    clear hl hln
    go_enter Try.func78, Try.ntmps78
    go_wp2
    go_ret
    exact ⟨_, rfl, World.ownsRow_nil _ _ _ _, Below.refl _ _⟩
  | some ad =>
    have hcell : Hid (∀ j u, (ints l)[j]? = some u → w.cell? (ad.add j) = some u) := fun j u hu => by
      obtain ⟨ad2, e, _, hc⟩ := hl (by intro e; rw [e] at hu; simp at hu)
      cases e
      exact hc j u hu
    have HL := Lib.hid hln
    clear hl hln
    go_enter Try.func78, Try.ntmps78
    go_wp2_with (at_builtin; refine wpList_append_own _ rfl _ _ 25 rfl w.heap.size 3 i0 (.int .i64 0) 1 8 Try.underlying25 I.out.1 I.out.2.1 I.out.2.2.1 I.out.2.2.2 rfl (by decide) _ _ _ rfl (World.ownsRow_made w #[] 0 (Nat.le_refl _) (Nat.zero_le _) rfl) ad l.length c (ints l) rfl ?qc1 ?qc2 ?qc3 ?qc4 ?qc5 ?qc6 ?_)
    case qc1 => exact HL.out
    case qc2 => exact fun j u hj => Lib.cell?_alloc_some _ (hcell.out j u hj)
    case qc3 => exact one_ints l
    case qc4 => unfold maxLen; omega
    case qc5 => omega
    case qc6 => simp
    intro v' w1 hown hgrow hnil
    go_wp2
    go_ret
    exact ⟨v', rfl, by simpa using hown, ((Below.refl _ w).alloc (Nat.le_refl _) _).grown hgrow (by simp) (by intro k hk; simp [Value.ownBlock] at hk; omega)⟩

set_option maxHeartbeats 400000 in
theorem clone_pits (l : List Pit) (A : Option Addr) (c : Nat) (w : World) (hl : Lies w w.heap.size A (pitsC l)) (hm : l.length ≤ 1000) : Calls Try.prog 79 #[.slice A l.length c] w (RowEnd 87 3 l.length (pitsC l) w) := by
  have hln : (pitsC l).length = l.length * 3 := pits_len l
  have q22 : ∀ (w : World) (a : Option Addr) (n c n' c' : Nat), (binOp .eql 26 (.slice a n c) (.slice none n' c')).run Try.prog w = .ok (.bool a.isNone) w := fun w a n c n' c' => Lib.run_eql_slice_nil w _ _ a n c n' c' Try.underlying26
  have u22 : ∀ w, Sem.run Try.prog (underlying 26) w = .ok (TypeDesc.slice 87) w := run_underlying Try.underlying26
  obtain ⟨i0, hi, hz0, hz1, hz2⟩ := info_parts info87
  have I := Lib.hid (And.intro hi (And.intro hz0 (And.intro hz1 hz2))); clear hi hz0 hz1 hz2
  cases A with
  | none =>
    have h0 : l = [] := Classical.byContradiction fun hne => by
      have : pitsC l ≠ [] := fun e => by rw [e] at hln; simp at hln; exact hne (List.length_eq_zero_iff.1 (by omega))
      obtain ⟨ad, e, _⟩ := hl this
      cases e
    subst h0
    clear hl hln
    go_enter Try.func79, Try.ntmps79
    go_wp2
    go_ret
    exact ⟨_, rfl, World.ownsRow_nil _ _ _ _, Below.refl _ _⟩
  | some ad =>
    have hcell : Hid (∀ j u, (pitsC l)[j]? = some u → w.cell? (ad.add j) = some u) := fun j u hu => by
      obtain ⟨ad2, e, _, hc⟩ := hl (by intro e; rw [e] at hu; simp at hu)
      cases e
      exact hc j u hu
    have HL := Lib.hid hln
    clear hl hln
    go_enter Try.func79, Try.ntmps79
    go_wp2_with (at_builtin; refine wpList_append_own _ rfl _ _ 26 rfl w.heap.size 87 i0 (.agg #[.int .i64 0, .int .i64 0, .int .i64 0]) 3 24 Try.underlying26 I.out.1 I.out.2.1 I.out.2.2.1 I.out.2.2.2 rfl (by decide) _ _ _ rfl (World.ownsRow_made w #[] 0 (Nat.le_refl _) (Nat.zero_le _) rfl) ad l.length c (pitsC l) rfl ?qc1 ?qc2 ?qc3 ?qc4 ?qc5 ?qc6 ?_)
    case qc1 => exact HL.out
    case qc2 => exact fun j u hj => Lib.cell?_alloc_some _ (hcell.out j u hj)
    case qc3 => exact one_pits l
    case qc4 => unfold maxLen; omega
    case qc5 => omega
    case qc6 => simp
    intro v' w1 hown hgrow hnil
    go_wp2
    go_ret
    exact ⟨v', rfl, by simpa using hown, ((Below.refl _ w).alloc (Nat.le_refl _) _).grown hgrow (by simp) (by intro k hk; simp [Value.ownBlock] at hk; omega)⟩

set_option maxHeartbeats 400000 in
theorem clone_mass (l : List Mas) (A : Option Addr) (c : Nat) (w : World) (hl : Lies w w.heap.size A (massC l)) (hm : l.length ≤ 1000) : Calls Try.prog 80 #[.slice A l.length c] w (RowEnd 78 4 l.length (massC l) w) := by
  have hln : (massC l).length = l.length * 4 := mass_len l
  have q22 : ∀ (w : World) (a : Option Addr) (n c n' c' : Nat), (binOp .eql 27 (.slice a n c) (.slice none n' c')).run Try.prog w = .ok (.bool a.isNone) w := fun w a n c n' c' => Lib.run_eql_slice_nil w _ _ a n c n' c' Try.underlying27
  have u22 : ∀ w, Sem.run Try.prog (underlying 27) w = .ok (TypeDesc.slice 78) w := run_underlying Try.underlying27
  obtain ⟨i0, hi, hz0, hz1, hz2⟩ := info_parts info78
  have I := Lib.hid (And.intro hi (And.intro hz0 (And.intro hz1 hz2))); clear hi hz0 hz1 hz2
  cases A with
  | none =>
    have h0 : l = [] := Classical.byContradiction fun hne => by
      have : massC l ≠ [] := fun e => by rw [e] at hln; simp at hln; exact hne (List.length_eq_zero_iff.1 (by omega))
      obtain ⟨ad, e, _⟩ := hl this
      cases e
    subst h0
    clear hl hln
    go_enter Try.func80, Try.ntmps80
    go_wp2
    go_ret
    exact ⟨_, rfl, World.ownsRow_nil _ _ _ _, Below.refl _ _⟩
  | some ad =>
    have hcell : Hid (∀ j u, (massC l)[j]? = some u → w.cell? (ad.add j) = some u) := fun j u hu => by
      obtain ⟨ad2, e, _, hc⟩ := hl (by intro e; rw [e] at hu; simp at hu)
      cases e
      exact hc j u hu
    have HL := Lib.hid hln
    clear hl hln
    go_enter Try.func80, Try.ntmps80
    go_wp2_with (at_builtin; refine wpList_append_own _ rfl _ _ 27 rfl w.heap.size 78 i0 (.agg #[.string ByteArray.empty, .int .i64 0, .int .i64 0, .int .i64 0]) 4 40 Try.underlying27 I.out.1 I.out.2.1 I.out.2.2.1 I.out.2.2.2 rfl (by decide) _ _ _ rfl (World.ownsRow_made w #[] 0 (Nat.le_refl _) (Nat.zero_le _) rfl) ad l.length c (massC l) rfl ?qc1 ?qc2 ?qc3 ?qc4 ?qc5 ?qc6 ?_)
    case qc1 => exact HL.out
    case qc2 => exact fun j u hj => Lib.cell?_alloc_some _ (hcell.out j u hj)
    case qc3 => exact one_mass l
    case qc4 => unfold maxLen; omega
    case qc5 => omega
    case qc6 => simp
    intro v' w1 hown hgrow hnil
    go_wp2
    go_ret
    exact ⟨v', rfl, by simpa using hown, ((Below.refl _ w).alloc (Nat.le_refl _) _).grown hgrow (by simp) (by intro k hk; simp [Value.ownBlock] at hk; omega)⟩

end Go.Proofs.Ytjgnikmnadmheaa
