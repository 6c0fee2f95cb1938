/- Bounds: the program's and the reference's. -/
import Derived.Test.YtjgnikmnadmheaaG02
import Derived.Test.YtjgnikmnadmheaaG08
import Derived.Test.YtjgnikmnadmheaaG13
import Derived.Test.YtjgnikmnadmheaaG14

namespace Go.Proofs.Ytjgnikmnadmheaa
open Go.RowKit

theorem usualU_len (Y : Yd) (l : List Tk) (days : List Int) : ∀ (m : Nat) (ts : List Tu), (usualU Y l days m ts).length = ts.length + m
  | 0, ts => rfl
  | m + 1, ts => by
    have := usualU_len Y l days m (ts ++ [usualT Y l days ts])
    simp at this
    show (usualU Y l days m (ts ++ [usualT Y l days ts])).length = _
    omega
theorem usual_len (Y : Yd) (l : List Tk) (ts : List Tu) (days : List Int) (h : ts.length ≤ days.length) : (usual Y l ts days).length = days.length := by
  unfold usual; rw [usualU_len]; omega
theorem earP_len (Y : Yd) (l : List Tk) (f : Int) : (earP Y l f).length ≤ 12 := by
  by_cases h : begE Y l f = 0
  · cases he : earD Y l f with
    | none => rw [(earP_none h he).1]; simp
    | some ds =>
      rw [(earP_some h he).1, usual_len _ _ _ _ (Nat.zero_le _), earD_len he]
      exact (begE_ok h).2.1.n
  · rw [(earP_bad h).1]; simp
/-- the end of a function that returns numbers and an error -/
def DaysE (l : List Int) (n : Int) (w : World) (e : Ending) (w' : World) : Prop := ∃ v : Value, e = .returned (.tuple #[v, .int .i64 n]) ∧ w'.ownsRow w.heap.size 3 1 v l.length (ints l) ∧ Below w.heap.size w w'

set_option maxRecDepth 100000 in
set_option maxHeartbeats 1000000 in
theorem bounds_any (C : Array Value) (Y : Yd) (l : List Tk) (A : Option Addr) (c : Nat) (f : Int) (w : World) (hY : YardAt w w.heap.size C Y) (hs : Small Y) (hT : TasksAt w w.heap.size A l) (ht : tame l) :
    Calls Try.prog 31 #[.agg C, .slice A l.length c, .int .i64 f] w (DaysE ((earP Y l f).map Tu.day) (earE Y l f) w) := by
  have HBE := Lib.hid (fun W (hb : Below w.heap.size w W) => earliest_any C Y l A c f W ((hY.below hb (Nat.le_refl _)).more hb.size) hs ((hT.below hb (Nat.le_refl _)).more hb.size) ht)
  have HC28 := Lib.hid hY.len
  have b3 : Bk (w.alloc (.cells C 29)) w.heap.size 29 C := Bk.new _ _ _
  have hb0 : Below w.heap.size w (w.alloc (.cells C 29)) := by exact (by repeat (first | with_reducible exact Below.refl _ _ | with_reducible assumption | with_reducible refine Below.drew ?_ | with_reducible refine below_drewN ?_ _ | (with_reducible refine Below.alloc ?_ ?_ _; rotate_left; (try simp) <;> omega) | (with_reducible refine Below.setCell ?_ ?_ _; rotate_left; (try simp) <;> omega)))
  have HR0 := Lib.hid b3.range
  have HPL := Lib.hid (earP_len Y l f)
  generalize earP Y l f = U at *
  generalize earE Y l f = N at *
  have hul := HPL.out
  clear hY hT ht hs
  go_enter Try.func31, Try.ntmps31
  go_wp2_with (first | (refine wpList_load_guard (P := Try.prog) (by rfl) 29 (.tmp 3) rfl w.heap.size 0 rfl C.toList _ HR0.out Try.underlying29 rfl (by rw [HC28.out]; exact info29) ?_) | (go_at_call 24; refine (HBE.out _ hb0).mono ?_; rintro e w1 ⟨v1, rfl, ho1, hb1⟩; obtain ⟨A1, c1, rfl, _, _⟩ := ownsSlice ho1; have hB1 : Below w.heap.size w w1 := hb0.trans (hb1.mono hb0.size); have hl1 := ownsRow_lies ho1; clear hb1 ho1) | (go_at_call 86; refine (daysOf_any U A1 c1 _ ((hl1.below (by exact (by repeat (first | with_reducible exact Below.refl _ _ | with_reducible assumption | with_reducible refine Below.drew ?_ | with_reducible refine below_drewN ?_ _ | (with_reducible refine Below.alloc ?_ ?_ _; rotate_left; (try simp) <;> omega) | (with_reducible refine Below.setCell ?_ ?_ _; rotate_left; (try simp) <;> omega))) : Below w1.heap.size w1 (w1.alloc (.cells #[.slice A1 U.length c1] 42))) (Nat.le_refl _)).more (by simp)) (by omega)).mono ?_; rintro e w2 ⟨v2, rfl, ho2, hb2⟩; have hz1 := hB1.size; have hB2 : Below w.heap.size w w2 := (by exact (by repeat (first | with_reducible exact Below.refl _ _ | with_reducible assumption | with_reducible refine Below.drew ?_ | with_reducible refine below_drewN ?_ _ | (with_reducible refine Below.alloc ?_ ?_ _; rotate_left; (try simp) <;> omega) | (with_reducible refine Below.setCell ?_ ?_ _; rotate_left; (try simp) <;> omega))) : Below w.heap.size w (w1.alloc (.cells #[.slice A1 U.length c1] 42))).trans (hb2.mono (by simp; omega)); have ho3 := ownsRow_base ho2 (by simp; omega : w.heap.size ≤ (w1.alloc (.cells #[.slice A1 U.length c1] 42)).heap.size); clear hb2 ho2))
  go_ret2
  exact ⟨_, rfl, ho3, hB2⟩

set_option maxRecDepth 100000 in
set_option maxHeartbeats 1000000 in
theorem rbounds_any (C : Array Value) (Y : Yd) (l : List Tk) (A : Option Addr) (c : Nat) (f : Int) (w : World) (hY : YardAt w w.heap.size C Y) (hs : Small Y) (hT : TasksAt w w.heap.size A l) (ht : tame l) :
    Calls Try.prog 32 #[.agg C, .slice A l.length c, .int .i64 f] w (DaysE ((earP Y l f).map Tu.day) (earE Y l f) w) := by
  have HBE := Lib.hid (fun W (hb : Below w.heap.size w W) => rearliest_any C Y l A c f W ((hY.below hb (Nat.le_refl _)).more hb.size) hs ((hT.below hb (Nat.le_refl _)).more hb.size) ht)
  have HC28 := Lib.hid hY.len
  have b3 : Bk (w.alloc (.cells C 29)) w.heap.size 29 C := Bk.new _ _ _
  have hb0 : Below w.heap.size w (w.alloc (.cells C 29)) := by exact (by repeat (first | with_reducible exact Below.refl _ _ | with_reducible assumption | with_reducible refine Below.drew ?_ | with_reducible refine below_drewN ?_ _ | (with_reducible refine Below.alloc ?_ ?_ _; rotate_left; (try simp) <;> omega) | (with_reducible refine Below.setCell ?_ ?_ _; rotate_left; (try simp) <;> omega)))
  have HR0 := Lib.hid b3.range
  have HPL := Lib.hid (earP_len Y l f)
  generalize earP Y l f = U at *
  generalize earE Y l f = N at *
  have hul := HPL.out
  clear hY hT ht hs
  go_enter Try.func32, Try.ntmps32
  go_wp2_with (first | (refine wpList_load_guard (P := Try.prog) (by rfl) 29 (.tmp 3) rfl w.heap.size 0 rfl C.toList _ HR0.out Try.underlying29 rfl (by rw [HC28.out]; exact info29) ?_) | (go_at_call 30; refine (HBE.out _ hb0).mono ?_; rintro e w1 ⟨v1, rfl, ho1, hb1⟩; obtain ⟨A1, c1, rfl, _, _⟩ := ownsSlice ho1; have hB1 : Below w.heap.size w w1 := hb0.trans (hb1.mono hb0.size); have hl1 := ownsRow_lies ho1; clear hb1 ho1) | (go_at_call 28; refine (dates_any U A1 c1 _ ((hl1.below (by exact (by repeat (first | with_reducible exact Below.refl _ _ | with_reducible assumption | with_reducible refine Below.drew ?_ | with_reducible refine below_drewN ?_ _ | (with_reducible refine Below.alloc ?_ ?_ _; rotate_left; (try simp) <;> omega) | (with_reducible refine Below.setCell ?_ ?_ _; rotate_left; (try simp) <;> omega))) : Below w1.heap.size w1 (w1.alloc (.cells #[.slice A1 U.length c1] 42))) (Nat.le_refl _)).more (by simp)) (by omega)).mono ?_; rintro e w2 ⟨v2, rfl, ho2, hb2⟩; have hz1 := hB1.size; have hB2 : Below w.heap.size w w2 := (by exact (by repeat (first | with_reducible exact Below.refl _ _ | with_reducible assumption | with_reducible refine Below.drew ?_ | with_reducible refine below_drewN ?_ _ | (with_reducible refine Below.alloc ?_ ?_ _; rotate_left; (try simp) <;> omega) | (with_reducible refine Below.setCell ?_ ?_ _; rotate_left; (try simp) <;> omega))) : Below w.heap.size w (w1.alloc (.cells #[.slice A1 U.length c1] 42))).trans (hb2.mono (by simp; omega)); have ho3 := ownsRow_base ho2 (by simp; omega : w.heap.size ≤ (w1.alloc (.cells #[.slice A1 U.length c1] 42)).heap.size); clear hb2 ho2))
  go_ret2
  exact ⟨_, rfl, ho3, hB2⟩
end Go.Proofs.Ytjgnikmnadmheaa

namespace Go.Proofs.Ytjgnikmnadmheaa
open Go.RowKit
attribute [local go_sem] Oper.semAt_some

theorem Marks.grown {B : Nat} {Ds : List Nat} {w w' : World} {row : Option Nat} (h : Marks B Ds w) (hg : w.grownBy w' row) (hr : ∀ r, row = some r → r ∉ Ds) : Marks B Ds w' :=
  ⟨h.nodup, fun D hD => ⟨(h.at_ D hD).1, (hg.block D (h.lt hD) (fun e => hr D e.symm hD)).trans (h.at_ D hD).2⟩⟩
theorem Marks.below_ {B : Nat} {Ds : List Nat} {w w' : World} (h : Marks B Ds w) (hb : Below w.heap.size w w') : Marks B Ds w' :=
  h.grown (grown_below hb) (fun r e => by cases e)
theorem Marks.own {B : Nat} {Ds : List Nat} {w w' : World} {base size n : Nat} {e : TypeId} {v : Value} {xs : List Value} (h : Marks B Ds w) (ho : w.ownsRow base e size v n xs) (hg : w.grownBy w' v.ownBlock) : Marks B Ds w' :=
  h.grown hg (fun r hr hm => by
    rcases ho.2 with ⟨rfl, _⟩ | ⟨g', cap, cur, rfl, _, hc, _⟩
    · simp [Value.ownBlock] at hr
    · simp [Value.ownBlock] at hr
      subst hr
      have := (h.at_ _ hm).2
      rw [hc] at this; cases this)
/-- a bound as it is looked at -/
def capB (f b : Int) : Int := max (min b (f + 400)) (-401)
def bndOK (Y : Yd) (l : List Tk) (f : Int) (bs : List Int) (i : Nat) : Bool := match l[i]?, bs[i]? with
  | some t, some b => (suitK Y t i (lowS Y.dry f t.af ((bs.take i).map (capB f))) (min b (f + 400) - lowS Y.dry f t.af ((bs.take i).map (capB f))).toNat).isEmpty
  | _, _ => false
theorem bndOK_at {Y : Yd} {l : List Tk} {f : Int} {bs : List Int} {i : Nat} (h : i < l.length) (hb : i < bs.length) : bndOK Y l f bs i = (suitK Y l[i] i (lowS Y.dry f l[i].af ((bs.take i).map (capB f))) (min bs[i] (f + 400) - lowS Y.dry f l[i].af ((bs.take i).map (capB f))).toNat).isEmpty := by
  unfold bndOK; rw [List.getElem?_eq_getElem h, List.getElem?_eq_getElem hb]
def bndsOK (Y : Yd) (l : List Tk) (f : Int) (bs : List Int) : Bool := decide (bs.length = l.length) && (List.range l.length).all (bndOK Y l f bs)
theorem bndsOK_len {Y : Yd} {l : List Tk} {f : Int} {bs : List Int} (h : bs.length ≠ l.length) : bndsOK Y l f bs = false := by unfold bndsOK; rw [decide_eq_false h]; rfl
theorem bndsOK_yes {Y : Yd} {l : List Tk} {f : Int} {bs : List Int} (h : bs.length = l.length) (ha : ∀ i, i < l.length → bndOK Y l f bs i = true) : bndsOK Y l f bs = true := by
  unfold bndsOK
  rw [decide_eq_true h, Bool.true_and, List.all_eq_true]
  intro i hi
  exact ha i (by simpa using hi)
theorem bndsOK_no {Y : Yd} {l : List Tk} {f : Int} {bs : List Int} {i : Nat} (hi : i < l.length) (ha : bndOK Y l f bs i = false) : bndsOK Y l f bs = false := by
  unfold bndsOK
  cases h : (List.range l.length).all (bndOK Y l f bs) with
  | false => simp
  | true => rw [List.all_eq_true] at h; rw [h i (by simpa using hi)] at ha; cases ha
theorem capB_bd {f : Int} (hf : 0 ≤ f ∧ f ≤ 100000) (b : Int) : -401 ≤ capB f b ∧ capB f b ≤ 100400 := by unfold capB; omega

set_option maxRecDepth 100000 in
set_option maxHeartbeats 1000000 in
theorem checkBounds_any (C : Array Value) (Y : Yd) (l : List Tk) (A : Option Addr) (c : Nat) (f : Int) (bs : List Int) (D : Option Addr) (cd : Nat) (w : World) (hY : YardAt w w.heap.size C Y) (hs : Small Y) (hT : TasksAt w w.heap.size A l) (ht : tame l)
    (hP : Lies w w.heap.size D (ints bs)) (hn : bs.length ≤ 1000) (hbi : ∀ x ∈ bs, i64v x) :
    Calls Try.prog 42 #[.agg C, .slice A l.length c, .int .i64 f, .slice D bs.length cd] w (TwoEnd (decide (begE Y l f = 0) && bndsOK Y l f bs) (begE Y l f) w) := by
  have HBE := Lib.hid (fun W (hb : Below w.heap.size w W) => begun_any C Y l A c f W ((hY.below hb (Nat.le_refl _)).more hb.size) hs ((hT.below hb (Nat.le_refl _)).more hb.size) ht)
  have HYW := Lib.hid (fun W (hb : Below w.heap.size w W) => (hY.below hb (Nat.le_refl _)).more hb.size)
  have HTW := Lib.hid (fun W (hb : Below w.heap.size w W) => (hT.below hb (Nat.le_refl _)).more hb.size)
  have HPW := Lib.hid (fun W (hb : Below w.heap.size w W) => hP.below hb (Nat.le_refl _))
  have HC28 := Lib.hid hY.len
  have HTM := Lib.hid ht
  have HBI := Lib.hid hbi
  have b4 : Bk (((w.alloc (.cells C 29)).alloc (.cells #[.bool false] 4)).alloc (.cells #[.int .i64 0] 33)) w.heap.size 29 C := ((Bk.new _ _ _).alloc _).alloc _
  have b8 : Bk (((w.alloc (.cells C 29)).alloc (.cells #[.bool false] 4)).alloc (.cells #[.int .i64 0] 33)) (w.heap.size + 1) 4 #[.bool false] := by simpa using (Bk.new (w.alloc (.cells C 29)) 4 #[.bool false]).alloc (.cells #[.int .i64 0] 33)
  have b9 : Bk (((w.alloc (.cells C 29)).alloc (.cells #[.bool false] 4)).alloc (.cells #[.int .i64 0] 33)) (w.heap.size + 2) 33 #[.int .i64 0] := by simpa using Bk.new ((w.alloc (.cells C 29)).alloc (.cells #[.bool false] 4)) 33 #[.int .i64 0]
  have hb0 : Below w.heap.size w (((w.alloc (.cells C 29)).alloc (.cells #[.bool false] 4)).alloc (.cells #[.int .i64 0] 33)) := by exact (by repeat (first | with_reducible exact Below.refl _ _ | with_reducible assumption | with_reducible refine Below.drew ?_ | with_reducible refine below_drewN ?_ _ | (with_reducible refine Below.alloc ?_ ?_ _; rotate_left; (try simp) <;> omega) | (with_reducible refine Below.setCell ?_ ?_ _; rotate_left; (try simp) <;> omega)))
  have HR0 := Lib.hid b4.range
  obtain ⟨i0, hi0, hz0, hz1, hz2⟩ := info_parts info3
  have I3 := Lib.hid (And.intro hi0 (And.intro hz0 (And.intro hz1 hz2))); clear hi0 hz0 hz1 hz2
  clear hY hT hs ht hP hbi
  by_cases hb : begE Y l f = 0
  · obtain ⟨ho, hvt, hf⟩ := begE_ok hb
    rw [hb] at HBE ⊢
    have hbt : decide ((0 : Int) = 0) = true := rfl
    rw [hbt, Bool.true_and]
    have HVT := Lib.hid hvt
    have HO := Lib.hid ho
    have HF := Lib.hid hf
    have hl12 := hvt.n
    clear hb ho hvt hbt
    by_cases hlen : bs.length = l.length
    · have HPY := Lib.hid (bndsOK_yes (Y := Y) (f := f) hlen)
      have HPN := Lib.hid (fun i (hi : i < l.length) (h : bndOK Y l f bs i = false) => bndsOK_no (bs := bs) hi h)
      have HLN := Lib.hid hlen
      have hne : ((bs.length : Int) != (l.length : Int)) = false := by rw [hlen]; simp
      have hne2 : (bs.length != l.length) = false := by rw [hlen]; simp
      have HAT := Lib.hid (fun i (hi : i < l.length) (hi2 : i < bs.length) => bndOK_at (Y := Y) (f := f) hi hi2)
      have hltn : bs.length ≤ l.length := by omega
      have hltn2 : l.length ≤ bs.length := by omega
      clear hlen
      generalize bndsOK Y l f bs = R at *
      refine (callsIn_wide (n := 3)).1 ?_
      refine callsIn_of_wp_marks Try.func42 rfl trivial ?_ rfl
      simp only [Try.ntmps42, List.size_toArray, List.length_cons, List.length_nil, Nat.reduceAdd, Nat.reduceSub, Array.replicate_succ, Array.replicate_zero, List.push_toArray, List.append_toArray, List.nil_append, List.cons_append]
      refine wpIn_wide.2 ?_
      go_wp2_with (first | (refine wpList_load_guard (P := Try.prog) (by rfl) 29 (.tmp 4) rfl w.heap.size 0 rfl C.toList _ HR0.out Try.underlying29 rfl (by rw [HC28.out]; exact info29) ?_) | (go_at_call 82; refine (HBE.out _ hb0).mono ?_; rintro e w1 ⟨hb1, ⟨h0, _⟩ | ⟨_, bj, hbj, rfl, hj1⟩⟩; (exact absurd rfl h0); have hB1 : Below w.heap.size w w1 := hb0.trans (hb1.mono hb0.size); have k4 : Bk w1 w.heap.size 29 C := b4.below hb1 b4.lt; have k8 : Bk w1 (w.heap.size + 1) 4 #[.bool false] := b8.below hb1 b8.lt; have k9 : Bk w1 (w.heap.size + 2) 33 #[.int .i64 0] := b9.below hb1 b9.lt; have l9 := k9.lt; clear hb1))
      refine wp_loop (fun a' wr => ∃ (k : Nat) (A2 : Option Addr) (c2 : Nat) (Ds : List Nat) (u13 u14 u34 u35 u36 u37 u38 u39 u40 u41 u42 u43 u44 u45 u46 u47 u48 u49 u52 u53 u54 u55 u56 u57 : Value), (k ≤ bs.length ∧ wr.ownsRow w1.heap.size 3 1 (.slice A2 k c2) k (ints ((bs.take k).map (capB f))) ∧ Hid (∀ j, j < k → bndOK Y l f bs j = true) ∧ Below w1.heap.size w1 wr ∧ Marks (w.heap.size + 3) Ds wr) ∧ a' = { tmps := #[.agg C, .slice A l.length c, .int .i64 f, .slice D bs.length cd, .pointer (some ⟨w.heap.size, 0, none⟩), undef, undef, undef, .pointer (some ⟨w.heap.size + 1, 0, none⟩), .pointer (some ⟨w.heap.size + 1 + 1, 0, none⟩), .pointer (some ⟨bj, 0, none⟩), .int .i64 0, .slice A2 k c2, u13, u14, undef, .tuple #[.pointer (some ⟨bj, 0, none⟩), .int .i64 0], .agg C, .slice A l.length c, .int .i64 f, .tuple #[.pointer (some ⟨bj, 0, none⟩), .int .i64 0], .pointer (some ⟨bj, 0, none⟩), .int .i64 0, .int .i64 0, .bool false, undef, .slice D bs.length cd, .int .i64 bs.length, .slice A l.length c, .int .i64 l.length, .bool false, .slice D bs.length cd, .int .i64 bs.length, .int .i64 k, u34, u35, u36, u37, u38, u39, u40, u41, u42, u43, u44, u45, u46, u47, u48, u49, undef, undef, u52, u53, u54, u55, u56, u57], defers := marks Ds }) (fun a' _ => bs.length - (intOf (a'.tmps.getD 33 undef)).toNat) ?_ ?_
      · refine ⟨0, none, 0, [], undef, undef, undef, undef, undef, undef, undef, undef, undef, undef, undef, undef, undef, undef, undef, undef, undef, undef, undef, undef, undef, undef, undef, undef, ⟨Nat.zero_le _, World.ownsRow_nil _ _ _ _, fun j hj => absurd hj (by omega), Below.refl _ _, Marks.nil _ _⟩, rfl⟩
      rintro _ wr ⟨k, A2, c2, Ds, u13, u14, u34, u35, u36, u37, u38, u39, u40, u41, u42, u43, u44, u45, u46, u47, u48, u49, u52, u53, u54, u55, u56, u57, ⟨hk, hown, HG, hbw, hM⟩, rfl⟩
      by_cases hlt : k < bs.length
      · obtain ⟨a1, rfl, ha1, t0⟩ := int_at (HPW.out wr (hB1.trans (hbw.mono hB1.size))) hlt
        have hkl : k < l.length := by omega
        have hATk := Lib.hid (HAT.out k hkl hlt)
        have hi64 := HBI.out _ (List.getElem_mem hlt)
        have HST : Hid ((bs.take (k + 1)).map (capB f) = (bs.take k).map (capB f) ++ [capB f bs[k]]) := by show _ = _; rw [List.take_succ_eq_append_getElem hlt, List.map_append]; rfl
        generalize bs[k] = b at *
        have HDB : Hid (∀ x ∈ (bs.take k).map (capB f), -1000 ≤ x ∧ x ≤ 200000) := fun x hx => by
          obtain ⟨y, _, rfl⟩ := List.mem_map.1 hx
          have := capB_bd hf y
          omega
        have HDL : ((bs.take k).map (capB f)).length = k := by simp; omega
        have HW1 := Lib.hid hB1
        generalize (bs.take k).map (capB f) = ds at *
        have HDLh := Lib.hid HDL
        have hj := (hj1.below hbw (Nat.le_refl _)).more hbw.size
        have hBr := hB1.trans (hbw.mono hB1.size)
        have hrb := HYW.out wr hBr
        have hrt := HTW.out wr hBr
        have k4r := k4.below hbw k4.lt
        have k8r := k8.below hbw k8.lt
        have k9r := k9.below hbw k9.lt
        have hz9 := k9r.lt
        have hjl := hj.lt
        have c29 := hj.from_
        have hldr := ownsRow_lies hown
        have HLO : Hid (∀ W : World, Below wr.heap.size wr W → Calls Try.prog 96 #[.pointer (some ⟨bj, 0, none⟩), .slice A2 k c2] W (IntEnd (lowS Y.dry f l[k].af ds) W)) := fun W hb => by
          have h1 := lower_any bj C Y l A c f ds A2 c2 W ((hj.below hb (Nat.le_refl _)).more hb.size) (okY_valid HO.out) HVT.out HTM.out hf ((hldr.below hb (Nat.le_refl _)).more hb.size) (by rw [HDL]; exact hkl) HDB.out
          have e : l[ds.length]'(by rw [HDL]; exact hkl) = l[k] := by congr 1
          rw [e, HDL] at h1
          exact h1
        have hlo := lowK_bd (af := l[k].af) hf (okY_valid HO.out).dry HDB.out _ (Nat.le_refl _)
        change f ≤ lowS Y.dry f l[k].af ds ∧ lowS Y.dry f l[k].af ds ≤ 200031 at hlo
        generalize lowS Y.dry f l[k].af ds = low at *
        have HSU := Lib.hid (fun W (hb : Below wr.heap.size wr W) => suited_any C Y l A c k low (min b (f + 400)) W ((hrb.below hb (Nat.le_refl _)).more hb.size) ((hrt.below hb (Nat.le_refl _)).more hb.size))
        have HU := Lib.hid (fun W (h : W.cell? ⟨bj, 29, none⟩ = some (.int .i64 f)) => until_any bj f W h ⟨by omega, by omega⟩)
        have hkI : (k : Int) < (bs.length : Int) := by omega
        have hk0 : 0 ≤ (k : Int) := by omega
        have crr : wr.rangeAt w.heap.size 0 C.toList := k4r.range
        have hu29 := Try.underlying29
        have h28 : C.toList.length = 28 := HC28.out
        have hi29 : (Try.prog.info? 29).map (·.size) = some C.toList.length := by rw [h28]; exact info29
        clear hrb hrt HYW HTW HDL h28
        go_wp2_with (go_at_call 95; refine (HU.out _ c29).mono ?_; rintro e x5 ⟨rfl, rfl⟩)
        refine wp_calm ?_
        refine wp_region_held_drew (S := (fun w' => w'.rangeAt w.heap.size 0 C.toList)) (by kernel_rfl) ?_ (fun hHeld => ?_)
        · (first | assumption | go_keep)
        (refine held_row 0 (some 42) 29 (.tmp 4) (w.heap.size) 0 C.toList _ rfl rfl (by kernel_rfl) (by kernel_rfl) (by kernel_rfl) (by rfl) rfl (fun _ _ _ h => h) (by assumption) (fun _ hS => hS) Try.underlying29 rfl (by assumption) ?_; (try simp only [Act.put, List.setIfInBounds_toArray, List.set_cons_zero, List.set_cons_succ]))
        refine tk 1 43 ?_
        refine tk 2 44 ?_
        refine tk 3 45 ?_
        refine tk 4 46 ?_
        refine tk 6 48 ?_
        (refine held_call 5 (some 47) 96 _ rfl (by kernel_rfl) (by rfl) ?_ (HLO.out _ (by exact (by repeat (first | with_reducible exact Below.refl _ _ | with_reducible assumption | with_reducible refine Below.drew ?_ | with_reducible refine below_drewN ?_ _ | (with_reducible refine Below.alloc ?_ ?_ _; rotate_left; (try simp) <;> omega) | (with_reducible refine Below.setCell ?_ ?_ _; rotate_left; (try simp) <;> omega))))) ?_; rotate_left; rotate_left; (simp only [List.getElem?_toArray, List.getElem?_cons_zero, List.getElem?_cons_succ, Option.map_some]; refine congrArg some ?_; go_simp))
        rintro e w5 ⟨rfl, hb5⟩
        have hW5 : Below wr.heap.size wr w5 := Below.trans (by exact (by repeat (first | with_reducible exact Below.refl _ _ | with_reducible assumption | with_reducible refine Below.drew ?_ | with_reducible refine below_drewN ?_ _ | (with_reducible refine Below.alloc ?_ ?_ _; rotate_left; (try simp) <;> omega) | (with_reducible refine Below.setCell ?_ ?_ _; rotate_left; (try simp) <;> omega)))) hb5
        refine ⟨_, rfl, (k4r.below hW5 k4r.lt).range, fun hHeld => ?_⟩
        (try simp only [Act.put, List.setIfInBounds_toArray, List.set_cons_zero, List.set_cons_succ])
        (refine held_call 7 (some 49) 92 _ rfl (by kernel_rfl) (by rfl) ?_ (HSU.out w5 hW5) ?_; rotate_left; rotate_left; (simp only [List.getElem?_toArray, List.getElem?_cons_zero, List.getElem?_cons_succ, Option.map_some]; refine congrArg some ?_; go_simp))
        rintro e w6 ⟨rfl, hs6, hb6, hz6⟩
        have hW6 : Below wr.heap.size wr w6 := hW5.trans (hb6.mono hW5.size)
        have q4 := k4r.below hW6 k4r.lt
        have q8 := k8r.below hW6 k8r.lt
        have q9 := k9r.below hW6 k9r.lt
        refine ⟨_, rfl, q4.range, fun hHeld => ?_⟩
        (try simp only [Act.put, List.setIfInBounds_toArray, List.set_cons_zero, List.set_cons_succ])
        refine wpAnyH_done (by kernel_rfl) ?_ _
        clear hHeld
        go_wp2
        have hn5 : w5.heap.size = w5.heap.size := rfl
        have hz5 := hW5.size
        have HL : Hid (SuitW w5.heap.size C Y l A c k (w5.heap.size + 3) (w5.heap.size + 4) w5.heap.size (w5.heap.size + 1) (w5.heap.size + 2) low (min b (f + 400)) w6) := hs6
        clear hs6
        generalize hL : suitK Y l[k] k low (min b (f + 400) - low).toNat = L at *
        have HLL := Lib.hid hL; clear hL
        have hM6 := hM.below_ hW6
        have hbw6 := hbw.trans (hW6.mono hbw.size)
        have hB6 := hBr.trans (hW6.mono hBr.size)
        have hown6 := ownsRow_below hown hW6 (Nat.le_refl _)
        have hM6l : ∀ E ∈ Ds, E < w6.heap.size := fun E hE => hM6.lt hE
        refine (wpIn_wide (n := 3)).1 ?_
        refine wpIn_rangeFunc_ownF (n := 3) rfl (by omega) (gf := 122) (lb := #[.pointer (some ⟨w5.heap.size + 3, 0, none⟩), .pointer (some ⟨w5.heap.size + 4, 0, none⟩), .pointer (some ⟨w5.heap.size, 0, none⟩), .pointer (some ⟨w5.heap.size + 1, 0, none⟩), .pointer (some ⟨w5.heap.size + 2, 0, none⟩)]) rfl trivial (enters_of Try.func122 (by kernel_rfl) rfl)
          (encs := fun x : Int => #[.int .i64 x]) (Kp := KpC fun _ => False) (S := fun xs => xs = L) (Sp := fun pre => pre <+: L) (N := (min b (f + 400) - low).toNat) (w0 := w6) ?seq (fun h k => h.trans k) (fun W l o o' _ h1 h2 _ => KpC.putObj o' h1 h2) (Below.refl _ _) (fun _ => rfl)
          (fun pre W => pre = [] ∧ (Below w6.heap.size w6 W))
          (fun c pre W => c = .ret ∧ ∃ x, pre = [x] ∧ (Below w.heap.size w W ∧ (Bk W (w.heap.size + 1) 4 #[.bool false] ∧ (Bk W (w.heap.size + 2) 33 #[.int .i64 0] ∧ Marks (w.heap.size + 3) Ds W)))) ?own ?ownx ⟨rfl, Below.refl _ _⟩
          (fun x => { tmps := #[.agg C, .slice A l.length c, .int .i64 f, .slice (some a1) bs.length cd, .pointer (some ⟨w.heap.size, 0, none⟩), undef, undef, undef, .pointer (some ⟨w.heap.size + 1, 0, none⟩), .pointer (some ⟨w.heap.size + 1 + 1, 0, none⟩), .pointer (some ⟨bj, 0, none⟩), .int .i64 0, .slice A2 k c2, .int .i64 k, .int .i64 (min b (f + 400)), .int .i64 x, .tuple #[.pointer (some ⟨bj, 0, none⟩), .int .i64 0], .agg C, .slice A l.length c, .int .i64 f, .tuple #[.pointer (some ⟨bj, 0, none⟩), .int .i64 0], .pointer (some ⟨bj, 0, none⟩), .int .i64 0, .int .i64 0, .bool false, undef, .slice (some a1) bs.length cd, .int .i64 bs.length, .slice A l.length c, .int .i64 l.length, .bool false, .slice (some a1) bs.length cd, .int .i64 bs.length, .int .i64 k, .bool true, .int .i64 k, .pointer (some (a1.add k)), .int .i64 b, .int .i64 b, .pointer (some ⟨bj, 0, none⟩), .int .i64 (f + 400), .int .i64 (min b (f + 400)), .agg C.toList.toArray, .slice A l.length c, .int .i64 k, .pointer (some ⟨bj, 0, none⟩), .slice A2 k c2, .int .i64 low, .int .i64 (min b (f + 400)), suitFn w5.heap.size, .int .i64 x, undef, u52, u53, u54, u55, u56, u57], defers := [] }) ?assign ?body ?done ?stop
        case seq =>
          intro lb J Jx W hW hJ _ hY h0
          have := suited1_iter 2 w5.heap.size C Y l A c k (w5.heap.size + 3) (w5.heap.size + 4) w5.heap.size (w5.heap.size + 1) (w5.heap.size + 2) low (min b (f + 400)) (okY_valid HO.out) HTM.out.1 hkl (by omega) ⟨by omega, by omega⟩
            (SuitW w5.heap.size C Y l A c k (w5.heap.size + 3) (w5.heap.size + 4) w5.heap.size (w5.heap.size + 1) (w5.heap.size + 2) low (min b (f + 400))) (KpC fun _ => False) (fun W W' h hb => h.below hb) (fun W W' h hk => none_own W W' hk _ _ _ _ _ _ _ _ _ _ _ _ _ _ h) (fun _ h => h) lb J Jx W (HL.out.below hW) hJ hY h0
          rw [HLL.out] at this
          exact this
        case own =>
          rintro pre W W' row ⟨h1, h2⟩ hg hr
          exact ⟨h1, h2.grown hg h2.size (fun k e => by have := (hr k e).1; omega)⟩
        case ownx =>
          rintro cc pre W W' row ⟨h0, x, h1, h2, h3, h4, h5⟩ hg hr
          exact ⟨h0, x, h1, h2.grown hg h2.size (fun k e => by have := (hr k e).1; have := hB6.size; omega), h3.grown hg (fun e => by have := (hr _ e.symm).1; have := q8.lt; omega), h4.grown hg (fun e => by have := (hr _ e.symm).1; have := q9.lt; omega), h5.grown hg (fun r e hm => by have := (hr r e).1; have := hM6l r hm; omega)⟩
        case assign =>
          intro lb x W K hK
          gi_wp2
          exact hK
        case body =>
          rintro lb pre x W ⟨rfl, h2⟩ _
          have h3 := q8.below h2 q8.lt
          have h4 := q9.below h2 q9.lt
          have hMW := hM6.below_ h2
          have hBW := hB6.trans (h2.mono hB6.size)
          have y1 := h3.cell 0 rfl
          have y2 := h4.cell 0 rfl
          have z1 := h3.fro 0
          have z2 := h4.fro 0
          gi_wp2
          exact ⟨(KeepsOthers.setCell _ _ _).trans (KeepsOthers.setCell _ _ _), rfl, ⟨x, rfl⟩, (hBW.setCell (by simp) _).setCell (by simp; omega) _, (h3.set 0 _).far (by simp) _, (h4.far (by simp) _).set 0 _, hMW.keep fun E hE h => (Below.heap_setCell _ _ _ _ (by show E ≠ w.heap.size + 1 + 1; omega)).trans ((Below.heap_setCell _ _ _ _ (by show E ≠ w.heap.size + 1; omega)).trans h)⟩
        case done =>
          rintro D xs W hwD rfl ⟨h1, h2⟩ hK
          have HBO : Hid (bndOK Y l f bs k = true) := by show _ = _; rw [hATk.out, h1]; rfl
          have hMW := Marks.cons (hM6.below_ h2) (by omega : w.heap.size + 3 ≤ D) (fun hm => by have := hM6l D hm; omega) hK
          have hbW := hbw6.trans (h2.mono hbw6.size)
          have hownW := ownsRow_below hown6 h2 (Nat.le_refl _)
          have hz1 := hB1.size
          have hzW := hbW.size
          clear hK h1
          go_wp2_with (at_builtin; refine wpList_append_own _ rfl (.tmp 52) (.tmp 55) 25 rfl w1.heap.size 3 i0 (.int .i64 0) 1 8 Try.underlying25 I3.out.1 I3.out.2.1 I3.out.2.2.1 I3.out.2.2.2 rfl (by decide) _ k _ rfl (hownW.alloc _) ⟨W.heap.size, 0, none⟩ 1 1 [.int .i64 (max (min b (f + 400)) (-401))] rfl rfl ?_ ?_ ?_ ?_ ?_ ?_; (exact cell_one_new _ _ _); (intro u hu; simp at hu; subst hu; rfl); (unfold maxLen; omega); (omega); (simp; omega); intro v5 w5' hown5 hgrow5 hrr5; have hB5 : Below w1.heap.size w1 w5' := below_own (by exact (by repeat (first | with_reducible exact Below.refl _ _ | with_reducible assumption | with_reducible refine Below.drew ?_ | with_reducible refine below_drewN ?_ _ | (with_reducible refine Below.alloc ?_ ?_ _; rotate_left; (try simp) <;> omega) | (with_reducible refine Below.setCell ?_ ?_ _; rotate_left; (try simp) <;> omega)))) (hownW.alloc _) hgrow5 (by omega) (by simp; omega); have hM5 := (hMW.below_ (Below.alloc (Below.refl _ _) (Nat.le_refl _) (.cells #[.int .i64 (max (min b (f + 400)) (-401))] 3))).own (hownW.alloc _) hgrow5; clear hgrow5 hrr5)
          rw [ints_snoc, show max (min b (f + 400)) (-401) = capB f b from rfl, ← HST.out] at hown5
          obtain ⟨A5, c5, rfl, _, _⟩ := ownsSlice hown5
          go_wp2
          refine ⟨⟨k + 1, A5, c5, D :: Ds, ⟨by omega, by rw [← List.map_take]; exact hown5, fun j hj => ?_, hM5⟩, ⟨rfl, by go_num⟩, rfl⟩, ?_⟩
          · by_cases hjk : j = k
            · subst hjk; exact HBO.out
            · exact HG.out j (by omega)
          · simp [intOf]; omega
        case stop =>
          rintro D cc pre W hwD hp ⟨rfl, x, rfl, h2, h3, h4, h5⟩ hK
          gi_wp2
          have hMW := Marks.cons h5 (by omega : w.heap.size + 3 ≤ D) (fun hm => by have := hM6l D hm; omega) hK
          have g3 := hMW.bk h3
          have g4 := hMW.bk h4
          have gb := Marks.below (a := w) (by omega : w.heap.size ≤ w.heap.size + 3) hMW h2
          have HBO : Hid (bndOK Y l f bs k = false) := by
            show _ = _
            rw [hATk.out]
            obtain ⟨r, hr⟩ := hp
            rw [← hr]; rfl
          refine leaves_marks (v := .tuple #[.bool false, .int .i64 0]) hMW rfl ?_ ?_
          · have x3 := g3.cell 0 rfl
            have x4 := g4.cell 0 rfl
            generalize shut _ _ = w9 at *
            simp [results, Try.results42, go_sem, x3, x4]
          · rw [HPN.out k hkl HBO.out]
            exact ⟨rfl, gb⟩
      · obtain rfl : k = bs.length := by omega
        have HR : Hid (R = true) := HPY.out fun i hi => HG.out i (by omega)
        have k8r := k8.below hbw k8.lt
        have k9r := k9.below hbw k9.lt
        have hBr := hB1.trans (hbw.mono hB1.size)
        have x8 := k8r.cell 0 rfl
        have x9 := k9r.cell 0 rfl
        have z8 := k8r.fro 0
        have z9 := k9r.fro 0
        go_wp2
        have hMW := hM.keep (w' := (wr.setCell ⟨w.heap.size + 1, 0, none⟩ (.bool true)).setCell ⟨w.heap.size + 1 + 1, 0, none⟩ (.int .i64 0)) fun E hE h => (Below.heap_setCell _ _ _ _ (by show E ≠ w.heap.size + 1 + 1; omega)).trans ((Below.heap_setCell _ _ _ _ (by show E ≠ w.heap.size + 1; omega)).trans h)
        have g3 := hMW.bk ((k8r.set 0 (.bool true)).far (p := ⟨w.heap.size + 1 + 1, 0, none⟩) (by simp) (.int .i64 0))
        have g4 := hMW.bk ((k9r.far (p := ⟨w.heap.size + 1, 0, none⟩) (by simp) (.bool true)).set 0 (.int .i64 0))
        have gb := Marks.below (a := w) (by omega : w.heap.size ≤ w.heap.size + 3) hMW ((hBr.setCell (p := ⟨w.heap.size + 1, 0, none⟩) (by simp) (.bool true)).setCell (p := ⟨w.heap.size + 1 + 1, 0, none⟩) (by simp; omega) (.int .i64 0))
        refine leaves_marks (v := .tuple #[.bool true, .int .i64 0]) hMW rfl ?_ ?_
        · have x3 := g3.cell 0 rfl
          have x4 := g4.cell 0 rfl
          generalize shut _ _ = w9' at *
          simp [results, Try.results42, go_sem, x3, x4]
        · rw [HR.out]
          exact ⟨rfl, gb⟩
    · rw [bndsOK_len hlen]
      have hne : ((bs.length : Int) != (l.length : Int)) = true := by simp; omega
      have hne2 : (bs.length != l.length) = true := by simp; omega
      clear hlen
      go_enter Try.func42, Try.ntmps42
      go_wp2_with (first | (refine wpList_load_guard (P := Try.prog) (by rfl) 29 (.tmp 4) rfl w.heap.size 0 rfl C.toList _ HR0.out Try.underlying29 rfl (by rw [HC28.out]; exact info29) ?_) | (go_at_call 82; refine (HBE.out _ hb0).mono ?_; rintro e w1 ⟨hb1, ⟨h0, _⟩ | ⟨_, bj, hbj, rfl, hj1⟩⟩; (exact absurd rfl h0); have hB1 : Below w.heap.size w w1 := hb0.trans (hb1.mono hb0.size); have h3 := b8.below hb1 b8.lt; have h4 := b9.below hb1 b9.lt; have y1 := h3.cell 0 rfl; have y2 := h4.cell 0 rfl; have z1 := h3.fro 0; have z2 := h4.fro 0; clear hb1))
      have e3 := (h3.set 0 (.bool false)).far (p := ⟨w.heap.size + 1 + 1, 0, none⟩) (by simp) (.int .i64 0)
      have e4 := (h4.far (p := ⟨w.heap.size + 1, 0, none⟩) (by simp) (.bool false)).set 0 (.int .i64 0)
      have hb9 : Below w.heap.size w ((w1.setCell ⟨w.heap.size + 1, 0, none⟩ (.bool false)).setCell ⟨w.heap.size + 1 + 1, 0, none⟩ (.int .i64 0)) := (hB1.setCell (by simp) _).setCell (by simp; omega) _
      have x3 := e3.cell 0 rfl
      have x4 := e4.cell 0 rfl
      generalize World.setCell _ _ _ = w9 at *
      refine bodyPost_ret (v := .tuple #[.bool false, .int .i64 0]) (by simp [results, Try.results42, go_sem, x3, x4]) rfl ?_
      exact ⟨rfl, hb9⟩
  · have hbf : decide (begE Y l f = 0) = false := decide_eq_false hb
    rw [hbf, Bool.false_and]
    have HN := Lib.hid hb
    generalize begE Y l f = N at *
    have hne : (N != 0) = true := by simp [hb]
    clear hb hbf
    go_enter Try.func42, Try.ntmps42
    go_wp2_with (first | (refine wpList_load_guard (P := Try.prog) (by rfl) 29 (.tmp 4) rfl w.heap.size 0 rfl C.toList _ HR0.out Try.underlying29 rfl (by rw [HC28.out]; exact info29) ?_) | (go_at_call 82; refine (HBE.out _ hb0).mono ?_; rintro e w1 ⟨hb1, ⟨_, rfl⟩ | ⟨h0, _⟩⟩; rotate_left; (exact absurd h0 HN.out); have hB1 : Below w.heap.size w w1 := hb0.trans (hb1.mono hb0.size); have h3 := b8.below hb1 b8.lt; have h4 := b9.below hb1 b9.lt; have y1 := h3.cell 0 rfl; have y2 := h4.cell 0 rfl; have z1 := h3.fro 0; have z2 := h4.fro 0; clear hb1))
    have e3 := (h3.set 0 (.bool false)).far (p := ⟨w.heap.size + 1 + 1, 0, none⟩) (by simp) (.int .i64 N)
    have e4 := (h4.far (p := ⟨w.heap.size + 1, 0, none⟩) (by simp) (.bool false)).set 0 (.int .i64 N)
    have hb9 : Below w.heap.size w ((w1.setCell ⟨w.heap.size + 1, 0, none⟩ (.bool false)).setCell ⟨w.heap.size + 1 + 1, 0, none⟩ (.int .i64 N)) := (hB1.setCell (by simp) _).setCell (by simp; omega) _
    have x3 := e3.cell 0 rfl
    have x4 := e4.cell 0 rfl
    generalize World.setCell _ _ _ = w9 at *
    refine bodyPost_ret (v := .tuple #[.bool false, .int .i64 N]) (by simp [results, Try.results42, go_sem, x3, x4]) rfl ?_
    exact ⟨rfl, hb9⟩
end Go.Proofs.Ytjgnikmnadmheaa
