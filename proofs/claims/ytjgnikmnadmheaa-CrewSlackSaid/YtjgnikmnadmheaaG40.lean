/- crew.Slack. Printed by wip/gen_w4.py. -/
import Derived.Test.YtjgnikmnadmheaaG02
import Derived.Test.YtjgnikmnadmheaaG13
import Derived.Test.YtjgnikmnadmheaaG37
import Derived.Test.YtjgnikmnadmheaaG38
import Derived.Test.YtjgnikmnadmheaaG39

namespace Go.Proofs.Ytjgnikmnadmheaa
open Go.RowKit
attribute [local go_sem] Oper.semAt_some

/-- a range over a function of one number: the frame of a round is the loop's own, with the number in its two slots -/
theorem wpIn_rangeFunc_own1 {F : Fence} {n : Nat} {P : Program} {g : Operand} {p q : Nat} {assign body : Code} {Q : Exit → Act → World → Prop} {a : Act} {w : World}
    (hro : F.round = none) (h1 : 1 ≤ n) {gf : Nat} {lb : Array Value} (hg : a.eval g = .func (.func gf) #[] lb) (hFg : F.fn gf) (eg : ∀ args w, (callFunc gf args).run P w = .ok (.enter gf args) w)
    {Kp : World → World → Prop} {S Sp : List Int → Prop} {N : Nat} {w0 : World} (hseq : SeqStopsK F (n - 1) P gf lb (fun x : Int => #[.int .i64 x]) Kp S Sp N w0)
    (hKt : ∀ {A B C : World}, Kp A B → Kp B C → Kp A C) (hKb : ∀ (W : World) (l : Nat) (o o' : Obj), w.heap.size ≤ l → W.heap[l]? = some o → o.isCells = false → o.isWalk = false → Kp W (W.putObj l o')) (hb0 : Below w0.heap.size w0 w)
    (I : List Int → World → Prop) (Ix : Code → List Int → World → Prop) (hI : OwnFrom w.heap.size I) (hIx : ∀ c, OwnFrom w.heap.size (Ix c)) (h0 : I [] w)
    (hassign : ∀ (l : Nat) (x : Int) (W : World) (K : Act → World → Prop), K { tmps := (a.tmps.setIfInBounds p (.int .i64 x)).setIfInBounds q (.int .i64 x), defers := [] } W →
      assign.wpIn (F.inRound l) (n - 1 - 1) P (Exit.then K (fun _ _ _ => False)) { tmps := a.tmps.setIfInBounds p (.int .i64 x), defers := [] } W)
    (hbody : ∀ (l : Nat) (pre : List Int) (x : Int) (W : World), I pre W → pre.length < N → body.wpIn (F.inRound l) (n - 1 - 1) P (ownPostK Kp I Ix (pre ++ [x]) W) { tmps := (a.tmps.setIfInBounds p (.int .i64 x)).setIfInBounds q (.int .i64 x), defers := [] } W)
    (hdone : ∀ (D : Nat) (xs : List Int) (W : World), w.heap.size ≤ D → S xs → I xs W → W.heap[D]? = some (.deferred (some [])) → Q .normal { a with defers := { target := .collected D, args := #[] } :: a.defers } W)
    (hstop : ∀ (D : Nat) (c : Code) (pre : List Int) (W : World), w.heap.size ≤ D → Sp pre → Ix c pre W → W.heap[D]? = some (.deferred (some [])) → c.wpIn F n P Q { a with defers := { target := .collected D, args := #[] } :: a.defers } W) :
    (Code.rangeFunc g #[p] assign body).wpIn F n P Q a w :=
  wpIn_rangeFunc_ownF hro h1 hg hFg eg hseq hKt hKb hb0 (fun _ => rfl) I Ix hI hIx h0 (fun x => { tmps := (a.tmps.setIfInBounds p (.int .i64 x)).setIfInBounds q (.int .i64 x), defers := [] })
    (fun l x W K hK => by simpa using hassign l x W K hK) hbody hdone hstop
theorem wp_calmQ {P : Program} {c : Code} {Q : Exit → Act → World → Prop} {a : Act} {w : World} (h : c.wp P (Exit.then (fun a w => Q .normal a w) fun _ _ _ => False) a w) : c.wp P Q a w := wp_mono h (fun e a w hq => by cases e <;> first | exact hq | exact hq.elim)
/-- the number that a box holds, and one -/
def cellN (v : Value) (w : World) : Nat := match v with
  | .pointer (some p) => (intOf ((w.cell? p).getD undef) + 1).toNat
  | _ => 0
theorem cellN_at {w : World} {b : Nat} {e : Int} (h : w.cell? ⟨b, 0, none⟩ = some (.int .i64 e)) : cellN (.pointer (some ⟨b, 0, none⟩)) w = (e + 1).toNat := by
  unfold cellN; dsimp only; rw [h]; rfl
theorem set_keeps {w : World} {g k : Nat} {v : Value} : KpC (fun y => y = g) w (w.setCell ⟨g, k, none⟩ v) :=
  ⟨by simp, fun j o ho _ hn => (Below.heap_setCell _ _ _ j (by show j ≠ g; exact hn)).trans ho⟩
theorem ints_set (L : List Int) (k : Nat) (x : Int) : (ints L).set k (.int .i64 x) = ints (L.set k x) := by unfold ints; rw [List.map_set]
theorem lastOr_snoc (L : List Int) (x d : Int) : lastOr (L ++ [x]) d = x := by unfold lastOr; simp
/-- what Slack has written so far -/
def dfL (Y : Yd) (l : List Tk) (ds : List Int) (m i1 : Nat) : List Int := List.zipWith (· - ·) (lateT Y l ds m) (ds.drop i1)
theorem dfL_step {Y : Yd} {l : List Tk} {ds : List Int} {m i : Nat} (hi : i + 1 + m = l.length) (hd : ds.length = l.length) : dfL Y l ds (m + 1) i = (lateX Y l ds i (lateT Y l ds m) - ds.getD i 0) :: dfL Y l ds m (i + 1) := by
  unfold dfL
  have h1 : lateT Y l ds (m + 1) = lateX Y l ds (l.length - 1 - m) (lateT Y l ds m) :: lateT Y l ds m := rfl
  rw [h1, show l.length - 1 - m = i by omega, List.drop_eq_getElem_cons (show i < ds.length by omega), List.zipWith_cons_cons, List.getD_eq_getElem?_getD, List.getElem?_eq_getElem (show i < ds.length by omega)]
  rfl
theorem dfL_len {Y : Yd} {l : List Tk} {ds : List Int} {m i1 : Nat} (hi : i1 + m = l.length) (hd : ds.length = l.length) : (dfL Y l ds m i1).length = m := by
  unfold dfL; rw [List.length_zipWith, lateT_len, List.length_drop]; omega
theorem lateT_one {Y : Yd} {l : List Tk} {ds : List Int} (h0 : 0 < l.length) (hd : ds.length = l.length) : lateT Y l ds 1 = [ds.getD (l.length - 1) 0] := by
  show [lateX Y l ds (l.length - 1 - 0) []] = _
  rw [Nat.sub_zero, lateX_nil (by omega)]
theorem opL_start {Y : Yd} {l : List Tk} {ds : List Int} (h0 : 0 < l.length) (hd : ds.length = l.length) : opL ds (lateT Y l ds 1) (l.length - 1) = ds := by
  rw [lateT_one h0 hd]
  unfold opL
  rw [List.getD_eq_getElem?_getD, List.getElem?_eq_getElem (show l.length - 1 < ds.length by omega), Option.getD_some]
  have := List.take_succ_eq_append_getElem (show l.length - 1 < ds.length by omega)
  rw [← this, List.take_of_length_le (by omega)]
theorem dfL_start {Y : Yd} {l : List Tk} {ds : List Int} (h0 : 0 < l.length) (hd : ds.length = l.length) : opL (List.replicate l.length 0) (dfL Y l ds 1 (l.length - 1)) (l.length - 1) = List.replicate l.length 0 := by
  unfold dfL
  rw [lateT_one h0 hd, List.drop_eq_getElem_cons (show l.length - 1 < ds.length by omega), List.zipWith_cons_cons, List.getD_eq_getElem?_getD, List.getElem?_eq_getElem (show l.length - 1 < ds.length by omega), Option.getD_some, Int.sub_self]
  unfold opL
  obtain ⟨n, hn⟩ : ∃ n, l.length = n + 1 := ⟨l.length - 1, by omega⟩
  rw [hn]
  simp [List.replicate_succ', Nat.min_eq_left]
theorem opL_self {Z T : List Int} {i : Nat} (h : i < Z.length) : (opL Z T (i + 1)).set i (Z.getD i 0) = opL Z T (i + 1) := by
  have h1 := opL_old (T := T) (show i + 1 ≤ Z.length by omega) (show i < i + 1 by omega)
  have h2 : i < (opL Z T (i + 1)).length := (List.getElem?_eq_some_iff.1 h1).1
  have h3 : (opL Z T (i + 1))[i] = Z.getD i 0 := by rw [List.getElem?_eq_getElem h2] at h1; exact Option.some.inj h1
  rw [← h3, List.set_getElem_self]

set_option maxRecDepth 100000 in
set_option maxHeartbeats 4000000 in
theorem slack_any (C : Array Value) (Y : Yd) (l : List Tk) (A : Option Addr) (c : Nat) (f : Int) (w : World) (hY : YardAt w w.heap.size C Y) (hs : Small Y) (hT : TasksAt w w.heap.size A l) (ht : tame l) :
    Calls Try.prog 33 #[.agg C, .slice A l.length c, .int .i64 f] w (DaysE (slk Y l f) (earE Y l f) w) := by
  have HBE := Lib.hid (fun W (hb : Below w.heap.size w W) => begun_any C Y l A c f W ((hY.below hb (Nat.le_refl _)).more hb.size) hs ((hT.below hb (Nat.le_refl _)).more hb.size) ht)
  have HYB := Lib.hid (fun W (hb : Below w.heap.size w W) => hY.below hb (Nat.le_refl _))
  have HTB := Lib.hid (fun W (hb : Below w.heap.size w W) => hT.below hb (Nat.le_refl _))
  have HC28 := Lib.hid hY.len
  have HTM := Lib.hid ht
  have e27 := hY.dry
  have b3 : Bk (w.alloc (.cells C 29)) w.heap.size 29 C := Bk.new _ _ _
  have hb0 : Below w.heap.size w (w.alloc (.cells C 29)) := by exact (by repeat (first | with_reducible exact Below.refl _ _ | with_reducible assumption | with_reducible refine Below.drew ?_ | with_reducible refine below_drewN ?_ _ | (with_reducible refine Below.alloc ?_ ?_ _; rotate_left; (try simp) <;> omega) | (with_reducible refine Below.setCell ?_ ?_ _; rotate_left; (try simp) <;> omega)))
  have HR0 := Lib.hid b3.range
  clear hY hT hs ht
  by_cases hb : begE Y l f = 0
  · obtain ⟨ho, hvt, hf⟩ := begE_ok hb
    have HO := Lib.hid ho
    have HVT := Lib.hid hvt
    have hl12 := hvt.n
    rw [hb] at HBE
    cases he : earD Y l f with
    | none =>
      have hz : earE Y l f = 70 := (earP_none hb he).2
      have hs0 : slk Y l f = [] := slk_bad (by rw [hz]; decide)
      rw [hz, hs0]
      have HE := Lib.hid he
      clear he hb hz hs0 ho hvt
      go_enter Try.func33, Try.ntmps33
      go_wp2_with (first | (have h9 := HR0; clear h9; refine wpList_load_guard (P := Try.prog) (by rfl) 29 (.tmp 3) rfl w.heap.size 0 rfl C.toList _ HR0.out Try.underlying29 rfl (by rw [HC28.out]; exact info29) ?_) | (go_at_call 82; refine (HBE.out _ hb0).mono ?_; rintro e w1 ⟨hb1, ⟨h0, _⟩ | ⟨_, bj, hbj, rfl, hj1⟩⟩; (exact absurd rfl h0); clear HR0; have hB1 : Below w.heap.size w w1 := hb0.trans (hb1.mono hb0.size); have k1 : Bk w1 w.heap.size 29 C := b3.below hb1 b3.lt; have l1 := k1.lt; clear hb1) | (go_at_call 83; refine (earliest_nil bj C Y l A c f [] none 0 w1 hj1 (okY_valid HO.out) HVT.out HTM.out hf (fun h => absurd rfl h) (Nat.zero_le _) (fun x hx => by cases hx)).mono ?_; rintro e w2 h2; rw [show est Y l f (fun _ => none) (l.length - ([] : List Int).length) [] = none from HE.out] at h2; obtain ⟨rfl, hb2⟩ := h2; have hB2 : Below w.heap.size w w2 := hB1.trans (hb2.mono hB1.size)))
      go_ret2
      exact ⟨_, rfl, World.ownsRow_nil _ _ _ _, hB2⟩
    | some ds =>
      have hea := early_of he
      have hdl := hea.len
      have hz : earE Y l f = 0 := (earP_some hb he).2
      have hs0 : slk Y l f = slkL Y l ds := by unfold slk; rw [if_pos hb, he]
      rw [hz, hs0]
      have HE := Lib.hid he
      have HEA := Lib.hid hea
      have HDL := Lib.hid hdl
      have hds : ds.length ≤ l.length := by omega
      have hmk := fun W => make_ints l.length (by omega) W
      clear he hb hz hs0 ho hvt hdl hea
      refine (callsIn_wide (n := 3)).1 ?_
      refine callsIn_of_wp_marks Try.func33 rfl trivial ?_ rfl
      simp only [Try.ntmps33, List.size_toArray, List.length_cons, List.length_nil, Nat.reduceAdd, Nat.reduceSub, Array.replicate_succ, Array.replicate_zero, List.push_toArray, List.append_toArray, List.nil_append, List.cons_append]
      refine wpIn_wide.2 ?_
      go_wp2_with (first | (have h9 := HR0; clear h9; refine wpList_load_guard (P := Try.prog) (by rfl) 29 (.tmp 3) rfl w.heap.size 0 rfl C.toList _ HR0.out Try.underlying29 rfl (by rw [HC28.out]; exact info29) ?_) | (go_at_call 82; refine (HBE.out _ hb0).mono ?_; rintro e w1 ⟨hb1, ⟨h0, _⟩ | ⟨_, bj, hbj, rfl, hj1⟩⟩; (exact absurd rfl h0); clear HR0; have hB1 : Below w.heap.size w w1 := hb0.trans (hb1.mono hb0.size); have k1 : Bk w1 w.heap.size 29 C := b3.below hb1 b3.lt; have l1 := k1.lt; clear hb1) | (go_at_call 83; refine (earliest_nil bj C Y l A c f [] none 0 w1 hj1 (okY_valid HO.out) HVT.out HTM.out hf (fun h => absurd rfl h) (Nat.zero_le _) (fun x hx => by cases hx)).mono ?_; rintro e w2 h2; rw [show est Y l f (fun _ => none) (l.length - ([] : List Int).length) [] = some ds from HE.out] at h2; obtain ⟨v2, rfl, ho2, hb2⟩ := h2; obtain ⟨A2, c2, rfl, _, _⟩ := ownsSlice ho2; have hB2 : Below w.heap.size w w2 := hB1.trans (hb2.mono hB1.size); have k2 : Bk w2 w.heap.size 29 C := k1.below hb2 l1; have l2 := k2.lt; have hl2 := ownsRow_lies ho2; clear hb2 ho2 hj1) | (go_at_call 78; refine (clone_ints ds A2 c2 w2 hl2 (by omega)).mono ?_; rintro e w3 ⟨v3, rfl, ho3, hb3⟩; obtain ⟨A3, c3, rfl, hc3, hc4⟩ := ownsSlice ho3))
      have hz2 := hB2.size
      have hz3 := hb3.size
      have kb12 : Bk (((w3.alloc (.cells #[.slice A3 ds.length c3] 25)).alloc (.cells (ints (List.replicate l.length 0)).toArray 3)).alloc (.cells #[.int .i64 ((l.length : Int) - 2)] 3)) w3.heap.size 25 #[.slice A3 ds.length c3] := ((Bk.new _ _ _).alloc _).alloc _
      have kb13 : Bk (((w3.alloc (.cells #[.slice A3 ds.length c3] 25)).alloc (.cells (ints (List.replicate l.length 0)).toArray 3)).alloc (.cells #[.int .i64 ((l.length : Int) - 2)] 3)) (w3.heap.size + 1) 3 (ints (List.replicate l.length 0)).toArray := (by simpa using Bk.new (w3.alloc (.cells #[.slice A3 ds.length c3] 25)) 3 (ints (List.replicate l.length 0)).toArray : Bk ((w3.alloc (.cells #[.slice A3 ds.length c3] 25)).alloc (.cells (ints (List.replicate l.length 0)).toArray 3)) (w3.heap.size + 1) 3 (ints (List.replicate l.length 0)).toArray).alloc _
      have kb14 : Bk (((w3.alloc (.cells #[.slice A3 ds.length c3] 25)).alloc (.cells (ints (List.replicate l.length 0)).toArray 3)).alloc (.cells #[.int .i64 ((l.length : Int) - 2)] 3)) (w3.heap.size + 1 + 1) 3 #[.int .i64 ((l.length : Int) - 2)] := by simpa using Bk.new ((w3.alloc (.cells #[.slice A3 ds.length c3] 25)).alloc (.cells (ints (List.replicate l.length 0)).toArray 3)) 3 #[.int .i64 ((l.length : Int) - 2)]
      have ho4 : World.ownsRow (((w3.alloc (.cells #[.slice A3 ds.length c3] 25)).alloc (.cells (ints (List.replicate l.length 0)).toArray 3)).alloc (.cells #[.int .i64 ((l.length : Int) - 2)] 3)) w2.heap.size 3 1 (.slice A3 ds.length c3) ds.length (ints ds) := ((ho3.alloc _).alloc _).alloc _
      have hb4 : Below w2.heap.size w2 (((w3.alloc (.cells #[.slice A3 ds.length c3] 25)).alloc (.cells (ints (List.replicate l.length 0)).toArray 3)).alloc (.cells #[.int .i64 ((l.length : Int) - 2)] 3)) := by exact (by repeat (first | with_reducible exact Below.refl _ _ | with_reducible assumption | with_reducible refine Below.drew ?_ | with_reducible refine below_drewN ?_ _ | (with_reducible refine Below.alloc ?_ ?_ _; rotate_left; (try simp) <;> omega) | (with_reducible refine Below.setCell ?_ ?_ _; rotate_left; (try simp) <;> omega)))
      have HGL : Hid (∀ g, A3 = some ⟨g, 0, none⟩ → w2.heap.size ≤ g ∧ g < w3.heap.size) := fun g e => ho3.lt g (by rw [e]; rfl)
      have HYW := Lib.hid (fun W (hb : Below w2.heap.size w2 W) => HYB.out W (hB2.trans (hb.mono hB2.size)))
      have HTW := Lib.hid (fun W (hb : Below w2.heap.size w2 W) => HTB.out W (hB2.trans (hb.mono hB2.size)))
      have HKW : Hid (∀ W : World, Below w2.heap.size w2 W → Bk W w.heap.size 29 C) := fun W hb => k2.below hb l2
      have HDW : Hid (∀ W : World, Below w2.heap.size w2 W → Lies W W.heap.size A2 (ints ds)) := fun W hb => (hl2.below hb (Nat.le_refl _)).more hb.size
      have HA4 : Hid (∀ a4 : Addr, A2 = some a4 → 0 < ds.length → a4.block < w2.heap.size) := fun a4 e h => by
        obtain ⟨b, e2, h3, _⟩ := hl2 (by intro e0; unfold ints at e0; rw [List.map_eq_nil_iff] at e0; rw [e0] at h; exact absurd h (by decide))
        rw [e] at e2; cases e2; exact h3
      have hdl2 : l.length ≤ ds.length := by have := HDL.out; omega
      clear ho3 hb3 HYB HTB k1 b3 hb0 hl2
      generalize (((w3.alloc (.cells #[.slice A3 ds.length c3] 25)).alloc (.cells (ints (List.replicate l.length 0)).toArray 3)).alloc (.cells #[.int .i64 ((l.length : Int) - 2)] 3)) = w4 at *
      refine wp_loop (fun a' wr => ∃ (i1 m : Nat) (e : Int) (b14 : Nat) (Ds : List Nat) (u15 u16 u17 u43 u44 u45 u46 u47 u48 u49 u50 u51 u52 u53 u54 u55 u56 u57 u58 u59 u60 u61 u62 u63 u64 u65 u66 u67 u68 u69 u70 u71 u72 u73 u74 u75 u76 u77 u78 u79 u80 u81 u82 u83 u84 u85 u86 u87 u88 u89 u90 u91 u92 u93 u94 u95 u96 u97 u98 u99 u100 u101 u102 u103 u104 u105 : Value), (i1 + m = l.length ∧ (e = (i1 : Int) - 1 ∨ (l.length = 0 ∧ e = -2)) ∧ (1 ≤ m ∨ l.length = 0) ∧ Bk wr b14 3 #[.int .i64 e] ∧ w3.heap.size + 2 ≤ b14 ∧ Bk wr w3.heap.size 25 #[.slice A3 ds.length c3] ∧ Bk wr (w3.heap.size + 1) 3 (ints (opL (List.replicate l.length 0) (dfL Y l ds m i1) i1)).toArray ∧ wr.ownsRow w2.heap.size 3 1 (.slice A3 ds.length c3) ds.length (ints (opL ds (lateT Y l ds m) i1)) ∧ Below w2.heap.size w2 wr ∧ Marks w2.heap.size Ds wr) ∧ a' = { tmps := List.toArray ((.agg C : Value) :: (.slice A l.length c) :: (.int .i64 f) :: (.pointer (some ⟨w.heap.size, 0, none⟩)) :: undef :: undef :: (.slice none 0 0) :: (.int .i64 0) :: (.pointer (some ⟨bj, 0, none⟩)) :: (.int .i64 0) :: (.slice A2 ds.length c2) :: (.bool true) :: (.pointer (some ⟨w3.heap.size, 0, none⟩)) :: (.slice (some ⟨w3.heap.size + 1, 0, none⟩) l.length l.length) :: (.pointer (some ⟨b14, 0, none⟩)) :: u15 :: u16 :: u17 :: (.tuple #[.pointer (some ⟨bj, 0, none⟩), .int .i64 0]) :: (.agg C) :: (.slice A l.length c) :: (.int .i64 f) :: (.tuple #[.pointer (some ⟨bj, 0, none⟩), .int .i64 0]) :: (.pointer (some ⟨bj, 0, none⟩)) :: (.int .i64 0) :: (.int .i64 0) :: (.bool false) :: undef :: (.tuple #[.slice A2 ds.length c2, .bool true]) :: (.pointer (some ⟨bj, 0, none⟩)) :: (.tuple #[.slice A2 ds.length c2, .bool true]) :: (.slice A2 ds.length c2) :: (.bool true) :: (.bool true) :: (.bool false) :: (.slice A2 ds.length c2) :: (.slice A3 ds.length c3) :: (.slice A l.length c) :: (.int .i64 l.length) :: (.slice (some ⟨w3.heap.size + 1, 0, none⟩) l.length l.length) :: (.slice A l.length c) :: (.int .i64 l.length) :: (.int .i64 ((l.length : Int) - 2)) :: u43 :: u44 :: u45 :: u46 :: u47 :: u48 :: u49 :: u50 :: u51 :: u52 :: u53 :: u54 :: u55 :: u56 :: u57 :: u58 :: u59 :: u60 :: u61 :: u62 :: u63 :: u64 :: u65 :: u66 :: u67 :: u68 :: u69 :: u70 :: u71 :: u72 :: u73 :: u74 :: u75 :: u76 :: u77 :: u78 :: u79 :: u80 :: u81 :: u82 :: u83 :: u84 :: u85 :: u86 :: u87 :: u88 :: u89 :: u90 :: u91 :: u92 :: u93 :: u94 :: u95 :: u96 :: u97 :: u98 :: u99 :: u100 :: u101 :: u102 :: u103 :: u104 :: u105 :: undef :: []), defers := marks Ds }) (fun a' w' => cellN (a'.tmps.getD 14 undef) w') ?_ ?_
      · by_cases h0 : l.length = 0
        · refine ⟨0, ?_⟩; refine ⟨0, ?_⟩; refine ⟨(l.length : Int) - 2, ?_⟩; refine ⟨w3.heap.size + 1 + 1, ?_⟩; refine ⟨[], ?_⟩
          iterate 66 (refine ⟨undef, ?_⟩)
          refine ⟨⟨by omega, .inr ⟨h0, by omega⟩, .inr h0, kb14, Nat.le_refl _, kb12, ?_, ?_, hb4, Marks.nil _ _⟩, rfl⟩
          · have e1 : opL (List.replicate l.length 0) (dfL Y l ds 0 0) 0 = List.replicate l.length 0 := by rw [h0]; rfl
            rw [e1]; exact kb13
          · have e1 : opL ds (lateT Y l ds 0) 0 = ds := by have := HDL.out; rw [h0] at this; rw [List.length_eq_zero_iff.1 this]; rfl
            rw [e1]; exact ho4
        · refine ⟨l.length - 1, ?_⟩; refine ⟨1, ?_⟩; refine ⟨(l.length : Int) - 2, ?_⟩; refine ⟨w3.heap.size + 1 + 1, ?_⟩; refine ⟨[], ?_⟩
          iterate 66 (refine ⟨undef, ?_⟩)
          refine ⟨⟨by omega, .inl (by omega), .inl (Nat.le_refl _), kb14, Nat.le_refl _, kb12, ?_, ?_, hb4, Marks.nil _ _⟩, rfl⟩
          · rw [dfL_start (by omega) HDL.out]; exact kb13
          · rw [opL_start (by omega) HDL.out]; exact ho4
      clear kb12 kb13 kb14 ho4 hb4
      intro a' wr hrel
      obtain ⟨i1, hrel⟩ := hrel
      obtain ⟨m, hrel⟩ := hrel
      obtain ⟨e, hrel⟩ := hrel
      obtain ⟨b14, hrel⟩ := hrel
      obtain ⟨Ds, hrel⟩ := hrel
      obtain ⟨u15, hrel⟩ := hrel
      obtain ⟨u16, hrel⟩ := hrel
      obtain ⟨u17, hrel⟩ := hrel
      obtain ⟨u43, hrel⟩ := hrel
      obtain ⟨u44, hrel⟩ := hrel
      obtain ⟨u45, hrel⟩ := hrel
      obtain ⟨u46, hrel⟩ := hrel
      obtain ⟨u47, hrel⟩ := hrel
      obtain ⟨u48, hrel⟩ := hrel
      obtain ⟨u49, hrel⟩ := hrel
      obtain ⟨u50, hrel⟩ := hrel
      obtain ⟨u51, hrel⟩ := hrel
      obtain ⟨u52, hrel⟩ := hrel
      obtain ⟨u53, hrel⟩ := hrel
      obtain ⟨u54, hrel⟩ := hrel
      obtain ⟨u55, hrel⟩ := hrel
      obtain ⟨u56, hrel⟩ := hrel
      obtain ⟨u57, hrel⟩ := hrel
      obtain ⟨u58, hrel⟩ := hrel
      obtain ⟨u59, hrel⟩ := hrel
      obtain ⟨u60, hrel⟩ := hrel
      obtain ⟨u61, hrel⟩ := hrel
      obtain ⟨u62, hrel⟩ := hrel
      obtain ⟨u63, hrel⟩ := hrel
      obtain ⟨u64, hrel⟩ := hrel
      obtain ⟨u65, hrel⟩ := hrel
      obtain ⟨u66, hrel⟩ := hrel
      obtain ⟨u67, hrel⟩ := hrel
      obtain ⟨u68, hrel⟩ := hrel
      obtain ⟨u69, hrel⟩ := hrel
      obtain ⟨u70, hrel⟩ := hrel
      obtain ⟨u71, hrel⟩ := hrel
      obtain ⟨u72, hrel⟩ := hrel
      obtain ⟨u73, hrel⟩ := hrel
      obtain ⟨u74, hrel⟩ := hrel
      obtain ⟨u75, hrel⟩ := hrel
      obtain ⟨u76, hrel⟩ := hrel
      obtain ⟨u77, hrel⟩ := hrel
      obtain ⟨u78, hrel⟩ := hrel
      obtain ⟨u79, hrel⟩ := hrel
      obtain ⟨u80, hrel⟩ := hrel
      obtain ⟨u81, hrel⟩ := hrel
      obtain ⟨u82, hrel⟩ := hrel
      obtain ⟨u83, hrel⟩ := hrel
      obtain ⟨u84, hrel⟩ := hrel
      obtain ⟨u85, hrel⟩ := hrel
      obtain ⟨u86, hrel⟩ := hrel
      obtain ⟨u87, hrel⟩ := hrel
      obtain ⟨u88, hrel⟩ := hrel
      obtain ⟨u89, hrel⟩ := hrel
      obtain ⟨u90, hrel⟩ := hrel
      obtain ⟨u91, hrel⟩ := hrel
      obtain ⟨u92, hrel⟩ := hrel
      obtain ⟨u93, hrel⟩ := hrel
      obtain ⟨u94, hrel⟩ := hrel
      obtain ⟨u95, hrel⟩ := hrel
      obtain ⟨u96, hrel⟩ := hrel
      obtain ⟨u97, hrel⟩ := hrel
      obtain ⟨u98, hrel⟩ := hrel
      obtain ⟨u99, hrel⟩ := hrel
      obtain ⟨u100, hrel⟩ := hrel
      obtain ⟨u101, hrel⟩ := hrel
      obtain ⟨u102, hrel⟩ := hrel
      obtain ⟨u103, hrel⟩ := hrel
      obtain ⟨u104, hrel⟩ := hrel
      obtain ⟨u105, hrel⟩ := hrel
      obtain ⟨hfacts, hfr⟩ := hrel
      subst hfr
      obtain ⟨him, hei, hm1, hk14, hb14, hk12, hk13, hown, hbw, hM⟩ := hfacts
      have x14 := hk14.cell 0 rfl
      have f14 := hk14.fro 0
      by_cases he0 : 0 ≤ e
      · obtain ⟨i, rfl⟩ : ∃ i, i1 = i + 1 := ⟨i1 - 1, by omega⟩
        obtain rfl : e = (i : Int) := by omega
        have hil : i < l.length := by omega
        have hm0 : 0 < m := by omega
        obtain ⟨g, c4, hv, _, _⟩ := hown.form (by omega)
        obtain ⟨rfl, rfl⟩ : A3 = some ⟨g, 0, none⟩ ∧ c3 = c4 := by simpa using hv
        obtain ⟨hg1, hg2⟩ := HGL.out g rfl
        clear hv he0 hei hm1
        obtain ⟨wo, rfl⟩ : ∃ wo, wo = wr := ⟨wr, rfl⟩
        have hlw := hk14.lt
        have HBQ : Hid (∀ W : World, Below wo.heap.size wo W → Below w2.heap.size w2 W) := fun W hb => hbw.trans (hb.mono hbw.size)
        have HB14 : Hid (∀ W : World, Below wo.heap.size wo W → Bk W b14 3 #[.int .i64 i]) := fun W hb => hk14.below hb hk14.lt
        have HB12 : Hid (∀ W : World, Below wo.heap.size wo W → Bk W w3.heap.size 25 #[.slice (some ⟨g, 0, none⟩) ds.length c3]) := fun W hb => hk12.below hb hk12.lt
        have HB13 : Hid (∀ W : World, Below wo.heap.size wo W → Bk W (w3.heap.size + 1) 3 (ints (opL (List.replicate l.length 0) (dfL Y l ds m (i + 1)) (i + 1))).toArray) := fun W hb => hk13.below hb hk13.lt
        have HROW : Hid (∀ W : World, Below wo.heap.size wo W → W.ownsRow w2.heap.size 3 1 (.slice (some ⟨g, 0, none⟩) ds.length c3) ds.length (ints (opL ds (lateT Y l ds m) (i + 1)))) := fun W hb => ownsRow_below hown hb (Nat.le_refl _)
        have HMM : Hid (∀ W : World, Below wo.heap.size wo W → Marks w2.heap.size Ds W) := fun W hb => hM.below_ hb
        have hTl := lateT_len Y l ds m
        have HTC0 : Hid (∀ W : World, Below wo.heap.size wo W → ∀ k, k < m → W.cell? ⟨g, i + 1 + k, none⟩ = some (.int .i64 ((fun k => (lateT Y l ds m).getD k 0) k))) := fun W hb k hk => by
          have h1 := (HROW.out W hb).cellAt (i + 1 + k) (by omega)
          have h2 := opL_at (Z := ds) (T := lateT Y l ds m) (i1 := i + 1) (k := k) (by omega) (by omega)
          rw [h1]
          simp only [ints, List.getElem?_map, h2]
          rfl
        have HTK : Hid (∀ W : World, Below wo.heap.size wo W → TasksAt W w.heap.size A l) := fun W hb => HTW.out W (HBQ.out W hb)
        have HYK : Hid (∀ W : World, Below wo.heap.size wo W → YardAt W w.heap.size C Y) := fun W hb => HYW.out W (HBQ.out W hb)
        have HKK : Hid (∀ W : World, Below wo.heap.size wo W → Bk W w.heap.size 29 C) := fun W hb => HKW.out W (HBQ.out W hb)
        have HDD : Hid (∀ W : World, Below w2.heap.size w2 W → ∃ a4 : Addr, A2 = some a4 ∧ a4.block < W.heap.size ∧ W.cell? (a4.add i) = some (.int .i64 (ds.getD i 0))) := fun W hb => by
          obtain ⟨a4, e4, h4, h5⟩ := int_at (HDW.out W hb) (show i < ds.length by omega)
          refine ⟨a4, e4, h4, ?_⟩
          rw [h5, List.getD_eq_getElem?_getD, List.getElem?_eq_getElem (show i < ds.length by omega)]
          rfl
        obtain ⟨hf0, hf1⟩ := hf
        have hda := HEA.out.bd i hil
        have HSR := Lib.hid (srch_more HEA.out ⟨hf0, hf1⟩ hm0 him)
        have HXX : Hid (lateX Y l ds i (lateT Y l ds m) = lastOr (suitK Y l[i] i (ds.getD i 0) (hiK l Y.dry i (lateT Y l ds m) m + 1 - ds.getD i 0).toNat) (ds.getD i 0)) := by
          show _ = _
          rw [lateX_at hil (by omega), hTl]
        have HDF := Lib.hid (dfL_step (Y := Y) him HDL.out)
        have HLT : Hid (lateT Y l ds (m + 1) = lateX Y l ds i (lateT Y l ds m) :: lateT Y l ds m) := by
          show lateX Y l ds (l.length - 1 - m) (lateT Y l ds m) :: lateT Y l ds m = _
          rw [show l.length - 1 - m = i by omega]
        have HOS := Lib.hid (opL_self (T := lateT Y l ds m) (show i < ds.length by omega))
        have HOP : Hid (∀ x, lateX Y l ds i (lateT Y l ds m) = x → (opL ds (lateT Y l ds m) (i + 1)).set i x = opL ds (lateT Y l ds (m + 1)) i) := fun x hx => by
          rw [HLT.out, hx]; exact opL_set (by omega) x
        have HOU : Hid (∀ (W : World) (x : Int), Bk W (w3.heap.size + 1) 3 (ints (opL (List.replicate l.length 0) (dfL Y l ds m (i + 1)) (i + 1))).toArray → lateX Y l ds i (lateT Y l ds m) - ds.getD i 0 = x → Bk (W.setCell ⟨w3.heap.size + 1, i, none⟩ (.int .i64 x)) (w3.heap.size + 1) 3 (ints (opL (List.replicate l.length 0) (dfL Y l ds (m + 1) i) i)).toArray) := fun W x hb hx => by
          rw [HDF.out, hx]; exact opL_put hb (by simp; omega) x
        have HOC : Hid (∀ W : World, Bk W (w3.heap.size + 1) 3 (ints (opL (List.replicate l.length 0) (dfL Y l ds m (i + 1)) (i + 1))).toArray → W.cell? ⟨w3.heap.size + 1, i, none⟩ = some (.int .i64 0)) := fun W hb => by
          refine hb.cell i ?_
          have h1 := opL_old (Z := List.replicate l.length 0) (T := dfL Y l ds m (i + 1)) (i1 := i + 1) (k := i) (by simp; omega) (by omega)
          simp only [ints, List.getElem?_toArray, List.getElem?_map, h1]
          simp [hil]
        have HLL : Hid ((opL ds (lateT Y l ds m) (i + 1)).length = ds.length) := by
          show _ = _
          rw [opL_len (by omega), hTl, HDL.out]; exact him
        obtain ⟨H, hH⟩ : ∃ H : Nat → Int, H = hiK l Y.dry i (lateT Y l ds m) := ⟨_, rfl⟩
        rw [← hH] at HSR HXX
        have hH0 : (fun k => (lateT Y l ds m).getD k 0) 0 - 1 = H 0 := by rw [hH]; rfl
        generalize (fun k => (lateT Y l ds m).getD k 0) = tv at *
        generalize lateX Y l ds i (lateT Y l ds m) = X at *
        generalize opL ds (lateT Y l ds m) (i + 1) = R0 at *
        generalize ds.getD i 0 = a at *
        have HH0 := Lib.hid hH0
        obtain ⟨ht0, ht1⟩ := HSR.out.tvb 0 hm0
        have x9 := HTC0.out wo (Below.refl _ _) 0 hm0
        rw [Nat.add_zero] at x9
        clear hH hH0 hown hk13 hTl
        generalize tv 0 = t0 at *
        have he1 : ((i : Int) + 1).toNat = i + 1 := by omega
        have he2 : 0 ≤ (i : Int) + 1 := by omega
        have he3 : (i : Int) + 1 < (ds.length : Int) := by omega
        have hiI : (i : Int) < (l.length : Int) := by omega
        have hiD : (i : Int) < (ds.length : Int) := by omega
        have hi0 : 0 ≤ (i : Int) := by omega
        have WT : IntKind.i64.wrap (t0 - 1) = t0 - 1 := IntWalk.i64_in _ (by omega)
        have WI : IntKind.i64.wrap ((i : Int) + 1) = (i : Int) + 1 := IntWalk.i64_in _ (by omega)
        have x12 := hk12.cell 0 rfl
        go_wp2
        go_loopw [15, 16] (fun hh y wr => ∃ j k : Nat, j = i + 1 + k ∧ k ≤ m ∧ hh = .int .i64 (H k) ∧ y = .int .i64 (j : Int) ∧ Below wo.heap.size wo wr) (fun _ y _ => l.length - (intOf y).toNat)
        case atStart => exact ⟨i + 1, 0, rfl, Nat.zero_le _, by rw [HH0.out], by go_num, by exact (by repeat (first | with_reducible exact Below.refl _ _ | with_reducible assumption | with_reducible refine Below.drew ?_ | with_reducible refine below_drewN ?_ _ | (with_reducible refine Below.alloc ?_ ?_ _; rotate_left; (try simp) <;> omega) | (with_reducible refine Below.setCell ?_ ?_ _; rotate_left; (try simp) <;> omega)))⟩
        case round =>
        obtain ⟨j, k, hj, hk, rfl, rfl, hbv⟩ := hrel
        have HJ := Lib.hid hj
        have hj1 : j ≤ i + 1 + k := by omega
        have hj2 : i + 1 + k ≤ j := by omega
        clear hj he1 he2 he3 x9 x12 x14 f14 WT ht0 ht1 HH0
        obtain ⟨wv, rfl⟩ : ∃ wv, wv = wr := ⟨wr, rfl⟩
        obtain ⟨hk0, hk1⟩ := HSR.out.bd k hk
        by_cases hjl : j < l.length
        · have hkm : k < m := by omega
          have HST := Lib.hid (HSR.out.step k hkm)
          rw [← HJ.out, aftB_at hjl] at HST
          obtain ⟨ht2, ht3⟩ := HSR.out.tvb k hkm
          have HTJ : Hid (∀ W : World, Below wo.heap.size wo W → W.cell? ⟨g, j, none⟩ = some (.int .i64 (tv k))) := fun W hb => by rw [HJ.out]; exact HTC0.out W hb k hkm
          obtain ⟨a2, rfl, ha2, q0, q1, q2, q3⟩ := task_at (HTK.out wv hbv).at_ hjl
          have HTT : Hid (∀ W : World, Below wo.heap.size wo W → W.cell? ⟨(a2.add (j * 4)).block, (a2.add (j * 4)).off + 2, none⟩ = some (.slice l[j].aA l[j].af.length l[j].ac)) := fun W hb => by
            obtain ⟨b3, e3, _, _, _, q2, _⟩ := task_at ((HTK.out W hb).at_) hjl
            cases e3
            exact q2
          have HTA := Lib.hid (fun W (hb : Below wo.heap.size wo W) => (HTK.out W hb).af l[j] (List.getElem_mem hjl))
          have han := (HTM.out.2 l[j] (List.getElem_mem hjl)).1
          obtain ⟨hdr1, hdr2⟩ := (okY_valid HO.out).dry
          generalize hK0 : H k = hk_ at *
          generalize hK1 : H (k + 1) = hkn at *
          generalize tv k = tkv at *
          generalize l[j] = t at *
          obtain ⟨wk, nd, aA, ac, af, cA, cc, co⟩ := t
          dsimp only at *
          have HK1 := Lib.hid hK1
          have hjI : (j : Int) < (l.length : Int) := by omega
          have hjD : (j : Int) < (ds.length : Int) := by omega
          have hj0 : 0 ≤ (j : Int) := by omega
          have x14 := (HB14.out wv hbv).cell 0 rfl
          have HCN := Lib.hid (fun W (hb : Below wo.heap.size wo W) => contains_any af aA ac (i : Int) W (((HTA.out W hb)).more (HBQ.out W hb |> fun h => Nat.le_trans hz2 h.size)) (by omega))
          generalize hcn : af.contains (i : Int) = cn at *
          clear hK0 hK1 hcn
          go_upto_region 16 with fail
          refine wp_calm ?_
          refine wp_region_held_drew (S := (fun w' => w'.cell? ⟨(a2.add (j * 4)).block, (a2.add (j * 4)).off + 2, none⟩ = some (.slice aA af.length ac) ∧ w'.cell? ⟨b14, 0, none⟩ = some (.int .i64 i))) (by kernel_rfl) ?_ (fun hHeld => ?_)
          · exact ⟨q2, x14⟩
          refine tk 0 61 ?_
          refine tk 1 62 ?_
          refine tk 2 63 ?_
          refine tk 3 64 ?_
          refine tk 4 65 ?_
          refine tk 5 66 ?_
          (refine held_call 6 (some 67) 91 _ rfl (by kernel_rfl) (by rfl) ?_ (HCN.out _ (by exact (by repeat (first | with_reducible exact Below.refl _ _ | with_reducible assumption | with_reducible refine Below.drew ?_ | with_reducible refine below_drewN ?_ _ | (with_reducible refine Below.alloc ?_ ?_ _; rotate_left; (try simp) <;> omega) | (with_reducible refine Below.setCell ?_ ?_ _; rotate_left; (try simp) <;> omega))))) ?_; rotate_left; rotate_left; (simp only [List.getElem?_toArray, List.getElem?_cons_zero, List.getElem?_cons_succ, Option.map_some]; refine congrArg some ?_; go_simp))
          rintro e w5 ⟨rfl, hb5'⟩
          have hb5 : Below wo.heap.size wo w5 := Below.trans (by exact (by repeat (first | with_reducible exact Below.refl _ _ | with_reducible assumption | with_reducible refine Below.drew ?_ | with_reducible refine below_drewN ?_ _ | (with_reducible refine Below.alloc ?_ ?_ _; rotate_left; (try simp) <;> omega) | (with_reducible refine Below.setCell ?_ ?_ _; rotate_left; (try simp) <;> omega)))) (hb5'.mono (by have := hbv.size; first | exact this | (simp; exact this)))
          refine ⟨_, rfl, ⟨HTT.out w5 hb5, (HB14.out w5 hb5).cell 0 rfl⟩, fun hHeld => ?_⟩
          (try simp only [Act.put, List.setIfInBounds_toArray, List.set_cons_zero, List.set_cons_succ])
          refine wpAnyH_done (by kernel_rfl) ?_ _
          clear hHeld q0 q1 q2 q3 x14
          cases cn with
          | true =>
            rw [if_pos rfl] at HST
            have x12 := (HB12.out w5 hb5).cell 0 rfl
            have xj := HTJ.out w5 hb5
            have x27 := (HKK.out w5 hb5).cell 27 e27
            have WX1 : IntKind.i64.wrap (tkv - Y.dry) = tkv - Y.dry := IntWalk.i64_in _ (by omega)
            have WX2 : IntKind.i64.wrap (tkv - Y.dry - 1) = tkv - Y.dry - 1 := IntWalk.i64_in _ (by omega)
            go_upto_region 17 with fail
            refine wp_calmQ ?_
            refine wp_region_held_drew (S := (fun w' => w'.cell? ⟨w3.heap.size, 0, none⟩ = some (.slice (some ⟨g, 0, none⟩) ds.length c3) ∧ w'.cell? ⟨g, j, none⟩ = some (.int .i64 tkv) ∧ w'.cell? ⟨w.heap.size, 27, none⟩ = some (.int .i64 Y.dry))) (by kernel_rfl) ?_ (fun hHeld => ?_)
            · exact ⟨x12, xj, x27⟩
            refine tk 0 68 ?_
            refine tk 1 69 ?_
            refine tk 2 70 ?_
            refine tk 3 71 ?_
            refine tk 4 72 ?_
            refine tk 5 73 ?_
            refine tk 6 74 ?_
            refine tk 7 75 ?_
            refine tk 8 76 ?_
            refine tk 9 77 ?_
            refine tk 10 15 ?_
            refine wpAnyH_done (by kernel_rfl) ?_ _
            go_wp2
            go_roundw
            case rel => exact ⟨j + 1, k + 1, by omega, by omega, by rw [HK1.out, HST.out], by go_num, by exact (by repeat (first | with_reducible exact Below.refl _ _ | with_reducible assumption | with_reducible refine Below.drew ?_ | with_reducible refine below_drewN ?_ _ | (with_reducible refine Below.alloc ?_ ?_ _; rotate_left; (try simp) <;> omega) | (with_reducible refine Below.setCell ?_ ?_ _; rotate_left; (try simp) <;> omega)))⟩
            case measure => simp [intOf] <;> omega
          | false =>
            rw [if_neg (by decide)] at HST
            go_wp2
            go_roundw
            case rel => exact ⟨j + 1, k + 1, by omega, by omega, by rw [HK1.out, HST.out], by go_num, by exact (by repeat (first | with_reducible exact Below.refl _ _ | with_reducible assumption | with_reducible refine Below.drew ?_ | with_reducible refine below_drewN ?_ _ | (with_reducible refine Below.alloc ?_ ?_ _; rotate_left; (try simp) <;> omega) | (with_reducible refine Below.setCell ?_ ?_ _; rotate_left; (try simp) <;> omega)))⟩
            case measure => simp [intOf] <;> omega
        · obtain rfl : k = m := by omega
          have x14 := (HB14.out wv hbv).cell 0 rfl
          obtain ⟨a4, rfl, ha4, d4⟩ := HDD.out wv (HBQ.out wv hbv)
          have HD4 : Hid (∀ W : World, Below w2.heap.size w2 W → W.cell? (a4.add i) = some (.int .i64 a)) := fun W hb => by
            obtain ⟨b, e, _, h⟩ := HDD.out W hb
            cases e
            exact h
          have hXb := lastOr_bd (Y := Y) (t := l[i]) (i := i) hk0
          rw [← HXX.out] at hXb
          obtain ⟨hX1, hX2⟩ := hXb
          have WH : IntKind.i64.wrap (H k + 1) = H k + 1 := IntWalk.i64_in _ (by omega)
          have WD : IntKind.i64.wrap (X - a) = X - a := IntWalk.i64_in _ (by omega)
          have hu29 := Try.underlying29
          have h28 : C.toList.length = 28 := HC28.out
          have hi29 : (Try.prog.info? 29).map (·.size) = some C.toList.length := by rw [h28]; exact info29
          clear h28
          have crr := (HKK.out wv hbv).range
          have hzv := hbv.size
          have hzo := hbw.size
          have HSU := Lib.hid (fun W (hb : Below wo.heap.size wo W) => suited_any C Y l A c i a (H k + 1) W ((HYK.out W hb).more (by have := hb.size; omega)) ((HTK.out W hb).more (by have := hb.size; omega)))
          generalize H k = hh at *
          go_upto_region 18 with fail
          refine wp_calm ?_
          refine wp_region_held_drew (S := (fun w' => w'.rangeAt w.heap.size 0 C.toList ∧ w'.cell? ⟨b14, 0, none⟩ = some (.int .i64 i) ∧ w'.cell? (a4.add i) = some (.int .i64 a))) (by kernel_rfl) ?_ (fun hHeld => ?_)
          · exact ⟨crr, x14, d4⟩
          (refine held_row 0 (some 78) 29 (.tmp 3) (w.heap.size) 0 C.toList _ rfl rfl (by kernel_rfl) (by kernel_rfl) (by kernel_rfl) (by rfl) rfl (fun _ _ _ h => h) (by assumption) (fun _ hS => hS.1) Try.underlying29 rfl (by assumption) ?_; (try simp only [Act.put, List.setIfInBounds_toArray, List.set_cons_zero, List.set_cons_succ]))
          refine tk 1 79 ?_
          refine tk 2 80 ?_
          refine tk 3 81 ?_
          refine tk 4 82 ?_
          refine tk 5 83 ?_
          refine tk 6 84 ?_
          refine tk 7 85 ?_
          refine tk 8 86 ?_
          (refine held_call 9 (some 87) 92 _ rfl (by kernel_rfl) (by rfl) ?_ (HSU.out _ (by exact (by repeat (first | with_reducible exact Below.refl _ _ | with_reducible assumption | with_reducible refine Below.drew ?_ | with_reducible refine below_drewN ?_ _ | (with_reducible refine Below.alloc ?_ ?_ _; rotate_left; (try simp) <;> omega) | (with_reducible refine Below.setCell ?_ ?_ _; rotate_left; (try simp) <;> omega))))) ?_; rotate_left; rotate_left; (simp only [List.getElem?_toArray, List.getElem?_cons_zero, List.getElem?_cons_succ, Option.map_some]; refine congrArg some ?_; go_simp))
          rintro e w6 ⟨rfl, hs6, hb6, hz6⟩
          have hW6 : Below wo.heap.size wo w6 := Below.trans (by exact (by repeat (first | with_reducible exact Below.refl _ _ | with_reducible assumption | with_reducible refine Below.drew ?_ | with_reducible refine below_drewN ?_ _ | (with_reducible refine Below.alloc ?_ ?_ _; rotate_left; (try simp) <;> omega) | (with_reducible refine Below.setCell ?_ ?_ _; rotate_left; (try simp) <;> omega)))) (hb6.mono (by first | exact hzv | (simp; exact hzv)))
          refine ⟨_, rfl, ⟨(HKK.out w6 hW6).range, (HB14.out w6 hW6).cell 0 rfl, HD4.out w6 (HBQ.out w6 hW6)⟩, fun hHeld => ?_⟩
          (try simp only [Act.put, List.setIfInBounds_toArray, List.set_cons_zero, List.set_cons_succ])
          refine wpAnyH_done (by kernel_rfl) ?_ _
          clear hHeld crr x14 d4
          go_wp2
          have hn5 : wv.drew.heap.size = wv.heap.size := rfl
          (try rw [hn5] at hs6 hz6)
          (try rw [hn5])
          have hzw := hW6.size
          have hs7 : SuitW w.heap.size C Y l A c i (wv.heap.size + 3) (wv.heap.size + 4) wv.heap.size (wv.heap.size + 1) (wv.heap.size + 2) a (hh + 1) w6 :=
            ⟨hs6.from_, hs6.until_, hs6.yard, hs6.tasks, hs6.task, HYK.out w6 hW6, HTK.out w6 hW6, by omega⟩
          have HSS := Lib.hid hs7
          clear hs6 hs7 hn5 hz6 hb6
          have hgv : g < wv.heap.size := by omega
          have hbv14 : b14 < wv.heap.size := by omega
          have hvw : wv.heap.size ≤ w6.heap.size := by have := block_lt_of_cell HSS.out.from_; dsimp only at this; omega
          generalize wv.heap.size = n5 at *
          generalize hL : suitK Y l[i] i a (hh + 1 - a).toNat = L at *
          have HL9 := Lib.hid hL; clear hL
          have hiR : i < R0.length := by have := HLL.out; omega
          refine (wpIn_wide (n := 3)).1 ?_
          refine wpIn_rangeFunc_own1 (n := 3) (q := 17) rfl (by omega) (gf := 122) (lb := #[.pointer (some ⟨n5 + 3, 0, none⟩), .pointer (some ⟨n5 + 4, 0, none⟩), .pointer (some ⟨n5, 0, none⟩), .pointer (some ⟨n5 + 1, 0, none⟩), .pointer (some ⟨n5 + 2, 0, none⟩)]) rfl trivial (enters_of Try.func122 (by kernel_rfl) rfl)
            (Kp := KpC (fun y => y = g)) (S := fun xs => xs = L) (Sp := fun pre => pre <+: L) (N := (hh + 1 - a).toNat) (w0 := w6) ?seq (fun h k => h.trans k) (fun W l o o' _ h1 h2 _ => KpC.putObj o' h1 h2) (Below.refl _ _)
            (fun pre W => W.ownsRow w2.heap.size 3 1 (.slice (some ⟨g, 0, none⟩) ds.length c3) ds.length (ints (R0.set i (lastOr pre a))) ∧ Bk W b14 3 #[.int .i64 i] ∧ Bk W w3.heap.size 25 #[.slice (some ⟨g, 0, none⟩) ds.length c3] ∧ Bk W (w3.heap.size + 1) 3 (ints (opL (List.replicate l.length 0) (dfL Y l ds k (i + 1)) (i + 1))).toArray ∧ Below w2.heap.size w2 W ∧ Marks w2.heap.size Ds W ∧ w6.heap.size ≤ W.heap.size)
            (fun _ _ _ => False) ?own (fun c s A B row h _ _ => h) ⟨by rw [show lastOr [] a = a from rfl, HOS.out]; exact HROW.out w6 hW6, HB14.out w6 hW6, HB12.out w6 hW6, HB13.out w6 hW6, HBQ.out w6 hW6, HMM.out w6 hW6, Nat.le_refl _⟩ ?assign ?body ?done ?stop
          case seq =>
            intro lb J Jx W hW hJ _ hY h0
            have := suited1_iter 2 w.heap.size C Y l A c i (n5 + 3) (n5 + 4) n5 (n5 + 1) (n5 + 2) a (hh + 1) (okY_valid HO.out) HTM.out.1 hil (by omega) ⟨by omega, by omega⟩
              (SuitW w.heap.size C Y l A c i (n5 + 3) (n5 + 4) n5 (n5 + 1) (n5 + 2) a (hh + 1)) (KpC fun y => y = g) (fun W W' h hb => h.below hb) (fun W W' h hk => h.kp hk (fun x hx e => by omega) (fun e => by omega) (fun e => by omega) (fun e => by omega) (fun e => by omega) (fun e => by omega)) (fun _ h => h) lb J Jx W (HSS.out.below hW) hJ hY h0
            rw [HL9.out] at this
            exact this
          case own =>
            rintro pre W W' row ⟨h1, h2, h3, h4, h5, h6, h7⟩ hg' hr
            exact ⟨h1.kept hg' (.inr fun e => by have := (hr g e.symm).1; omega), h2.grown hg' (fun e => by have := (hr _ e.symm).1; omega), h3.grown hg' (fun e => by have := (hr _ e.symm).1; omega), h4.grown hg' (fun e => by have := (hr _ e.symm).1; omega), h5.grown hg' h5.size (fun k e => by have := (hr k e).1; omega), h6.grown hg' (fun r e hm => by have := (hr r e).1; have := (HMM.out w6 hW6).lt hm; omega), Nat.le_trans h7 hg'.size⟩
          case assign =>
            intro lb x W K hK
            simp only [List.setIfInBounds_toArray, List.set_cons_zero, List.set_cons_succ] at hK ⊢
            gi_wp2
            exact hK
          case body =>
            rintro lb pre x W ⟨h1, h2, h3, h4, h5, h6, h7⟩ _
            simp only [List.setIfInBounds_toArray, List.set_cons_zero, List.set_cons_succ]
            have y1 := h2.cell 0 rfl
            have y2 := h3.cell 0 rfl
            have hst := (h1.stored i (.int .i64 x)).1
            rw [ints_set, List.set_set] at hst
            obtain ⟨vo, xc⟩ : ∃ v, W.cell? ⟨g, i, none⟩ = some v := ⟨_, (h1.cellAt i (by omega)).trans (List.getElem?_eq_getElem (by simp [ints]; omega))⟩
            have xf := h1.frozenAt i
            have hng : ∀ E, W.heap[E]? = some (.deferred (some [])) → E ≠ g := fun E hE e => by
              subst e
              rcases h1.2 with ⟨h, _⟩ | ⟨g', _, cur, h, _, hc, _⟩
              · cases h
              · cases h
                rw [hE] at hc; cases hc
            gi_wp2
            exact ⟨KeepsOthers.setCell _ _ _, set_keeps, by rw [lastOr_snoc]; exact hst, h2.far (by show b14 ≠ g; omega) _, h3.far (by show w3.heap.size ≠ g; omega) _, h4.far (by show w3.heap.size + 1 ≠ g; omega) _, h5.setCell (by show w2.heap.size ≤ g; omega) _, h6.keep fun E hE h => (Below.heap_setCell _ _ _ _ (hng E h)).trans h, by simpa using h7⟩
          case stop =>
            rintro D cc pre W hwD hp h hK
            exact h.elim
          case done =>
            rintro D xs W hwD rfl ⟨h1, h2, h3, h4, h5, h6, h7⟩ hK
            have HX : Hid (X = lastOr xs a) := by show _ = _; rw [HXX.out]
            have hM9 := Marks.cons h6 (by omega : w2.heap.size ≤ D) (fun hm => by have := (HMM.out w6 hW6).lt hm; omega) hK
            rw [← HX.out] at h1
            have xl : W.cell? ⟨g, i, none⟩ = some (.int .i64 X) := by
              rw [h1.cellAt i (by omega)]
              simp only [ints, List.getElem?_map, List.getElem?_set_self hiR]
              rfl
            rw [HOP.out X rfl] at h1
            have x14 := h2.cell 0 rfl
            have x12 := h3.cell 0 rfl
            have d4 := HD4.out W h5
            have xo := HOC.out W h4
            have fo := h4.fro i
            clear HX hK
            go_upto_region 21 with fail
            refine wp_calmQ ?_
            refine wp_region_held_drew (S := (fun w' => w'.cell? ⟨b14, 0, none⟩ = some (.int .i64 i) ∧ w'.cell? ⟨w3.heap.size, 0, none⟩ = some (.slice (some ⟨g, 0, none⟩) ds.length c3) ∧ w'.cell? ⟨g, i, none⟩ = some (.int .i64 X) ∧ w'.cell? (a4.add i) = some (.int .i64 a))) (by kernel_rfl) ?_ (fun hHeld => ?_)
            · exact ⟨x14, x12, xl, d4⟩
            refine tk 0 93 ?_
            refine tk 1 94 ?_
            refine tk 2 95 ?_
            refine tk 3 96 ?_
            refine tk 4 97 ?_
            refine tk 5 98 ?_
            refine tk 6 99 ?_
            refine tk 7 100 ?_
            refine tk 8 101 ?_
            refine tk 9 102 ?_
            refine tk 10 103 ?_
            refine tk 11 104 ?_
            refine held_one 12 ⟨none, .store 3 (.tmp 104) (.tmp 103), _, _, _, none⟩ rfl (by kernel_rfl) (by rfl) ?_
            have ha4w : a4.block < w2.heap.size := HA4.out a4 rfl (by omega)
            unfold Oper.wp
            go_simp
            refine ⟨by rw [World.cell?_setCell_far _ _ _ _ (by rw [add_block]; show w3.heap.size + 1 ≠ a4.block; omega)]; exact d4, ?_⟩
            (try simp only [Act.put, List.setIfInBounds_toArray, List.set_cons_zero, List.set_cons_succ])
            refine wpAnyH_done (by kernel_rfl) ?_ _
            have k13 := HOU.out W _ h4 rfl
            have k14 := h2.far (p := ⟨w3.heap.size + 1, i, none⟩) (by show b14 ≠ w3.heap.size + 1; omega) (.int .i64 (X - a))
            have k12 := h3.far (p := ⟨w3.heap.size + 1, i, none⟩) (by show w3.heap.size ≠ w3.heap.size + 1; omega) (.int .i64 (X - a))
            have x14n := k14.cell 0 rfl
            have kb := h5.setCell (p := ⟨w3.heap.size + 1, i, none⟩) (by show w2.heap.size ≤ w3.heap.size + 1; omega) (.int .i64 (X - a))
            have kM := hM9.keep (w' := W.setCell ⟨w3.heap.size + 1, i, none⟩ (.int .i64 (X - a))) fun E hE h => (Below.heap_setCell _ _ _ _ (by
              show E ≠ w3.heap.size + 1
              intro e; subst e
              rw [show W.heap[w3.heap.size + 1]? = _ from h4] at h; cases h)).trans h
            have kr : World.ownsRow (W.setCell ⟨w3.heap.size + 1, i, none⟩ (.int .i64 (X - a))) w2.heap.size 3 1 (.slice (some ⟨g, 0, none⟩) ds.length c3) ds.length (ints (opL ds (lateT Y l ds (k + 1)) i)) := ownsRow_setCell_other h1 (by simp [Value.ownBlock]; omega) _
            clear h1 h2 h3 h4 h5 h6 x14 x12 xl d4 xo fo hM9
            have hsz : W.heap.size ≤ (W.setCell ⟨w3.heap.size + 1, i, none⟩ (.int .i64 (X - a))).heap.size := by simp
            generalize W.setCell ⟨w3.heap.size + 1, i, none⟩ (.int .i64 (X - a)) = w9 at *
            go_wp2
            have kn : Bk (w9.alloc (.cells #[.int .i64 ((i : Int) - 1)] 3)).drew w9.heap.size 3 #[.int .i64 ((i : Int) - 1)] := Bk.new w9 3 #[.int .i64 ((i : Int) - 1)]
            refine ⟨?_, ?_⟩
            · refine ⟨i, ?_⟩; refine ⟨k + 1, ?_⟩; refine ⟨(i : Int) - 1, ?_⟩; refine ⟨w9.heap.size, ?_⟩; refine ⟨D :: Ds, ?_⟩
              (repeat apply Exists.intro)
              exact ⟨⟨by omega, .inl rfl, .inl (by omega), kn, by omega, k12.alloc _, k13.alloc _, (kr.alloc _).drew, by exact (by repeat (first | with_reducible exact Below.refl _ _ | with_reducible assumption | with_reducible refine Below.drew ?_ | with_reducible refine below_drewN ?_ _ | (with_reducible refine Below.alloc ?_ ?_ _; rotate_left; (try simp) <;> omega) | (with_reducible refine Below.setCell ?_ ?_ _; rotate_left; (try simp) <;> omega))), kM.below_ (by exact (by repeat (first | with_reducible exact Below.refl _ _ | with_reducible assumption | with_reducible refine Below.drew ?_ | with_reducible refine below_drewN ?_ _ | (with_reducible refine Below.alloc ?_ ?_ _; rotate_left; (try simp) <;> omega) | (with_reducible refine Below.setCell ?_ ?_ _; rotate_left; (try simp) <;> omega))))⟩, rfl⟩
            · have e1 := cellN_at (kn.cell 0 rfl)
              have e2 := cellN_at (hk14.cell 0 rfl)
              show cellN (.pointer (some ⟨w9.heap.size, 0, none⟩)) _ < cellN (.pointer (some ⟨b14, 0, none⟩)) _
              rw [e1, e2]
              omega
      · have HMN := Lib.hid (show m = l.length ∧ i1 = 0 by omega)
        have e1 : opL (List.replicate l.length 0) (dfL Y l ds m i1) i1 = slkL Y l ds := by
          rw [HMN.out.1, HMN.out.2]; unfold opL dfL slkL; simp
        rw [e1] at hk13
        have HSL : Hid ((slkL Y l ds).length = l.length) := by show _ = _; unfold slkL; rw [List.length_zipWith, lateT_len, HDL.out]; omega
        clear e1 him hei hm1
        go_wp2
        have g13 := hM.bk hk13
        have gb := Marks.below (a := w) hz2 hM (hB2.trans (hbw.mono hz2))
        have ho9 := bk_owns g13 (B := w.heap.size) (by omega) (by rw [HSL.out]; omega)
        rw [HSL.out] at ho9
        refine leaves_marks (v := .tuple #[.slice (some ⟨w3.heap.size + 1, 0, none⟩) l.length l.length, .int .i64 0]) hM rfl ?_ ?_
        · simp [results, Try.results33, go_sem]
        · exact ⟨_, rfl, by rw [HSL.out]; exact ho9, gb⟩
  · obtain ⟨h1, h2⟩ := earP_bad hb
    have hs0 : slk Y l f = [] := by unfold slk; rw [if_neg hb]
    rw [h2, hs0]
    have HN := Lib.hid hb
    generalize begE Y l f = N at *
    have hne : (N != 0) = true := by simp [hb]
    clear h1 h2 hb hs0
    go_enter Try.func33, Try.ntmps33
    go_wp2_with (first | (have h9 := HR0; clear h9; refine wpList_load_guard (P := Try.prog) (by rfl) 29 (.tmp 3) rfl w.heap.size 0 rfl C.toList _ HR0.out Try.underlying29 rfl (by rw [HC28.out]; exact info29) ?_) | (go_at_call 82; refine (HBE.out _ hb0).mono ?_; rintro e w1 ⟨hb1, ⟨_, rfl⟩ | ⟨h0, _⟩⟩; rotate_left; (exact absurd h0 HN.out); clear HR0; have hB1 : Below w.heap.size w w1 := hb0.trans (hb1.mono hb0.size); clear hb1))
    go_ret2
    exact ⟨_, rfl, World.ownsRow_nil _ _ _ _, hB1⟩
end Go.Proofs.Ytjgnikmnadmheaa

namespace Go.Proofs.Ytjgnikmnadmheaa
open Go.RowKit

theorem small_l {Y : Yd} {l : List Tk} (h : slowB Y l = false) : Small Y ∧ tame l := by
  have hv : vastB Y l = false := by unfold slowB at h; rw [Bool.or_eq_false_iff] at h; exact h.1
  obtain ⟨h1, h2, _⟩ := vast_facts hv
  exact ⟨⟨by omega, by omega, by omega, h2⟩, tame_of hv⟩
theorem begE_span (Y : Yd) (l : List Tk) (f : Int) : begE Y l f ≠ 70 := by
  have h1 : chkY Y ≠ 70 := by unfold chkY; split <;> (try split) <;> (try split) <;> decide
  have h2 : chkL l ≠ 70 := by unfold chkL; split <;> (try split) <;> decide
  have h3 : comE Y l ≠ 70 := by unfold comE; split <;> assumption
  unfold begE
  split
  · split <;> decide
  · exact h3
theorem plan_pits {Y : Yd} {l : List Tk} {f : Int} {ts : List Tu} (hp : Y.pi.length ≤ 1000) (h : planOK Y l f ts = true) : ∀ t ∈ ts, i64v t.pit := fun t ht => by
  unfold planOK at h
  rw [Bool.and_eq_true, decide_eq_true_eq, List.all_eq_true] at h
  obtain ⟨i, hi, rfl⟩ := List.mem_iff_getElem.1 ht
  have h1 := h.2 i (List.mem_range.2 (by omega))
  rw [turnOK_at (by omega) hi, Bool.and_eq_true, Bool.and_eq_true, Bool.and_eq_true] at h1
  have h2 := inB_iff.1 h1.2.2.1
  unfold i64v
  omega
end Go.Proofs.Ytjgnikmnadmheaa
