/- A job begun. -/
import Derived.Laws.Tables
import Derived.Test.YtjgnikmnadmheaaG62
import Derived.Test.YtjgnikmnadmheaaG65

namespace Go.Proofs.Ytjgnikmnadmheaa
open Go.RowKit

set_option maxRecDepth 100000 in
theorem built_job_lit (c0 c1 c2 c3 c4 c5 c6 c7 c8 c9 c10 c11 c12 c13 c14 c15 c16 c17 c18 c19 c20 c21 c22 c23 c24 c25 c26 c27 : Value) (A : Option Addr) (n c : Nat) (f : Int) : Try.prog.built 107 [(0, .agg #[c0, c1, c2, c3, c4, c5, c6, c7, c8, c9, c10, c11, c12, c13, c14, c15, c16, c17, c18, c19, c20, c21, c22, c23, c24, c25, c26, c27]), (1, .slice A n c), (2, .int .i64 f)] = some #[c0, c1, c2, c3, c4, c5, c6, c7, c8, c9, c10, c11, c12, c13, c14, c15, c16, c17, c18, c19, c20, c21, c22, c23, c24, c25, c26, c27, .slice A n c, .int .i64 f] := by kernel_rfl
set_option maxRecDepth 100000 in
theorem built_job (C : Array Value) (A : Option Addr) (n c : Nat) (f : Int) (h : C.size = 28) : Try.prog.built 107 [(0, .agg C), (1, .slice A n c), (2, .int .i64 f)] = some (C ++ #[.slice A n c, .int .i64 f]) := by
  obtain ⟨l⟩ := C
  match l, h with
  | [c0, c1, c2, c3, c4, c5, c6, c7, c8, c9, c10, c11, c12, c13, c14, c15, c16, c17, c18, c19, c20, c21, c22, c23, c24, c25, c26, c27], _ => exact built_job_lit c0 c1 c2 c3 c4 c5 c6 c7 c8 c9 c10 c11 c12 c13 c14 c15 c16 c17 c18 c19 c20 c21 c22 c23 c24 c25 c26 c27 A n c f
theorem wpList_build_eq {P : Program} {ops : Array Oper} {rest : List Oper} {o : Oper} {a : Act} {w : World} {Q : Exit → Act → World → Prop} (hg : o.guard = none) (t : TypeId) (parts : Array (Nat × Operand)) (ho : o.op = .build t parts) (cells : Array Value)
    (hf : P.built t (parts.map fun (i, x) => (i, a.eval x)).toList = some cells) (h : wpList P ops Q rest (a.put o.dst (.agg cells)) w) : wpList P ops Q (o :: rest) a w :=
  wpList_build hg t parts ho (by rw [hf]; rfl) (by rw [hf]; exact h)
/-- the error of a job -/
def begE (Y : Yd) (l : List Tk) (f : Int) : Int := if comE Y l = 0 then (if inB f 0 100000 = true then 0 else 1) else comE Y l
def BegunEnd (n : Int) (C : Array Value) (Y : Yd) (l : List Tk) (A : Option Addr) (c : Nat) (f : Int) (w : World) (e : Ending) (w' : World) : Prop :=
  Below w.heap.size w w' ∧ ((n ≠ 0 ∧ e = .returned (.tuple #[.pointer none, .int .i64 n])) ∨ (n = 0 ∧ ∃ bj, w.heap.size ≤ bj ∧ e = .returned (.tuple #[.pointer (some ⟨bj, 0, none⟩), .int .i64 0]) ∧ JobAt w' w'.heap.size bj C Y l A c f))
set_option maxRecDepth 100000 in
set_option maxHeartbeats 1000000 in
theorem begun_any (C : Array Value) (Y : Yd) (l : List Tk) (A : Option Addr) (c : Nat) (f : Int) (w : World) (hY : YardAt w w.heap.size C Y) (hs : Small Y) (hT : TasksAt w w.heap.size A l) (ht : tame l) :
    Calls Try.prog 82 #[.agg C, .slice A l.length c, .int .i64 f] w (BegunEnd (begE Y l f) C Y l A c f w) := by
  have HCO := Lib.hid (fun W (hb : Below w.heap.size w W) => common_any C Y l A c W ((hY.below hb (Nat.le_refl _)).more hb.size) hs ((hT.below hb (Nat.le_refl _)).more hb.size) ht)
  have HLOAD := load_any hY
  have HC28 := Lib.hid hY.len
  have HBJ := Lib.hid (built_job C A l.length c f hY.size)
  have HYW := Lib.hid (fun W (hb : Below w.heap.size w W) => (hY.below hb (Nat.le_refl _)).more hb.size)
  have HTW := Lib.hid (fun W (hb : Below w.heap.size w W) => (hT.below hb (Nat.le_refl _)).more hb.size)
  have HB : Hid (begE Y l f = if comE Y l = 0 then (if inB f 0 100000 = true then 0 else 1) else comE Y l) := rfl
  clear hY hT ht hs
  generalize begE Y l f = N at *
  generalize comE Y l = n at *
  by_cases hn : n = 0
  · subst hn
    cases hd : inB f 0 100000 with
    | true =>
      have HN : Hid (N = 0) := by show _ = _; rw [HB.out, if_pos rfl, hd]; rfl
      have HD := Lib.hid hd
      clear HB hd
      go_enter Try.func82, Try.ntmps82
      go_upto_region 6 with (first | (refine wpList_load_guard (P := Try.prog) (by rfl) 29 (.tmp 3) rfl w.heap.size 0 rfl C.toList _ (HLOAD.out _ _ (by exact (by repeat (first | with_reducible assumption | with_reducible exact Bk.new _ _ _ | with_reducible refine Bk.drew ?_ | with_reducible refine Bk.drewN ?_ _ | with_reducible refine Bk.alloc ?_ _ | (with_reducible refine Bk.far ?_ ?_ _; rotate_left; (try simp) <;> omega))))) Try.underlying29 rfl (by rw [HC28.out]; exact info29) ?_) | (go_at_call 85; refine (HCO.out _ (by exact (by repeat (first | with_reducible exact Below.refl _ _ | with_reducible assumption | with_reducible refine Below.drew ?_ | with_reducible refine below_drewN ?_ _ | (with_reducible refine Below.alloc ?_ ?_ _; rotate_left; (try simp) <;> omega) | (with_reducible refine Below.setCell ?_ ?_ _; rotate_left; (try simp) <;> omega))))).mono ?_; rintro e w1 ⟨rfl, hb1⟩; have hB1 : Below w.heap.size w w1 := Below.trans (by exact (by repeat (first | with_reducible exact Below.refl _ _ | with_reducible assumption | with_reducible refine Below.drew ?_ | with_reducible refine below_drewN ?_ _ | (with_reducible refine Below.alloc ?_ ?_ _; rotate_left; (try simp) <;> omega) | (with_reducible refine Below.setCell ?_ ?_ _; rotate_left; (try simp) <;> omega)))) (hb1.mono (by simp)); have hK1 : Bk w1 w.heap.size 29 C := Bk.below (by exact (by repeat (first | with_reducible assumption | with_reducible exact Bk.new _ _ _ | with_reducible refine Bk.drew ?_ | with_reducible refine Bk.drewN ?_ _ | with_reducible refine Bk.alloc ?_ _ | (with_reducible refine Bk.far ?_ ?_ _; rotate_left; (try simp) <;> omega)))) hb1 (by simp); clear hb1) | (go_at_call 66; refine (in_any _ _ _ _).mono ?_; rintro e w' ⟨rfl, rfl⟩; rw [HD.out]))
      go_wp2_with (first | (refine wpList_load_guard (P := Try.prog) (by rfl) 29 (.tmp 3) rfl w.heap.size 0 rfl C.toList _ (HLOAD.out _ _ hK1) Try.underlying29 rfl (by rw [HC28.out]; exact info29) ?_) | (refine wpList_build_eq (P := Try.prog) rfl 107 #[(0, .tmp 18), (1, .tmp 19), (2, .tmp 20)] rfl (C ++ #[.slice A l.length c, .int .i64 f]) ?_ ?_; (simpa [go_sem] using HBJ.out)))
      go_ret2
      have hj : JobAt (w1.alloc (.cells (C ++ #[.slice A l.length c, .int .i64 f]) 107)) (w1.alloc (.cells (C ++ #[.slice A l.length c, .int .i64 f]) 107)).heap.size w1.heap.size C Y l A c f :=
        ⟨Bk.new _ _ _, ((HYW.out w1 hB1).below ((Below.refl _ _).alloc (Nat.le_refl _) _) (Nat.le_refl _)).more (by simp), ((HTW.out w1 hB1).below ((Below.refl _ _).alloc (Nat.le_refl _) _) (Nat.le_refl _)).more (by simp), by simp⟩
      rw [HN.out]
      have hz1 := hB1.size
      exact ⟨by exact (by repeat (first | with_reducible exact Below.refl _ _ | with_reducible assumption | with_reducible refine Below.drew ?_ | with_reducible refine below_drewN ?_ _ | (with_reducible refine Below.alloc ?_ ?_ _; rotate_left; (try simp) <;> omega) | (with_reducible refine Below.setCell ?_ ?_ _; rotate_left; (try simp) <;> omega))), .inr ⟨rfl, w1.heap.size, hB1.size, rfl, hj⟩⟩
    | false =>
      have HN : Hid (N = 1) := by show _ = _; rw [HB.out, if_pos rfl, hd]; rfl
      have HD := Lib.hid hd
      clear HB hd
      go_enter Try.func82, Try.ntmps82
      go_wp2_with (first | (refine wpList_load_guard (P := Try.prog) (by rfl) 29 (.tmp 3) rfl w.heap.size 0 rfl C.toList _ (HLOAD.out _ _ (by exact (by repeat (first | with_reducible assumption | with_reducible exact Bk.new _ _ _ | with_reducible refine Bk.drew ?_ | with_reducible refine Bk.drewN ?_ _ | with_reducible refine Bk.alloc ?_ _ | (with_reducible refine Bk.far ?_ ?_ _; rotate_left; (try simp) <;> omega))))) Try.underlying29 rfl (by rw [HC28.out]; exact info29) ?_) | (go_at_call 85; refine (HCO.out _ (by exact (by repeat (first | with_reducible exact Below.refl _ _ | with_reducible assumption | with_reducible refine Below.drew ?_ | with_reducible refine below_drewN ?_ _ | (with_reducible refine Below.alloc ?_ ?_ _; rotate_left; (try simp) <;> omega) | (with_reducible refine Below.setCell ?_ ?_ _; rotate_left; (try simp) <;> omega))))).mono ?_; rintro e w1 ⟨rfl, hb1⟩; have hB1 : Below w.heap.size w w1 := Below.trans (by exact (by repeat (first | with_reducible exact Below.refl _ _ | with_reducible assumption | with_reducible refine Below.drew ?_ | with_reducible refine below_drewN ?_ _ | (with_reducible refine Below.alloc ?_ ?_ _; rotate_left; (try simp) <;> omega) | (with_reducible refine Below.setCell ?_ ?_ _; rotate_left; (try simp) <;> omega)))) (hb1.mono (by simp)); have hK1 : Bk w1 w.heap.size 29 C := Bk.below (by exact (by repeat (first | with_reducible assumption | with_reducible exact Bk.new _ _ _ | with_reducible refine Bk.drew ?_ | with_reducible refine Bk.drewN ?_ _ | with_reducible refine Bk.alloc ?_ _ | (with_reducible refine Bk.far ?_ ?_ _; rotate_left; (try simp) <;> omega)))) hb1 (by simp); clear hb1) | (go_at_call 66; refine (in_any _ _ _ _).mono ?_; rintro e w' ⟨rfl, rfl⟩; rw [HD.out]))
      go_ret2
      rw [HN.out]
      exact ⟨hB1, .inl ⟨by decide, rfl⟩⟩
  · have hne : (n != 0) = true := by simp [hn]
    have HN : Hid (N = n) := by show _ = _; rw [HB.out, if_neg hn]
    have HNN := Lib.hid hn
    clear HB hn
    go_enter Try.func82, Try.ntmps82
    go_wp2_with (first | (refine wpList_load_guard (P := Try.prog) (by rfl) 29 (.tmp 3) rfl w.heap.size 0 rfl C.toList _ (HLOAD.out _ _ (by exact (by repeat (first | with_reducible assumption | with_reducible exact Bk.new _ _ _ | with_reducible refine Bk.drew ?_ | with_reducible refine Bk.drewN ?_ _ | with_reducible refine Bk.alloc ?_ _ | (with_reducible refine Bk.far ?_ ?_ _; rotate_left; (try simp) <;> omega))))) Try.underlying29 rfl (by rw [HC28.out]; exact info29) ?_) | (go_at_call 85; refine (HCO.out _ (by exact (by repeat (first | with_reducible exact Below.refl _ _ | with_reducible assumption | with_reducible refine Below.drew ?_ | with_reducible refine below_drewN ?_ _ | (with_reducible refine Below.alloc ?_ ?_ _; rotate_left; (try simp) <;> omega) | (with_reducible refine Below.setCell ?_ ?_ _; rotate_left; (try simp) <;> omega))))).mono ?_; rintro e w1 ⟨rfl, hb1⟩; have hB1 : Below w.heap.size w w1 := Below.trans (by exact (by repeat (first | with_reducible exact Below.refl _ _ | with_reducible assumption | with_reducible refine Below.drew ?_ | with_reducible refine below_drewN ?_ _ | (with_reducible refine Below.alloc ?_ ?_ _; rotate_left; (try simp) <;> omega) | (with_reducible refine Below.setCell ?_ ?_ _; rotate_left; (try simp) <;> omega)))) (hb1.mono (by simp)); have hK1 : Bk w1 w.heap.size 29 C := Bk.below (by exact (by repeat (first | with_reducible assumption | with_reducible exact Bk.new _ _ _ | with_reducible refine Bk.drew ?_ | with_reducible refine Bk.drewN ?_ _ | with_reducible refine Bk.alloc ?_ _ | (with_reducible refine Bk.far ?_ ?_ _; rotate_left; (try simp) <;> omega)))) hb1 (by simp); clear hb1))
    go_ret2
    rw [HN.out]
    exact ⟨hB1, .inl ⟨HNN.out, rfl⟩⟩
theorem begE_ok {Y : Yd} {l : List Tk} {f : Int} (h : begE Y l f = 0) : okY Y = true ∧ ValidT l ∧ (0 ≤ f ∧ f ≤ 100000) := by
  unfold begE at h
  by_cases h1 : comE Y l = 0
  · rw [if_pos h1] at h
    cases hd : inB f 0 100000 with
    | false => rw [hd] at h; cases h
    | true =>
      unfold comE at h1
      cases ho : okY Y with
      | true => rw [ho] at h1; exact ⟨rfl, validT_of h1, inB_iff.1 hd⟩
      | false =>
        rw [ho] at h1
        unfold okY at ho
        simp at h1
        rw [h1] at ho; cases ho
  · rw [if_neg h1] at h; exact absurd h h1

/-- what Earliest says -/
def earD (Y : Yd) (l : List Tk) (f : Int) : Option (List Int) := est Y l f (fun _ => none) l.length []
def earP (Y : Yd) (l : List Tk) (f : Int) : List Tu := if begE Y l f = 0 then (match earD Y l f with | some ds => usual Y l [] ds | none => []) else []
def earE (Y : Yd) (l : List Tk) (f : Int) : Int := if begE Y l f = 0 then (match earD Y l f with | some _ => 0 | none => 70) else begE Y l f
def PlanE (ts : List Tu) (n : Int) (w : World) (e : Ending) (w' : World) : Prop := ∃ v : Value, e = .returned (.tuple #[.agg #[v], .int .i64 n]) ∧ w'.ownsRow w.heap.size 55 3 v ts.length (turnsC ts) ∧ Below w.heap.size w w'
end Go.Proofs.Ytjgnikmnadmheaa

namespace Go.Proofs.Ytjgnikmnadmheaa
open Go.RowKit

theorem plan_nil (w : World) (B : Nat) : w.ownsRow B 55 3 (.slice none 0 0) 0 (turnsC []) := World.ownsRow_nil _ _ _ _
theorem earP_bad {Y : Yd} {l : List Tk} {f : Int} (h : begE Y l f ≠ 0) : earP Y l f = [] ∧ earE Y l f = begE Y l f := by unfold earP earE; rw [if_neg h, if_neg h]; exact ⟨rfl, rfl⟩
theorem earP_none {Y : Yd} {l : List Tk} {f : Int} (h : begE Y l f = 0) (he : earD Y l f = none) : earP Y l f = [] ∧ earE Y l f = 70 := by unfold earP earE; rw [if_pos h, if_pos h, he]; exact ⟨rfl, rfl⟩
theorem earP_some {Y : Yd} {l : List Tk} {f : Int} {ds : List Int} (h : begE Y l f = 0) (he : earD Y l f = some ds) : earP Y l f = usual Y l [] ds ∧ earE Y l f = 0 := by unfold earP earE; rw [if_pos h, if_pos h, he]; exact ⟨rfl, rfl⟩
theorem est_len {Y : Yd} {l : List Tk} {f : Int} {fx : Nat → Option Int} : ∀ (m : Nat) (ds L : List Int), est Y l f fx m ds = some L → L.length = ds.length + m
  | 0, ds, L, h => by cases h; rfl
  | m + 1, ds, L, h => by
    change (match stepE Y l f fx ds with | some d => est Y l f fx m (ds ++ [d]) | none => none) = some L at h
    split at h
    · have := est_len m _ L h
      simp at this; omega
    · cases h
theorem earD_len {Y : Yd} {l : List Tk} {f : Int} {ds : List Int} (h : earD Y l f = some ds) : ds.length = l.length := by
  have := est_len _ _ _ h
  simpa using this

set_option maxRecDepth 100000 in
set_option maxHeartbeats 1000000 in
theorem earliest_any (C : Array Value) (Y : Yd) (l : List Tk) (A : Option Addr) (c : Nat) (f : Int) (w : World) (hY : YardAt w w.heap.size C Y) (hs : Small Y) (hT : TasksAt w w.heap.size A l) (ht : tame l) :
    Calls Try.prog 24 #[.agg C, .slice A l.length c, .int .i64 f] w (PlanE (earP Y l f) (earE Y l f) w) := by
  have HBE := Lib.hid (fun W (hb : Below w.heap.size w W) => begun_any C Y l A c f W ((hY.below hb (Nat.le_refl _)).more hb.size) hs ((hT.below hb (Nat.le_refl _)).more hb.size) ht)
  have HLOAD := load_any hY
  have HC28 := Lib.hid hY.len
  have HTM := Lib.hid ht
  have b3 : Bk ((w.alloc (.cells C 29)).alloc (.cells #[.slice none 0 0] 42)) w.heap.size 29 C := (Bk.new _ _ _).alloc _
  have b6 : Bk ((w.alloc (.cells C 29)).alloc (.cells #[.slice none 0 0] 42)) (w.heap.size + 1) 42 #[.slice none 0 0] := by simpa using Bk.new (w.alloc (.cells C 29)) 42 #[.slice none 0 0]
  have hb0 : Below w.heap.size w ((w.alloc (.cells C 29)).alloc (.cells #[.slice none 0 0] 42)) := by exact (by repeat (first | with_reducible exact Below.refl _ _ | with_reducible assumption | with_reducible refine Below.drew ?_ | with_reducible refine below_drewN ?_ _ | (with_reducible refine Below.alloc ?_ ?_ _; rotate_left; (try simp) <;> omega) | (with_reducible refine Below.setCell ?_ ?_ _; rotate_left; (try simp) <;> omega)))
  have HR0 := Lib.hid b3.range
  clear hY hT ht hs
  by_cases hn : begE Y l f = 0
  · obtain ⟨ho, hvt, hf⟩ := begE_ok hn
    have HVT := Lib.hid hvt
    have HO := Lib.hid ho
    have hl12 := hvt.n
    rw [hn] at HBE
    cases he : earD Y l f with
    | none =>
      obtain ⟨h1, h2⟩ := earP_none hn he
      rw [h1, h2]
      have HE := Lib.hid he
      clear he hn h1 h2 ho hvt
      go_enter Try.func24, Try.ntmps24
      go_wp2_with (first | (refine wpList_load_guard (P := Try.prog) (by rfl) 29 (.tmp 3) rfl w.heap.size 0 rfl C.toList _ HR0.out Try.underlying29 rfl (by rw [HC28.out]; exact info29) ?_) | (go_at_call 82; refine (HBE.out _ hb0).mono ?_; rintro e w1 ⟨hb1, ⟨h0, _⟩ | ⟨_, bj, hbj, rfl, hj1⟩⟩; (exact absurd rfl h0); have hB1 : Below w.heap.size w w1 := hb0.trans (hb1.mono hb0.size); have k6 : Bk w1 (w.heap.size + 1) 42 #[.slice none 0 0] := b6.below hb1 b6.lt; have l6 := k6.lt; clear hb1) | (go_at_call 83; refine (earliest_nil bj C Y l A c f [] none 0 w1 hj1 (okY_valid HO.out) HVT.out HTM.out hf (fun h => absurd rfl h) (Nat.zero_le _) (fun x hx => by cases hx)).mono ?_; rintro e w2 h2; rw [show est Y l f (fun _ => none) (l.length - ([] : List Int).length) [] = none from HE.out] at h2; obtain ⟨rfl, hb2⟩ := h2; have hB2 : Below w.heap.size w w2 := hB1.trans (hb2.mono hB1.size); have k62 := k6.below hb2 l6; have x6 := k62.cell 0 rfl; have f6 := k62.fro 0; clear hb2))
      have hs6 := (k62.set 0 (.slice none 0 0)).cell 0 rfl
      have hb9 : Below w.heap.size w (w2.setCell ⟨w.heap.size + 1, 0, none⟩ (.slice none 0 0)) := hB2.setCell (by simp) _
      generalize w2.setCell ⟨w.heap.size + 1, 0, none⟩ (.slice none 0 0) = w9 at *
      refine bodyPost_ret (v := .tuple #[.agg #[.slice none 0 0], .int .i64 70]) (by simp [results, Try.results24, go_sem, hs6]) rfl ?_
      exact ⟨_, rfl, plan_nil _ _, hb9⟩
    | some ds =>
      obtain ⟨h1, h2⟩ := earP_some hn he
      have hdl := earD_len he
      rw [h1, h2]
      have HE := Lib.hid he
      have HDL := Lib.hid hdl
      have hds : ds.length ≤ l.length := by omega
      clear he hn h1 h2 ho hvt hdl
      go_enter Try.func24, Try.ntmps24
      go_wp2_with (first | (refine wpList_load_guard (P := Try.prog) (by rfl) 29 (.tmp 3) rfl w.heap.size 0 rfl C.toList _ HR0.out Try.underlying29 rfl (by rw [HC28.out]; exact info29) ?_) | (go_at_call 82; refine (HBE.out _ hb0).mono ?_; rintro e w1 ⟨hb1, ⟨h0, _⟩ | ⟨_, bj, hbj, rfl, hj1⟩⟩; (exact absurd rfl h0); have hB1 : Below w.heap.size w w1 := hb0.trans (hb1.mono hb0.size); have k6 : Bk w1 (w.heap.size + 1) 42 #[.slice none 0 0] := b6.below hb1 b6.lt; have l6 := k6.lt; clear hb1) | (go_at_call 83; refine (earliest_nil bj C Y l A c f [] none 0 w1 hj1 (okY_valid HO.out) HVT.out HTM.out hf (fun h => absurd rfl h) (Nat.zero_le _) (fun x hx => by cases hx)).mono ?_; rintro e w2 h2; rw [show est Y l f (fun _ => none) (l.length - ([] : List Int).length) [] = some ds from HE.out] at h2; obtain ⟨v2, rfl, ho2, hb2⟩ := h2; obtain ⟨A2, c2, rfl, _, _⟩ := ownsSlice ho2; have hB2 : Below w.heap.size w w2 := hB1.trans (hb2.mono hB1.size); have k62 := k6.below hb2 l6; have hj2 := (hj1.below hb2 (Nat.le_refl _)).more hb2.size; have hl2 := ownsRow_lies ho2; clear hb2) | (go_at_call 84; refine (plan_any bj C Y l A c f [] none 0 ds A2 c2 w2 hj2 (okY_valid HO.out) (fun h => absurd rfl h) (fun t ht => by cases ht) hl2 hds hl12 (by decide)).mono ?_; rintro e w3 ⟨v3, rfl, ho3, hb3⟩; obtain ⟨A3, c3, rfl, _, _⟩ := ownsSlice ho3; have hB3 : Below w.heap.size w w3 := hB2.trans (hb3.mono hB2.size); have k63 := k62.below hb3 k62.lt; have x6 := k63.cell 0 rfl; have f6 := k63.fro 0; have hz2 := hB2.size; have hl62 := k62.lt; clear hb3))
      generalize usual Y l [] ds = U at *
      have hs6 := (k63.set 0 (.slice A3 U.length c3)).cell 0 rfl
      have hb9 : Below w.heap.size w (w3.setCell ⟨w.heap.size + 1, 0, none⟩ (.slice A3 U.length c3)) := hB3.setCell (by simp) _
      have ho9 : (w3.setCell ⟨w.heap.size + 1, 0, none⟩ (.slice A3 U.length c3)).ownsRow w2.heap.size 55 3 (.slice A3 U.length c3) U.length (turnsC U) := (far_setCells (w.heap.size + 1) [.slice A3 U.length c3] 0 w3).own ho3 hl62
      generalize w3.setCell ⟨w.heap.size + 1, 0, none⟩ (.slice A3 U.length c3) = w9 at *
      refine bodyPost_ret (v := .tuple #[.agg #[.slice A3 U.length c3], .int .i64 0]) (by simp [results, Try.results24, go_sem, hs6]) rfl ?_
      exact ⟨_, rfl, ownsRow_base ho9 hz2, hb9⟩
  · obtain ⟨h1, h2⟩ := earP_bad hn
    rw [h1, h2]
    have HN := Lib.hid hn
    generalize begE Y l f = N at *
    have hne : (N != 0) = true := by simp [hn]
    clear h1 h2 hn
    go_enter Try.func24, Try.ntmps24
    go_wp2_with (first | (refine wpList_load_guard (P := Try.prog) (by rfl) 29 (.tmp 3) rfl w.heap.size 0 rfl C.toList _ HR0.out Try.underlying29 rfl (by rw [HC28.out]; exact info29) ?_) | (go_at_call 82; refine (HBE.out _ hb0).mono ?_; rintro e w1 ⟨hb1, ⟨_, rfl⟩ | ⟨h0, _⟩⟩; rotate_left; (exact absurd h0 HN.out); have hB1 : Below w.heap.size w w1 := hb0.trans (hb1.mono hb0.size); have k6 : Bk w1 (w.heap.size + 1) 42 #[.slice none 0 0] := b6.below hb1 b6.lt; have l6 := k6.lt; have x6 := k6.cell 0 rfl; have f6 := k6.fro 0; clear hb1))
    have hs6 := (k6.set 0 (.slice none 0 0)).cell 0 rfl
    have hb9 : Below w.heap.size w (w1.setCell ⟨w.heap.size + 1, 0, none⟩ (.slice none 0 0)) := hB1.setCell (by simp) _
    generalize w1.setCell ⟨w.heap.size + 1, 0, none⟩ (.slice none 0 0) = w9 at *
    refine bodyPost_ret (v := .tuple #[.agg #[.slice none 0 0], .int .i64 N]) (by simp [results, Try.results24, go_sem, hs6]) rfl ?_
    exact ⟨_, rfl, plan_nil _ _, hb9⟩
end Go.Proofs.Ytjgnikmnadmheaa

namespace Go.Proofs.Ytjgnikmnadmheaa
open Go.RowKit

theorem usualU_len (Y : Yd) (l : List Tk) (days : List Int) : ∀ (m : Nat) (ts : List Tu), (usualU Y l days m ts).length = ts.length + m
  | 0, ts => rfl
  | m + 1, ts => by
    have := usualU_len Y l days m (ts ++ [usualT Y l days ts])
    simp at this
    show (usualU Y l days m (ts ++ [usualT Y l days ts])).length = _
    omega
theorem usual_len (Y : Yd) (l : List Tk) (ts : List Tu) (days : List Int) (h : ts.length ≤ days.length) : (usual Y l ts days).length = days.length := by
  unfold usual; rw [usualU_len]; omega
theorem earP_len (Y : Yd) (l : List Tk) (f : Int) : (earP Y l f).length ≤ 12 := by
  by_cases h : begE Y l f = 0
  · cases he : earD Y l f with
    | none => rw [(earP_none h he).1]; simp
    | some ds =>
      rw [(earP_some h he).1, usual_len _ _ _ _ (Nat.zero_le _), earD_len he]
      exact (begE_ok h).2.1.n
  · rw [(earP_bad h).1]; simp
end Go.Proofs.Ytjgnikmnadmheaa

namespace Go.Proofs.Ytjgnikmnadmheaa
open Go.RowKit

set_option maxRecDepth 100000 in
set_option maxHeartbeats 400000 in
theorem daysOf_any (ts : List Tu) (T : Option Addr) (ct : Nat) (w : World) (hT : Lies w w.heap.size T (turnsC ts)) (hn : ts.length ≤ 1000) :
    Calls Try.prog 86 #[.agg #[.slice T ts.length ct]] w (IntsEnd (ts.map Tu.day) w) := by
  obtain ⟨i0, hi0, hz0, hz1, hz2⟩ := info_parts info3
  have I3 := Lib.hid (And.intro hi0 (And.intro hz0 (And.intro hz1 hz2))); clear hi0 hz0 hz1 hz2
  have HTT := Lib.hid (fun W (hb : Below w.heap.size w W) => hT.below hb (Nat.le_refl _))
  have HLE : Hid (∀ k, k ≤ ts.length → ((ts.take k).map Tu.day).length = k) := fun k hk => by simp; omega
  have HE : Hid ((ts.take ts.length).map Tu.day = ts.map Tu.day) := by show _ = _; rw [List.take_length]
  have HST : Hid (∀ k (hk : k < ts.length), (ts.take (k + 1)).map Tu.day = (ts.take k).map Tu.day ++ [ts[k].day]) := fun k hk => by rw [List.take_succ_eq_append_getElem hk, List.map_append]; rfl
  clear hT
  have b1 : Bk (w.alloc (.cells #[.slice T ts.length ct] 42)) w.heap.size 42 #[.slice T ts.length ct] := Bk.new _ _ _
  have hb1 : Below w.heap.size w (w.alloc (.cells #[.slice T ts.length ct] 42)) := by exact (by repeat (first | with_reducible exact Below.refl _ _ | with_reducible assumption | with_reducible refine Below.drew ?_ | with_reducible refine below_drewN ?_ _ | (with_reducible refine Below.alloc ?_ ?_ _; rotate_left; (try simp) <;> omega) | (with_reducible refine Below.setCell ?_ ?_ _; rotate_left; (try simp) <;> omega)))
  go_enter Try.func86, Try.ntmps86
  go_wp2
  go_loopw [3, 9] (fun v y wr => ∃ k : Nat, k ≤ ts.length ∧ y = .int .i64 k ∧ wr.ownsRow (w.heap.size + 1) 3 1 v k (ints ((ts.take k).map Tu.day)) ∧ Below w.heap.size w wr ∧ Bk wr w.heap.size 42 #[.slice T ts.length ct]) (fun _ y _ => ts.length - (intOf y).toNat)
  case atStart => exact ⟨0, by omega, rfl, World.ownsRow_nil _ _ _ _, hb1, b1⟩
  case round =>
  clear hb1 b1
  obtain ⟨k, hk, rfl, hown, hbw, hbk⟩ := hrel
  have hbs := hbk.lt
  have x1 := hbk.cell 0 rfl
  by_cases hlt : k < ts.length
  · obtain ⟨a1, rfl, ha1, t0, t1, t2⟩ := turn_at (HTT.out wr hbw) hlt
    have HS := Lib.hid (HST.out k hlt)
    generalize ts[k] = t at *
    obtain ⟨d, p, m⟩ := t
    dsimp only at *
    have hkI : (k : Int) < (ts.length : Int) := by omega
    have hk0 : 0 ≤ (k : Int) := by omega
    have ha1' : (a1.add (k * 3)).block < wr.heap.size := by rw [add_block]; have := hbw.size; omega
    go_wp2_with (at_builtin; refine wpList_append_own _ rfl (.tmp 13) (.tmp 16) 25 rfl (w.heap.size + 1) 3 i0 (.int .i64 0) 1 8 Try.underlying25 I3.out.1 I3.out.2.1 I3.out.2.2.1 I3.out.2.2.2 rfl (by decide) _ k _ rfl ((hown.alloc _).alloc _) ⟨wr.heap.size + 1, 0, none⟩ 1 1 [.int .i64 d] rfl rfl ?_ ?_ ?_ ?_ ?_ ?_; (simpa using cell_one_new (wr.alloc (.cells #[.int .i64 d, .int .i64 p, .int .i64 m] 55)) (.int .i64 d) 3); (intro u hu; simp at hu; subst hu; rfl); (unfold maxLen; omega); (omega); (simp; omega); intro v5 w5 hown5 hgrow5 _; have hB5 : Below w.heap.size w w5 := below_own (by exact (by repeat (first | with_reducible exact Below.refl _ _ | with_reducible assumption | with_reducible refine Below.drew ?_ | with_reducible refine below_drewN ?_ _ | (with_reducible refine Below.alloc ?_ ?_ _; rotate_left; (try simp) <;> omega) | (with_reducible refine Below.setCell ?_ ?_ _; rotate_left; (try simp) <;> omega)))) ((hown.alloc _).alloc _) hgrow5 (by omega) (by simp; omega); have hk5 : Bk w5 w.heap.size 42 #[.slice (some a1) ts.length ct] := Bk.grown (by exact (by repeat (first | with_reducible assumption | with_reducible exact Bk.new _ _ _ | with_reducible refine Bk.drew ?_ | with_reducible refine Bk.drewN ?_ _ | with_reducible refine Bk.alloc ?_ _ | (with_reducible refine Bk.far ?_ ?_ _; rotate_left; (try simp) <;> omega)))) hgrow5 (own_ne hown (by omega)); clear hgrow5)
    rw [ints_snoc, ← HS.out] at hown5
    go_roundw
    case rel => exact ⟨k + 1, by omega, by go_num, hown5, hB5, hk5⟩
    case measure => simp [intOf]; omega
  · obtain rfl : k = ts.length := by omega
    rw [HE.out] at hown
    clear hlt
    go_wp2
    go_ret
    have HL : Hid ((ts.map Tu.day).length = ts.length) := by show _ = _; simp
    exact ⟨_, rfl, by rw [HL.out]; exact ownsRow_base hown (by omega), hbw⟩

set_option maxRecDepth 100000 in
set_option maxHeartbeats 400000 in
theorem dates_any (ts : List Tu) (T : Option Addr) (ct : Nat) (w : World) (hT : Lies w w.heap.size T (turnsC ts)) (hn : ts.length ≤ 1000) :
    Calls Try.prog 28 #[.agg #[.slice T ts.length ct]] w (IntsEnd (ts.map Tu.day) w) := by
  obtain ⟨i0, hi0, hz0, hz1, hz2⟩ := info_parts info3
  have I3 := Lib.hid (And.intro hi0 (And.intro hz0 (And.intro hz1 hz2))); clear hi0 hz0 hz1 hz2
  have HTT := Lib.hid (fun W (hb : Below w.heap.size w W) => hT.below hb (Nat.le_refl _))
  have HLE : Hid (∀ k, k ≤ ts.length → ((ts.take k).map Tu.day).length = k) := fun k hk => by simp; omega
  have HE : Hid ((ts.take ts.length).map Tu.day = ts.map Tu.day) := by show _ = _; rw [List.take_length]
  have HST : Hid (∀ k (hk : k < ts.length), (ts.take (k + 1)).map Tu.day = (ts.take k).map Tu.day ++ [ts[k].day]) := fun k hk => by rw [List.take_succ_eq_append_getElem hk, List.map_append]; rfl
  clear hT
  have b1 : Bk (w.alloc (.cells #[.slice T ts.length ct] 42)) w.heap.size 42 #[.slice T ts.length ct] := Bk.new _ _ _
  have hb1 : Below w.heap.size w (w.alloc (.cells #[.slice T ts.length ct] 42)) := by exact (by repeat (first | with_reducible exact Below.refl _ _ | with_reducible assumption | with_reducible refine Below.drew ?_ | with_reducible refine below_drewN ?_ _ | (with_reducible refine Below.alloc ?_ ?_ _; rotate_left; (try simp) <;> omega) | (with_reducible refine Below.setCell ?_ ?_ _; rotate_left; (try simp) <;> omega)))
  go_enter Try.func28, Try.ntmps28
  go_wp2
  go_loopw [3, 4] (fun v y wr => ∃ k : Nat, k ≤ ts.length ∧ y = .int .i64 k ∧ wr.ownsRow (w.heap.size + 1) 3 1 v k (ints ((ts.take k).map Tu.day)) ∧ Below w.heap.size w wr ∧ Bk wr w.heap.size 42 #[.slice T ts.length ct]) (fun _ y _ => ts.length - (intOf y).toNat)
  case atStart => exact ⟨0, by omega, rfl, World.ownsRow_nil _ _ _ _, hb1, b1⟩
  case round =>
  clear hb1 b1
  obtain ⟨k, hk, rfl, hown, hbw, hbk⟩ := hrel
  have hbs := hbk.lt
  have x1 := hbk.cell 0 rfl
  by_cases hlt : k < ts.length
  · obtain ⟨a1, rfl, ha1, t0, t1, t2⟩ := turn_at (HTT.out wr hbw) hlt
    have HS := Lib.hid (HST.out k hlt)
    generalize ts[k] = t at *
    obtain ⟨d, p, m⟩ := t
    dsimp only at *
    have hkI : (k : Int) < (ts.length : Int) := by omega
    have hk0 : 0 ≤ (k : Int) := by omega
    have ha1' : (a1.add (k * 3)).block < wr.heap.size := by rw [add_block]; have := hbw.size; omega
    go_wp2_with (at_builtin; refine wpList_append_own _ rfl (.tmp 12) (.tmp 19) 25 rfl (w.heap.size + 1) 3 i0 (.int .i64 0) 1 8 Try.underlying25 I3.out.1 I3.out.2.1 I3.out.2.2.1 I3.out.2.2.2 rfl (by decide) _ k _ rfl (hown.alloc _) ⟨wr.heap.size, 0, none⟩ 1 1 [.int .i64 d] rfl rfl ?_ ?_ ?_ ?_ ?_ ?_; (exact cell_one_new _ _ _); (intro u hu; simp at hu; subst hu; rfl); (unfold maxLen; omega); (omega); (simp; omega); intro v5 w5 hown5 hgrow5 _; have hB5 : Below w.heap.size w w5 := below_own (by exact (by repeat (first | with_reducible exact Below.refl _ _ | with_reducible assumption | with_reducible refine Below.drew ?_ | with_reducible refine below_drewN ?_ _ | (with_reducible refine Below.alloc ?_ ?_ _; rotate_left; (try simp) <;> omega) | (with_reducible refine Below.setCell ?_ ?_ _; rotate_left; (try simp) <;> omega)))) (hown.alloc _) hgrow5 (by omega) (by simp; omega); have hk5 : Bk w5 w.heap.size 42 #[.slice (some a1) ts.length ct] := Bk.grown (by exact (by repeat (first | with_reducible assumption | with_reducible exact Bk.new _ _ _ | with_reducible refine Bk.drew ?_ | with_reducible refine Bk.drewN ?_ _ | with_reducible refine Bk.alloc ?_ _ | (with_reducible refine Bk.far ?_ ?_ _; rotate_left; (try simp) <;> omega)))) hgrow5 (own_ne hown (by omega)); clear hgrow5)
    rw [ints_snoc, ← HS.out] at hown5
    go_roundw
    case rel => exact ⟨k + 1, by omega, by go_num, hown5, hB5, hk5⟩
    case measure => simp [intOf]; omega
  · obtain rfl : k = ts.length := by omega
    rw [HE.out] at hown
    clear hlt
    go_wp2
    go_ret
    have HL : Hid ((ts.map Tu.day).length = ts.length) := by show _ = _; simp
    exact ⟨_, rfl, by rw [HL.out]; exact ownsRow_base hown (by omega), hbw⟩

/-- the end of a plan -/
def endP (ts : List Tu) : Int := if h : ts.length = 0 then -1 else (ts[ts.length - 1]'(by omega)).day
set_option maxRecDepth 100000 in
set_option maxHeartbeats 400000 in
theorem end_any (ts : List Tu) (T : Option Addr) (ct : Nat) (w : World) (hT : Lies w w.heap.size T (turnsC ts)) (hn : ts.length ≤ 1000) :
    Calls Try.prog 40 #[.agg #[.slice T ts.length ct]] w (IntEnd (endP ts) w) := by
  by_cases h0 : ts.length = 0
  · have HE : Hid (endP ts = -1) := by show _ = _; unfold endP; rw [dif_pos h0]
    have h1 : ((ts.length : Int) == 0) = true := by simp [h0]
    have h2 : (ts.length == 0) = true := by simp [h0]
    have H0 := Lib.hid h0; clear h0
    go_enter Try.func40, Try.ntmps40
    go_wp2
    go_ret
    exact int_end HE.out.symm (by exact (by repeat (first | with_reducible exact Below.refl _ _ | with_reducible assumption | with_reducible refine Below.drew ?_ | with_reducible refine below_drewN ?_ _ | (with_reducible refine Below.alloc ?_ ?_ _; rotate_left; (try simp) <;> omega) | (with_reducible refine Below.setCell ?_ ?_ _; rotate_left; (try simp) <;> omega))))
  · have HE : Hid (endP ts = (ts[ts.length - 1]'(by omega)).day) := by show _ = _; unfold endP; rw [dif_neg h0]
    have h1 : ((ts.length : Int) == 0) = false := by rw [beq_eq_false_iff_ne]; omega
    have h2 : (ts.length == 0) = false := by rw [beq_eq_false_iff_ne]; omega
    obtain ⟨a1, rfl, ha1, t0, t1, t2⟩ := turn_at (hT.below (w' := w.alloc (.cells #[.slice T ts.length ct] 42)) (by exact (by repeat (first | with_reducible exact Below.refl _ _ | with_reducible assumption | with_reducible refine Below.drew ?_ | with_reducible refine below_drewN ?_ _ | (with_reducible refine Below.alloc ?_ ?_ _; rotate_left; (try simp) <;> omega) | (with_reducible refine Below.setCell ?_ ?_ _; rotate_left; (try simp) <;> omega))) : Below w.heap.size w (w.alloc (.cells #[.slice T ts.length ct] 42))) (Nat.le_refl _)) (k := ts.length - 1) (by omega)
    generalize (ts[ts.length - 1]'(by omega)).day = d at *
    have hkm : ((ts.length : Int) - 1).toNat = ts.length - 1 := by omega
    have hkp : 0 ≤ (ts.length : Int) - 1 := by omega
    have hkq : (ts.length : Int) - 1 < (ts.length : Int) := by omega
    have H0 := Lib.hid h0
    clear hT
    go_enter Try.func40, Try.ntmps40
    go_wp2
    go_ret
    exact int_end HE.out.symm (by exact (by repeat (first | with_reducible exact Below.refl _ _ | with_reducible assumption | with_reducible refine Below.drew ?_ | with_reducible refine below_drewN ?_ _ | (with_reducible refine Below.alloc ?_ ?_ _; rotate_left; (try simp) <;> omega) | (with_reducible refine Below.setCell ?_ ?_ _; rotate_left; (try simp) <;> omega))))
set_option maxRecDepth 100000 in
set_option maxHeartbeats 400000 in
theorem rend_any (ts : List Tu) (T : Option Addr) (ct : Nat) (w : World) (hT : Lies w w.heap.size T (turnsC ts)) (hn : ts.length ≤ 1000) :
    Calls Try.prog 45 #[.agg #[.slice T ts.length ct]] w (IntEnd (endP ts) w) := by
  by_cases h0 : ts.length = 0
  · have HE : Hid (endP ts = -1) := by show _ = _; unfold endP; rw [dif_pos h0]
    have h1 : ((ts.length : Int) == 0) = true := by simp [h0]
    have h2 : (ts.length == 0) = true := by simp [h0]
    have H0 := Lib.hid h0; clear h0
    go_enter Try.func45, Try.ntmps45
    go_wp2
    go_ret
    exact int_end HE.out.symm (by exact (by repeat (first | with_reducible exact Below.refl _ _ | with_reducible assumption | with_reducible refine Below.drew ?_ | with_reducible refine below_drewN ?_ _ | (with_reducible refine Below.alloc ?_ ?_ _; rotate_left; (try simp) <;> omega) | (with_reducible refine Below.setCell ?_ ?_ _; rotate_left; (try simp) <;> omega))))
  · have HE : Hid (endP ts = (ts[ts.length - 1]'(by omega)).day) := by show _ = _; unfold endP; rw [dif_neg h0]
    have h1 : ((ts.length : Int) == 0) = false := by rw [beq_eq_false_iff_ne]; omega
    have h2 : (ts.length == 0) = false := by rw [beq_eq_false_iff_ne]; omega
    obtain ⟨a1, rfl, ha1, t0, t1, t2⟩ := turn_at (hT.below (w' := w.alloc (.cells #[.slice T ts.length ct] 42)) (by exact (by repeat (first | with_reducible exact Below.refl _ _ | with_reducible assumption | with_reducible refine Below.drew ?_ | with_reducible refine below_drewN ?_ _ | (with_reducible refine Below.alloc ?_ ?_ _; rotate_left; (try simp) <;> omega) | (with_reducible refine Below.setCell ?_ ?_ _; rotate_left; (try simp) <;> omega))) : Below w.heap.size w (w.alloc (.cells #[.slice T ts.length ct] 42))) (Nat.le_refl _)) (k := ts.length - 1) (by omega)
    generalize (ts[ts.length - 1]'(by omega)).day = d at *
    have hkm : ((ts.length : Int) - 1).toNat = ts.length - 1 := by omega
    have hkp : 0 ≤ (ts.length : Int) - 1 := by omega
    have hkq : (ts.length : Int) - 1 < (ts.length : Int) := by omega
    have H0 := Lib.hid h0
    clear hT
    go_enter Try.func45, Try.ntmps45
    go_wp2
    go_ret
    exact int_end HE.out.symm (by exact (by repeat (first | with_reducible exact Below.refl _ _ | with_reducible assumption | with_reducible refine Below.drew ?_ | with_reducible refine below_drewN ?_ _ | (with_reducible refine Below.alloc ?_ ?_ _; rotate_left; (try simp) <;> omega) | (with_reducible refine Below.setCell ?_ ?_ _; rotate_left; (try simp) <;> omega))))
end Go.Proofs.Ytjgnikmnadmheaa
