/- Whether a rule of a list passes a test (fns 141, 113 with the closures 114 and 144), and 'named' (fns 114, 112). Printed by wip/gen_f4.py. -/
import Derived.Test.YtkfeagokmcakgaaGreatDoorG02
import Derived.Test.YtkfeagokmcakgaaGreatDoorG03

set_option linter.unusedVariables false
set_option linter.unusedSimpArgs false

namespace Go.Proofs.YtkfeagokmcakgaaGreatDoor
open Go.RowKit

/-- the end of a search through a list -/
def AnyEnd (Q : World → Prop) (Y : World → Prop) (e : Ending) (W' : World) : Prop := (e = .returned (.bool false) ∧ Q W') ∨ (e = .returned (.bool true) ∧ Y W')
def IdxEnd (Q : World → Prop) (Y : World → Prop) (e : Ending) (W' : World) : Prop := (e = .returned (.int .i64 (-1)) ∧ Q W') ∨ (∃ k : Nat, k ≤ 1000 ∧ e = .returned (.int .i64 k) ∧ Y W')
set_option maxHeartbeats 1000000 in
theorem idxR114 (l : List Rul) (A : Option Addr) (c : Nat) (w : World) (b1 b2 : Nat) (Inv : Nat → World → Prop) (Y : World → Prop) (hm : l.length ≤ 1000) (hL : Hid (∀ k W, Inv k W → Lies W W.heap.size A (rulesC l))) (h0 : Hid (Inv 0 w))
    (hs : Hid (∀ k (h : k < l.length) W, Inv k W → Calls Tryz.prog 114 (#[l[k].agg] ++ #[.pointer (some ⟨b1, 0, none⟩), .pointer (some ⟨b2, 0, none⟩)]) W (AnyEnd (Inv (k + 1)) Y))) :
    Calls Tryz.prog 141 #[.slice A l.length c, .func (.func 114) #[] #[.pointer (some ⟨b1, 0, none⟩), .pointer (some ⟨b2, 0, none⟩)]] w (IdxEnd (Inv l.length) Y) := by
  go_enter Tryz.func141, Tryz.ntmps141
  go_wp2
  go_loopw [8] (fun y wr => ∃ k : Nat, k ≤ l.length ∧ y = .int .i64 k ∧ Hid (Inv k wr)) (fun y _ => l.length - (intOf y).toNat)
  case atStart => exact ⟨0, by omega, rfl, h0⟩
  case round =>
    obtain ⟨k, hk, rfl, hg⟩ := hrel
    by_cases hlt : k < l.length
    · obtain ⟨ad, rfl, _, c0, c1, c2, c3, c4, c5⟩ := rule_at (hL.out _ _ hg.out) hlt
      have HC := Lib.hid (hs.out k hlt wr hg.out)
      clear hs hL h0 hg
      go_wp2_with (go_at_call 114; refine HC.out.mono ?_; rintro e w1 (⟨rfl, hI⟩ | ⟨rfl, hY⟩))
      · go_roundw
        case rel => exact ⟨k + 1, by omega, by go_num, hI⟩
        case measure => simp [intOf]; omega
      · go_ret
        exact .inr ⟨k, by omega, rfl, hY⟩
    · obtain rfl : k = l.length := by omega
      clear hs hL h0
      go_wp2
      go_ret
      exact .inl ⟨rfl, hg.out⟩
set_option maxHeartbeats 400000 in
theorem anyR114 (l : List Rul) (A : Option Addr) (c : Nat) (w : World) (b1 b2 : Nat) (Inv : Nat → World → Prop) (Y : World → Prop) (hm : l.length ≤ 1000) (hL : Hid (∀ k W, Inv k W → Lies W W.heap.size A (rulesC l))) (h0 : Hid (Inv 0 w))
    (hs : Hid (∀ k (h : k < l.length) W, Inv k W → Calls Tryz.prog 114 (#[l[k].agg] ++ #[.pointer (some ⟨b1, 0, none⟩), .pointer (some ⟨b2, 0, none⟩)]) W (AnyEnd (Inv (k + 1)) Y))) :
    Calls Tryz.prog 113 #[.slice A l.length c, .func (.func 114) #[] #[.pointer (some ⟨b1, 0, none⟩), .pointer (some ⟨b2, 0, none⟩)]] w (AnyEnd (Inv l.length) Y) := by
  have HX := Lib.hid (idxR114 l A c w b1 b2 Inv Y hm hL h0 hs)
  clear hL h0 hs
  go_enter Tryz.func113, Tryz.ntmps113
  go_wp2_with (go_at_call 141; refine HX.out.mono ?_; rintro e w1 (⟨rfl, hI⟩ | ⟨k, hk, rfl, hY⟩))
  · go_ret
    exact .inl ⟨rfl, hI⟩
  · have h0k : (0 : Int) ≤ (k : Int) := by omega
    go_ret
    exact .inr ⟨by simp, hY⟩
set_option maxHeartbeats 1000000 in
theorem idxR144 (l : List Rul) (A : Option Addr) (c : Nat) (w : World) (b1 : Nat) (Inv : Nat → World → Prop) (Y : World → Prop) (hm : l.length ≤ 1000) (hL : Hid (∀ k W, Inv k W → Lies W W.heap.size A (rulesC l))) (h0 : Hid (Inv 0 w))
    (hs : Hid (∀ k (h : k < l.length) W, Inv k W → Calls Tryz.prog 144 (#[l[k].agg] ++ #[.pointer (some ⟨b1, 0, none⟩)]) W (AnyEnd (Inv (k + 1)) Y))) :
    Calls Tryz.prog 141 #[.slice A l.length c, .func (.func 144) #[] #[.pointer (some ⟨b1, 0, none⟩)]] w (IdxEnd (Inv l.length) Y) := by
  go_enter Tryz.func141, Tryz.ntmps141
  go_wp2
  go_loopw [8] (fun y wr => ∃ k : Nat, k ≤ l.length ∧ y = .int .i64 k ∧ Hid (Inv k wr)) (fun y _ => l.length - (intOf y).toNat)
  case atStart => exact ⟨0, by omega, rfl, h0⟩
  case round =>
    obtain ⟨k, hk, rfl, hg⟩ := hrel
    by_cases hlt : k < l.length
    · obtain ⟨ad, rfl, _, c0, c1, c2, c3, c4, c5⟩ := rule_at (hL.out _ _ hg.out) hlt
      have HC := Lib.hid (hs.out k hlt wr hg.out)
      clear hs hL h0 hg
      go_wp2_with (go_at_call 144; refine HC.out.mono ?_; rintro e w1 (⟨rfl, hI⟩ | ⟨rfl, hY⟩))
      · go_roundw
        case rel => exact ⟨k + 1, by omega, by go_num, hI⟩
        case measure => simp [intOf]; omega
      · go_ret
        exact .inr ⟨k, by omega, rfl, hY⟩
    · obtain rfl : k = l.length := by omega
      clear hs hL h0
      go_wp2
      go_ret
      exact .inl ⟨rfl, hg.out⟩
set_option maxHeartbeats 400000 in
theorem anyR144 (l : List Rul) (A : Option Addr) (c : Nat) (w : World) (b1 : Nat) (Inv : Nat → World → Prop) (Y : World → Prop) (hm : l.length ≤ 1000) (hL : Hid (∀ k W, Inv k W → Lies W W.heap.size A (rulesC l))) (h0 : Hid (Inv 0 w))
    (hs : Hid (∀ k (h : k < l.length) W, Inv k W → Calls Tryz.prog 144 (#[l[k].agg] ++ #[.pointer (some ⟨b1, 0, none⟩)]) W (AnyEnd (Inv (k + 1)) Y))) :
    Calls Tryz.prog 113 #[.slice A l.length c, .func (.func 144) #[] #[.pointer (some ⟨b1, 0, none⟩)]] w (AnyEnd (Inv l.length) Y) := by
  have HX := Lib.hid (idxR144 l A c w b1 Inv Y hm hL h0 hs)
  clear hL h0 hs
  go_enter Tryz.func113, Tryz.ntmps113
  go_wp2_with (go_at_call 141; refine HX.out.mono ?_; rintro e w1 (⟨rfl, hI⟩ | ⟨k, hk, rfl, hY⟩))
  · go_ret
    exact .inl ⟨rfl, hI⟩
  · have h0k : (0 : Int) ≤ (k : Int) := by omega
    go_ret
    exact .inr ⟨by simp, hY⟩

def namedB (l : List Rul) (id : Int) (v : Bool) : Bool := l.any fun x => decide (x.id = id) && (v || !decide (x.kind = 6))
def nam1 (id : Int) (v : Bool) (x : Rul) : Bool := decide (x.id = id) && (v || !decide (x.kind = 6))
set_option maxHeartbeats 1000000 in
theorem named1_any (r : Rul) (id : Int) (v : Bool) (b1 b2 : Nat) (w : World) (h1 : b1 < w.heap.size) (h2 : b2 < w.heap.size) (c1 : w.cell? ⟨b1, 0, none⟩ = some (.int .i64 id)) (c2 : w.cell? ⟨b2, 0, none⟩ = some (.bool v)) :
    Calls Tryz.prog 114 #[r.agg, .pointer (some ⟨b1, 0, none⟩), .pointer (some ⟨b2, 0, none⟩)] w (ShEnd (nam1 id v r) w) := by
  have h0 : nam1 id v r = (decide (r.id = id) && (v || !decide (r.kind = 6))) := rfl
  have H0 := Lib.hid h0; clear h0
  obtain ⟨i, kn, kd, x, y, of⟩ := r
  dsimp only at *
  by_cases e1 : i = id
  · have E1 : (i == id) = true := by rw [e1]; simp
    have D1 := Lib.hid (decide_eq_true e1)
    clear e1
    cases v
    · by_cases e2 : kd = 6
      · have E2 : (kd != 6) = false := by rw [e2]; rfl
        have D2 := Lib.hid (decide_eq_true e2)
        clear e2
        go_enter Tryz.func114, Tryz.ntmps114
        go_wp2
        go_ret
        exact sh_ret (by rw [H0.out, D1.out, D2.out]; rfl) (by repeat (first | with_reducible exact Below.refl _ _ | with_reducible assumption | with_reducible refine Below.drew ?_ | with_reducible refine below_drewN ?_ _ | (with_reducible refine Below.alloc ?_ ?_ _; rotate_left; (try simp) <;> omega) | (with_reducible refine Below.setCell ?_ ?_ _; rotate_left; (try simp) <;> omega)))
      · have E2 : (kd != 6) = true := by simpa using e2
        have D2 := Lib.hid (decide_eq_false e2)
        clear e2
        go_enter Tryz.func114, Tryz.ntmps114
        go_wp2
        go_ret
        exact sh_ret (by rw [H0.out, D1.out, D2.out]; rfl) (by repeat (first | with_reducible exact Below.refl _ _ | with_reducible assumption | with_reducible refine Below.drew ?_ | with_reducible refine below_drewN ?_ _ | (with_reducible refine Below.alloc ?_ ?_ _; rotate_left; (try simp) <;> omega) | (with_reducible refine Below.setCell ?_ ?_ _; rotate_left; (try simp) <;> omega)))
    · go_enter Tryz.func114, Tryz.ntmps114
      go_wp2
      go_ret
      exact sh_ret (by rw [H0.out, D1.out]; rfl) (by repeat (first | with_reducible exact Below.refl _ _ | with_reducible assumption | with_reducible refine Below.drew ?_ | with_reducible refine below_drewN ?_ _ | (with_reducible refine Below.alloc ?_ ?_ _; rotate_left; (try simp) <;> omega) | (with_reducible refine Below.setCell ?_ ?_ _; rotate_left; (try simp) <;> omega)))
  · have E1 : (i == id) = false := by simpa using e1
    have D1 := Lib.hid (decide_eq_false e1)
    clear e1
    go_enter Tryz.func114, Tryz.ntmps114
    go_wp2
    go_ret
    exact sh_ret (by rw [H0.out, D1.out]; rfl) (by repeat (first | with_reducible exact Below.refl _ _ | with_reducible assumption | with_reducible refine Below.drew ?_ | with_reducible refine below_drewN ?_ _ | (with_reducible refine Below.alloc ?_ ?_ _; rotate_left; (try simp) <;> omega) | (with_reducible refine Below.setCell ?_ ?_ _; rotate_left; (try simp) <;> omega)))
set_option maxHeartbeats 1000000 in
theorem named_any (l : List Rul) (A : Option Addr) (c : Nat) (id : Int) (v : Bool) (b : Nat) (w : World) (hm : l.length ≤ 1000) (hl : Lies w w.heap.size A (rulesC l)) (hb : b < w.heap.size) (hc : w.cell? ⟨b, 0, none⟩ = some (.slice A l.length c)) :
    Calls Tryz.prog 112 #[.int .i64 id, .bool v, .pointer (some ⟨b, 0, none⟩)] w (ShEnd (l.any (nam1 id v)) w) := by
  have HA : Hid (∀ W, Below (w.heap.size + 2) ((w.alloc (.cells #[.int .i64 id] 3)).alloc (.cells #[.bool v] 4)) W → Calls Tryz.prog 113 #[.slice A l.length c, .func (.func 114) #[] #[.pointer (some ⟨w.heap.size, 0, none⟩), .pointer (some ⟨w.heap.size + 1, 0, none⟩)]] W (AnyEnd (fun W' => Below (w.heap.size + 2) ((w.alloc (.cells #[.int .i64 id] 3)).alloc (.cells #[.bool v] 4)) W' ∧ l.any (nam1 id v) = false) (fun W' => Below (w.heap.size + 2) ((w.alloc (.cells #[.int .i64 id] 3)).alloc (.cells #[.bool v] 4)) W' ∧ l.any (nam1 id v) = true))) := fun W hW => by
    have hbw : ∀ W', Below (w.heap.size + 2) ((w.alloc (.cells #[.int .i64 id] 3)).alloc (.cells #[.bool v] 4)) W' → Below w.heap.size w W' := fun W' h => (((Below.refl _ _).alloc (Nat.le_refl _) _).alloc (by simp) _).trans (h.mono (by omega))
    have k1 : Bk ((w.alloc (.cells #[.int .i64 id] 3)).alloc (.cells #[.bool v] 4)) w.heap.size 3 #[.int .i64 id] := (Bk.new _ _ _).alloc _
    have k2 : Bk ((w.alloc (.cells #[.int .i64 id] 3)).alloc (.cells #[.bool v] 4)) (w.heap.size + 1) 4 #[.bool v] := by simpa using Bk.new (w.alloc (.cells #[.int .i64 id] 3)) 4 #[.bool v]
    refine (anyR114 l A c W w.heap.size (w.heap.size + 1) (fun k W' => Below (w.heap.size + 2) ((w.alloc (.cells #[.int .i64 id] 3)).alloc (.cells #[.bool v] 4)) W' ∧ ∀ j (h : j < l.length), j < k → nam1 id v l[j] = false) (fun W' => Below (w.heap.size + 2) ((w.alloc (.cells #[.int .i64 id] 3)).alloc (.cells #[.bool v] 4)) W' ∧ l.any (nam1 id v) = true) hm (fun k W' h => (hl.below (hbw W' h.1) (Nat.le_refl _)).more (hbw W' h.1).size) ⟨hW, fun j _ h => absurd h (by omega)⟩ ?_).mono ?_
    · intro k hk W' hI
      have hz := hI.1.size
      simp at hz
      refine (named1_any l[k] id v w.heap.size (w.heap.size + 1) W' (by omega) (by omega) ((k1.below hI.1 (by omega)).cell 0 rfl) ((k2.below hI.1 (by omega)).cell 0 rfl)).mono ?_
      rintro e W2 ⟨rfl, hb2⟩
      have hb3 : Below (w.heap.size + 2) ((w.alloc (.cells #[.int .i64 id] 3)).alloc (.cells #[.bool v] 4)) W2 := hI.1.trans (hb2.mono (by omega))
      cases hq : nam1 id v l[k]
      · refine .inl ⟨rfl, hb3, fun j hj hjk => ?_⟩
        by_cases e : j = k
        · subst e; exact hq
        · exact hI.2 j hj (by omega)
      · exact .inr ⟨rfl, hb3, List.any_eq_true.2 ⟨_, List.getElem_mem hk, hq⟩⟩
    · rintro e W' (⟨rfl, h⟩ | ⟨rfl, h⟩)
      · refine .inl ⟨rfl, h.1, ?_⟩
        rw [List.any_eq_false]
        intro x hx
        obtain ⟨j, hj, rfl⟩ := List.getElem_of_mem hx
        rw [h.2 j hj hj]; simp
      · exact .inr ⟨rfl, h⟩
  clear hl
  go_enter Tryz.func112, Tryz.ntmps112
  go_wp2_with (go_at_call 113; refine (HA.out _ (Below.refl _ _)).mono ?_; rintro e w1 (⟨rfl, hI⟩ | ⟨rfl, hI⟩))
  · go_ret
    exact sh_ret hI.2.symm ((((Below.refl w.heap.size w).alloc (Nat.le_refl _) _).alloc (by simp) _).trans (hI.1.mono (by omega)))
  · go_ret
    exact sh_ret hI.2.symm ((((Below.refl w.heap.size w).alloc (Nat.le_refl _) _).alloc (by simp) _).trans (hI.1.mono (by omega)))
end Go.Proofs.YtkfeagokmcakgaaGreatDoor

namespace Go.Proofs.YtkfeagokmcakgaaGreatDoor
open Go.RowKit

theorem info9 : (Tryz.prog.info? 9).map (fun i => (i.zero, i.size, i.bytes)) = some (some (.string ByteArray.empty), 1, 16) := by kernel_rfl
set_option maxHeartbeats 400000 in
theorem clipS_any (A : Option Addr) (n c : Nat) (w : World) (hn : n ≤ c) (hA : A = none → n = 0) (hc : c ≤ maxLen) : Calls Tryz.prog 143 #[.slice A n c] w fun e w' => e = .returned (.slice A n n) ∧ w' = w := by
  have h0 : (0 : Int) ≤ (n : Int) := by omega
  have h1 : (n : Int) ≤ (c : Int) := by omega
  cases A with
  | none =>
    obtain rfl := hA rfl
    go_enter Tryz.func143, Tryz.ntmps143
    go_wp2
    go_ret
    exact ⟨by simp, rfl⟩
  | some ad =>
    go_enter Tryz.func143, Tryz.ntmps143
    go_wp2
    go_ret
    exact ⟨by simp, rfl⟩
theorem strsC_len (l : List ByteArray) : (strsC l).length = l.length := by simp [strsC]
theorem strsC_snoc (l : List ByteArray) (s : ByteArray) : strsC l ++ [Value.string s] = strsC (l ++ [s]) := by simp [strsC]

def lvFn (B : Nat) : Value := .func (.func 142) #[] #[.pointer (some ⟨B + 3, 0, none⟩), .pointer (some ⟨B, 0, none⟩), .pointer (some ⟨B + 1, 0, none⟩)]
/-- the search's memory: what is done is D -/
structure Lv (w0 W : World) (l : List Rul) (A : Option Addr) (c n : Nat) (D : ByteArray → Bool) : Prop where
  bel : Below w0.heap.size w0 W
  hz : w0.heap.size + 4 ≤ W.heap.size
  k2 : Bk W w0.heap.size 23 #[.slice A l.length c]
  k6 : Bk W (w0.heap.size + 1) 160 #[lvFn w0.heap.size]
  mp : MapG mSB W (w0.heap.size + 2) n (setG D)
  k5 : Bk W (w0.heap.size + 3) 114 #[.map (some (w0.heap.size + 2))]
section
variable {w0 W W' : World} {l : List Rul} {A : Option Addr} {c n n' : Nat} {D D' : ByteArray → Bool}
theorem Lv.step (h : Lv w0 W l A c n D) (hb : Below W.heap.size W W') : Lv w0 W' l A c n D := by
  have hz := h.hz
  have h0 := h.bel.size
  exact ⟨h.bel.trans (hb.mono h0), Nat.le_trans hz hb.size, h.k2.below hb (by omega), h.k6.below hb (by omega), h.mp.below hb (by omega), h.k5.below hb (by omega)⟩
theorem Lv.mapped (h : Lv w0 W l A c n D) (hm : MapG mSB W' (w0.heap.size + 2) n' (setG D')) (hg : W.grownBy W' (some (w0.heap.size + 2))) : Lv w0 W' l A c n' D' := by
  have hz := h.hz
  have h0 := h.bel.size
  have hne : ∀ k, k ≠ w0.heap.size + 2 → some k ≠ some (w0.heap.size + 2) := fun k hk e => hk (Option.some.inj e)
  exact ⟨h.bel.grown hg h0 (fun k e => by cases e; omega), Nat.le_trans hz hg.size, h.k2.grown hg (hne _ (by omega)), h.k6.grown hg (hne _ (by omega)), hm, h.k5.grown hg (hne _ (by omega))⟩
end
theorem Nb.trans' {w w' w'' : World} {b : Nat} (h : Nb w w' b) (k : Nb w' w'' b) : Nb w w'' b := ⟨Nat.le_trans h.size k.size, fun g hg hb => (k.blk g (Nat.lt_of_lt_of_le hg h.size) hb).trans (h.blk g hg hb)⟩
/-- one search has ended -/
def LvEnd (w0 : World) (l : List Rul) (A : Option Addr) (c : Nat) (U : List ByteArray) (K : Nat) (D : ByteArray → Bool) (way : List ByteArray) (x : ByteArray) (W : World) (e : Ending) (W' : World) : Prop :=
  Nb W W' (w0.heap.size + 2) ∧ ((e = .returned (.bool false) ∧ ∃ n' D', Lv w0 W' l A c n' D' ∧ (∀ z, D z = true → D' z = true) ∧ D' x = true ∧ Good l D' ∧ n' + left U D' ≤ K ∧ ∀ z ∈ way, D z = false → D' z = false)
    ∨ (e = .returned (.bool true) ∧ Circ l ∧ ∃ n' D', Lv w0 W' l A c n' D'))
/-- the way as a slice -/
structure WayAt (w0 W : World) (way : List ByteArray) (Aw : Option Addr) (cw : Nat) : Prop where
  lies : Lies W W.heap.size Aw (strsC way)
  nil : Aw = none → way.length = 0
  cap : way.length ≤ cw ∧ cw ≤ maxLen
  far : ∀ ad, Aw = some ad → w0.heap.size + 4 ≤ ad.block
theorem WayAt.nb {w0 W W' : World} {way : List ByteArray} {Aw : Option Addr} {cw : Nat} (h : WayAt w0 W way Aw cw) (hn : Nb W W' (w0.heap.size + 2)) : WayAt w0 W' way Aw cw :=
  ⟨hn.lies h.lies (fun ad e => by have := h.far ad e; omega), h.nil, h.cap, h.far⟩

set_option maxRecDepth 100000 in
set_option maxHeartbeats 4000000 in
theorem lvisit_step {w0 : World} {l : List Rul} {A : Option Addr} {c : Nat} (hl : Lies w0 w0.heap.size A (rulesC l)) (hok : RulOK l) (hm : l.length ≤ 1000) (U : List ByteArray) (hU : ∀ r ∈ l, r.y ∈ U) (K m : Nat) (hK : K ≤ 10000)
    (IH : ∀ (W : World) (n : Nat) (D : ByteArray → Bool) (x : ByteArray) (way : List ByteArray) (Aw : Option Addr) (cw : Nat), Lv w0 W l A c n D → Good l D → Way l way x → WayAt w0 W way Aw cw → x ∈ U → x.size ≤ 100 → n + left U D ≤ K → l.length < way.length + m → Calls Tryz.prog 142 #[.string x, .slice Aw way.length cw, ptr (w0.heap.size + 3), ptr w0.heap.size, ptr (w0.heap.size + 1)] W (LvEnd w0 l A c U K D way x W))
    (W : World) (n : Nat) (D : ByteArray → Bool) (x : ByteArray) (way : List ByteArray) (Aw : Option Addr) (cw : Nat) (hG : Lv w0 W l A c n D) (hgd : Good l D) (hw : Way l way x) (hwa : WayAt w0 W way Aw cw) (hx : x ∈ U) (hxs : x.size ≤ 100) (hn : n + left U D ≤ K) (hlt : l.length < way.length + (m + 1)) :
    Calls Tryz.prog 142 #[.string x, .slice Aw way.length cw, ptr (w0.heap.size + 3), ptr w0.heap.size, ptr (w0.heap.size + 1)] W (LvEnd w0 l A c U K D way x W) := by
  have q5 := hG.k5.cell 0 rfl
  have hlk := hG.mp.lookS hxs
  have hwl := hw.len
  rw [setG_get] at hlk
  have HCON := Lib.hid (contains_any way x Aw cw W hwa.lies (by omega))
  have HG := Lib.hid hG
  have HGD := Lib.hid hgd
  have HW := Lib.hid hw
  have HWA := Lib.hid hwa
  unfold ptr at IH ⊢
  by_cases hin : x ∈ way
  · have h1 : way.any (fun y => decide (x = y)) = true := List.any_eq_true.2 ⟨x, hin, by simp⟩
    rw [h1] at HCON
    have HC := Lib.hid (hw.circ hin)
    clear hG hgd hw hwa IH hl hok h1 hin hlk
    go_enter Tryz.func142, Tryz.ntmps142
    go_wp2_with (go_at_call 118; refine HCON.out.mono ?_; rintro e w1 ⟨rfl, rfl⟩)
    go_ret
    exact ⟨Nb.refl _ _, .inr ⟨rfl, HC.out, n, D, HG.out⟩⟩
  · have h1 : way.any (fun y => decide (x = y)) = false := by
      rw [List.any_eq_false]; intro y hy; simp; rintro rfl; exact hin hy
    rw [h1] at HCON
    by_cases hS : D x = true
    · rw [hS] at hlk
      have HS := Lib.hid hS
      clear hG hgd hw hwa hS IH hl hok h1 hin
      go_enter Tryz.func142, Tryz.ntmps142
      go_wp2_with (go_at_call 118; refine HCON.out.mono ?_; rintro e w1 ⟨rfl, rfl⟩)
      go_ret
      exact ⟨Nb.refl _ _, .inl ⟨rfl, n, D, HG.out, fun _ h => h, HS.out, HGD.out, hn, fun _ _ h => h⟩⟩
    · have hS' : D x = false := by simpa using hS
      rw [hS'] at hlk
      have q2 := hG.k2.cell 0 rfl
      have HIH := Lib.hid IH
      have HL := Lib.hid hl
      have HOK := Lib.hid hok
      have HU := Lib.hid hU
      have HNX := Lib.hid (fun r h1 h2 h3 => hw.next hin (r := r) h1 h2 h3)
      have HSX := Lib.hid hS'
      have HIN := Lib.hid hin
      have HXU := Lib.hid hx
      have hcap := hwa.cap
      have HNIL := Lib.hid hwa.nil
      have HD0 : Hid (∀ j (h : j < l.length), j < 0 → l[j].kind = 5 → l[j].x = x → D l[j].y = true) := fun j _ h => absurd h (by omega)
      clear hG hgd hw hwa IH hl hok hU hS hS' h1 hin hx
      go_enter Tryz.func142, Tryz.ntmps142
      go_wp2_with (go_at_call 118; refine HCON.out.mono ?_; rintro e w1 ⟨rfl, rfl⟩)
      go_loopw [18] (fun y wr => ∃ (k : Nat) (n' : Nat) (D' : ByteArray → Bool), k ≤ l.length ∧ y = .int .i64 k ∧ Hid (Lv w0 wr l A c n' D') ∧ Hid (∀ z, D z = true → D' z = true) ∧ Hid (Good l D') ∧ Hid (∀ j (h : j < l.length), j < k → l[j].kind = 5 → l[j].x = x → D' l[j].y = true) ∧ n' + left U D' ≤ K ∧ Hid (Nb W wr (w0.heap.size + 2)) ∧ Hid (∀ z ∈ way ++ [x], D z = false → D' z = false)) (fun y _ => l.length - (intOf y).toNat)
      case atStart => exact ⟨0, n, D, by omega, rfl, HG, fun _ h => h, HGD, HD0, hn, Nb.refl _ _, fun _ _ h => h⟩
      case round =>
        obtain ⟨k, n', D', hk, rfl, hg, hsub, hgd, hdid, hKr, hnb, hway⟩ := hrel
        clear HG HGD HD0 q2 hlk q5 hn
        by_cases hlk : k < l.length
        · obtain ⟨ad, rfl, hadb, c0, c1, c2, c3, c4, c5⟩ := rule_at ((HL.out.below hg.out.bel (Nat.le_refl _)).more hg.out.bel.size) hlk
          have q2 := hg.out.k2.cell 0 rfl
          have hz := hg.out.hz
          have hz3 : w0.heap.size + 3 < wr.heap.size := by omega
          have hyU := Lib.hid (HU.out _ (List.getElem_mem hlk))
          have hys := (HOK.out _ (List.getElem_mem hlk)).2.1
          have HSK : Hid (∀ D2 : ByteArray → Bool, (∀ z, D' z = true → D2 z = true) → (l[k].kind = 5 → l[k].x = x → D2 l[k].y = true) → ∀ j (h : j < l.length), j < k + 1 → l[j].kind = 5 → l[j].x = x → D2 l[j].y = true) := fun D2 h1 h2 j hj hjk h5 hxx => by
            by_cases e : j = k
            · subst e; exact h2 h5 hxx
            · exact h1 _ (hdid.out j hj (by omega) h5 hxx)
          have HNK := Lib.hid (HNX.out l[k] (List.getElem_mem hlk))
          generalize l[k] = r at *
          obtain ⟨id, kn, kd, rx, ry, of⟩ := r
          dsimp only at *
          have E1 := str_eq rx x
          have HCELL : Hid (∀ V, Nb (wr.alloc (.cells #[.int .i64 id, .int .i64 kn, .int .u8 kd, .string rx, .string ry, .int .i64 of] 50)) V (w0.heap.size + 2) → V.cell? ⟨wr.heap.size, 2, none⟩ = some (.int .u8 kd) ∧ V.cell? ⟨wr.heap.size, 3, none⟩ = some (.string rx) ∧ V.cell? ⟨wr.heap.size, 4, none⟩ = some (.string ry) ∧ V.cell? ⟨w0.heap.size + 1, 0, none⟩ = some (lvFn w0.heap.size)) := fun V hV => by
            have b1 := hV.bk (Bk.new wr 50 #[.int .i64 id, .int .i64 kn, .int .u8 kd, .string rx, .string ry, .int .i64 of]) (by omega)
            have b2 := hV.bk (hg.out.k6.alloc (.cells #[.int .i64 id, .int .i64 kn, .int .u8 kd, .string rx, .string ry, .int .i64 of] 50)) (by omega)
            exact ⟨b1.cell 2 rfl, b1.cell 3 rfl, b1.cell 4 rfl, b2.cell 0 rfl⟩
          unfold lvFn at HCELL
          by_cases h5 : kd = 5
          · have h5' : (kd == 5) = true := by rw [h5]; rfl
            by_cases hxx : rx = x
            · rw [decide_eq_true hxx] at E1
              have HX := Lib.hid hxx
              have H5 := Lib.hid h5
              clear hxx h5 hdid HSX
              go_upto_region 8 with fail
              have HDID := Lib.hid (HSK.out)
              have HSZ : Hid ((wr.alloc (.cells #[.int .i64 id, .int .i64 kn, .int .u8 kd, .string rx, .string ry, .int .i64 of] 50)).heap.size = wr.heap.size + 1) := by show _ = _; simp
              have hnx := HNK.out H5.out HX.out
              have HNX2 := Lib.hid hnx
              have HCL := Lib.hid (fun V => clipS_any Aw way.length cw V hcap.1 HNIL.out hcap.2)
              have hlenw := hnx.len
              have hlw : way.length ≤ 1000 := by omega
              have HLEN : Hid (l.length < (way ++ [x]).length + m) := by show _ < _; simp only [List.length_append, List.length_cons, List.length_nil]; omega
              have HNBW : Hid (∀ V, Nb (wr.alloc (.cells #[.int .i64 id, .int .i64 kn, .int .u8 kd, .string rx, .string ry, .int .i64 of] 50)) V (w0.heap.size + 2) → Nb W V (w0.heap.size + 2)) := fun V hV => (hnb.out.alloc _).trans' hV
              have HLV : Hid (∀ V, Below (wr.heap.size + 1) (wr.alloc (.cells #[.int .i64 id, .int .i64 kn, .int .u8 kd, .string rx, .string ry, .int .i64 of] 50)) V → Lv w0 V l (some ad) c n' D') := fun V hV => hg.out.step (((Below.refl _ _).alloc (Nat.le_refl _) _).trans (hV.mono (by omega)))
              obtain ⟨i0, hi0, hz0, hz1, hz2⟩ := info_parts info9
              have I9 := Lib.hid (And.intro hi0 (And.intro hz0 (And.intro hz1 hz2))); clear hi0 hz0 hz1 hz2
              clear hnx
              refine wp_region_held_drew (S := (fun V => V.cell? ⟨wr.heap.size, 2, none⟩ = some (.int .u8 kd) ∧ V.cell? ⟨wr.heap.size, 3, none⟩ = some (.string rx) ∧ V.cell? ⟨wr.heap.size, 4, none⟩ = some (.string ry) ∧ V.cell? ⟨w0.heap.size + 1, 0, none⟩ = some (.func (.func 142) #[] #[.pointer (some ⟨w0.heap.size + 3, 0, none⟩), .pointer (some ⟨w0.heap.size, 0, none⟩), .pointer (some ⟨w0.heap.size + 1, 0, none⟩)]))) (by kernel_rfl) ?_ (fun hHeld => ?_)
              · exact HCELL.out _ (Nb.refl _ _).drew
              refine tk 0 22 ?_
              refine tk 1 23 ?_
              refine tk 2 24 ?_
              refine tk 3 25 ?_
              refine tk 4 26 ?_
              refine tk 5 27 ?_
              refine tk 6 28 ?_
              refine tk 7 29 ?_
              refine tk 8 30 ?_
              refine tk 9 31 ?_
              refine tk 10 32 ?_
              refine tk 11 33 ?_
              refine tk 12 34 ?_
              refine tk 13 35 ?_
              refine tk 15 37 ?_
              have hb_w3 : Below (wr.heap.size + 1) (wr.alloc (.cells #[.int .i64 id, .int .i64 kn, .int .u8 kd, .string rx, .string ry, .int .i64 of] 50)) (wr.alloc (.cells #[.int .i64 id, .int .i64 kn, .int .u8 kd, .string rx, .string ry, .int .i64 of] 50)).drew := (Below.refl _ _).drew
              have hz_w3 : wr.heap.size + 1 ≤ (wr.alloc (.cells #[.int .i64 id, .int .i64 kn, .int .u8 kd, .string rx, .string ry, .int .i64 of] 50)).drew.heap.size := by simp [World.drew]
              generalize (wr.alloc (.cells #[.int .i64 id, .int .i64 kn, .int .u8 kd, .string rx, .string ry, .int .i64 of] 50)).drew = w3 at *
              have HSS : Hid (∀ V, Below (wr.heap.size + 1) (wr.alloc (.cells #[.int .i64 id, .int .i64 kn, .int .u8 kd, .string rx, .string ry, .int .i64 of] 50)) V → V.cell? ⟨wr.heap.size, 2, none⟩ = some (.int .u8 kd) ∧ V.cell? ⟨wr.heap.size, 3, none⟩ = some (.string rx) ∧ V.cell? ⟨wr.heap.size, 4, none⟩ = some (.string ry) ∧ V.cell? ⟨w0.heap.size + 1, 0, none⟩ = some (.func (.func 142) #[] #[.pointer (some ⟨w0.heap.size + 3, 0, none⟩), .pointer (some ⟨w0.heap.size, 0, none⟩), .pointer (some ⟨w0.heap.size + 1, 0, none⟩)])) := fun V hV => HCELL.out V ⟨hV.size, fun g hg hb => hV.block g (by simpa using hg)⟩
              refine held_two 14 16 ⟨some 36, .call { callee := .value (.func 143), args := #[.tmp 35], argTypes := #[34] }, 34, _, _, _⟩ ⟨some 38, .buildSlice 34 1 #[(0, .tmp 37)], 34, _, _, _⟩ rfl rfl (by kernel_rfl) (by rfl) (by rfl) ?_ ?_
              refine wp_call (f := 143) (args := #[.slice Aw way.length cw]) (by go_simp) (HCL.out _) ?_
              rintro e w' ⟨rfl, hw'⟩
              obtain rfl : w3 = w' := hw'.symm
              refine ⟨_, rfl, HSS.out _ hb_w3, ?_⟩
              (try simp only [Act.put, List.setIfInBounds_toArray, List.set_cons_zero, List.set_cons_succ])
              refine held_one 16 ⟨some 38, .buildSlice 34 1 #[(0, .tmp 37)], 34, _, _, _⟩ rfl (by kernel_rfl) (by rfl) ?_
              unfold Oper.wp
              go_simp
              have hb4 : Below (wr.heap.size + 1) (wr.alloc (.cells #[.int .i64 id, .int .i64 kn, .int .u8 kd, .string rx, .string ry, .int .i64 of] 50)) (w3.alloc (.cells #[.string x] 9)) := hb_w3.alloc hz_w3 _
              have bx : Bk (w3.alloc (.cells #[.string x] 9)) w3.heap.size 9 #[.string x] := Bk.new _ _ _
              refine ⟨HSS.out _ hb4, ?_⟩
              (try simp only [Act.put, List.setIfInBounds_toArray, List.set_cons_zero, List.set_cons_succ])
              rotate_left
              unfold Oper.wp
              go_simp
              have hb4 : Below (wr.heap.size + 1) (wr.alloc (.cells #[.int .i64 id, .int .i64 kn, .int .u8 kd, .string rx, .string ry, .int .i64 of] 50)) (w3.alloc (.cells #[.string x] 9)) := hb_w3.alloc hz_w3 _
              have bx : Bk (w3.alloc (.cells #[.string x] 9)) w3.heap.size 9 #[.string x] := Bk.new _ _ _
              refine ⟨HSS.out _ hb4, ?_⟩
              (try simp only [Act.put, List.setIfInBounds_toArray, List.set_cons_zero, List.set_cons_succ])
              refine held_one 14 ⟨some 36, .call { callee := .value (.func 143), args := #[.tmp 35], argTypes := #[34] }, 34, _, _, _⟩ rfl (by kernel_rfl) (by rfl) ?_
              refine wp_call (f := 143) (args := #[.slice Aw way.length cw]) (by go_simp) (HCL.out _) ?_
              rintro e w' ⟨rfl, hw'⟩
              subst hw'
              refine ⟨_, rfl, HSS.out _ hb4, ?_⟩
              (try simp only [Act.put, List.setIfInBounds_toArray, List.set_cons_zero, List.set_cons_succ])
              all_goals (
                generalize w3.alloc (.cells #[.string x] 9) = w4 at *
                have hz_w4 : wr.heap.size + 1 ≤ w4.heap.size := by rw [← HSZ.out]; exact hb4.size
                refine held_one 17 ⟨some 39, .call { callee := .builtin .append, args := #[.tmp 36, .tmp 38], argTypes := #[34, 34] }, 34, _, _, _⟩ rfl (by kernel_rfl) (by rfl) ?_
                refine wp_append_grows _ (.tmp 36) (.tmp 38) 34 rfl 9 i0 (.string ByteArray.empty) 1 16 Tryz.underlying34 I9.out.1 I9.out.2.1 I9.out.2.2.1 I9.out.2.2.2 rfl (by decide) Aw way.length way.length (strsC way) rfl (fun e => ⟨HNIL.out e, HNIL.out e⟩) (by rw [strsC_len]; omega) (fun b hb j u hj => by
                  obtain ⟨ad, e, _, hc⟩ := (HWA.out.nb (HNBW.out w4 ⟨hb4.size, fun g hg hb => hb4.block g (by simpa using hg)⟩)).lies (by intro h0; rw [h0] at hj; simp at hj)
                  rw [hb] at e; cases e
                  exact hc j u hj) ⟨w3.heap.size, 0, none⟩ 1 1 [.string x] rfl rfl (bk_cells bx) ?_ (by omega) ?_ ?_ ?_
                · intro u hu; simp at hu; subst hu; rfl
                · unfold maxLen; omega
                · omega
                intro v5 w5 ow5 hg5
                have hb5 : Below (wr.heap.size + 1) (wr.alloc (.cells #[.int .i64 id, .int .i64 kn, .int .u8 kd, .string rx, .string ry, .int .i64 of] 50)) w5 := Below.grown hb4 hg5 hz_w4 (fun g e => by cases e)
                rw [strsC_snoc] at ow5
                obtain ⟨A6, c6, rfl, hc6, hcm6⟩ := ownsSlice ow5
                obtain ⟨g6, rfl, hge6⟩ := own_some ow5 (Nat.succ_pos _)
                have hwa6 : WayAt w0 w5 (way ++ [x]) (some ⟨g6, 0, none⟩) c6 := ⟨ownsRow_lies ow5, (fun e => by cases e), ⟨by simpa using hc6, hcm6⟩, fun ad e => by cases e; show _ ≤ g6; omega⟩
                have hlvl := HLV.out w5 hb5
                have hLS : way.length + 1 = (way ++ [x]).length := by simp
                have hnb5 : Hid (Nb (wr.alloc (.cells #[.int .i64 id, .int .i64 kn, .int .u8 kd, .string rx, .string ry, .int .i64 of] 50)) w5 (w0.heap.size + 2)) := ⟨hb5.size, fun g hg hb => hb5.block g (by simpa using hg)⟩
                have HC5 := Lib.hid (HIH.out w5 n' D' ry (way ++ [x]) (some ⟨g6, 0, none⟩) c6 hlvl hgd.out HNX2.out hwa6 hyU.out hys hKr HLEN.out)
                rw [← hLS] at HC5
                refine ⟨HSS.out _ hb5, ?_⟩
                clear hg5 ow5 hwa6 hlvl hb5 bx hb4 hc6 hcm6 hLS hge6
                (try simp only [Act.put, List.setIfInBounds_toArray, List.set_cons_zero, List.set_cons_succ])
                (refine held_call 18 (some 40) 142 _ rfl (by kernel_rfl) (by rfl) ?_ (HC5.out) ?_; rotate_left; rotate_left; (simp only [List.getElem?_toArray, List.getElem?_cons_zero, List.getElem?_cons_succ, Option.map_some]; refine congrArg some ?_; go_simp))
                rintro e w7 ⟨hnb7, (⟨rfl, n7, D7, hL7, hs7, hx7, hG7, hK7, hw7⟩ | ⟨rfl, hci, n7, D7, hL7⟩)⟩
                · refine ⟨_, rfl, HCELL.out w7 (hnb5.out.trans' hnb7), fun hHeld => ?_⟩
                  (try simp only [Act.put, List.setIfInBounds_toArray, List.set_cons_zero, List.set_cons_succ])
                  refine tk 19 41 ?_
                  refine wpAnyH_done (by kernel_rfl) ?_ _
                  have HREL : Hid (Lv w0 w7 l (some ad) c n7 D7 ∧ (∀ z, D z = true → D7 z = true) ∧ Good l D7 ∧ (∀ j (h : j < l.length), j < k + 1 → l[j].kind = 5 → l[j].x = x → D7 l[j].y = true) ∧ Nb W w7 (w0.heap.size + 2) ∧ ∀ z ∈ way ++ [x], D z = false → D7 z = false) :=
                    ⟨hL7, fun z hz => hs7 z (hsub.out z hz), hG7, HDID.out D7 hs7 (fun _ _ => hx7), HNBW.out w7 (hnb5.out.trans' hnb7), fun z hz h => hw7 z hz (hway.out z hz h)⟩
                  clear hHeld hnb5 hnb7 hL7 hs7 hx7 hG7 hw7
                  go_wp2
                  go_roundw
                  case rel => exact ⟨k + 1, n7, D7, by omega, by go_num, HREL.out.1, HREL.out.2.1, HREL.out.2.2.1, HREL.out.2.2.2.1, hK7, HREL.out.2.2.2.2.1, HREL.out.2.2.2.2.2⟩
                  case measure => simp [intOf]; omega
                · refine ⟨_, rfl, HCELL.out w7 (hnb5.out.trans' hnb7), fun hHeld => ?_⟩
                  (try simp only [Act.put, List.setIfInBounds_toArray, List.set_cons_zero, List.set_cons_succ])
                  refine tk 19 41 ?_
                  refine wpAnyH_done (by kernel_rfl) ?_ _
                  have HEND : Hid (LvEnd w0 l (some ad) c U K D way x W (.returned (.bool true)) w7) := ⟨HNBW.out w7 (hnb5.out.trans' hnb7), .inr ⟨rfl, hci, n7, D7, hL7⟩⟩
                  clear hHeld hnb5 hnb7 hL7
                  go_wp2
                  go_ret
                  exact HEND.out)
            · rw [decide_eq_false hxx] at E1
              have HX := Lib.hid hxx
              have H5 := Lib.hid h5
              clear hxx h5 hdid HSX
              go_upto_region 8 with fail
              refine wp_region_held_drew (S := (fun V => V.cell? ⟨wr.heap.size, 2, none⟩ = some (.int .u8 kd) ∧ V.cell? ⟨wr.heap.size, 3, none⟩ = some (.string rx) ∧ V.cell? ⟨wr.heap.size, 4, none⟩ = some (.string ry) ∧ V.cell? ⟨w0.heap.size + 1, 0, none⟩ = some (.func (.func 142) #[] #[.pointer (some ⟨w0.heap.size + 3, 0, none⟩), .pointer (some ⟨w0.heap.size, 0, none⟩), .pointer (some ⟨w0.heap.size + 1, 0, none⟩)]))) (by kernel_rfl) ?_ (fun hHeld => ?_)
              · exact HCELL.out _ (Nb.refl _ _).drew
              refine tk 0 22 ?_
              refine tk 1 23 ?_
              refine tk 2 24 ?_
              refine tk 3 25 ?_
              refine tk 4 26 ?_
              refine tk 5 27 ?_
              refine tk 6 28 ?_
              refine tk 7 29 ?_
              refine tk 8 30 ?_
              refine tk 9 31 ?_
              refine sk 10 32 ?_
              refine sk 11 33 ?_
              refine sk 12 34 ?_
              refine sk 13 35 ?_
              refine sk 14 36 ?_
              refine sk 15 37 ?_
              refine sk 16 38 ?_
              refine sk 17 39 ?_
              refine sk 18 40 ?_
              refine tk 19 41 ?_
              refine wpAnyH_done (by kernel_rfl) ?_ _
              clear hHeld
              go_wp2
              go_roundw
              case rel => exact ⟨k + 1, n', D', by omega, by go_num, hg.out.step (by repeat (first | with_reducible exact Below.refl _ _ | with_reducible assumption | with_reducible refine Below.drew ?_ | with_reducible refine below_drewN ?_ _ | (with_reducible refine Below.alloc ?_ ?_ _; rotate_left; (try simp) <;> omega) | (with_reducible refine Below.setCell ?_ ?_ _; rotate_left; (try simp) <;> omega))), hsub, hgd, HSK.out D' (fun _ h => h) (fun _ h => absurd h HX.out), hKr, hnb.out.step (by repeat (first | with_reducible exact Below.refl _ _ | with_reducible assumption | with_reducible refine Below.drew ?_ | with_reducible refine below_drewN ?_ _ | (with_reducible refine Below.alloc ?_ ?_ _; rotate_left; (try simp) <;> omega) | (with_reducible refine Below.setCell ?_ ?_ _; rotate_left; (try simp) <;> omega))), hway⟩
              case measure => simp [intOf]; omega
          · have h5' : (kd == 5) = false := by simpa using h5
            have H5 := Lib.hid h5
            clear h5 hdid HSX
            go_upto_region 8 with fail
            refine wp_region_held_drew (S := (fun V => V.cell? ⟨wr.heap.size, 2, none⟩ = some (.int .u8 kd) ∧ V.cell? ⟨wr.heap.size, 3, none⟩ = some (.string rx) ∧ V.cell? ⟨wr.heap.size, 4, none⟩ = some (.string ry) ∧ V.cell? ⟨w0.heap.size + 1, 0, none⟩ = some (.func (.func 142) #[] #[.pointer (some ⟨w0.heap.size + 3, 0, none⟩), .pointer (some ⟨w0.heap.size, 0, none⟩), .pointer (some ⟨w0.heap.size + 1, 0, none⟩)]))) (by kernel_rfl) ?_ (fun hHeld => ?_)
            · exact HCELL.out _ (Nb.refl _ _).drew
            refine tk 0 22 ?_
            refine tk 1 23 ?_
            refine tk 2 24 ?_
            refine tk 3 25 ?_
            refine sk 4 26 ?_
            refine sk 5 27 ?_
            refine sk 6 28 ?_
            refine sk 7 29 ?_
            refine tk 8 30 ?_
            refine tk 9 31 ?_
            refine sk 10 32 ?_
            refine sk 11 33 ?_
            refine sk 12 34 ?_
            refine sk 13 35 ?_
            refine sk 14 36 ?_
            refine sk 15 37 ?_
            refine sk 16 38 ?_
            refine sk 17 39 ?_
            refine sk 18 40 ?_
            refine tk 19 41 ?_
            refine wpAnyH_done (by kernel_rfl) ?_ _
            clear hHeld
            go_wp2
            go_roundw
            case rel => exact ⟨k + 1, n', D', by omega, by go_num, hg.out.step (by repeat (first | with_reducible exact Below.refl _ _ | with_reducible assumption | with_reducible refine Below.drew ?_ | with_reducible refine below_drewN ?_ _ | (with_reducible refine Below.alloc ?_ ?_ _; rotate_left; (try simp) <;> omega) | (with_reducible refine Below.setCell ?_ ?_ _; rotate_left; (try simp) <;> omega))), hsub, hgd, HSK.out D' (fun _ h => h) (fun h => absurd h H5.out), hKr, hnb.out.step (by repeat (first | with_reducible exact Below.refl _ _ | with_reducible assumption | with_reducible refine Below.drew ?_ | with_reducible refine below_drewN ?_ _ | (with_reducible refine Below.alloc ?_ ?_ _; rotate_left; (try simp) <;> omega) | (with_reducible refine Below.setCell ?_ ?_ _; rotate_left; (try simp) <;> omega))), hway⟩
            case measure => simp [intOf]; omega
        · obtain rfl : k = l.length := by omega
          have q2 := hg.out.k2.cell 0 rfl
          have q5 := hg.out.k5.cell 0 rfl
          have hdx : D' x = false := hway.out x (by simp) HSX.out
          obtain ⟨W2, hup, hm2, hg2⟩ := hg.out.mp.putS (by omega) hxs true
          rw [setG_put] at hm2
          have hG2 := hg.out.mapped hm2 hg2
          have hl2 := left_put U D' HXU.out hdx
          have HEND : Hid (LvEnd w0 l A c U K D way x W (.returned (.bool false)) W2) := by
            refine ⟨hnb.out.trans' ⟨hg2.size, fun g hg hb => hg2.block g hg (fun e => hb (Option.some.inj e))⟩, .inl ⟨rfl, n' + 1, sPut D' x, hG2, fun z hz => ?_, ?_, hgd.out.put (fun j hj => hdid.out j hj hj), by omega, fun z hz h => ?_⟩⟩
            · unfold sPut; rw [hsub.out z hz, Bool.or_true]
            · unfold sPut; simp
            · unfold sPut
              rw [hway.out z (List.mem_append_left _ hz) h]
              have : z ≠ x := fun e => HIN.out (e ▸ hz)
              simp [this]
          clear hm2 hG2 hg2 hl2 hdx
          go_wp2
          go_ret
          exact HEND.out
end Go.Proofs.YtkfeagokmcakgaaGreatDoor

namespace Go.Proofs.YtkfeagokmcakgaaGreatDoor
open Go.RowKit

theorem lvisit_any {w0 : World} {l : List Rul} {A : Option Addr} {c : Nat} (hl : Lies w0 w0.heap.size A (rulesC l)) (hok : RulOK l) (hm : l.length ≤ 1000) (U : List ByteArray) (hU : ∀ r ∈ l, r.y ∈ U) (K : Nat) (hK : K ≤ 10000) :
    ∀ (m : Nat) (W : World) (n : Nat) (D : ByteArray → Bool) (x : ByteArray) (way : List ByteArray) (Aw : Option Addr) (cw : Nat), Lv w0 W l A c n D → Good l D → Way l way x → WayAt w0 W way Aw cw → x ∈ U → x.size ≤ 100 → n + left U D ≤ K → l.length < way.length + m → Calls Tryz.prog 142 #[.string x, .slice Aw way.length cw, ptr (w0.heap.size + 3), ptr w0.heap.size, ptr (w0.heap.size + 1)] W (LvEnd w0 l A c U K D way x W)
  | 0, W, n, D, x, way, Aw, cw, _, _, hw, _, _, _, _, hlt => absurd hw.len (by omega)
  | m + 1, W, n, D, x, way, Aw, cw, hG, hgd, hw, hwa, hx, hs, hn, hlt => lvisit_step hl hok hm U hU K m hK (lvisit_any hl hok hm U hU K hK m) W n D x way Aw cw hG hgd hw hwa hx hs hn hlt

/-- the state while all groups are tried -/
structure LpInv (w0 W : World) (l : List Rul) (A : Option Addr) (c : Nat) (U : List ByteArray) (K k : Nat) : Prop where
  out : ∃ n D, Lv w0 W l A c n D ∧ Good l D ∧ n + left U D ≤ K ∧ ∀ j (h : j < l.length), j < k → l[j].kind = 5 → D l[j].x = true
set_option maxHeartbeats 1000000 in
theorem loops2_any {w0 : World} {l : List Rul} {A : Option Addr} {c : Nat} (hl : Lies w0 w0.heap.size A (rulesC l)) (hok : RulOK l) (hm : l.length ≤ 1000) (U : List ByteArray) (hU : ∀ r ∈ l, r.y ∈ U) (hUx : ∀ r ∈ l, r.x ∈ U) (K : Nat) (hK : K ≤ 10000)
    (k : Nat) (hk : k < l.length) (W : World) (hI : LpInv w0 W l A c U K k) :
    Calls Tryz.prog 144 #[l[k].agg, .pointer (some ⟨w0.heap.size + 1, 0, none⟩)] W (AnyEnd (fun W' => LpInv w0 W' l A c U K (k + 1)) (fun W' => Circ l ∧ Below w0.heap.size w0 W')) := by
  obtain ⟨n, D, hL, hg, hn, hd⟩ := hI.out
  have HSK : Hid (∀ D2 : ByteArray → Bool, (∀ z, D z = true → D2 z = true) → (l[k].kind = 5 → D2 l[k].x = true) → ∀ j (h : j < l.length), j < k + 1 → l[j].kind = 5 → D2 l[j].x = true) := fun D2 h1 h2 j hj hjk h5 => by
    by_cases e : j = k
    · subst e; exact h2 h5
    · exact h1 _ (hd j hj (by omega) h5)
  have hz := hL.hz
  have q6 := hL.k6.cell 0 rfl
  unfold lvFn at q6
  have hlt6 : w0.heap.size + 1 < W.heap.size := by omega
  have HC := Lib.hid (fun V hV => lvisit_any hl hok hm U hU K hK (l.length + 1) V n D l[k].x [] none 0 (hL.step hV) hg (Way.nil _ _) ⟨(fun h => absurd rfl h), (fun _ => rfl), ⟨Nat.le_refl _, Nat.zero_le _⟩, (fun ad e => by cases e)⟩ (hUx _ (List.getElem_mem hk)) (hok _ (List.getElem_mem hk)).1 hn (by simp))
  have HL := Lib.hid hL
  have HG := Lib.hid hg
  have HN := Lib.hid hn
  clear hI hL hg hn hd hl hok hU hUx
  unfold ptr at HC
  simp only [List.length_nil] at HC
  generalize l[k] = r at *
  obtain ⟨id, kn, kd, x, y, of⟩ := r
  dsimp only at *
  by_cases h5 : kd = 5
  · have h5' : (kd == 5) = true := by rw [h5]; rfl
    have H5 := Lib.hid h5
    clear h5
    go_enter Tryz.func144, Tryz.ntmps144
    go_wp2_with (first | (go_at_call 142; refine (HC.out _ (by repeat (first | with_reducible exact Below.refl _ _ | with_reducible assumption | with_reducible refine Below.drew ?_ | with_reducible refine below_drewN ?_ _ | (with_reducible refine Below.alloc ?_ ?_ _; rotate_left; (try simp) <;> omega) | (with_reducible refine Below.setCell ?_ ?_ _; rotate_left; (try simp) <;> omega)))).mono ?_; rintro e w7 ⟨hnb7, (⟨rfl, n7, D7, hL7, hs7, hx7, hG7, hK7, hw7⟩ | ⟨rfl, hci, n7, D7, hL7⟩)⟩))
    · go_ret
      exact .inl ⟨rfl, ⟨⟨n7, D7, hL7, hG7, hK7, HSK.out D7 hs7 (fun _ => hx7)⟩⟩⟩
    · go_ret
      exact .inr ⟨rfl, hci, hL7.bel⟩
  · have h5' : (kd == 5) = false := by simpa using h5
    have H5 := Lib.hid h5
    clear h5
    go_enter Tryz.func144, Tryz.ntmps144
    go_wp2
    go_ret
    exact .inl ⟨rfl, ⟨⟨n, D, HL.out.step (by repeat (first | with_reducible exact Below.refl _ _ | with_reducible assumption | with_reducible refine Below.drew ?_ | with_reducible refine below_drewN ?_ _ | (with_reducible refine Below.alloc ?_ ?_ _; rotate_left; (try simp) <;> omega) | (with_reducible refine Below.setCell ?_ ?_ _; rotate_left; (try simp) <;> omega))), HG.out, HN.out, HSK.out D (fun _ h => h) (fun h => absurd h H5.out)⟩⟩⟩
theorem Lv.start (l : List Rul) (A : Option Addr) (c : Nat) (w : World) :
    Lv w ((((w.alloc (Obj.cells #[Value.slice A l.length c] 23)).alloc (Obj.cells #[lvFn w.heap.size] 160)).alloc (Obj.map #[] 0)).alloc (Obj.cells #[Value.map (some (w.heap.size + 2))] 114)) l A c 0 sNone where
  bel := (by repeat (first | with_reducible exact Below.refl _ _ | with_reducible assumption | with_reducible refine Below.drew ?_ | with_reducible refine below_drewN ?_ _ | (with_reducible refine Below.alloc ?_ ?_ _; rotate_left; (try simp) <;> omega) | (with_reducible refine Below.setCell ?_ ?_ _; rotate_left; (try simp) <;> omega)))
  hz := by simp
  k2 := (((Bk.new _ _ _).alloc _).alloc _).alloc _
  k6 := by simpa using ((Bk.new (w.alloc (Obj.cells #[Value.slice A l.length c] 23)) 160 #[lvFn w.heap.size]).alloc (Obj.map #[] 0)).alloc (Obj.cells #[Value.map (some (w.heap.size + 2))] 114)
  mp := by
    have := ((MapG.made mSB ((w.alloc (Obj.cells #[Value.slice A l.length c] 23)).alloc (Obj.cells #[lvFn w.heap.size] 160))).alloc (Obj.cells #[Value.map (some (w.heap.size + 2))] 114))
    rw [setG_none]
    simpa using this
  k5 := by simpa using Bk.new (((w.alloc (Obj.cells #[Value.slice A l.length c] 23)).alloc (Obj.cells #[lvFn w.heap.size] 160)).alloc (Obj.map #[] 0)) 114 #[Value.map (some (w.heap.size + 2))]
set_option maxHeartbeats 1000000 in
theorem loops_any (l : List Rul) (A : Option Addr) (c : Nat) (w : World) (hl : Lies w w.heap.size A (rulesC l)) (hok : RulOK l) (hm : l.length ≤ 1000) :
    Calls Tryz.prog 115 #[.slice A l.length c] w (ShEnd (circB l) w) := by
  have hle : left (l.map Rul.y ++ l.map Rul.x) sNone ≤ 2000 := by
    unfold left
    exact Nat.le_trans (List.length_filter_le _ _) (by simp; omega)
  have HA : Hid (∀ W, Lv w W l A c 0 sNone → Calls Tryz.prog 113 #[.slice A l.length c, .func (.func 144) #[] #[.pointer (some ⟨w.heap.size + 1, 0, none⟩)]] W (ShEnd (circB l) w)) := fun W hL => by
    refine (anyR144 l A c W (w.heap.size + 1) (fun k W' => LpInv w W' l A c (l.map Rul.y ++ l.map Rul.x) 2000 k) (fun W' => Circ l ∧ Below w.heap.size w W') hm (fun k W' h => by
      obtain ⟨n, D, h1, _⟩ := h.out
      exact (hl.below h1.bel (Nat.le_refl _)).more h1.bel.size) ⟨⟨0, sNone, hL, fun z h => by simp [sNone] at h, by omega, fun j _ h => absurd h (by omega)⟩⟩
      (fun k hk W' hI => loops2_any hl hok hm _ (fun r hr => List.mem_append_left _ (List.mem_map.2 ⟨r, hr, rfl⟩)) (fun r hr => List.mem_append_right _ (List.mem_map.2 ⟨r, hr, rfl⟩)) 2000 (by omega) k hk W' hI)).mono ?_
    rintro e W' (⟨rfl, h⟩ | ⟨rfl, h1, h2⟩)
    · obtain ⟨n, D, h1, h2, _, h3⟩ := h.out
      refine ⟨?_, h1.bel⟩
      have : circB l = false := by
        rw [← Bool.not_eq_true, circB_iff, circ_bad]
        rintro ⟨r, hr, h5, hb⟩
        obtain ⟨j, hj, rfl⟩ := List.getElem_of_mem hr
        exact h2 _ (h3 j hj hj h5) hb
      rw [this]
    · refine ⟨?_, h2⟩
      rw [(circB_iff l).2 h1]
  have hrs := fun f cs a m W => run_store Tryz.prog W a (.func (.func f) #[] cs) m rfl
  have hmm := @run_makeMap Tryz.prog
  clear hl hok hle
  go_enter Tryz.func115, Tryz.ntmps115
  go_wp2_with (go_at_call 113; refine (HA.out _ ?_).mono ?_; rotate_left; rintro e w1 ⟨rfl, hb⟩)
  · go_ret
    exact ⟨rfl, hb⟩
  · exact Lv.start l A c w
end Go.Proofs.YtkfeagokmcakgaaGreatDoor
