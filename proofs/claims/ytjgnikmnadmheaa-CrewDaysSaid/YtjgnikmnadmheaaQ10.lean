/- giornatalaw07.vast, for all yards and tasks. -/
import Derived.Test.YtjgnikmnadmheaaQ9
namespace Go.Proofs.Ytjgnikmnadmheaa
open Go.RowKit

def longName (m : Mas) : Bool := decide ((100 : Int) < m.name.size)
def longStr (s : ByteArray) : Bool := decide ((100 : Int) < s.size)
def bigTask (t : Tk) : Bool := decide ((30 : Int) < t.af.length) || decide ((50 : Int) < t.co.length) || t.co.any longStr
def vastB (Y : Yd) (l : List Tk) : Bool := decide (300 < Y.cl.length ∨ 20 < Y.pi.length ∨ 20 < Y.ma.length ∨ 20 < l.length) || (Y.ma.any longName || l.any bigTask)

set_option maxRecDepth 100000 in
set_option maxHeartbeats 1000000 in
theorem vast_any (C : Array Value) (Y : Yd) (l : List Tk) (A : Option Addr) (c : Nat) (w : World) (hY : YardAt w w.heap.size C Y) (hT : TasksAt w w.heap.size A l) :
    Calls Try.prog 14 #[.agg C, .slice A l.length c] w (ShEnd (vastB Y l) w) := by
  obtain ⟨A1, k1, e1, L1⟩ := hY.cl
  obtain ⟨A2, k2, e2, L2⟩ := hY.pi
  obtain ⟨A3, k3, e3, L3⟩ := hY.ma
  have HC : Hid (vastB Y l = (decide (300 < Y.cl.length ∨ 20 < Y.pi.length ∨ 20 < Y.ma.length ∨ 20 < l.length) || (Y.ma.any longName || l.any bigTask))) := rfl
  have HTA := Lib.hid (fun W (hb : Below w.heap.size w W) => (hT.below hb (Nat.le_refl _)).more hb.size)
  clear hY hT L1 L2
  by_cases h1 : 300 < Y.cl.length
  · have H : Hid (vastB Y l = true) := by show _ = _; rw [HC.out, decide_eq_true (.inl h1)]; rfl
    clear HC
    go_enter Try.func14, Try.ntmps14
    go_wp2
    go_ret
    exact sh_ret H.out.symm (by repeat (first | with_reducible exact Below.refl _ _ | with_reducible assumption | with_reducible refine Below.drew ?_ | with_reducible refine below_drewN ?_ _ | (with_reducible refine Below.alloc ?_ ?_ _; rotate_left; (try simp) <;> omega) | (with_reducible refine Below.setCell ?_ ?_ _; rotate_left; (try simp) <;> omega)))
  by_cases h2 : 20 < Y.pi.length
  · have H : Hid (vastB Y l = true) := by show _ = _; rw [HC.out, decide_eq_true (.inr (.inl h2))]; rfl
    clear HC
    go_enter Try.func14, Try.ntmps14
    go_wp2
    go_ret
    exact sh_ret H.out.symm (by repeat (first | with_reducible exact Below.refl _ _ | with_reducible assumption | with_reducible refine Below.drew ?_ | with_reducible refine below_drewN ?_ _ | (with_reducible refine Below.alloc ?_ ?_ _; rotate_left; (try simp) <;> omega) | (with_reducible refine Below.setCell ?_ ?_ _; rotate_left; (try simp) <;> omega)))
  by_cases h3 : 20 < Y.ma.length
  · have H : Hid (vastB Y l = true) := by show _ = _; rw [HC.out, decide_eq_true (.inr (.inr (.inl h3)))]; rfl
    clear HC
    go_enter Try.func14, Try.ntmps14
    go_wp2
    go_ret
    exact sh_ret H.out.symm (by repeat (first | with_reducible exact Below.refl _ _ | with_reducible assumption | with_reducible refine Below.drew ?_ | with_reducible refine below_drewN ?_ _ | (with_reducible refine Below.alloc ?_ ?_ _; rotate_left; (try simp) <;> omega) | (with_reducible refine Below.setCell ?_ ?_ _; rotate_left; (try simp) <;> omega)))
  by_cases h4 : 20 < l.length
  · have H : Hid (vastB Y l = true) := by show _ = _; rw [HC.out, decide_eq_true (.inr (.inr (.inr h4)))]; rfl
    clear HC
    go_enter Try.func14, Try.ntmps14
    go_wp2
    go_ret
    exact sh_ret H.out.symm (by repeat (first | with_reducible exact Below.refl _ _ | with_reducible assumption | with_reducible refine Below.drew ?_ | with_reducible refine below_drewN ?_ _ | (with_reducible refine Below.alloc ?_ ?_ _; rotate_left; (try simp) <;> omega) | (with_reducible refine Below.setCell ?_ ?_ _; rotate_left; (try simp) <;> omega)))
  have HV : Hid (vastB Y l = (Y.ma.any longName || l.any bigTask)) := by show _ = _; rw [HC.out, decide_eq_false (by omega)]; rfl
  have HY1 := Lib.hid (fun i (hi : i < Y.ma.length) (h : longName Y.ma[i] = true) => show Hid (vastB Y l = true) from HV.out.trans (by rw [anyl_yes hi h]; rfl))
  have HN1 := Lib.hid (fun (h : ∀ i (hi : i < Y.ma.length), longName Y.ma[i] = false) => show Hid (vastB Y l = l.any bigTask) from HV.out.trans (by rw [anyl_no h]; rfl))
  clear HC HV
  go_enter Try.func14, Try.ntmps14
  go_wp2
  go_loopw [5] (fun y wr => ∃ k : Nat, k ≤ Y.ma.length ∧ y = .int .i64 k ∧ Hid (∀ j (hj : j < k) (h' : j < Y.ma.length), longName Y.ma[j] = false) ∧ Below w.heap.size w wr ∧ Bk wr w.heap.size 29 C) (fun y _ => Y.ma.length - (intOf y).toNat)
  case atStart => exact ⟨0, by omega, rfl, fun j hj => absurd hj (by omega), by exact (by repeat (first | with_reducible exact Below.refl _ _ | with_reducible assumption | with_reducible refine Below.drew ?_ | with_reducible refine below_drewN ?_ _ | (with_reducible refine Below.alloc ?_ ?_ _; rotate_left; (try simp) <;> omega) | (with_reducible refine Below.setCell ?_ ?_ _; rotate_left; (try simp) <;> omega))), Bk.new _ _ _⟩
  case round =>
  obtain ⟨k, hk, rfl, hg, hbw, hbk⟩ := hrel
  have hbs := hbw.size
  have hlk := hbk.lt
  have x3 := hbk.cell 26 e3
  by_cases hlt : k < Y.ma.length
  · obtain ⟨ad, hA, hadb, c0, c1, c2, c3⟩ := mas_at (L3.below hbw (Nat.le_refl _)) hlt
    subst hA
    have HYk := Lib.hid (HY1.out k hlt)
    have HG := Lib.hid (fun (h : longName Y.ma[k] = false) => show Hid (∀ j (hj : j < k + 1) (h' : j < Y.ma.length), longName Y.ma[j] = false) from fun j hj h' => by
      by_cases e : j = k
      · subst e; exact h
      · exact hg.out j (by omega) h')
    have HX : Hid (longName Y.ma[k] = decide ((100 : Int) < Y.ma[k].name.size)) := rfl
    clear hg L3
    by_cases h5 : (100 : Int) < Y.ma[k].name.size
    · have H := HYk.out (by rw [HX.out]; exact decide_eq_true h5)
      go_wp2
      go_ret
      exact sh_ret H.out.symm hbw
    · have H := HG.out (by rw [HX.out]; exact decide_eq_false h5)
      go_wp2
      go_roundw
      case rel => (first | exact ⟨k + 1, by omega, by go_num, H, hbw, hbk⟩ | ((repeat apply Exists.intro); exact ⟨⟨k + 1, by omega, by go_num, H, hbw, hbk⟩, rfl⟩))
      case measure => simp [intOf]; omega
  have HC' := HN1.out (fun i hi => hg.out i (by omega) hi)
  have HY := Lib.hid (fun i (hi : i < l.length) (h : bigTask l[i] = true) => show Hid (vastB Y l = true) from HC'.out.trans (anyl_yes hi h))
  have HN := Lib.hid (fun (h : ∀ i (hi : i < l.length), bigTask l[i] = false) => show Hid (vastB Y l = false) from HC'.out.trans (anyl_no h))
  obtain rfl : k = Y.ma.length := by omega
  clear hg HC' HN1 HY1 hlt hk
  go_wp2
  go_loopw [6] (fun y wr => ∃ k : Nat, k ≤ l.length ∧ y = .int .i64 k ∧ Hid (∀ j (hj : j < k) (h' : j < l.length), bigTask l[j] = false) ∧ Below w.heap.size w wr) (fun y _ => l.length - (intOf y).toNat)
  case atStart => exact ⟨0, by omega, rfl, fun j hj => absurd hj (by omega), hbw⟩
  case round =>
  clear hbw hbs hbk hlk x3
  obtain ⟨k, hk, rfl, hg, hbw⟩ := hrel
  have hbs := hbw.size
  by_cases hlt : k < l.length
  · obtain ⟨ad, hA, hadb, c0, c1, c2, c3⟩ := task_at (HTA.out wr hbw).at_ hlt
    subst hA
    have HCO := Lib.hid (fun W (hb : Below w.heap.size w W) => (HTA.out W hb).co _ (List.getElem_mem hlt))
    have HYk := Lib.hid (HY.out k hlt)
    have HG := Lib.hid (fun (h : bigTask l[k] = false) => show Hid (∀ j (hj : j < k + 1) (h' : j < l.length), bigTask l[j] = false) from fun j hj h' => by
      by_cases e : j = k
      · subst e; exact h
      · exact hg.out j (by omega) h')
    clear hg
    have HX : Hid (bigTask l[k] = (decide ((30 : Int) < l[k].af.length) || decide ((50 : Int) < l[k].co.length) || l[k].co.any longStr)) := rfl
    generalize hq : bigTask l[k] = q at *
    have HQ := Lib.hid hq; clear hq
    generalize l[k] = t at *
    obtain ⟨wk, nd, aA, ac, af, cA, cc, co⟩ := t
    try dsimp only at *
    by_cases h5 : (30 : Int) < af.length
    · have H := HYk.out (by rw [HX.out, decide_eq_true h5]; rfl)
      go_wp2
      go_ret
      exact sh_ret H.out.symm hbw
    by_cases h6 : (50 : Int) < co.length
    · have H := HYk.out (by rw [HX.out, decide_eq_true h6]; simp)
      go_wp2
      go_ret
      exact sh_ret H.out.symm hbw
    have HX2 : Hid (q = co.any longStr) := by show _ = _; rw [HX.out, decide_eq_false h5, decide_eq_false h6]; rfl
    clear HX
    have hco : co.length ≤ 50 := by omega
    go_wp2
    go_loopw [7] (fun y wx => ∃ j : Nat, j ≤ co.length ∧ y = .int .i64 j ∧ Hid (∀ i (h : i < co.length), i < j → longStr co[i] = false) ∧ wx = wr) (fun y _ => co.length - (intOf y).toNat)
    case atStart => exact ⟨0, by omega, rfl, fun i _ hi => absurd hi (by omega), rfl⟩
    case round =>
    obtain ⟨j, hj, rfl, hg, rfl⟩ := hrel
    by_cases hjt : j < co.length
    · obtain ⟨ad2, hA2, had2, d0⟩ := str_at (HCO.out _ hbw) hjt
      subst hA2
      have HT : Hid (longStr co[j] = decide ((100 : Int) < co[j].size)) := rfl
      have HYj : Hid (longStr co[j] = true → Hid (vastB Y l = true)) := fun h => HYk.out (by rw [HX2.out]; exact anyl_yes hjt h)
      have HGj : Hid (longStr co[j] = false → Hid (∀ i (h : i < co.length), i < j + 1 → longStr co[i] = false)) := fun h i h' hi => by
        by_cases e : i = j
        · subst e; exact h
        · exact hg.out i h' (by omega)
      clear hg
      by_cases e1 : (100 : Int) < co[j].size
      · have H := HYj.out (by rw [HT.out]; exact decide_eq_true e1)
        clear HT HYj HGj
        go_wp2
        go_ret
        exact sh_ret H.out.symm hbw
      · have H := HGj.out (by rw [HT.out]; exact decide_eq_false e1)
        clear HT HYj HGj
        go_wp2
        go_roundw
        case rel => exact ⟨j + 1, by omega, by go_num, H, by first | trivial | rfl⟩
        case measure => simp [intOf]; omega
    obtain rfl : j = co.length := by omega
    have H := HG.out (by rw [HX2.out]; exact anyl_no fun i hi => hg.out i hi hi)
    clear hg
    go_wp2
    go_roundw
    case rel => (first | exact ⟨k + 1, by omega, by go_num, H, hbw⟩ | ((repeat apply Exists.intro); exact ⟨⟨k + 1, by omega, by go_num, H, hbw⟩, rfl⟩))
    case measure => simp [intOf]; omega
  · obtain rfl : k = l.length := by omega
    have H := HN.out (fun i hi => hg.out i hi hi)
    clear hg
    go_wp2
    go_ret
    exact sh_ret H.out.symm hbw
end Go.Proofs.Ytjgnikmnadmheaa
