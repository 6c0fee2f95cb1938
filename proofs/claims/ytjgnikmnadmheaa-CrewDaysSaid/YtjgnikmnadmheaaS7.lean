/- The reference's Skilled, for all yards; common, of both. Printed by wip/gen_s7.py. -/
import Derived.Test.YtjgnikmnadmheaaS6
import Derived.Test.YtjgnikmnadmheaaQ9
namespace Go.Proofs.Ytjgnikmnadmheaa
open Go.RowKit

theorem own_ne {w : World} {base g : Nat} {e : TypeId} {size n : Nat} {v : Value} {xs : List Value} (ho : w.ownsRow base e size v n xs) (h : g < base) : some g ≠ v.ownBlock := by
  rcases ho.2 with ⟨rfl, _⟩ | ⟨g', _, _, rfl, hge, _⟩
  · simp [Value.ownBlock]
  · simp [Value.ownBlock]; omega
/-- the error of a yard and tasks -/
def comE (Y : Yd) (l : List Tk) : Int := if okY Y = true then chkL l else chkY Y
set_option maxRecDepth 100000 in
set_option maxHeartbeats 1000000 in
theorem rSkilled_any (C : Array Value) (Y : Yd) (d need : Int) (w : World) (hY : YardAt w w.heap.size C Y) (hs : Small Y) : Calls Try.prog 50 #[.agg C, .int .i64 d, .int .i64 need] w (IntsEnd (skO Y d need) w) := by
  have HCK := Lib.hid (fun W (hb : Below w.heap.size w W) => rCheckYard_any C Y W ((hY.below hb (Nat.le_refl _)).more hb.size) hs.cl hs.pi hs.ma hs.nm)
  have HLOAD := load_any hY
  have HC28 := Lib.hid hY.len
  have HE : Hid (skO Y d need = if okY Y = true then skL Y.ma d need else []) := rfl
  have HN := Lib.hid (chk_of Y)
  have hm := hs.ma
  obtain ⟨A3, k3, e3, L3⟩ := hY.ma
  obtain ⟨i0, hi0, hz0, hz1, hz2⟩ := info_parts info3
  have I3 := Lib.hid (And.intro hi0 (And.intro hz0 (And.intro hz1 hz2))); clear hi0 hz0 hz1 hz2
  clear hY hs
  generalize chkY Y = n at *
  generalize skO Y d need = r at *
  obtain ⟨g1, g2⟩ := HN.out
  cases h : okY Y with
  | false =>
    have hn : (n != 0) = true := g2.trans (by rw [h]; rfl)
    have HR : Hid (r = []) := by show _ = _; rw [HE.out, h]; rfl
    clear HE h g1 g2
    go_enter Try.func50, Try.ntmps50
    go_wp2_with (first | (refine wpList_load_guard (P := Try.prog) (by rfl) 29 (.tmp 3) rfl w.heap.size 0 rfl C.toList _ (HLOAD.out _ _ (by exact (by repeat (first | with_reducible assumption | with_reducible exact Bk.new _ _ _ | with_reducible refine Bk.drew ?_ | with_reducible refine Bk.drewN ?_ _ | with_reducible refine Bk.alloc ?_ _ | (with_reducible refine Bk.far ?_ ?_ _; rotate_left; (try simp) <;> omega))))) Try.underlying29 rfl (by rw [HC28.out]; exact info29) ?_) | (go_at_call 17; refine (HCK.out _ (by exact (by repeat (first | with_reducible exact Below.refl _ _ | with_reducible assumption | with_reducible refine Below.drew ?_ | with_reducible refine below_drewN ?_ _ | (with_reducible refine Below.alloc ?_ ?_ _; rotate_left; (try simp) <;> omega) | (with_reducible refine Below.setCell ?_ ?_ _; rotate_left; (try simp) <;> omega))))).mono ?_; rintro e w1 ⟨rfl, hb1⟩; have hB1 : Below w.heap.size w w1 := Below.trans (by exact (by repeat (first | with_reducible exact Below.refl _ _ | with_reducible assumption | with_reducible refine Below.drew ?_ | with_reducible refine below_drewN ?_ _ | (with_reducible refine Below.alloc ?_ ?_ _; rotate_left; (try simp) <;> omega) | (with_reducible refine Below.setCell ?_ ?_ _; rotate_left; (try simp) <;> omega)))) (hb1.mono (by first | omega | (simp; omega) | simp)); have hK1 : Bk w1 w.heap.size 29 C := Bk.below (by exact (by repeat (first | with_reducible assumption | with_reducible exact Bk.new _ _ _ | with_reducible refine Bk.drew ?_ | with_reducible refine Bk.drewN ?_ _ | with_reducible refine Bk.alloc ?_ _ | (with_reducible refine Bk.far ?_ ?_ _; rotate_left; (try simp) <;> omega)))) hb1 (by first | omega | (simp; omega) | simp); have hz1 := hb1.size; (try simp at hz1); clear hb1))
    go_ret
    exact ⟨_, rfl, by rw [HR.out]; exact World.ownsRow_nil _ _ _ _, hB1⟩
  | true =>
    have hn : (n != 0) = false := g2.trans (by rw [h]; rfl)
    have HR : Hid (r = skL Y.ma d need) := by show _ = _; rw [HE.out, h]; rfl
    clear HE h g1 g2
    go_enter Try.func50, Try.ntmps50
    go_upto_region 5 with (first | (refine wpList_load_guard (P := Try.prog) (by rfl) 29 (.tmp 3) rfl w.heap.size 0 rfl C.toList _ (HLOAD.out _ _ (by exact (by repeat (first | with_reducible assumption | with_reducible exact Bk.new _ _ _ | with_reducible refine Bk.drew ?_ | with_reducible refine Bk.drewN ?_ _ | with_reducible refine Bk.alloc ?_ _ | (with_reducible refine Bk.far ?_ ?_ _; rotate_left; (try simp) <;> omega))))) Try.underlying29 rfl (by rw [HC28.out]; exact info29) ?_) | (go_at_call 17; refine (HCK.out _ (by exact (by repeat (first | with_reducible exact Below.refl _ _ | with_reducible assumption | with_reducible refine Below.drew ?_ | with_reducible refine below_drewN ?_ _ | (with_reducible refine Below.alloc ?_ ?_ _; rotate_left; (try simp) <;> omega) | (with_reducible refine Below.setCell ?_ ?_ _; rotate_left; (try simp) <;> omega))))).mono ?_; rintro e w1 ⟨rfl, hb1⟩; have hB1 : Below w.heap.size w w1 := Below.trans (by exact (by repeat (first | with_reducible exact Below.refl _ _ | with_reducible assumption | with_reducible refine Below.drew ?_ | with_reducible refine below_drewN ?_ _ | (with_reducible refine Below.alloc ?_ ?_ _; rotate_left; (try simp) <;> omega) | (with_reducible refine Below.setCell ?_ ?_ _; rotate_left; (try simp) <;> omega)))) (hb1.mono (by first | omega | (simp; omega) | simp)); have hK1 : Bk w1 w.heap.size 29 C := Bk.below (by exact (by repeat (first | with_reducible assumption | with_reducible exact Bk.new _ _ _ | with_reducible refine Bk.drew ?_ | with_reducible refine Bk.drewN ?_ _ | with_reducible refine Bk.alloc ?_ _ | (with_reducible refine Bk.far ?_ ?_ _; rotate_left; (try simp) <;> omega)))) hb1 (by first | omega | (simp; omega) | simp); have hz1 := hb1.size; (try simp at hz1); clear hb1))
    go_loopw [7, 8] (fun v y wr => ∃ k : Nat, k ≤ Y.ma.length ∧ y = .int .i64 k ∧ wr.ownsRow (w.heap.size + 1) 3 1 v (skK Y.ma d need k).length (ints (skK Y.ma d need k)) ∧ Below w.heap.size w wr ∧ Bk wr w.heap.size 29 C) (fun _ y _ => Y.ma.length - (intOf y).toNat)
    case atStart => exact ⟨0, by omega, rfl, World.ownsRow_nil _ _ _ _, hB1, hK1⟩
    case round =>
    clear hB1 hK1 hz1
    obtain ⟨k, hk, rfl, hown, hbw, hbk⟩ := hrel
    have hbs := hbw.size
    have hbl := hbk.lt
    have x3 := hbk.cell 26 e3
    by_cases hlt : k < Y.ma.length
    · obtain ⟨ad, hA, hadb, c0, c1, c2, c3⟩ := mas_at (L3.below hbw (Nat.le_refl _)) hlt
      subst hA
      have HY := Lib.hid (fun (h : skB Y.ma[k] d need = true) => skK_yes hlt h)
      have HN := Lib.hid (fun (h : skB Y.ma[k] d need = false) => skK_no hlt h)
      have HAB := Lib.hid (fun W => able_any Y.ma[k] d need W)
      have hln := skK_len Y.ma d need k
      generalize skB Y.ma[k] d need = q at *
      generalize skK Y.ma d need k = S at *
      generalize Y.ma[k] = m at *
      obtain ⟨nm, f, u, kk⟩ := m
      dsimp only at *
      cases q with
      | true =>
        have HE := Lib.hid (HY.out rfl)
        clear HY HN
        go_upto_region 8 with (go_at_call 100; refine (HAB.out _).mono ?_; rintro e w2 ⟨rfl, hb2⟩; have hB2 : Below w.heap.size w w2 := Below.trans (by exact (by repeat (first | with_reducible exact Below.refl _ _ | with_reducible assumption | with_reducible refine Below.drew ?_ | with_reducible refine below_drewN ?_ _ | (with_reducible refine Below.alloc ?_ ?_ _; rotate_left; (try simp) <;> omega) | (with_reducible refine Below.setCell ?_ ?_ _; rotate_left; (try simp) <;> omega)))) (hb2.mono (by first | omega | simp; omega)); have hK2 : Bk w2 w.heap.size 29 C := Bk.below (by exact (by repeat (first | with_reducible assumption | with_reducible exact Bk.new _ _ _ | with_reducible refine Bk.drew ?_ | with_reducible refine Bk.drewN ?_ _ | with_reducible refine Bk.alloc ?_ _ | (with_reducible refine Bk.far ?_ ?_ _; rotate_left; (try simp) <;> omega)))) hb2 (by first | omega | simp; omega); have hown1 := ownsRow_below hown hb2 (Nat.le_refl _); have hz2 := hb2.size; clear hb2)
        go_wp2_with (at_builtin; refine wpList_append_own _ rfl (.tmp 27) (.tmp 29) 25 rfl (w.heap.size + 1) 3 i0 (.int .i64 0) 1 8 Try.underlying25 I3.out.1 I3.out.2.1 I3.out.2.2.1 I3.out.2.2.2 rfl (by decide) _ S.length (ints S) rfl (hown1.alloc _) ⟨w2.heap.size, 0, none⟩ 1 1 [.int .i64 k] rfl rfl ?c1 ?c2 ?c3 ?c4 ?c5 ?_)
        case c1 => simpa using cell_one_new w2 (.int .i64 k) 3
        case c2 => intro u hu; simp at hu; subst hu; rfl
        case c3 => unfold maxLen; omega
        case c4 => omega
        case c5 => simp; omega
        intro v' w1 hown' hgrow _
        rw [ints_snoc, ← HE.out] at hown'
        have hlen : Hid (S.length + 1 = (skK Y.ma d need (k + 1)).length) := by show _ = _; rw [HE.out]; simp
        rw [hlen.out] at hown'
        have hb1 : Below w.heap.size w w1 := below_own (by exact (by repeat (first | with_reducible exact Below.refl _ _ | with_reducible assumption | with_reducible refine Below.drew ?_ | with_reducible refine below_drewN ?_ _ | (with_reducible refine Below.alloc ?_ ?_ _; rotate_left; (try simp) <;> omega) | (with_reducible refine Below.setCell ?_ ?_ _; rotate_left; (try simp) <;> omega)))) (hown1.alloc _) hgrow (Nat.le_succ _) (by simp; omega)
        have hk1 : Bk w1 w.heap.size 29 C := (hK2.alloc _).grown hgrow (own_ne hown1 (Nat.lt_succ_self _))
        clear hgrow hown hown1
        go_wp2
        go_roundw
        case rel => exact ⟨k + 1, by omega, by go_num, hown', hb1, hk1⟩
        case measure => simp [intOf]; omega
      | false =>
        have HE := Lib.hid (HN.out rfl)
        clear HY HN
        go_wp2_with (go_at_call 100; refine (HAB.out _).mono ?_; rintro e w2 ⟨rfl, hb2⟩; have hB2 : Below w.heap.size w w2 := Below.trans (by exact (by repeat (first | with_reducible exact Below.refl _ _ | with_reducible assumption | with_reducible refine Below.drew ?_ | with_reducible refine below_drewN ?_ _ | (with_reducible refine Below.alloc ?_ ?_ _; rotate_left; (try simp) <;> omega) | (with_reducible refine Below.setCell ?_ ?_ _; rotate_left; (try simp) <;> omega)))) (hb2.mono (by first | omega | simp; omega)); have hK2 : Bk w2 w.heap.size 29 C := Bk.below (by exact (by repeat (first | with_reducible assumption | with_reducible exact Bk.new _ _ _ | with_reducible refine Bk.drew ?_ | with_reducible refine Bk.drewN ?_ _ | with_reducible refine Bk.alloc ?_ _ | (with_reducible refine Bk.far ?_ ?_ _; rotate_left; (try simp) <;> omega)))) hb2 (by first | omega | simp; omega); have hown1 := ownsRow_below hown hb2 (Nat.le_refl _); have hz2 := hb2.size; clear hb2)
        go_roundw
        case rel => exact ⟨k + 1, by omega, by go_num, by rw [HE.out]; exact hown1, hB2, hK2⟩
        case measure => simp [intOf]; omega
    · obtain rfl : k = Y.ma.length := by omega
      clear hlt hk
      go_wp2
      go_ret
      exact ⟨_, rfl, by rw [HR.out]; exact ownsRow_base hown (Nat.le_succ _), hbw⟩

set_option maxHeartbeats 400000 in
theorem common_any (C : Array Value) (Y : Yd) (l : List Tk) (Al : Option Addr) (cl : Nat) (w : World) (hY : YardAt w w.heap.size C Y) (hs : Small Y) (hT : TasksAt w w.heap.size Al l) (ht : tame l) : Calls Try.prog 85 #[.agg C, .slice Al l.length cl] w (IntEnd (comE Y l) w) := by
  have HCK := Lib.hid (fun W (hb : Below w.heap.size w W) => checkYard_any C Y W ((hY.below hb (Nat.le_refl _)).more hb.size) hs.cl hs.pi hs.ma hs.nm)
  have HLOAD := load_any hY
  have HC28 := Lib.hid hY.len
  have HCT := Lib.hid (fun W (hb : Below w.heap.size w W) => checkTasks_any l Al cl W ((hT.below hb (Nat.le_refl _)).more hb.size) ht)
  have HE : Hid (comE Y l = if okY Y = true then chkL l else chkY Y) := rfl
  have HN := Lib.hid (chk_of Y)
  clear hY hs hT ht
  generalize chkY Y = n at *
  generalize chkL l = m at *
  generalize comE Y l = r at *
  obtain ⟨g1, g2⟩ := HN.out
  cases h : okY Y with
  | false =>
    have hn : (n != 0) = true := g2.trans (by rw [h]; rfl)
    have HR : Hid (r = n) := by show _ = _; rw [HE.out, h]; rfl
    clear HE h g1 g2
    go_enter Try.func85, Try.ntmps85
    go_wp2_with (first | (refine wpList_load_guard (P := Try.prog) (by rfl) 29 (.tmp 2) rfl w.heap.size 0 rfl C.toList _ (HLOAD.out _ _ (by exact (by repeat (first | with_reducible assumption | with_reducible exact Bk.new _ _ _ | with_reducible refine Bk.drew ?_ | with_reducible refine Bk.drewN ?_ _ | with_reducible refine Bk.alloc ?_ _ | (with_reducible refine Bk.far ?_ ?_ _; rotate_left; (try simp) <;> omega))))) Try.underlying29 rfl (by rw [HC28.out]; exact info29) ?_) | (go_at_call 16; refine (HCK.out _ (by exact (by repeat (first | with_reducible exact Below.refl _ _ | with_reducible assumption | with_reducible refine Below.drew ?_ | with_reducible refine below_drewN ?_ _ | (with_reducible refine Below.alloc ?_ ?_ _; rotate_left; (try simp) <;> omega) | (with_reducible refine Below.setCell ?_ ?_ _; rotate_left; (try simp) <;> omega))))).mono ?_; rintro e w1 ⟨rfl, hb1⟩; have hB1 : Below w.heap.size w w1 := Below.trans (by exact (by repeat (first | with_reducible exact Below.refl _ _ | with_reducible assumption | with_reducible refine Below.drew ?_ | with_reducible refine below_drewN ?_ _ | (with_reducible refine Below.alloc ?_ ?_ _; rotate_left; (try simp) <;> omega) | (with_reducible refine Below.setCell ?_ ?_ _; rotate_left; (try simp) <;> omega)))) (hb1.mono (by first | omega | (simp; omega) | simp)); clear hb1))
    go_ret
    exact int_end HR.out.symm hB1
  | true =>
    have hn : (n != 0) = false := g2.trans (by rw [h]; rfl)
    have HR : Hid (r = m) := by show _ = _; rw [HE.out, h]; rfl
    clear HE h g1 g2
    go_enter Try.func85, Try.ntmps85
    go_wp2_with (first | (refine wpList_load_guard (P := Try.prog) (by rfl) 29 (.tmp 2) rfl w.heap.size 0 rfl C.toList _ (HLOAD.out _ _ (by exact (by repeat (first | with_reducible assumption | with_reducible exact Bk.new _ _ _ | with_reducible refine Bk.drew ?_ | with_reducible refine Bk.drewN ?_ _ | with_reducible refine Bk.alloc ?_ _ | (with_reducible refine Bk.far ?_ ?_ _; rotate_left; (try simp) <;> omega))))) Try.underlying29 rfl (by rw [HC28.out]; exact info29) ?_) | (go_at_call 16; refine (HCK.out _ (by exact (by repeat (first | with_reducible exact Below.refl _ _ | with_reducible assumption | with_reducible refine Below.drew ?_ | with_reducible refine below_drewN ?_ _ | (with_reducible refine Below.alloc ?_ ?_ _; rotate_left; (try simp) <;> omega) | (with_reducible refine Below.setCell ?_ ?_ _; rotate_left; (try simp) <;> omega))))).mono ?_; rintro e w1 ⟨rfl, hb1⟩; have hB1 : Below w.heap.size w w1 := Below.trans (by exact (by repeat (first | with_reducible exact Below.refl _ _ | with_reducible assumption | with_reducible refine Below.drew ?_ | with_reducible refine below_drewN ?_ _ | (with_reducible refine Below.alloc ?_ ?_ _; rotate_left; (try simp) <;> omega) | (with_reducible refine Below.setCell ?_ ?_ _; rotate_left; (try simp) <;> omega)))) (hb1.mono (by first | omega | (simp; omega) | simp)); clear hb1) | (go_at_call 18; refine (HCT.out _ hB1).mono ?_; rintro e w2 ⟨rfl, hb2⟩; have hB2 : Below w.heap.size w w2 := Below.trans hB1 (hb2.mono hB1.size)))
    go_ret
    exact int_end HR.out.symm hB2

set_option maxHeartbeats 400000 in
theorem rcommon_any (C : Array Value) (Y : Yd) (l : List Tk) (Al : Option Addr) (cl : Nat) (w : World) (hY : YardAt w w.heap.size C Y) (hs : Small Y) (hT : TasksAt w w.heap.size Al l) (ht : tame l) : Calls Try.prog 89 #[.agg C, .slice Al l.length cl] w (IntEnd (comE Y l) w) := by
  have HCK := Lib.hid (fun W (hb : Below w.heap.size w W) => rCheckYard_any C Y W ((hY.below hb (Nat.le_refl _)).more hb.size) hs.cl hs.pi hs.ma hs.nm)
  have HLOAD := load_any hY
  have HC28 := Lib.hid hY.len
  have HCT := Lib.hid (fun W (hb : Below w.heap.size w W) => rCheckTasks_any l Al cl W ((hT.below hb (Nat.le_refl _)).more hb.size) ht)
  have HE : Hid (comE Y l = if okY Y = true then chkL l else chkY Y) := rfl
  have HN := Lib.hid (chk_of Y)
  clear hY hs hT ht
  generalize chkY Y = n at *
  generalize chkL l = m at *
  generalize comE Y l = r at *
  obtain ⟨g1, g2⟩ := HN.out
  cases h : okY Y with
  | false =>
    have hn : (n == 0) = false := g1.trans h
    have HR : Hid (r = n) := by show _ = _; rw [HE.out, h]; rfl
    clear HE h g1 g2
    go_enter Try.func89, Try.ntmps89
    go_wp2_with (first | (refine wpList_load_guard (P := Try.prog) (by rfl) 29 (.tmp 2) rfl w.heap.size 0 rfl C.toList _ (HLOAD.out _ _ (by exact (by repeat (first | with_reducible assumption | with_reducible exact Bk.new _ _ _ | with_reducible refine Bk.drew ?_ | with_reducible refine Bk.drewN ?_ _ | with_reducible refine Bk.alloc ?_ _ | (with_reducible refine Bk.far ?_ ?_ _; rotate_left; (try simp) <;> omega))))) Try.underlying29 rfl (by rw [HC28.out]; exact info29) ?_) | (go_at_call 17; refine (HCK.out _ (by exact (by repeat (first | with_reducible exact Below.refl _ _ | with_reducible assumption | with_reducible refine Below.drew ?_ | with_reducible refine below_drewN ?_ _ | (with_reducible refine Below.alloc ?_ ?_ _; rotate_left; (try simp) <;> omega) | (with_reducible refine Below.setCell ?_ ?_ _; rotate_left; (try simp) <;> omega))))).mono ?_; rintro e w1 ⟨rfl, hb1⟩; have hB1 : Below w.heap.size w w1 := Below.trans (by exact (by repeat (first | with_reducible exact Below.refl _ _ | with_reducible assumption | with_reducible refine Below.drew ?_ | with_reducible refine below_drewN ?_ _ | (with_reducible refine Below.alloc ?_ ?_ _; rotate_left; (try simp) <;> omega) | (with_reducible refine Below.setCell ?_ ?_ _; rotate_left; (try simp) <;> omega)))) (hb1.mono (by first | omega | (simp; omega) | simp)); clear hb1))
    go_ret
    exact int_end HR.out.symm hB1
  | true =>
    have hn : (n == 0) = true := g1.trans h
    have HR : Hid (r = m) := by show _ = _; rw [HE.out, h]; rfl
    clear HE h g1 g2
    go_enter Try.func89, Try.ntmps89
    go_wp2_with (first | (refine wpList_load_guard (P := Try.prog) (by rfl) 29 (.tmp 2) rfl w.heap.size 0 rfl C.toList _ (HLOAD.out _ _ (by exact (by repeat (first | with_reducible assumption | with_reducible exact Bk.new _ _ _ | with_reducible refine Bk.drew ?_ | with_reducible refine Bk.drewN ?_ _ | with_reducible refine Bk.alloc ?_ _ | (with_reducible refine Bk.far ?_ ?_ _; rotate_left; (try simp) <;> omega))))) Try.underlying29 rfl (by rw [HC28.out]; exact info29) ?_) | (go_at_call 17; refine (HCK.out _ (by exact (by repeat (first | with_reducible exact Below.refl _ _ | with_reducible assumption | with_reducible refine Below.drew ?_ | with_reducible refine below_drewN ?_ _ | (with_reducible refine Below.alloc ?_ ?_ _; rotate_left; (try simp) <;> omega) | (with_reducible refine Below.setCell ?_ ?_ _; rotate_left; (try simp) <;> omega))))).mono ?_; rintro e w1 ⟨rfl, hb1⟩; have hB1 : Below w.heap.size w w1 := Below.trans (by exact (by repeat (first | with_reducible exact Below.refl _ _ | with_reducible assumption | with_reducible refine Below.drew ?_ | with_reducible refine below_drewN ?_ _ | (with_reducible refine Below.alloc ?_ ?_ _; rotate_left; (try simp) <;> omega) | (with_reducible refine Below.setCell ?_ ?_ _; rotate_left; (try simp) <;> omega)))) (hb1.mono (by first | omega | (simp; omega) | simp)); clear hb1) | (go_at_call 19; refine (HCT.out _ hB1).mono ?_; rintro e w2 ⟨rfl, hb2⟩; have hB2 : Below w.heap.size w w2 := Below.trans hB1 (hb2.mono hB1.size)))
    go_ret
    exact int_end HR.out.symm hB2

end Go.Proofs.Ytjgnikmnadmheaa