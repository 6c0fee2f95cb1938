/- SeasonOf, Open, Minutes, Batches, Skilled of the crew, for all yards. Printed by wip/gen_s5.py. -/
import Derived.Test.YtjgnikmnadmheaaS4
import Derived.Test.YtjgnikmnadmheaaQ7
namespace Go.Proofs.Ytjgnikmnadmheaa
open Go.RowKit

structure Small (Y : Yd) : Prop where
  cl : Y.cl.length ≤ 1000
  pi : Y.pi.length ≤ 1000
  ma : Y.ma.length ≤ 1000
  nm : ∀ m ∈ Y.ma, m.name.size ≤ 100
/-- the yard is right -/
def okY (Y : Yd) : Bool := chkY Y == 0
theorem okY_valid {Y : Yd} (h : okY Y = true) : Valid Y := valid_of (by unfold okY at h; exact eq_of_beq h)
/-- the error of a yard, of which only its being OK is known -/
structure Chk (Y : Yd) (n : Int) : Prop where
  iff : (n == 0) = okY Y
  nff : (n != 0) = !okY Y
theorem chk_of (Y : Yd) : Chk Y (chkY Y) := ⟨rfl, rfl⟩
def dayR (Y : Yd) (d : Int) : Bool := okY Y && inB d 0 100000
def seaA (Y : Yd) (d : Int) : Int := if dayR Y d = true then Y.se (2 * seaI d) else 0
def seaB' (Y : Yd) (d : Int) : Int := if dayR Y d = true then Y.se (2 * seaI d + 1) else 0
def opnB (Y : Yd) (d : Int) : Bool := okY Y && openB Y d
def minO (Y : Yd) (d : Int) : Int := if okY Y = true then minOf Y d else 0
def batO (Y : Yd) (d : Int) : Int := if dayR Y d = true then batOf Y.pi d else 0
def skO (Y : Yd) (d need : Int) : List Int := if okY Y = true then skL Y.ma d need else []
theorem ownsRow_base {w : World} {b b' : Nat} {e : TypeId} {size n : Nat} {v : Value} {xs : List Value} (h : w.ownsRow b e size v n xs) (hb : b' ≤ b) : w.ownsRow b' e size v n xs := by
  refine ⟨h.1, ?_⟩
  rcases h.2 with h2 | ⟨g, cap, cur, h1, h2, h3⟩
  · exact .inl h2
  · exact .inr ⟨g, cap, cur, h1, Nat.le_trans hb h2, h3⟩
theorem load_any {C : Array Value} {W : World} {B : Nat} {Y : Yd} (hY : YardAt W B C Y) : Hid (∀ (W : World) (b : Nat), Bk W b 29 C → W.rangeAt b 0 C.toList) := fun W b hb => hb.range

set_option maxHeartbeats 400000 in
theorem Open_any (C : Array Value) (Y : Yd) (d : Int) (w : World) (hY : YardAt w w.heap.size C Y) (hs : Small Y) : Calls Try.prog 53 #[.agg C, .int .i64 d] w (ShEnd (opnB Y d) w) := by
  have HCK := Lib.hid (fun W (hb : Below w.heap.size w W) => checkYard_any C Y W ((hY.below hb (Nat.le_refl _)).more hb.size) hs.cl hs.pi hs.ma hs.nm)
  have HLOAD := load_any hY
  have HC28 := Lib.hid hY.len
  have HE : Hid (opnB Y d = (okY Y && openB Y d)) := rfl
  have HN := Lib.hid (chk_of Y)
  have HI : okY Y = true → Hid (∀ W, Below w.heap.size w W → Calls Try.prog 106 #[.agg C, .int .i64 d] W (ShEnd (openB Y d) W)) := fun h W hb => open_any C Y d W ((hY.below hb (Nat.le_refl _)).more hb.size) (okY_valid h)
  clear hY hs
  generalize chkY Y = n at *
  generalize openB Y d = q at *
  generalize opnB Y d = r at *
  obtain ⟨g1, g2⟩ := HN.out
  cases h : okY Y with
  | false =>
    have hn : (n == 0) = false := g1.trans h
    have HR : Hid (r = false) := by show _ = _; rw [HE.out, h]; rfl
    clear HI HE h g1 g2
    go_enter Try.func53, Try.ntmps53
    go_wp2_with (first | (refine wpList_load_guard (P := Try.prog) (by rfl) 29 (.tmp 2) rfl w.heap.size 0 rfl C.toList _ (HLOAD.out _ _ (by exact (by repeat (first | with_reducible assumption | with_reducible exact Bk.new _ _ _ | with_reducible refine Bk.drew ?_ | with_reducible refine Bk.drewN ?_ _ | with_reducible refine Bk.alloc ?_ _ | (with_reducible refine Bk.far ?_ ?_ _; rotate_left; (try simp) <;> omega))))) Try.underlying29 rfl (by rw [HC28.out]; exact info29) ?_) | (go_at_call 16; refine (HCK.out _ (by exact (by repeat (first | with_reducible exact Below.refl _ _ | with_reducible assumption | with_reducible refine Below.drew ?_ | with_reducible refine below_drewN ?_ _ | (with_reducible refine Below.alloc ?_ ?_ _; rotate_left; (try simp) <;> omega) | (with_reducible refine Below.setCell ?_ ?_ _; rotate_left; (try simp) <;> omega))))).mono ?_; rintro e w1 ⟨rfl, hb1⟩; have hB1 : Below w.heap.size w w1 := Below.trans (by exact (by repeat (first | with_reducible exact Below.refl _ _ | with_reducible assumption | with_reducible refine Below.drew ?_ | with_reducible refine below_drewN ?_ _ | (with_reducible refine Below.alloc ?_ ?_ _; rotate_left; (try simp) <;> omega) | (with_reducible refine Below.setCell ?_ ?_ _; rotate_left; (try simp) <;> omega)))) (hb1.mono (by first | omega | (simp; omega) | simp)); have hK1 : Bk w1 w.heap.size 29 C := Bk.below (by exact (by repeat (first | with_reducible assumption | with_reducible exact Bk.new _ _ _ | with_reducible refine Bk.drew ?_ | with_reducible refine Bk.drewN ?_ _ | with_reducible refine Bk.alloc ?_ _ | (with_reducible refine Bk.far ?_ ?_ _; rotate_left; (try simp) <;> omega)))) hb1 (by first | omega | (simp; omega) | simp); have hz1 := hb1.size; (try simp at hz1); clear hb1))
    go_ret
    exact sh_ret HR.out.symm hB1
  | true =>
    have hn : (n == 0) = true := g1.trans h
    have HR : Hid (q = r) := by show _ = _; rw [HE.out, h]; rfl
    have HI' := HI h
    clear HI HE h g1 g2
    go_enter Try.func53, Try.ntmps53
    go_wp2_with (first | (refine wpList_load_guard (P := Try.prog) (by rfl) 29 (.tmp 2) rfl w.heap.size 0 rfl C.toList _ (HLOAD.out _ _ hK1) Try.underlying29 rfl (by rw [HC28.out]; exact info29) ?_) | (refine wpList_load_guard (P := Try.prog) (by rfl) 29 (.tmp 2) rfl w.heap.size 0 rfl C.toList _ (HLOAD.out _ _ (by exact (by repeat (first | with_reducible assumption | with_reducible exact Bk.new _ _ _ | with_reducible refine Bk.drew ?_ | with_reducible refine Bk.drewN ?_ _ | with_reducible refine Bk.alloc ?_ _ | (with_reducible refine Bk.far ?_ ?_ _; rotate_left; (try simp) <;> omega))))) Try.underlying29 rfl (by rw [HC28.out]; exact info29) ?_) | (go_at_call 16; refine (HCK.out _ (by exact (by repeat (first | with_reducible exact Below.refl _ _ | with_reducible assumption | with_reducible refine Below.drew ?_ | with_reducible refine below_drewN ?_ _ | (with_reducible refine Below.alloc ?_ ?_ _; rotate_left; (try simp) <;> omega) | (with_reducible refine Below.setCell ?_ ?_ _; rotate_left; (try simp) <;> omega))))).mono ?_; rintro e w1 ⟨rfl, hb1⟩; have hB1 : Below w.heap.size w w1 := Below.trans (by exact (by repeat (first | with_reducible exact Below.refl _ _ | with_reducible assumption | with_reducible refine Below.drew ?_ | with_reducible refine below_drewN ?_ _ | (with_reducible refine Below.alloc ?_ ?_ _; rotate_left; (try simp) <;> omega) | (with_reducible refine Below.setCell ?_ ?_ _; rotate_left; (try simp) <;> omega)))) (hb1.mono (by first | omega | (simp; omega) | simp)); have hK1 : Bk w1 w.heap.size 29 C := Bk.below (by exact (by repeat (first | with_reducible assumption | with_reducible exact Bk.new _ _ _ | with_reducible refine Bk.drew ?_ | with_reducible refine Bk.drewN ?_ _ | with_reducible refine Bk.alloc ?_ _ | (with_reducible refine Bk.far ?_ ?_ _; rotate_left; (try simp) <;> omega)))) hb1 (by first | omega | (simp; omega) | simp); have hz1 := hb1.size; (try simp at hz1); clear hb1) | (go_at_call 106; refine (HI'.out _ hB1).mono ?_; rintro e w2 ⟨rfl, hb2⟩; have hB2 : Below w.heap.size w w2 := Below.trans hB1 (hb2.mono hB1.size)))
    go_ret
    exact sh_ret HR.out hB2

set_option maxHeartbeats 400000 in
theorem Minutes_any (C : Array Value) (Y : Yd) (d : Int) (w : World) (hY : YardAt w w.heap.size C Y) (hs : Small Y) : Calls Try.prog 55 #[.agg C, .int .i64 d] w (IntEnd (minO Y d) w) := by
  have HCK := Lib.hid (fun W (hb : Below w.heap.size w W) => checkYard_any C Y W ((hY.below hb (Nat.le_refl _)).more hb.size) hs.cl hs.pi hs.ma hs.nm)
  have HLOAD := load_any hY
  have HC28 := Lib.hid hY.len
  have HE : Hid (minO Y d = if okY Y = true then minOf Y d else 0) := rfl
  have HN := Lib.hid (chk_of Y)
  have HI : okY Y = true → Hid (∀ W, Below w.heap.size w W → Calls Try.prog 107 #[.agg C, .int .i64 d] W (IntEnd (minOf Y d) W)) := fun h W hb => minutes_any C Y d W ((hY.below hb (Nat.le_refl _)).more hb.size) (okY_valid h)
  clear hY hs
  generalize chkY Y = n at *
  generalize minOf Y d = q at *
  generalize minO Y d = r at *
  obtain ⟨g1, g2⟩ := HN.out
  cases h : okY Y with
  | false =>
    have hn : (n != 0) = true := g2.trans (by rw [h]; rfl)
    have HR : Hid (r = 0) := by show _ = _; rw [HE.out, h]; rfl
    clear HI HE h g1 g2
    go_enter Try.func55, Try.ntmps55
    go_wp2_with (first | (refine wpList_load_guard (P := Try.prog) (by rfl) 29 (.tmp 2) rfl w.heap.size 0 rfl C.toList _ (HLOAD.out _ _ (by exact (by repeat (first | with_reducible assumption | with_reducible exact Bk.new _ _ _ | with_reducible refine Bk.drew ?_ | with_reducible refine Bk.drewN ?_ _ | with_reducible refine Bk.alloc ?_ _ | (with_reducible refine Bk.far ?_ ?_ _; rotate_left; (try simp) <;> omega))))) Try.underlying29 rfl (by rw [HC28.out]; exact info29) ?_) | (go_at_call 16; refine (HCK.out _ (by exact (by repeat (first | with_reducible exact Below.refl _ _ | with_reducible assumption | with_reducible refine Below.drew ?_ | with_reducible refine below_drewN ?_ _ | (with_reducible refine Below.alloc ?_ ?_ _; rotate_left; (try simp) <;> omega) | (with_reducible refine Below.setCell ?_ ?_ _; rotate_left; (try simp) <;> omega))))).mono ?_; rintro e w1 ⟨rfl, hb1⟩; have hB1 : Below w.heap.size w w1 := Below.trans (by exact (by repeat (first | with_reducible exact Below.refl _ _ | with_reducible assumption | with_reducible refine Below.drew ?_ | with_reducible refine below_drewN ?_ _ | (with_reducible refine Below.alloc ?_ ?_ _; rotate_left; (try simp) <;> omega) | (with_reducible refine Below.setCell ?_ ?_ _; rotate_left; (try simp) <;> omega)))) (hb1.mono (by first | omega | (simp; omega) | simp)); have hK1 : Bk w1 w.heap.size 29 C := Bk.below (by exact (by repeat (first | with_reducible assumption | with_reducible exact Bk.new _ _ _ | with_reducible refine Bk.drew ?_ | with_reducible refine Bk.drewN ?_ _ | with_reducible refine Bk.alloc ?_ _ | (with_reducible refine Bk.far ?_ ?_ _; rotate_left; (try simp) <;> omega)))) hb1 (by first | omega | (simp; omega) | simp); have hz1 := hb1.size; (try simp at hz1); clear hb1))
    go_ret
    exact int_end HR.out.symm hB1
  | true =>
    have hn : (n != 0) = false := g2.trans (by rw [h]; rfl)
    have HR : Hid (q = r) := by show _ = _; rw [HE.out, h]; rfl
    have HI' := HI h
    clear HI HE h g1 g2
    go_enter Try.func55, Try.ntmps55
    go_wp2_with (first | (refine wpList_load_guard (P := Try.prog) (by rfl) 29 (.tmp 2) rfl w.heap.size 0 rfl C.toList _ (HLOAD.out _ _ hK1) Try.underlying29 rfl (by rw [HC28.out]; exact info29) ?_) | (refine wpList_load_guard (P := Try.prog) (by rfl) 29 (.tmp 2) rfl w.heap.size 0 rfl C.toList _ (HLOAD.out _ _ (by exact (by repeat (first | with_reducible assumption | with_reducible exact Bk.new _ _ _ | with_reducible refine Bk.drew ?_ | with_reducible refine Bk.drewN ?_ _ | with_reducible refine Bk.alloc ?_ _ | (with_reducible refine Bk.far ?_ ?_ _; rotate_left; (try simp) <;> omega))))) Try.underlying29 rfl (by rw [HC28.out]; exact info29) ?_) | (go_at_call 16; refine (HCK.out _ (by exact (by repeat (first | with_reducible exact Below.refl _ _ | with_reducible assumption | with_reducible refine Below.drew ?_ | with_reducible refine below_drewN ?_ _ | (with_reducible refine Below.alloc ?_ ?_ _; rotate_left; (try simp) <;> omega) | (with_reducible refine Below.setCell ?_ ?_ _; rotate_left; (try simp) <;> omega))))).mono ?_; rintro e w1 ⟨rfl, hb1⟩; have hB1 : Below w.heap.size w w1 := Below.trans (by exact (by repeat (first | with_reducible exact Below.refl _ _ | with_reducible assumption | with_reducible refine Below.drew ?_ | with_reducible refine below_drewN ?_ _ | (with_reducible refine Below.alloc ?_ ?_ _; rotate_left; (try simp) <;> omega) | (with_reducible refine Below.setCell ?_ ?_ _; rotate_left; (try simp) <;> omega)))) (hb1.mono (by first | omega | (simp; omega) | simp)); have hK1 : Bk w1 w.heap.size 29 C := Bk.below (by exact (by repeat (first | with_reducible assumption | with_reducible exact Bk.new _ _ _ | with_reducible refine Bk.drew ?_ | with_reducible refine Bk.drewN ?_ _ | with_reducible refine Bk.alloc ?_ _ | (with_reducible refine Bk.far ?_ ?_ _; rotate_left; (try simp) <;> omega)))) hb1 (by first | omega | (simp; omega) | simp); have hz1 := hb1.size; (try simp at hz1); clear hb1) | (go_at_call 107; refine (HI'.out _ hB1).mono ?_; rintro e w2 ⟨rfl, hb2⟩; have hB2 : Below w.heap.size w w2 := Below.trans hB1 (hb2.mono hB1.size)))
    go_ret
    exact int_end HR.out hB2

set_option maxHeartbeats 400000 in
theorem Skilled_any (C : Array Value) (Y : Yd) (d need : Int) (w : World) (hY : YardAt w w.heap.size C Y) (hs : Small Y) : Calls Try.prog 49 #[.agg C, .int .i64 d, .int .i64 need] w (IntsEnd (skO Y d need) w) := by
  have HCK := Lib.hid (fun W (hb : Below w.heap.size w W) => checkYard_any C Y W ((hY.below hb (Nat.le_refl _)).more hb.size) hs.cl hs.pi hs.ma hs.nm)
  have HLOAD := load_any hY
  have HC28 := Lib.hid hY.len
  have HE : Hid (skO Y d need = if okY Y = true then skL Y.ma d need else []) := rfl
  have HN := Lib.hid (chk_of Y)
  have HI : okY Y = true → Hid (∀ W, Below w.heap.size w W → Calls Try.prog 98 #[.agg C, .int .i64 d, .int .i64 need] W (IntsEnd (skL Y.ma d need) W)) := fun h W hb => skilled_any C Y d need W ((hY.below hb (Nat.le_refl _)).more hb.size) (okY_valid h)
  clear hY hs
  generalize chkY Y = n at *
  generalize skL Y.ma d need = q at *
  generalize skO Y d need = r at *
  obtain ⟨g1, g2⟩ := HN.out
  cases h : okY Y with
  | false =>
    have hn : (n != 0) = true := g2.trans (by rw [h]; rfl)
    have HR : Hid (r = []) := by show _ = _; rw [HE.out, h]; rfl
    clear HI HE h g1 g2
    go_enter Try.func49, Try.ntmps49
    go_wp2_with (first | (refine wpList_load_guard (P := Try.prog) (by rfl) 29 (.tmp 3) rfl w.heap.size 0 rfl C.toList _ (HLOAD.out _ _ (by exact (by repeat (first | with_reducible assumption | with_reducible exact Bk.new _ _ _ | with_reducible refine Bk.drew ?_ | with_reducible refine Bk.drewN ?_ _ | with_reducible refine Bk.alloc ?_ _ | (with_reducible refine Bk.far ?_ ?_ _; rotate_left; (try simp) <;> omega))))) Try.underlying29 rfl (by rw [HC28.out]; exact info29) ?_) | (go_at_call 16; refine (HCK.out _ (by exact (by repeat (first | with_reducible exact Below.refl _ _ | with_reducible assumption | with_reducible refine Below.drew ?_ | with_reducible refine below_drewN ?_ _ | (with_reducible refine Below.alloc ?_ ?_ _; rotate_left; (try simp) <;> omega) | (with_reducible refine Below.setCell ?_ ?_ _; rotate_left; (try simp) <;> omega))))).mono ?_; rintro e w1 ⟨rfl, hb1⟩; have hB1 : Below w.heap.size w w1 := Below.trans (by exact (by repeat (first | with_reducible exact Below.refl _ _ | with_reducible assumption | with_reducible refine Below.drew ?_ | with_reducible refine below_drewN ?_ _ | (with_reducible refine Below.alloc ?_ ?_ _; rotate_left; (try simp) <;> omega) | (with_reducible refine Below.setCell ?_ ?_ _; rotate_left; (try simp) <;> omega)))) (hb1.mono (by first | omega | (simp; omega) | simp)); have hK1 : Bk w1 w.heap.size 29 C := Bk.below (by exact (by repeat (first | with_reducible assumption | with_reducible exact Bk.new _ _ _ | with_reducible refine Bk.drew ?_ | with_reducible refine Bk.drewN ?_ _ | with_reducible refine Bk.alloc ?_ _ | (with_reducible refine Bk.far ?_ ?_ _; rotate_left; (try simp) <;> omega)))) hb1 (by first | omega | (simp; omega) | simp); have hz1 := hb1.size; (try simp at hz1); clear hb1))
    go_ret
    exact ⟨_, rfl, by rw [HR.out]; exact World.ownsRow_nil _ _ _ _, hB1⟩
  | true =>
    have hn : (n != 0) = false := g2.trans (by rw [h]; rfl)
    have HR : Hid (q = r) := by show _ = _; rw [HE.out, h]; rfl
    have HI' := HI h
    clear HI HE h g1 g2
    go_enter Try.func49, Try.ntmps49
    go_wp2_with (first | (refine wpList_load_guard (P := Try.prog) (by rfl) 29 (.tmp 3) rfl w.heap.size 0 rfl C.toList _ (HLOAD.out _ _ hK1) Try.underlying29 rfl (by rw [HC28.out]; exact info29) ?_) | (refine wpList_load_guard (P := Try.prog) (by rfl) 29 (.tmp 3) rfl w.heap.size 0 rfl C.toList _ (HLOAD.out _ _ (by exact (by repeat (first | with_reducible assumption | with_reducible exact Bk.new _ _ _ | with_reducible refine Bk.drew ?_ | with_reducible refine Bk.drewN ?_ _ | with_reducible refine Bk.alloc ?_ _ | (with_reducible refine Bk.far ?_ ?_ _; rotate_left; (try simp) <;> omega))))) Try.underlying29 rfl (by rw [HC28.out]; exact info29) ?_) | (go_at_call 16; refine (HCK.out _ (by exact (by repeat (first | with_reducible exact Below.refl _ _ | with_reducible assumption | with_reducible refine Below.drew ?_ | with_reducible refine below_drewN ?_ _ | (with_reducible refine Below.alloc ?_ ?_ _; rotate_left; (try simp) <;> omega) | (with_reducible refine Below.setCell ?_ ?_ _; rotate_left; (try simp) <;> omega))))).mono ?_; rintro e w1 ⟨rfl, hb1⟩; have hB1 : Below w.heap.size w w1 := Below.trans (by exact (by repeat (first | with_reducible exact Below.refl _ _ | with_reducible assumption | with_reducible refine Below.drew ?_ | with_reducible refine below_drewN ?_ _ | (with_reducible refine Below.alloc ?_ ?_ _; rotate_left; (try simp) <;> omega) | (with_reducible refine Below.setCell ?_ ?_ _; rotate_left; (try simp) <;> omega)))) (hb1.mono (by first | omega | (simp; omega) | simp)); have hK1 : Bk w1 w.heap.size 29 C := Bk.below (by exact (by repeat (first | with_reducible assumption | with_reducible exact Bk.new _ _ _ | with_reducible refine Bk.drew ?_ | with_reducible refine Bk.drewN ?_ _ | with_reducible refine Bk.alloc ?_ _ | (with_reducible refine Bk.far ?_ ?_ _; rotate_left; (try simp) <;> omega)))) hb1 (by first | omega | (simp; omega) | simp); have hz1 := hb1.size; (try simp at hz1); clear hb1) | (go_at_call 98; refine (HI'.out _ hB1).mono ?_; rintro e w2 ⟨v2, rfl, ho2, hb2⟩; have hB2 : Below w.heap.size w w2 := Below.trans hB1 (hb2.mono hB1.size)))
    go_ret
    exact ⟨_, rfl, by rw [← HR.out]; exact ownsRow_base ho2 hB1.size, hB2⟩

set_option maxHeartbeats 400000 in
theorem Batches_any (C : Array Value) (Y : Yd) (d : Int) (w : World) (hY : YardAt w w.heap.size C Y) (hs : Small Y) : Calls Try.prog 57 #[.agg C, .int .i64 d] w (IntEnd (batO Y d) w) := by
  have HCK := Lib.hid (fun W (hb : Below w.heap.size w W) => checkYard_any C Y W ((hY.below hb (Nat.le_refl _)).more hb.size) hs.cl hs.pi hs.ma hs.nm)
  have HLOAD := load_any hY
  have HC28 := Lib.hid hY.len
  have HE : Hid (batO Y d = if (okY Y && inB d 0 100000) = true then batOf Y.pi d else 0) := rfl
  have HN := Lib.hid (chk_of Y)
  have HI : okY Y = true → Hid (∀ W, Below w.heap.size w W → Calls Try.prog 108 #[.agg C, .int .i64 d] W (IntEnd (batOf Y.pi d) W)) := fun h W hb => batches_any C Y d W ((hY.below hb (Nat.le_refl _)).more hb.size) (okY_valid h)
  clear hY hs
  generalize chkY Y = n at *
  generalize batOf Y.pi d = q at *
  generalize batO Y d = r at *
  obtain ⟨g1, g2⟩ := HN.out
  cases h : okY Y with
  | false =>
    have hn : (n != 0) = true := g2.trans (by rw [h]; rfl)
    have HR : Hid (r = 0) := by show _ = _; rw [HE.out, h]; rfl
    clear HI HE h g1 g2
    go_enter Try.func57, Try.ntmps57
    go_wp2_with (first | (refine wpList_load_guard (P := Try.prog) (by rfl) 29 (.tmp 2) rfl w.heap.size 0 rfl C.toList _ (HLOAD.out _ _ (by exact (by repeat (first | with_reducible assumption | with_reducible exact Bk.new _ _ _ | with_reducible refine Bk.drew ?_ | with_reducible refine Bk.drewN ?_ _ | with_reducible refine Bk.alloc ?_ _ | (with_reducible refine Bk.far ?_ ?_ _; rotate_left; (try simp) <;> omega))))) Try.underlying29 rfl (by rw [HC28.out]; exact info29) ?_) | (go_at_call 16; refine (HCK.out _ (by exact (by repeat (first | with_reducible exact Below.refl _ _ | with_reducible assumption | with_reducible refine Below.drew ?_ | with_reducible refine below_drewN ?_ _ | (with_reducible refine Below.alloc ?_ ?_ _; rotate_left; (try simp) <;> omega) | (with_reducible refine Below.setCell ?_ ?_ _; rotate_left; (try simp) <;> omega))))).mono ?_; rintro e w1 ⟨rfl, hb1⟩; have hB1 : Below w.heap.size w w1 := Below.trans (by exact (by repeat (first | with_reducible exact Below.refl _ _ | with_reducible assumption | with_reducible refine Below.drew ?_ | with_reducible refine below_drewN ?_ _ | (with_reducible refine Below.alloc ?_ ?_ _; rotate_left; (try simp) <;> omega) | (with_reducible refine Below.setCell ?_ ?_ _; rotate_left; (try simp) <;> omega)))) (hb1.mono (by first | omega | (simp; omega) | simp)); have hK1 : Bk w1 w.heap.size 29 C := Bk.below (by exact (by repeat (first | with_reducible assumption | with_reducible exact Bk.new _ _ _ | with_reducible refine Bk.drew ?_ | with_reducible refine Bk.drewN ?_ _ | with_reducible refine Bk.alloc ?_ _ | (with_reducible refine Bk.far ?_ ?_ _; rotate_left; (try simp) <;> omega)))) hb1 (by first | omega | (simp; omega) | simp); have hz1 := hb1.size; (try simp at hz1); clear hb1))
    go_ret
    exact int_end HR.out.symm hB1
  | true =>
    have hn : (n != 0) = false := g2.trans (by rw [h]; rfl)
    have HI' := HI h
    cases hd : inB d 0 100000 with
    | false =>
      have HR : Hid (r = 0) := by show _ = _; rw [HE.out, h, hd]; rfl
      have HD := Lib.hid hd
      clear HI HE h g1 g2 hd HI'
      go_enter Try.func57, Try.ntmps57
      go_wp2_with (first | (refine wpList_load_guard (P := Try.prog) (by rfl) 29 (.tmp 2) rfl w.heap.size 0 rfl C.toList _ (HLOAD.out _ _ (by exact (by repeat (first | with_reducible assumption | with_reducible exact Bk.new _ _ _ | with_reducible refine Bk.drew ?_ | with_reducible refine Bk.drewN ?_ _ | with_reducible refine Bk.alloc ?_ _ | (with_reducible refine Bk.far ?_ ?_ _; rotate_left; (try simp) <;> omega))))) Try.underlying29 rfl (by rw [HC28.out]; exact info29) ?_) | (go_at_call 16; refine (HCK.out _ (by exact (by repeat (first | with_reducible exact Below.refl _ _ | with_reducible assumption | with_reducible refine Below.drew ?_ | with_reducible refine below_drewN ?_ _ | (with_reducible refine Below.alloc ?_ ?_ _; rotate_left; (try simp) <;> omega) | (with_reducible refine Below.setCell ?_ ?_ _; rotate_left; (try simp) <;> omega))))).mono ?_; rintro e w1 ⟨rfl, hb1⟩; have hB1 : Below w.heap.size w w1 := Below.trans (by exact (by repeat (first | with_reducible exact Below.refl _ _ | with_reducible assumption | with_reducible refine Below.drew ?_ | with_reducible refine below_drewN ?_ _ | (with_reducible refine Below.alloc ?_ ?_ _; rotate_left; (try simp) <;> omega) | (with_reducible refine Below.setCell ?_ ?_ _; rotate_left; (try simp) <;> omega)))) (hb1.mono (by first | omega | (simp; omega) | simp)); have hK1 : Bk w1 w.heap.size 29 C := Bk.below (by exact (by repeat (first | with_reducible assumption | with_reducible exact Bk.new _ _ _ | with_reducible refine Bk.drew ?_ | with_reducible refine Bk.drewN ?_ _ | with_reducible refine Bk.alloc ?_ _ | (with_reducible refine Bk.far ?_ ?_ _; rotate_left; (try simp) <;> omega)))) hb1 (by first | omega | (simp; omega) | simp); have hz1 := hb1.size; (try simp at hz1); clear hb1) | (go_at_call 66; refine (in_any _ _ _ _).mono ?_; rintro e w' ⟨rfl, rfl⟩; rw [HD.out]))
      go_ret
      exact int_end HR.out.symm hB1
    | true =>
      have HR : Hid (q = r) := by show _ = _; rw [HE.out, h, hd]; rfl
      have HD := Lib.hid hd
      clear HI HE h g1 g2 hd
      go_enter Try.func57, Try.ntmps57
      go_wp2_with (first | (refine wpList_load_guard (P := Try.prog) (by rfl) 29 (.tmp 2) rfl w.heap.size 0 rfl C.toList _ (HLOAD.out _ _ hK1) Try.underlying29 rfl (by rw [HC28.out]; exact info29) ?_) | (refine wpList_load_guard (P := Try.prog) (by rfl) 29 (.tmp 2) rfl w.heap.size 0 rfl C.toList _ (HLOAD.out _ _ (by exact (by repeat (first | with_reducible assumption | with_reducible exact Bk.new _ _ _ | with_reducible refine Bk.drew ?_ | with_reducible refine Bk.drewN ?_ _ | with_reducible refine Bk.alloc ?_ _ | (with_reducible refine Bk.far ?_ ?_ _; rotate_left; (try simp) <;> omega))))) Try.underlying29 rfl (by rw [HC28.out]; exact info29) ?_) | (go_at_call 16; refine (HCK.out _ (by exact (by repeat (first | with_reducible exact Below.refl _ _ | with_reducible assumption | with_reducible refine Below.drew ?_ | with_reducible refine below_drewN ?_ _ | (with_reducible refine Below.alloc ?_ ?_ _; rotate_left; (try simp) <;> omega) | (with_reducible refine Below.setCell ?_ ?_ _; rotate_left; (try simp) <;> omega))))).mono ?_; rintro e w1 ⟨rfl, hb1⟩; have hB1 : Below w.heap.size w w1 := Below.trans (by exact (by repeat (first | with_reducible exact Below.refl _ _ | with_reducible assumption | with_reducible refine Below.drew ?_ | with_reducible refine below_drewN ?_ _ | (with_reducible refine Below.alloc ?_ ?_ _; rotate_left; (try simp) <;> omega) | (with_reducible refine Below.setCell ?_ ?_ _; rotate_left; (try simp) <;> omega)))) (hb1.mono (by first | omega | (simp; omega) | simp)); have hK1 : Bk w1 w.heap.size 29 C := Bk.below (by exact (by repeat (first | with_reducible assumption | with_reducible exact Bk.new _ _ _ | with_reducible refine Bk.drew ?_ | with_reducible refine Bk.drewN ?_ _ | with_reducible refine Bk.alloc ?_ _ | (with_reducible refine Bk.far ?_ ?_ _; rotate_left; (try simp) <;> omega)))) hb1 (by first | omega | (simp; omega) | simp); have hz1 := hb1.size; (try simp at hz1); clear hb1) | (go_at_call 66; refine (in_any _ _ _ _).mono ?_; rintro e w' ⟨rfl, rfl⟩; rw [HD.out]) | (go_at_call 108; refine (HI'.out _ hB1).mono ?_; rintro e w2 ⟨rfl, hb2⟩; have hB2 : Below w.heap.size w w2 := Below.trans hB1 (hb2.mono hB1.size)))
      go_ret
      exact int_end HR.out hB2

set_option maxHeartbeats 400000 in
theorem SeasonOf_any (C : Array Value) (Y : Yd) (d : Int) (w : World) (hY : YardAt w w.heap.size C Y) (hs : Small Y) : Calls Try.prog 51 #[.agg C, .int .i64 d] w (PairEnd (seaA Y d) (seaB' Y d) w) := by
  have HCK := Lib.hid (fun W (hb : Below w.heap.size w W) => checkYard_any C Y W ((hY.below hb (Nat.le_refl _)).more hb.size) hs.cl hs.pi hs.ma hs.nm)
  have HLOAD := load_any hY
  have HC28 := Lib.hid hY.len
  have HE : Hid (seaA Y d = if (okY Y && inB d 0 100000) = true then Y.se (2 * seaI d) else 0) := rfl
  have HF : Hid (seaB' Y d = if (okY Y && inB d 0 100000) = true then Y.se (2 * seaI d + 1) else 0) := rfl
  have HN := Lib.hid (chk_of Y)
  have HI : 0 ≤ d → d ≤ 100000 → Hid (∀ W, Below w.heap.size w W → Calls Try.prog 105 #[.agg C, .int .i64 d] W (PairEnd (Y.se (2 * seaI d)) (Y.se (2 * seaI d + 1)) W)) := fun h0 h1 W hb => season_any C Y d W ((hY.below hb (Nat.le_refl _)).more hb.size) h0 h1
  clear hY hs
  generalize chkY Y = n at *
  generalize Y.se (2 * seaI d) = s1 at *
  generalize Y.se (2 * seaI d + 1) = s2 at *
  generalize seaA Y d = r1 at *
  generalize seaB' Y d = r2 at *
  obtain ⟨g1, g2⟩ := HN.out
  cases h : okY Y with
  | false =>
    have hn : (n != 0) = true := g2.trans (by rw [h]; rfl)
    have HR1 : Hid (r1 = 0) := by show _ = _; rw [HE.out, h]; rfl
    have HR2 : Hid (r2 = 0) := by show _ = _; rw [HF.out, h]; rfl
    clear HI HE HF h g1 g2
    go_enter Try.func51, Try.ntmps51
    go_wp2_with (first | (refine wpList_load_guard (P := Try.prog) (by rfl) 29 (.tmp 2) rfl w.heap.size 0 rfl C.toList _ (HLOAD.out _ _ (by exact (by repeat (first | with_reducible assumption | with_reducible exact Bk.new _ _ _ | with_reducible refine Bk.drew ?_ | with_reducible refine Bk.drewN ?_ _ | with_reducible refine Bk.alloc ?_ _ | (with_reducible refine Bk.far ?_ ?_ _; rotate_left; (try simp) <;> omega))))) Try.underlying29 rfl (by rw [HC28.out]; exact info29) ?_) | (go_at_call 16; refine (HCK.out _ (by exact (by repeat (first | with_reducible exact Below.refl _ _ | with_reducible assumption | with_reducible refine Below.drew ?_ | with_reducible refine below_drewN ?_ _ | (with_reducible refine Below.alloc ?_ ?_ _; rotate_left; (try simp) <;> omega) | (with_reducible refine Below.setCell ?_ ?_ _; rotate_left; (try simp) <;> omega))))).mono ?_; rintro e w1 ⟨rfl, hb1⟩; have hB1 : Below w.heap.size w w1 := Below.trans (by exact (by repeat (first | with_reducible exact Below.refl _ _ | with_reducible assumption | with_reducible refine Below.drew ?_ | with_reducible refine below_drewN ?_ _ | (with_reducible refine Below.alloc ?_ ?_ _; rotate_left; (try simp) <;> omega) | (with_reducible refine Below.setCell ?_ ?_ _; rotate_left; (try simp) <;> omega)))) (hb1.mono (by first | omega | (simp; omega) | simp)); have hK1 : Bk w1 w.heap.size 29 C := Bk.below (by exact (by repeat (first | with_reducible assumption | with_reducible exact Bk.new _ _ _ | with_reducible refine Bk.drew ?_ | with_reducible refine Bk.drewN ?_ _ | with_reducible refine Bk.alloc ?_ _ | (with_reducible refine Bk.far ?_ ?_ _; rotate_left; (try simp) <;> omega)))) hb1 (by first | omega | (simp; omega) | simp); have hJ1 : Bk w1 (w.heap.size + 1) 23 #[.int .i64 0, .int .i64 0] := Bk.below (by simpa using Bk.new (w.alloc (.cells C 29)) 23 #[.int .i64 0, .int .i64 0]) hb1 (by first | omega | (simp; omega) | simp); have hz1 := hb1.size; (try simp at hz1); have j0 := hJ1.cell 0 rfl; have j1 := hJ1.cell 1 rfl; have f0 := hJ1.fro 0; have f1 := hJ1.fro 1; clear hb1))
    exact bodyPost_ret (v := .agg #[.int .i64 0, .int .i64 0]) (by simp [results, Try.results51, go_sem, j0, j1]) rfl ⟨by rw [HR1.out, HR2.out], by exact (by repeat (first | with_reducible exact Below.refl _ _ | with_reducible assumption | with_reducible refine Below.drew ?_ | with_reducible refine below_drewN ?_ _ | (with_reducible refine Below.alloc ?_ ?_ _; rotate_left; (try simp) <;> omega) | (with_reducible refine Below.setCell ?_ ?_ _; rotate_left; (try simp) <;> omega)))⟩
  | true =>
    have hn : (n != 0) = false := g2.trans (by rw [h]; rfl)
    cases hd : inB d 0 100000 with
    | false =>
      have HR1 : Hid (r1 = 0) := by show _ = _; rw [HE.out, h, hd]; rfl
      have HR2 : Hid (r2 = 0) := by show _ = _; rw [HF.out, h, hd]; rfl
      have HD := Lib.hid hd
      clear HI HE HF h g1 g2 hd
      go_enter Try.func51, Try.ntmps51
      go_wp2_with (first | (refine wpList_load_guard (P := Try.prog) (by rfl) 29 (.tmp 2) rfl w.heap.size 0 rfl C.toList _ (HLOAD.out _ _ (by exact (by repeat (first | with_reducible assumption | with_reducible exact Bk.new _ _ _ | with_reducible refine Bk.drew ?_ | with_reducible refine Bk.drewN ?_ _ | with_reducible refine Bk.alloc ?_ _ | (with_reducible refine Bk.far ?_ ?_ _; rotate_left; (try simp) <;> omega))))) Try.underlying29 rfl (by rw [HC28.out]; exact info29) ?_) | (go_at_call 16; refine (HCK.out _ (by exact (by repeat (first | with_reducible exact Below.refl _ _ | with_reducible assumption | with_reducible refine Below.drew ?_ | with_reducible refine below_drewN ?_ _ | (with_reducible refine Below.alloc ?_ ?_ _; rotate_left; (try simp) <;> omega) | (with_reducible refine Below.setCell ?_ ?_ _; rotate_left; (try simp) <;> omega))))).mono ?_; rintro e w1 ⟨rfl, hb1⟩; have hB1 : Below w.heap.size w w1 := Below.trans (by exact (by repeat (first | with_reducible exact Below.refl _ _ | with_reducible assumption | with_reducible refine Below.drew ?_ | with_reducible refine below_drewN ?_ _ | (with_reducible refine Below.alloc ?_ ?_ _; rotate_left; (try simp) <;> omega) | (with_reducible refine Below.setCell ?_ ?_ _; rotate_left; (try simp) <;> omega)))) (hb1.mono (by first | omega | (simp; omega) | simp)); have hK1 : Bk w1 w.heap.size 29 C := Bk.below (by exact (by repeat (first | with_reducible assumption | with_reducible exact Bk.new _ _ _ | with_reducible refine Bk.drew ?_ | with_reducible refine Bk.drewN ?_ _ | with_reducible refine Bk.alloc ?_ _ | (with_reducible refine Bk.far ?_ ?_ _; rotate_left; (try simp) <;> omega)))) hb1 (by first | omega | (simp; omega) | simp); have hJ1 : Bk w1 (w.heap.size + 1) 23 #[.int .i64 0, .int .i64 0] := Bk.below (by simpa using Bk.new (w.alloc (.cells C 29)) 23 #[.int .i64 0, .int .i64 0]) hb1 (by first | omega | (simp; omega) | simp); have hz1 := hb1.size; (try simp at hz1); have j0 := hJ1.cell 0 rfl; have j1 := hJ1.cell 1 rfl; have f0 := hJ1.fro 0; have f1 := hJ1.fro 1; clear hb1) | (go_at_call 66; refine (in_any _ _ _ _).mono ?_; rintro e w' ⟨rfl, rfl⟩; rw [HD.out]))
      exact bodyPost_ret (v := .agg #[.int .i64 0, .int .i64 0]) (by simp [results, Try.results51, go_sem, j0, j1]) rfl ⟨by rw [HR1.out, HR2.out], by exact (by repeat (first | with_reducible exact Below.refl _ _ | with_reducible assumption | with_reducible refine Below.drew ?_ | with_reducible refine below_drewN ?_ _ | (with_reducible refine Below.alloc ?_ ?_ _; rotate_left; (try simp) <;> omega) | (with_reducible refine Below.setCell ?_ ?_ _; rotate_left; (try simp) <;> omega)))⟩
    | true =>
      have HR1 : Hid (s1 = r1) := by show _ = _; rw [HE.out, h, hd]; rfl
      have HR2 : Hid (s2 = r2) := by show _ = _; rw [HF.out, h, hd]; rfl
      have HI' := HI (inB_iff.1 hd).1 (inB_iff.1 hd).2
      have HD := Lib.hid hd
      clear HI HE HF h g1 g2 hd
      go_enter Try.func51, Try.ntmps51
      go_wp2_with (first | (refine wpList_load_guard (P := Try.prog) (by rfl) 29 (.tmp 2) rfl w.heap.size 0 rfl C.toList _ (HLOAD.out _ _ hK1) Try.underlying29 rfl (by rw [HC28.out]; exact info29) ?_) | (refine wpList_load_guard (P := Try.prog) (by rfl) 29 (.tmp 2) rfl w.heap.size 0 rfl C.toList _ (HLOAD.out _ _ (by exact (by repeat (first | with_reducible assumption | with_reducible exact Bk.new _ _ _ | with_reducible refine Bk.drew ?_ | with_reducible refine Bk.drewN ?_ _ | with_reducible refine Bk.alloc ?_ _ | (with_reducible refine Bk.far ?_ ?_ _; rotate_left; (try simp) <;> omega))))) Try.underlying29 rfl (by rw [HC28.out]; exact info29) ?_) | (go_at_call 16; refine (HCK.out _ (by exact (by repeat (first | with_reducible exact Below.refl _ _ | with_reducible assumption | with_reducible refine Below.drew ?_ | with_reducible refine below_drewN ?_ _ | (with_reducible refine Below.alloc ?_ ?_ _; rotate_left; (try simp) <;> omega) | (with_reducible refine Below.setCell ?_ ?_ _; rotate_left; (try simp) <;> omega))))).mono ?_; rintro e w1 ⟨rfl, hb1⟩; have hB1 : Below w.heap.size w w1 := Below.trans (by exact (by repeat (first | with_reducible exact Below.refl _ _ | with_reducible assumption | with_reducible refine Below.drew ?_ | with_reducible refine below_drewN ?_ _ | (with_reducible refine Below.alloc ?_ ?_ _; rotate_left; (try simp) <;> omega) | (with_reducible refine Below.setCell ?_ ?_ _; rotate_left; (try simp) <;> omega)))) (hb1.mono (by first | omega | (simp; omega) | simp)); have hK1 : Bk w1 w.heap.size 29 C := Bk.below (by exact (by repeat (first | with_reducible assumption | with_reducible exact Bk.new _ _ _ | with_reducible refine Bk.drew ?_ | with_reducible refine Bk.drewN ?_ _ | with_reducible refine Bk.alloc ?_ _ | (with_reducible refine Bk.far ?_ ?_ _; rotate_left; (try simp) <;> omega)))) hb1 (by first | omega | (simp; omega) | simp); have hJ1 : Bk w1 (w.heap.size + 1) 23 #[.int .i64 0, .int .i64 0] := Bk.below (by simpa using Bk.new (w.alloc (.cells C 29)) 23 #[.int .i64 0, .int .i64 0]) hb1 (by first | omega | (simp; omega) | simp); have hz1 := hb1.size; (try simp at hz1); have j0 := hJ1.cell 0 rfl; have j1 := hJ1.cell 1 rfl; have f0 := hJ1.fro 0; have f1 := hJ1.fro 1; clear hb1) | (go_at_call 66; refine (in_any _ _ _ _).mono ?_; rintro e w' ⟨rfl, rfl⟩; rw [HD.out]) | (go_at_call 105; refine (HI'.out _ hB1).mono ?_; rintro e w2 ⟨rfl, hb2⟩; have hB2 : Below w.heap.size w w2 := Below.trans hB1 (hb2.mono hB1.size); have hJ2 := hJ1.below hb2 hJ1.lt; have m0 := hJ2.cell 0 rfl; have m1 := hJ2.cell 1 rfl; have q0 := hJ2.fro 0; have q1 := hJ2.fro 1; have hz2 := hb2.size))
      exact bodyPost_ret (v := .agg #[.int .i64 s1, .int .i64 s2]) (by simp [results, Try.results51, go_sem, m0, m1, q0, q1]) rfl ⟨by rw [HR1.out, HR2.out], by exact (by repeat (first | with_reducible exact Below.refl _ _ | with_reducible assumption | with_reducible refine Below.drew ?_ | with_reducible refine below_drewN ?_ _ | (with_reducible refine Below.alloc ?_ ?_ _; rotate_left; (try simp) <;> omega) | (with_reducible refine Below.setCell ?_ ?_ _; rotate_left; (try simp) <;> omega)))⟩

end Go.Proofs.Ytjgnikmnadmheaa