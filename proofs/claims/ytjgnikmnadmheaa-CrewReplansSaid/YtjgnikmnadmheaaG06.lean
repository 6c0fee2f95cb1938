/- SeasonOf, Open, Minutes, Batches, Skilled of the crew, for all yards. Printed by wip/gen_s5.py. -/
import Derived.Deep.QuietTactic
import Derived.BigQuiet
import Derived.Test.YtjgnikmnadmheaaG01
import Derived.Test.YtjgnikmnadmheaaG02
import Derived.Test.YtjgnikmnadmheaaG04
import Derived.Test.YtjgnikmnadmheaaG05

namespace Go.Proofs.Ytjgnikmnadmheaa
open Go.RowKit

structure Small (Y : Yd) : Prop where
  cl : Y.cl.length ≤ 1000
  pi : Y.pi.length ≤ 1000
  ma : Y.ma.length ≤ 1000
  nm : ∀ m ∈ Y.ma, m.name.size ≤ 100
/-- the yard is right -/
def okY (Y : Yd) : Bool := chkY Y == 0
theorem okY_valid {Y : Yd} (h : okY Y = true) : Valid Y := valid_of (by unfold okY at h; exact eq_of_beq h)
/-- the error of a yard, of which only its being OK is known -/
structure Chk (Y : Yd) (n : Int) : Prop where
  iff : (n == 0) = okY Y
  nff : (n != 0) = !okY Y
theorem chk_of (Y : Yd) : Chk Y (chkY Y) := ⟨rfl, rfl⟩
def dayR (Y : Yd) (d : Int) : Bool := okY Y && inB d 0 100000
def seaA (Y : Yd) (d : Int) : Int := if dayR Y d = true then Y.se (2 * seaI d) else 0
def seaB' (Y : Yd) (d : Int) : Int := if dayR Y d = true then Y.se (2 * seaI d + 1) else 0
def opnB (Y : Yd) (d : Int) : Bool := okY Y && openB Y d
def minO (Y : Yd) (d : Int) : Int := if okY Y = true then minOf Y d else 0
def batO (Y : Yd) (d : Int) : Int := if dayR Y d = true then batOf Y.pi d else 0
def skO (Y : Yd) (d need : Int) : List Int := if okY Y = true then skL Y.ma d need else []
theorem ownsRow_base {w : World} {b b' : Nat} {e : TypeId} {size n : Nat} {v : Value} {xs : List Value} (h : w.ownsRow b e size v n xs) (hb : b' ≤ b) : w.ownsRow b' e size v n xs := by
  refine ⟨h.1, ?_⟩
  rcases h.2 with h2 | ⟨g, cap, cur, h1, h2, h3⟩
  · exact .inl h2
  · exact .inr ⟨g, cap, cur, h1, Nat.le_trans hb h2, h3⟩
theorem load_any {C : Array Value} {W : World} {B : Nat} {Y : Yd} (hY : YardAt W B C Y) : Hid (∀ (W : World) (b : Nat), Bk W b 29 C → W.rangeAt b 0 C.toList) := fun W b hb => hb.range

set_option maxHeartbeats 400000 in
theorem Open_any (C : Array Value) (Y : Yd) (d : Int) (w : World) (hY : YardAt w w.heap.size C Y) (hs : Small Y) : Calls Try.prog 53 #[.agg C, .int .i64 d] w (ShEnd (opnB Y d) w) := by
  have HCK := Lib.hid (fun W (hb : Below w.heap.size w W) => checkYard_any C Y W ((hY.below hb (Nat.le_refl _)).more hb.size) hs.cl hs.pi hs.ma hs.nm)
  have HLOAD := load_any hY
  have HC28 := Lib.hid hY.len
  have HE : Hid (opnB Y d = (okY Y && openB Y d)) := rfl
  have HN := Lib.hid (chk_of Y)
  have HI : okY Y = true → Hid (∀ W, Below w.heap.size w W → Calls Try.prog 106 #[.agg C, .int .i64 d] W (ShEnd (openB Y d) W)) := fun h W hb => open_any C Y d W ((hY.below hb (Nat.le_refl _)).more hb.size) (okY_valid h)
  clear hY hs
  generalize chkY Y = n at *
  generalize openB Y d = q at *
  generalize opnB Y d = r at *
  obtain ⟨g1, g2⟩ := HN.out
  cases h : okY Y with
  | false =>
    have hn : (n == 0) = false := g1.trans h
    have HR : Hid (r = false) := by show _ = _; rw [HE.out, h]; rfl
    clear HI HE h g1 g2
    go_enter Try.func53, Try.ntmps53
    go_wp2_with (first | (refine wpList_load_guard (P := Try.prog) (by rfl) 29 (.tmp 2) rfl w.heap.size 0 rfl C.toList _ (HLOAD.out _ _ (by exact bkw)) Try.underlying29 rfl (by rw [HC28.out]; exact info29) ?_) | (go_at_call 16; refine (HCK.out _ (by exact bw)).mono ?_; rintro e w1 ⟨rfl, hb1⟩; have hB1 : Below w.heap.size w w1 := Below.trans (by exact bw) (hb1.mono (by first | omega | (simp; omega) | simp)); have hK1 : Bk w1 w.heap.size 29 C := Bk.below (by exact bkw) hb1 (by first | omega | (simp; omega) | simp); have hz1 := hb1.size; (try simp at hz1); clear hb1))
    go_ret
    exact sh_ret HR.out.symm hB1
  | true =>
    have hn : (n == 0) = true := g1.trans h
    have HR : Hid (q = r) := by show _ = _; rw [HE.out, h]; rfl
    have HI' := HI h
    clear HI HE h g1 g2
    go_enter Try.func53, Try.ntmps53
    go_wp2_with (first | (refine wpList_load_guard (P := Try.prog) (by rfl) 29 (.tmp 2) rfl w.heap.size 0 rfl C.toList _ (HLOAD.out _ _ hK1) Try.underlying29 rfl (by rw [HC28.out]; exact info29) ?_) | (refine wpList_load_guard (P := Try.prog) (by rfl) 29 (.tmp 2) rfl w.heap.size 0 rfl C.toList _ (HLOAD.out _ _ (by exact bkw)) Try.underlying29 rfl (by rw [HC28.out]; exact info29) ?_) | (go_at_call 16; refine (HCK.out _ (by exact bw)).mono ?_; rintro e w1 ⟨rfl, hb1⟩; have hB1 : Below w.heap.size w w1 := Below.trans (by exact bw) (hb1.mono (by first | omega | (simp; omega) | simp)); have hK1 : Bk w1 w.heap.size 29 C := Bk.below (by exact bkw) hb1 (by first | omega | (simp; omega) | simp); have hz1 := hb1.size; (try simp at hz1); clear hb1) | (go_at_call 106; refine (HI'.out _ hB1).mono ?_; rintro e w2 ⟨rfl, hb2⟩; have hB2 : Below w.heap.size w w2 := Below.trans hB1 (hb2.mono hB1.size)))
    go_ret
    exact sh_ret HR.out hB2

set_option maxHeartbeats 400000 in
theorem Minutes_any (C : Array Value) (Y : Yd) (d : Int) (w : World) (hY : YardAt w w.heap.size C Y) (hs : Small Y) : Calls Try.prog 55 #[.agg C, .int .i64 d] w (IntEnd (minO Y d) w) := by
  have HCK := Lib.hid (fun W (hb : Below w.heap.size w W) => checkYard_any C Y W ((hY.below hb (Nat.le_refl _)).more hb.size) hs.cl hs.pi hs.ma hs.nm)
  have HLOAD := load_any hY
  have HC28 := Lib.hid hY.len
  have HE : Hid (minO Y d = if okY Y = true then minOf Y d else 0) := rfl
  have HN := Lib.hid (chk_of Y)
  have HI : okY Y = true → Hid (∀ W, Below w.heap.size w W → Calls Try.prog 107 #[.agg C, .int .i64 d] W (IntEnd (minOf Y d) W)) := fun h W hb => minutes_any C Y d W ((hY.below hb (Nat.le_refl _)).more hb.size) (okY_valid h)
  clear hY hs
  generalize chkY Y = n at *
  generalize minOf Y d = q at *
  generalize minO Y d = r at *
  obtain ⟨g1, g2⟩ := HN.out
  cases h : okY Y with
  | false =>
    have hn : (n != 0) = true := g2.trans (by rw [h]; rfl)
    have HR : Hid (r = 0) := by show _ = _; rw [HE.out, h]; rfl
    clear HI HE h g1 g2
    go_enter Try.func55, Try.ntmps55
    go_wp2_with (first | (refine wpList_load_guard (P := Try.prog) (by rfl) 29 (.tmp 2) rfl w.heap.size 0 rfl C.toList _ (HLOAD.out _ _ (by exact bkw)) Try.underlying29 rfl (by rw [HC28.out]; exact info29) ?_) | (go_at_call 16; refine (HCK.out _ (by exact bw)).mono ?_; rintro e w1 ⟨rfl, hb1⟩; have hB1 : Below w.heap.size w w1 := Below.trans (by exact bw) (hb1.mono (by first | omega | (simp; omega) | simp)); have hK1 : Bk w1 w.heap.size 29 C := Bk.below (by exact bkw) hb1 (by first | omega | (simp; omega) | simp); have hz1 := hb1.size; (try simp at hz1); clear hb1))
    go_ret
    exact int_end HR.out.symm hB1
  | true =>
    have hn : (n != 0) = false := g2.trans (by rw [h]; rfl)
    have HR : Hid (q = r) := by show _ = _; rw [HE.out, h]; rfl
    have HI' := HI h
    clear HI HE h g1 g2
    go_enter Try.func55, Try.ntmps55
    go_wp2_with (first | (refine wpList_load_guard (P := Try.prog) (by rfl) 29 (.tmp 2) rfl w.heap.size 0 rfl C.toList _ (HLOAD.out _ _ hK1) Try.underlying29 rfl (by rw [HC28.out]; exact info29) ?_) | (refine wpList_load_guard (P := Try.prog) (by rfl) 29 (.tmp 2) rfl w.heap.size 0 rfl C.toList _ (HLOAD.out _ _ (by exact bkw)) Try.underlying29 rfl (by rw [HC28.out]; exact info29) ?_) | (go_at_call 16; refine (HCK.out _ (by exact bw)).mono ?_; rintro e w1 ⟨rfl, hb1⟩; have hB1 : Below w.heap.size w w1 := Below.trans (by exact bw) (hb1.mono (by first | omega | (simp; omega) | simp)); have hK1 : Bk w1 w.heap.size 29 C := Bk.below (by exact bkw) hb1 (by first | omega | (simp; omega) | simp); have hz1 := hb1.size; (try simp at hz1); clear hb1) | (go_at_call 107; refine (HI'.out _ hB1).mono ?_; rintro e w2 ⟨rfl, hb2⟩; have hB2 : Below w.heap.size w w2 := Below.trans hB1 (hb2.mono hB1.size)))
    go_ret
    exact int_end HR.out hB2

set_option maxHeartbeats 400000 in
theorem Skilled_any (C : Array Value) (Y : Yd) (d need : Int) (w : World) (hY : YardAt w w.heap.size C Y) (hs : Small Y) : Calls Try.prog 49 #[.agg C, .int .i64 d, .int .i64 need] w (IntsEnd (skO Y d need) w) := by
  have HCK := Lib.hid (fun W (hb : Below w.heap.size w W) => checkYard_any C Y W ((hY.below hb (Nat.le_refl _)).more hb.size) hs.cl hs.pi hs.ma hs.nm)
  have HLOAD := load_any hY
  have HC28 := Lib.hid hY.len
  have HE : Hid (skO Y d need = if okY Y = true then skL Y.ma d need else []) := rfl
  have HN := Lib.hid (chk_of Y)
  have HI : okY Y = true → Hid (∀ W, Below w.heap.size w W → Calls Try.prog 98 #[.agg C, .int .i64 d, .int .i64 need] W (IntsEnd (skL Y.ma d need) W)) := fun h W hb => skilled_any C Y d need W ((hY.below hb (Nat.le_refl _)).more hb.size) (okY_valid h)
  clear hY hs
  generalize chkY Y = n at *
  generalize skL Y.ma d need = q at *
  generalize skO Y d need = r at *
  obtain ⟨g1, g2⟩ := HN.out
  cases h : okY Y with
  | false =>
    have hn : (n != 0) = true := g2.trans (by rw [h]; rfl)
    have HR : Hid (r = []) := by show _ = _; rw [HE.out, h]; rfl
    clear HI HE h g1 g2
    go_enter Try.func49, Try.ntmps49
    go_wp2_with (first | (refine wpList_load_guard (P := Try.prog) (by rfl) 29 (.tmp 3) rfl w.heap.size 0 rfl C.toList _ (HLOAD.out _ _ (by exact bkw)) Try.underlying29 rfl (by rw [HC28.out]; exact info29) ?_) | (go_at_call 16; refine (HCK.out _ (by exact bw)).mono ?_; rintro e w1 ⟨rfl, hb1⟩; have hB1 : Below w.heap.size w w1 := Below.trans (by exact bw) (hb1.mono (by first | omega | (simp; omega) | simp)); have hK1 : Bk w1 w.heap.size 29 C := Bk.below (by exact bkw) hb1 (by first | omega | (simp; omega) | simp); have hz1 := hb1.size; (try simp at hz1); clear hb1))
    go_ret
    exact ⟨_, rfl, by rw [HR.out]; exact World.ownsRow_nil _ _ _ _, hB1⟩
  | true =>
    have hn : (n != 0) = false := g2.trans (by rw [h]; rfl)
    have HR : Hid (q = r) := by show _ = _; rw [HE.out, h]; rfl
    have HI' := HI h
    clear HI HE h g1 g2
    go_enter Try.func49, Try.ntmps49
    go_wp2_with (first | (refine wpList_load_guard (P := Try.prog) (by rfl) 29 (.tmp 3) rfl w.heap.size 0 rfl C.toList _ (HLOAD.out _ _ hK1) Try.underlying29 rfl (by rw [HC28.out]; exact info29) ?_) | (refine wpList_load_guard (P := Try.prog) (by rfl) 29 (.tmp 3) rfl w.heap.size 0 rfl C.toList _ (HLOAD.out _ _ (by exact bkw)) Try.underlying29 rfl (by rw [HC28.out]; exact info29) ?_) | (go_at_call 16; refine (HCK.out _ (by exact bw)).mono ?_; rintro e w1 ⟨rfl, hb1⟩; have hB1 : Below w.heap.size w w1 := Below.trans (by exact bw) (hb1.mono (by first | omega | (simp; omega) | simp)); have hK1 : Bk w1 w.heap.size 29 C := Bk.below (by exact bkw) hb1 (by first | omega | (simp; omega) | simp); have hz1 := hb1.size; (try simp at hz1); clear hb1) | (go_at_call 98; refine (HI'.out _ hB1).mono ?_; rintro e w2 ⟨v2, rfl, ho2, hb2⟩; have hB2 : Below w.heap.size w w2 := Below.trans hB1 (hb2.mono hB1.size)))
    go_ret
    exact ⟨_, rfl, by rw [← HR.out]; exact ownsRow_base ho2 hB1.size, hB2⟩

set_option maxHeartbeats 400000 in
theorem Batches_any (C : Array Value) (Y : Yd) (d : Int) (w : World) (hY : YardAt w w.heap.size C Y) (hs : Small Y) : Calls Try.prog 57 #[.agg C, .int .i64 d] w (IntEnd (batO Y d) w) := by
  have HCK := Lib.hid (fun W (hb : Below w.heap.size w W) => checkYard_any C Y W ((hY.below hb (Nat.le_refl _)).more hb.size) hs.cl hs.pi hs.ma hs.nm)
  have HLOAD := load_any hY
  have HC28 := Lib.hid hY.len
  have HE : Hid (batO Y d = if (okY Y && inB d 0 100000) = true then batOf Y.pi d else 0) := rfl
  have HN := Lib.hid (chk_of Y)
  have HI : okY Y = true → Hid (∀ W, Below w.heap.size w W → Calls Try.prog 108 #[.agg C, .int .i64 d] W (IntEnd (batOf Y.pi d) W)) := fun h W hb => batches_any C Y d W ((hY.below hb (Nat.le_refl _)).more hb.size) (okY_valid h)
  clear hY hs
  generalize chkY Y = n at *
  generalize batOf Y.pi d = q at *
  generalize batO Y d = r at *
  obtain ⟨g1, g2⟩ := HN.out
  cases h : okY Y with
  | false =>
    have hn : (n != 0) = true := g2.trans (by rw [h]; rfl)
    have HR : Hid (r = 0) := by show _ = _; rw [HE.out, h]; rfl
    clear HI HE h g1 g2
    go_enter Try.func57, Try.ntmps57
    go_wp2_with (first | (refine wpList_load_guard (P := Try.prog) (by rfl) 29 (.tmp 2) rfl w.heap.size 0 rfl C.toList _ (HLOAD.out _ _ (by exact bkw)) Try.underlying29 rfl (by rw [HC28.out]; exact info29) ?_) | (go_at_call 16; refine (HCK.out _ (by exact bw)).mono ?_; rintro e w1 ⟨rfl, hb1⟩; have hB1 : Below w.heap.size w w1 := Below.trans (by exact bw) (hb1.mono (by first | omega | (simp; omega) | simp)); have hK1 : Bk w1 w.heap.size 29 C := Bk.below (by exact bkw) hb1 (by first | omega | (simp; omega) | simp); have hz1 := hb1.size; (try simp at hz1); clear hb1))
    go_ret
    exact int_end HR.out.symm hB1
  | true =>
    have hn : (n != 0) = false := g2.trans (by rw [h]; rfl)
    have HI' := HI h
    cases hd : inB d 0 100000 with
    | false =>
      have HR : Hid (r = 0) := by show _ = _; rw [HE.out, h, hd]; rfl
      have HD := Lib.hid hd
      clear HI HE h g1 g2 hd HI'
      go_enter Try.func57, Try.ntmps57
      go_wp2_with (first | (refine wpList_load_guard (P := Try.prog) (by rfl) 29 (.tmp 2) rfl w.heap.size 0 rfl C.toList _ (HLOAD.out _ _ (by exact bkw)) Try.underlying29 rfl (by rw [HC28.out]; exact info29) ?_) | (go_at_call 16; refine (HCK.out _ (by exact bw)).mono ?_; rintro e w1 ⟨rfl, hb1⟩; have hB1 : Below w.heap.size w w1 := Below.trans (by exact bw) (hb1.mono (by first | omega | (simp; omega) | simp)); have hK1 : Bk w1 w.heap.size 29 C := Bk.below (by exact bkw) hb1 (by first | omega | (simp; omega) | simp); have hz1 := hb1.size; (try simp at hz1); clear hb1) | (go_at_call 66; refine (in_any _ _ _ _).mono ?_; rintro e w' ⟨rfl, rfl⟩; rw [HD.out]))
      go_ret
      exact int_end HR.out.symm hB1
    | true =>
      have HR : Hid (q = r) := by show _ = _; rw [HE.out, h, hd]; rfl
      have HD := Lib.hid hd
      clear HI HE h g1 g2 hd
      go_enter Try.func57, Try.ntmps57
      go_wp2_with (first | (refine wpList_load_guard (P := Try.prog) (by rfl) 29 (.tmp 2) rfl w.heap.size 0 rfl C.toList _ (HLOAD.out _ _ hK1) Try.underlying29 rfl (by rw [HC28.out]; exact info29) ?_) | (refine wpList_load_guard (P := Try.prog) (by rfl) 29 (.tmp 2) rfl w.heap.size 0 rfl C.toList _ (HLOAD.out _ _ (by exact bkw)) Try.underlying29 rfl (by rw [HC28.out]; exact info29) ?_) | (go_at_call 16; refine (HCK.out _ (by exact bw)).mono ?_; rintro e w1 ⟨rfl, hb1⟩; have hB1 : Below w.heap.size w w1 := Below.trans (by exact bw) (hb1.mono (by first | omega | (simp; omega) | simp)); have hK1 : Bk w1 w.heap.size 29 C := Bk.below (by exact bkw) hb1 (by first | omega | (simp; omega) | simp); have hz1 := hb1.size; (try simp at hz1); clear hb1) | (go_at_call 66; refine (in_any _ _ _ _).mono ?_; rintro e w' ⟨rfl, rfl⟩; rw [HD.out]) | (go_at_call 108; refine (HI'.out _ hB1).mono ?_; rintro e w2 ⟨rfl, hb2⟩; have hB2 : Below w.heap.size w w2 := Below.trans hB1 (hb2.mono hB1.size)))
      go_ret
      exact int_end HR.out hB2

set_option maxHeartbeats 400000 in
theorem SeasonOf_any (C : Array Value) (Y : Yd) (d : Int) (w : World) (hY : YardAt w w.heap.size C Y) (hs : Small Y) : Calls Try.prog 51 #[.agg C, .int .i64 d] w (PairEnd (seaA Y d) (seaB' Y d) w) := by
  have HCK := Lib.hid (fun W (hb : Below w.heap.size w W) => checkYard_any C Y W ((hY.below hb (Nat.le_refl _)).more hb.size) hs.cl hs.pi hs.ma hs.nm)
  have HLOAD := load_any hY
  have HC28 := Lib.hid hY.len
  have HE : Hid (seaA Y d = if (okY Y && inB d 0 100000) = true then Y.se (2 * seaI d) else 0) := rfl
  have HF : Hid (seaB' Y d = if (okY Y && inB d 0 100000) = true then Y.se (2 * seaI d + 1) else 0) := rfl
  have HN := Lib.hid (chk_of Y)
  have HI : 0 ≤ d → d ≤ 100000 → Hid (∀ W, Below w.heap.size w W → Calls Try.prog 105 #[.agg C, .int .i64 d] W (PairEnd (Y.se (2 * seaI d)) (Y.se (2 * seaI d + 1)) W)) := fun h0 h1 W hb => season_any C Y d W ((hY.below hb (Nat.le_refl _)).more hb.size) h0 h1
  clear hY hs
  generalize chkY Y = n at *
  generalize Y.se (2 * seaI d) = s1 at *
  generalize Y.se (2 * seaI d + 1) = s2 at *
  generalize seaA Y d = r1 at *
  generalize seaB' Y d = r2 at *
  obtain ⟨g1, g2⟩ := HN.out
  cases h : okY Y with
  | false =>
    have hn : (n != 0) = true := g2.trans (by rw [h]; rfl)
    have HR1 : Hid (r1 = 0) := by show _ = _; rw [HE.out, h]; rfl
    have HR2 : Hid (r2 = 0) := by show _ = _; rw [HF.out, h]; rfl
    clear HI HE HF h g1 g2
    go_enter Try.func51, Try.ntmps51
    go_wp2_with (first | (refine wpList_load_guard (P := Try.prog) (by rfl) 29 (.tmp 2) rfl w.heap.size 0 rfl C.toList _ (HLOAD.out _ _ (by exact bkw)) Try.underlying29 rfl (by rw [HC28.out]; exact info29) ?_) | (go_at_call 16; refine (HCK.out _ (by exact bw)).mono ?_; rintro e w1 ⟨rfl, hb1⟩; have hB1 : Below w.heap.size w w1 := Below.trans (by exact bw) (hb1.mono (by first | omega | (simp; omega) | simp)); have hK1 : Bk w1 w.heap.size 29 C := Bk.below (by exact bkw) hb1 (by first | omega | (simp; omega) | simp); have hJ1 : Bk w1 (w.heap.size + 1) 23 #[.int .i64 0, .int .i64 0] := Bk.below (by simpa using Bk.new (w.alloc (.cells C 29)) 23 #[.int .i64 0, .int .i64 0]) hb1 (by first | omega | (simp; omega) | simp); have hz1 := hb1.size; (try simp at hz1); have j0 := hJ1.cell 0 rfl; have j1 := hJ1.cell 1 rfl; have f0 := hJ1.fro 0; have f1 := hJ1.fro 1; clear hb1))
    exact bodyPost_ret (v := .agg #[.int .i64 0, .int .i64 0]) (by simp [results, Try.results51, go_sem, j0, j1]) rfl ⟨by rw [HR1.out, HR2.out], by exact bw⟩
  | true =>
    have hn : (n != 0) = false := g2.trans (by rw [h]; rfl)
    cases hd : inB d 0 100000 with
    | false =>
      have HR1 : Hid (r1 = 0) := by show _ = _; rw [HE.out, h, hd]; rfl
      have HR2 : Hid (r2 = 0) := by show _ = _; rw [HF.out, h, hd]; rfl
      have HD := Lib.hid hd
      clear HI HE HF h g1 g2 hd
      go_enter Try.func51, Try.ntmps51
      go_wp2_with (first | (refine wpList_load_guard (P := Try.prog) (by rfl) 29 (.tmp 2) rfl w.heap.size 0 rfl C.toList _ (HLOAD.out _ _ (by exact bkw)) Try.underlying29 rfl (by rw [HC28.out]; exact info29) ?_) | (go_at_call 16; refine (HCK.out _ (by exact bw)).mono ?_; rintro e w1 ⟨rfl, hb1⟩; have hB1 : Below w.heap.size w w1 := Below.trans (by exact bw) (hb1.mono (by first | omega | (simp; omega) | simp)); have hK1 : Bk w1 w.heap.size 29 C := Bk.below (by exact bkw) hb1 (by first | omega | (simp; omega) | simp); have hJ1 : Bk w1 (w.heap.size + 1) 23 #[.int .i64 0, .int .i64 0] := Bk.below (by simpa using Bk.new (w.alloc (.cells C 29)) 23 #[.int .i64 0, .int .i64 0]) hb1 (by first | omega | (simp; omega) | simp); have hz1 := hb1.size; (try simp at hz1); have j0 := hJ1.cell 0 rfl; have j1 := hJ1.cell 1 rfl; have f0 := hJ1.fro 0; have f1 := hJ1.fro 1; clear hb1) | (go_at_call 66; refine (in_any _ _ _ _).mono ?_; rintro e w' ⟨rfl, rfl⟩; rw [HD.out]))
      exact bodyPost_ret (v := .agg #[.int .i64 0, .int .i64 0]) (by simp [results, Try.results51, go_sem, j0, j1]) rfl ⟨by rw [HR1.out, HR2.out], by exact bw⟩
    | true =>
      have HR1 : Hid (s1 = r1) := by show _ = _; rw [HE.out, h, hd]; rfl
      have HR2 : Hid (s2 = r2) := by show _ = _; rw [HF.out, h, hd]; rfl
      have HI' := HI (inB_iff.1 hd).1 (inB_iff.1 hd).2
      have HD := Lib.hid hd
      clear HI HE HF h g1 g2 hd
      go_enter Try.func51, Try.ntmps51
      go_wp2_with (first | (refine wpList_load_guard (P := Try.prog) (by rfl) 29 (.tmp 2) rfl w.heap.size 0 rfl C.toList _ (HLOAD.out _ _ hK1) Try.underlying29 rfl (by rw [HC28.out]; exact info29) ?_) | (refine wpList_load_guard (P := Try.prog) (by rfl) 29 (.tmp 2) rfl w.heap.size 0 rfl C.toList _ (HLOAD.out _ _ (by exact bkw)) Try.underlying29 rfl (by rw [HC28.out]; exact info29) ?_) | (go_at_call 16; refine (HCK.out _ (by exact bw)).mono ?_; rintro e w1 ⟨rfl, hb1⟩; have hB1 : Below w.heap.size w w1 := Below.trans (by exact bw) (hb1.mono (by first | omega | (simp; omega) | simp)); have hK1 : Bk w1 w.heap.size 29 C := Bk.below (by exact bkw) hb1 (by first | omega | (simp; omega) | simp); have hJ1 : Bk w1 (w.heap.size + 1) 23 #[.int .i64 0, .int .i64 0] := Bk.below (by simpa using Bk.new (w.alloc (.cells C 29)) 23 #[.int .i64 0, .int .i64 0]) hb1 (by first | omega | (simp; omega) | simp); have hz1 := hb1.size; (try simp at hz1); have j0 := hJ1.cell 0 rfl; have j1 := hJ1.cell 1 rfl; have f0 := hJ1.fro 0; have f1 := hJ1.fro 1; clear hb1) | (go_at_call 66; refine (in_any _ _ _ _).mono ?_; rintro e w' ⟨rfl, rfl⟩; rw [HD.out]) | (go_at_call 105; refine (HI'.out _ hB1).mono ?_; rintro e w2 ⟨rfl, hb2⟩; have hB2 : Below w.heap.size w w2 := Below.trans hB1 (hb2.mono hB1.size); have hJ2 := hJ1.below hb2 hJ1.lt; have m0 := hJ2.cell 0 rfl; have m1 := hJ2.cell 1 rfl; have q0 := hJ2.fro 0; have q1 := hJ2.fro 1; have hz2 := hb2.size))
      exact bodyPost_ret (v := .agg #[.int .i64 s1, .int .i64 s2]) (by simp [results, Try.results51, go_sem, m0, m1, q0, q1]) rfl ⟨by rw [HR1.out, HR2.out], by exact bw⟩

end Go.Proofs.Ytjgnikmnadmheaa

namespace Go.Proofs.Ytjgnikmnadmheaa
open Go.RowKit

set_option maxHeartbeats 1000000 in
theorem rSeasonOf_any (C : Array Value) (Y : Yd) (d : Int) (w : World) (hY : YardAt w w.heap.size C Y) (hs : Small Y) : Calls Try.prog 52 #[.agg C, .int .i64 d] w (PairEnd (seaA Y d) (seaB' Y d) w) := by
  have HCK := Lib.hid (fun W (hb : Below w.heap.size w W) => rCheckYard_any C Y W ((hY.below hb (Nat.le_refl _)).more hb.size) hs.cl hs.pi hs.ma hs.nm)
  have HLOAD := load_any hY
  have HC28 := Lib.hid hY.len
  have HE : Hid (seaA Y d = if (okY Y && inB d 0 100000) = true then Y.se (2 * seaI d) else 0) := rfl
  have HF : Hid (seaB' Y d = if (okY Y && inB d 0 100000) = true then Y.se (2 * seaI d + 1) else 0) := rfl
  have HN := Lib.hid (chk_of Y)
  have hi := seaI_lt d
  have he := seaI_eq d
  have C0 : Hid (C[seaI d * 2]? = some (.int .i64 (Y.se (2 * seaI d)))) := by show _ = _; rw [Nat.mul_comm]; exact hY.se _ (by omega)
  have C1 : Hid (C[seaI d * 2 + 1]? = some (.int .i64 (Y.se (2 * seaI d + 1)))) := by show _ = _; rw [Nat.mul_comm]; exact hY.se _ (by omega)
  clear hY hs
  generalize chkY Y = n at *
  generalize Y.se (2 * seaI d) = s1 at *
  generalize Y.se (2 * seaI d + 1) = s2 at *
  generalize seaA Y d = r1 at *
  generalize seaB' Y d = r2 at *
  generalize seaI d = i at *
  have HI := Lib.hid he
  clear he
  obtain ⟨g1, g2⟩ := HN.out
  cases h : okY Y with
  | false =>
    have hn : (n != 0) = true := g2.trans (by rw [h]; rfl)
    have HR1 : Hid (r1 = 0) := by show _ = _; rw [HE.out, h]; rfl
    have HR2 : Hid (r2 = 0) := by show _ = _; rw [HF.out, h]; rfl
    clear HE HF h g1 g2
    go_enter Try.func52, Try.ntmps52
    go_wp2_with (first | (refine wpList_load_guard (P := Try.prog) (by rfl) 29 (.tmp 2) rfl w.heap.size 0 rfl C.toList _ (HLOAD.out _ _ (by exact bkw)) Try.underlying29 rfl (by rw [HC28.out]; exact info29) ?_) | (go_at_call 17; refine (HCK.out _ (by exact bw)).mono ?_; rintro e w1 ⟨rfl, hb1⟩; have hB1 : Below w.heap.size w w1 := Below.trans (by exact bw) (hb1.mono (by first | omega | (simp; omega) | simp)); have hK1 : Bk w1 w.heap.size 29 C := Bk.below (by exact bkw) hb1 (by first | omega | (simp; omega) | simp); have hJ1 : Bk w1 (w.heap.size + 1) 23 #[.int .i64 0, .int .i64 0] := Bk.below (by simpa using Bk.new (w.alloc (.cells C 29)) 23 #[.int .i64 0, .int .i64 0]) hb1 (by first | omega | (simp; omega) | simp); have hz1 := hb1.size; (try simp at hz1); have j0 := hJ1.cell 0 rfl; have j1 := hJ1.cell 1 rfl; have f0 := hJ1.fro 0; have f1 := hJ1.fro 1; clear hb1))
    exact bodyPost_ret (v := .agg #[.int .i64 0, .int .i64 0]) (by simp [results, Try.results52, go_sem, j0, j1]) rfl ⟨by rw [HR1.out, HR2.out], by exact bw⟩
  | true =>
    have hn : (n != 0) = false := g2.trans (by rw [h]; rfl)
    cases hd : inB d 0 100000 with
    | false =>
      have HR1 : Hid (r1 = 0) := by show _ = _; rw [HE.out, h, hd]; rfl
      have HR2 : Hid (r2 = 0) := by show _ = _; rw [HF.out, h, hd]; rfl
      have HD := Lib.hid hd
      clear HE HF h g1 g2 hd
      go_enter Try.func52, Try.ntmps52
      go_wp2_with (first | (refine wpList_load_guard (P := Try.prog) (by rfl) 29 (.tmp 2) rfl w.heap.size 0 rfl C.toList _ (HLOAD.out _ _ (by exact bkw)) Try.underlying29 rfl (by rw [HC28.out]; exact info29) ?_) | (go_at_call 17; refine (HCK.out _ (by exact bw)).mono ?_; rintro e w1 ⟨rfl, hb1⟩; have hB1 : Below w.heap.size w w1 := Below.trans (by exact bw) (hb1.mono (by first | omega | (simp; omega) | simp)); have hK1 : Bk w1 w.heap.size 29 C := Bk.below (by exact bkw) hb1 (by first | omega | (simp; omega) | simp); have hJ1 : Bk w1 (w.heap.size + 1) 23 #[.int .i64 0, .int .i64 0] := Bk.below (by simpa using Bk.new (w.alloc (.cells C 29)) 23 #[.int .i64 0, .int .i64 0]) hb1 (by first | omega | (simp; omega) | simp); have hz1 := hb1.size; (try simp at hz1); have j0 := hJ1.cell 0 rfl; have j1 := hJ1.cell 1 rfl; have f0 := hJ1.fro 0; have f1 := hJ1.fro 1; clear hb1) | (go_at_call 81; refine (isDay_any _ _).mono ?_; rintro e w' ⟨rfl, rfl⟩; rw [HD.out]))
      exact bodyPost_ret (v := .agg #[.int .i64 0, .int .i64 0]) (by simp [results, Try.results52, go_sem, j0, j1]) rfl ⟨by rw [HR1.out, HR2.out], by exact bw⟩
    | true =>
      have HR1 : Hid (s1 = r1) := by show _ = _; rw [HE.out, h, hd]; rfl
      have HR2 : Hid (s2 = r2) := by show _ = _; rw [HF.out, h, hd]; rfl
      obtain ⟨d0, d1⟩ := inB_iff.1 hd
      have HD := Lib.hid hd
      have he := HI.out
      have hnn : (0 : Int) ≤ (i : Int) := by omega
      have hll : (i : Int) < 12 := by omega
      clear HE HF h g1 g2 hd HI
      go_enter Try.func52, Try.ntmps52
      go_wp2_with (first | (refine wpList_load_guard (P := Try.prog) (by rfl) 29 (.tmp 2) rfl w.heap.size 0 rfl C.toList _ (HLOAD.out _ _ (by exact bkw)) Try.underlying29 rfl (by rw [HC28.out]; exact info29) ?_) | ((go_at_call 17; refine (HCK.out _ (by exact bw)).mono ?_; rintro e w1 ⟨rfl, hb1⟩; have hB1 : Below w.heap.size w w1 := Below.trans (by exact bw) (hb1.mono (by first | omega | (simp; omega) | simp)); have hK1 : Bk w1 w.heap.size 29 C := Bk.below (by exact bkw) hb1 (by first | omega | (simp; omega) | simp); have hJ1 : Bk w1 (w.heap.size + 1) 23 #[.int .i64 0, .int .i64 0] := Bk.below (by simpa using Bk.new (w.alloc (.cells C 29)) 23 #[.int .i64 0, .int .i64 0]) hb1 (by first | omega | (simp; omega) | simp); have hz1 := hb1.size; (try simp at hz1); have j0 := hJ1.cell 0 rfl; have j1 := hJ1.cell 1 rfl; have f0 := hJ1.fro 0; have f1 := hJ1.fro 1; clear hb1); have z0 := hK1.cell _ C0.out; have z1 := hK1.cell _ C1.out) | (go_at_call 81; refine (isDay_any _ _).mono ?_; rintro e w' ⟨rfl, rfl⟩; rw [HD.out]))
      exact bodyPost_ret (v := .agg #[.int .i64 s1, .int .i64 s2]) (by simp [results, Try.results52, go_sem, j0, j1, f0, f1]) rfl ⟨by rw [HR1.out, HR2.out], by exact bw⟩

set_option maxRecDepth 100000 in
set_option maxHeartbeats 1000000 in
theorem rOpen_any (C : Array Value) (Y : Yd) (d : Int) (w : World) (hY : YardAt w w.heap.size C Y) (hs : Small Y) : Calls Try.prog 54 #[.agg C, .int .i64 d] w (ShEnd (opnB Y d) w) := by
  have HCK := Lib.hid (fun W (hb : Below w.heap.size w W) => rCheckYard_any C Y W ((hY.below hb (Nat.le_refl _)).more hb.size) hs.cl hs.pi hs.ma hs.nm)
  have HLOAD := load_any hY
  have HC28 := Lib.hid hY.len
  have HE : Hid (opnB Y d = (okY Y && (inB d 0 100000 && !Y.cl.contains d))) := rfl
  have HN := Lib.hid (chk_of Y)
  have hm := hs.cl
  obtain ⟨A1, k1, e1, L1⟩ := hY.cl
  clear hY hs
  generalize chkY Y = n at *
  generalize opnB Y d = r at *
  obtain ⟨g1, g2⟩ := HN.out
  cases h : okY Y with
  | false =>
    have hn : (n != 0) = true := g2.trans (by rw [h]; rfl)
    have HR : Hid (r = false) := by show _ = _; rw [HE.out, h]; rfl
    clear HE h g1 g2
    go_enter Try.func54, Try.ntmps54
    go_wp2_with (first | (refine wpList_load_guard (P := Try.prog) (by rfl) 29 (.tmp 2) rfl w.heap.size 0 rfl C.toList _ (HLOAD.out _ _ (by exact bkw)) Try.underlying29 rfl (by rw [HC28.out]; exact info29) ?_) | (go_at_call 17; refine (HCK.out _ (by exact bw)).mono ?_; rintro e w1 ⟨rfl, hb1⟩; have hB1 : Below w.heap.size w w1 := Below.trans (by exact bw) (hb1.mono (by first | omega | (simp; omega) | simp)); have hK1 : Bk w1 w.heap.size 29 C := Bk.below (by exact bkw) hb1 (by first | omega | (simp; omega) | simp); have hz1 := hb1.size; (try simp at hz1); clear hb1))
    go_ret
    exact sh_ret HR.out.symm hB1
  | true =>
    have hn : (n != 0) = false := g2.trans (by rw [h]; rfl)
    cases hd : inB d 0 100000 with
    | false =>
      have HR : Hid (r = false) := by show _ = _; rw [HE.out, h, hd]; rfl
      have HD := Lib.hid hd
      clear HE h g1 g2 hd
      go_enter Try.func54, Try.ntmps54
      go_wp2_with (first | (refine wpList_load_guard (P := Try.prog) (by rfl) 29 (.tmp 2) rfl w.heap.size 0 rfl C.toList _ (HLOAD.out _ _ (by exact bkw)) Try.underlying29 rfl (by rw [HC28.out]; exact info29) ?_) | (go_at_call 17; refine (HCK.out _ (by exact bw)).mono ?_; rintro e w1 ⟨rfl, hb1⟩; have hB1 : Below w.heap.size w w1 := Below.trans (by exact bw) (hb1.mono (by first | omega | (simp; omega) | simp)); have hK1 : Bk w1 w.heap.size 29 C := Bk.below (by exact bkw) hb1 (by first | omega | (simp; omega) | simp); have hz1 := hb1.size; (try simp at hz1); clear hb1) | (go_at_call 81; refine (isDay_any _ _).mono ?_; rintro e w' ⟨rfl, rfl⟩; rw [HD.out]))
      go_ret
      exact sh_ret HR.out.symm hB1
    | true =>
      have HR : Hid (r = !Y.cl.contains d) := by show _ = _; rw [HE.out, h, hd]; rfl
      have HD := Lib.hid hd
      clear HE h g1 g2 hd
      go_enter Try.func54, Try.ntmps54
      go_upto_region 4 with (first | (refine wpList_load_guard (P := Try.prog) (by rfl) 29 (.tmp 2) rfl w.heap.size 0 rfl C.toList _ (HLOAD.out _ _ (by exact bkw)) Try.underlying29 rfl (by rw [HC28.out]; exact info29) ?_) | (go_at_call 17; refine (HCK.out _ (by exact bw)).mono ?_; rintro e w1 ⟨rfl, hb1⟩; have hB1 : Below w.heap.size w w1 := Below.trans (by exact bw) (hb1.mono (by first | omega | (simp; omega) | simp)); have hK1 : Bk w1 w.heap.size 29 C := Bk.below (by exact bkw) hb1 (by first | omega | (simp; omega) | simp); have hz1 := hb1.size; (try simp at hz1); clear hb1) | (go_at_call 81; refine (isDay_any _ _).mono ?_; rintro e w' ⟨rfl, rfl⟩; rw [HD.out]))
      have x1 := hK1.cell 24 e1
      have hBL := L1.below hB1 (Nat.le_refl _)
      go_loop [5] (fun y => ∃ k : Nat, k ≤ Y.cl.length ∧ y = .int .i64 k ∧ Hid (∀ j (hj : j < k) (h' : j < Y.cl.length), Y.cl[j] ≠ d)) (fun y => Y.cl.length - (intOf y).toNat)
      case atStart => exact ⟨0, by omega, rfl, fun j hj => absurd hj (by omega)⟩
      case round =>
      obtain ⟨k, hk, rfl, hg⟩ := hrel
      by_cases hlt : k < Y.cl.length
      · obtain ⟨ad, hA, hadb, c0⟩ := int_at hBL hlt
        subst hA
        have hmem : Y.cl[k] ∈ Y.cl := List.getElem_mem hlt
        have HY := Lib.hid (fun (h : Y.cl[k] = d) => show Hid (r = false) from HR.out.trans (by rw [h] at hmem; simp [hmem]))
        clear hmem
        have HG := Lib.hid (fun (h : Y.cl[k] ≠ d) => show Hid (∀ j (hj : j < k + 1) (h' : j < Y.cl.length), Y.cl[j] ≠ d) from fun j hj h' => by
          by_cases e : j = k
          · subst e; exact h
          · exact hg.out j (by omega) h')
        clear hg L1 hBL
        generalize Y.cl[k] = x at *
        by_cases hx : x = d
        · have H := HY.out hx
          have hx' : (x == d) = true := by rw [beq_iff_eq]; exact hx
          have HX := Lib.hid hx; clear hx HG HY
          go_wp2
          go_ret
          exact sh_ret H.out.symm hB1
        · have H := HG.out hx
          have hx' : (x == d) = false := by rw [beq_eq_false_iff_ne]; exact hx
          have HX := Lib.hid hx; clear hx HG HY
          go_wp2
          go_round
          case rel => exact ⟨k + 1, by omega, by go_num, H⟩
          case measure => simp [intOf]; omega
      · obtain rfl : k = Y.cl.length := by omega
        have H : Hid (r = true) := by
          show _ = _
          rw [HR.out, Bool.not_eq_true', ← Bool.not_eq_true]
          intro hc
          obtain ⟨j, hj, e⟩ := List.getElem_of_mem (List.contains_iff_mem.1 hc)
          exact hg.out j hj hj e
        clear hg
        go_wp2
        go_ret
        exact sh_ret H.out.symm hB1

set_option maxRecDepth 100000 in
set_option maxHeartbeats 1000000 in
theorem rMinutes_any (C : Array Value) (Y : Yd) (d : Int) (w : World) (hY : YardAt w w.heap.size C Y) (hs : Small Y) : Calls Try.prog 56 #[.agg C, .int .i64 d] w (IntEnd (minO Y d) w) := by
  have HO := Lib.hid (fun W (hb : Below w.heap.size w W) => rOpen_any C Y d W ((hY.below hb (Nat.le_refl _)).more hb.size) hs)
  have HS := Lib.hid (fun W (hb : Below w.heap.size w W) => rSeasonOf_any C Y d W ((hY.below hb (Nat.le_refl _)).more hb.size) hs)
  have HLOAD := load_any hY
  have HC28 := Lib.hid hY.len
  have HM : Hid (opnB Y d = true → minO Y d = min (seaA Y d) (seaB' Y d)) := fun h => by
    unfold opnB at h
    rw [Bool.and_eq_true] at h
    have h2 := h.2
    unfold openB at h2
    rw [Bool.and_eq_true] at h2
    unfold minO minOf seaA seaB' dayR
    rw [if_pos h.1, if_pos h.2, h.1, h2.1]; rfl
  have HZ : Hid (opnB Y d = false → minO Y d = 0) := fun h => by
    unfold opnB at h
    unfold minO minOf
    cases h1 : okY Y with
    | false => rfl
    | true => rw [h1] at h; rw [if_pos rfl, show openB Y d = false from h]; rfl
  clear hY hs
  generalize opnB Y d = q at *
  generalize seaA Y d = s1 at *
  generalize seaB' Y d = s2 at *
  generalize minO Y d = m at *
  cases q with
  | false =>
    have HE := Lib.hid (HZ.out rfl)
    clear HM HZ HS
    go_enter Try.func56, Try.ntmps56
    go_wp2_with (first | (refine wpList_load_guard (P := Try.prog) (by rfl) 29 (.tmp 2) rfl w.heap.size 0 rfl C.toList _ (HLOAD.out _ _ (by exact bkw)) Try.underlying29 rfl (by rw [HC28.out]; exact info29) ?_) | (go_at_call 54; refine (HO.out _ (by exact bw)).mono ?_; rintro e w1 ⟨rfl, hb⟩; have hB1 : Below w.heap.size w w1 := Below.trans (by exact bw) (hb.mono (by simp))))
    go_ret
    exact int_end HE.out.symm hB1
  | true =>
    have HE := Lib.hid (HM.out rfl)
    clear HM HZ
    go_enter Try.func56, Try.ntmps56
    go_upto_region 3 with (first | (refine wpList_load_guard (P := Try.prog) (by rfl) 29 (.tmp 2) rfl w.heap.size 0 rfl C.toList _ (HLOAD.out _ _ (by exact bkw)) Try.underlying29 rfl (by rw [HC28.out]; exact info29) ?_) | (go_at_call 54; refine (HO.out _ (by exact bw)).mono ?_; rintro e w1 ⟨rfl, hb⟩; have hB1 : Below w.heap.size w w1 := Below.trans (by exact bw) (hb.mono (by simp)); have hK1 : Bk w1 w.heap.size 29 C := (Bk.new w 29 C).below hb (by simp); clear hb))
    have hz := hB1.size
    go_wp2_with (first | (refine wpList_load_guard (P := Try.prog) (by rfl) 29 (.tmp 2) rfl w.heap.size 0 rfl C.toList _ (HLOAD.out _ _ hK1) Try.underlying29 rfl (by rw [HC28.out]; exact info29) ?_) | (go_at_call 52; refine (HS.out _ hB1).mono ?_; rintro e w2 ⟨rfl, hb2⟩; have hB2 : Below w.heap.size w w2 := Below.trans hB1 (hb2.mono hB1.size); have hz2 := hB2.size))
    all_goals
      go_ret
      exact int_end (by rw [HE.out]) (by exact bw)

set_option maxRecDepth 100000 in
set_option maxHeartbeats 1000000 in
theorem rBatches_any (C : Array Value) (Y : Yd) (d : Int) (w : World) (hY : YardAt w w.heap.size C Y) (hs : Small Y) : Calls Try.prog 58 #[.agg C, .int .i64 d] w (IntEnd (batO Y d) w) := by
  have HCK := Lib.hid (fun W (hb : Below w.heap.size w W) => rCheckYard_any C Y W ((hY.below hb (Nat.le_refl _)).more hb.size) hs.cl hs.pi hs.ma hs.nm)
  have HLOAD := load_any hY
  have HC28 := Lib.hid hY.len
  have HE : Hid (batO Y d = if (okY Y && inB d 0 100000) = true then batOf Y.pi d else 0) := rfl
  have HN := Lib.hid (chk_of Y)
  have HV := Lib.hid (fun (h : okY Y = true) => (okY_valid h).pi)
  have hm := hs.pi
  obtain ⟨A2, k2, e2, L2⟩ := hY.pi
  clear hY hs
  generalize chkY Y = n at *
  generalize batO Y d = r at *
  obtain ⟨g1, g2⟩ := HN.out
  cases h : okY Y with
  | false =>
    have hn : (n != 0) = true := g2.trans (by rw [h]; rfl)
    have HR : Hid (r = 0) := by show _ = _; rw [HE.out, h]; rfl
    clear HE h g1 g2
    go_enter Try.func58, Try.ntmps58
    go_wp2_with (first | (refine wpList_load_guard (P := Try.prog) (by rfl) 29 (.tmp 2) rfl w.heap.size 0 rfl C.toList _ (HLOAD.out _ _ (by exact bkw)) Try.underlying29 rfl (by rw [HC28.out]; exact info29) ?_) | (go_at_call 17; refine (HCK.out _ (by exact bw)).mono ?_; rintro e w1 ⟨rfl, hb1⟩; have hB1 : Below w.heap.size w w1 := Below.trans (by exact bw) (hb1.mono (by first | omega | (simp; omega) | simp)); have hK1 : Bk w1 w.heap.size 29 C := Bk.below (by exact bkw) hb1 (by first | omega | (simp; omega) | simp); have hz1 := hb1.size; (try simp at hz1); clear hb1))
    go_ret
    exact int_end HR.out.symm hB1
  | true =>
    have hn : (n != 0) = false := g2.trans (by rw [h]; rfl)
    cases hd : inB d 0 100000 with
    | false =>
      have HR : Hid (r = 0) := by show _ = _; rw [HE.out, h, hd]; rfl
      have HD := Lib.hid hd
      clear HE h g1 g2 hd
      go_enter Try.func58, Try.ntmps58
      go_wp2_with (first | (refine wpList_load_guard (P := Try.prog) (by rfl) 29 (.tmp 2) rfl w.heap.size 0 rfl C.toList _ (HLOAD.out _ _ (by exact bkw)) Try.underlying29 rfl (by rw [HC28.out]; exact info29) ?_) | (go_at_call 17; refine (HCK.out _ (by exact bw)).mono ?_; rintro e w1 ⟨rfl, hb1⟩; have hB1 : Below w.heap.size w w1 := Below.trans (by exact bw) (hb1.mono (by first | omega | (simp; omega) | simp)); have hK1 : Bk w1 w.heap.size 29 C := Bk.below (by exact bkw) hb1 (by first | omega | (simp; omega) | simp); have hz1 := hb1.size; (try simp at hz1); clear hb1) | (go_at_call 81; refine (isDay_any _ _).mono ?_; rintro e w' ⟨rfl, rfl⟩; rw [HD.out]))
      go_ret
      exact int_end HR.out.symm hB1
    | true =>
      have HR : Hid (r = batOf Y.pi d) := by show _ = _; rw [HE.out, h, hd]; rfl
      have HP := Lib.hid (HV.out h)
      have HD := Lib.hid hd
      clear HE h g1 g2 hd HV
      go_enter Try.func58, Try.ntmps58
      go_upto_region 5 with (first | (refine wpList_load_guard (P := Try.prog) (by rfl) 29 (.tmp 2) rfl w.heap.size 0 rfl C.toList _ (HLOAD.out _ _ (by exact bkw)) Try.underlying29 rfl (by rw [HC28.out]; exact info29) ?_) | (go_at_call 17; refine (HCK.out _ (by exact bw)).mono ?_; rintro e w1 ⟨rfl, hb1⟩; have hB1 : Below w.heap.size w w1 := Below.trans (by exact bw) (hb1.mono (by first | omega | (simp; omega) | simp)); have hK1 : Bk w1 w.heap.size 29 C := Bk.below (by exact bkw) hb1 (by first | omega | (simp; omega) | simp); have hz1 := hb1.size; (try simp at hz1); clear hb1) | (go_at_call 81; refine (isDay_any _ _).mono ?_; rintro e w' ⟨rfl, rfl⟩; rw [HD.out]))
      go_loopw [5, 6] (fun s y wr => ∃ (k : Nat) (n : Int), k ≤ Y.pi.length ∧ y = .int .i64 k ∧ s = .int .i64 n ∧ Hid (n = batOf (Y.pi.take k) d) ∧ (0 ≤ n ∧ n ≤ 100 * k) ∧ Below w.heap.size w wr ∧ Bk wr w.heap.size 29 C) (fun _ y _ => Y.pi.length - (intOf y).toNat)
      case atStart => exact ⟨0, 0, by omega, rfl, rfl, rfl, by omega, hB1, hK1⟩
      case round =>
      clear hB1 hK1 hz1
      obtain ⟨k, n, hk, rfl, rfl, hn', ⟨n0, n1⟩, hbw, hbk⟩ := hrel
      have hbs := hbw.size
      have hbl := hbk.lt
      have x2 := hbk.cell 25 e2
      by_cases hlt : k < Y.pi.length
      · obtain ⟨ad, hA, hadb, c0, c1, c2⟩ := pit_at (L2.below hbw (Nat.le_refl _)) hlt
        subst hA
        obtain ⟨⟨p1, p2⟩, ⟨p3, p4⟩, p5, p6⟩ := HP.out _ (List.getElem_mem hlt)
        have HX : Hid (batOf (Y.pi.take (k + 1)) d = n + batAt d Y.pi[k]) := by show _ = _; rw [batOf_take _ _ _ hlt, hn'.out]
        have HB : Hid (batAt d Y.pi[k] = if decide (Y.pi[k].s + Y.pi[k].a ≤ d) = true then Y.pi[k].b else 0) := rfl
        clear hn' L2
        generalize batAt d Y.pi[k] = x at *
        generalize Y.pi[k] = p at *
        obtain ⟨s, a, b⟩ := p
        dsimp only at *
        have hadb' : (ad.add (k * 3)).block < wr.heap.size := by rw [add_block]; omega
        have WW : Hid (IntKind.i64.wrap (s + a) = s + a) := IntWalk.i64_in _ (by omega)
        by_cases hq : s + a ≤ d
        · have HX' : Hid (batOf (Y.pi.take (k + 1)) d = n + b) := by show _ = _; rw [HX.out, HB.out, decide_eq_true hq]; rfl
          clear HX HB
          go_wp2
          go_quiet (fail)
          (try rw [WW.out])
          go_wp2
          go_roundw
          case rel => exact ⟨k + 1, n + b, by omega, by go_num, by go_num, HX'.out.symm, by omega, by exact bw, by exact bkw⟩
          case measure => simp [intOf]; omega
        · have HX' : Hid (batOf (Y.pi.take (k + 1)) d = n) := by show _ = _; rw [HX.out, HB.out, decide_eq_false hq]; simp
          have hq' : decide (s + a ≤ d) = false := decide_eq_false hq
          have HQ := Lib.hid hq; clear hq
          clear HX HB
          go_wp2
          go_quiet (fail)
          (try rw [WW.out])
          go_wp2
          go_roundw
          case rel => exact ⟨k + 1, n, by omega, by go_num, by go_num, HX'.out.symm, by omega, by exact bw, by exact bkw⟩
          case measure => simp [intOf]; omega
      · obtain rfl : k = Y.pi.length := by omega
        rw [List.take_length] at hn'
        clear hlt hk
        go_wp2
        go_ret
        exact int_end (hn'.out.trans HR.out.symm) hbw

end Go.Proofs.Ytjgnikmnadmheaa

namespace Go.Proofs.Ytjgnikmnadmheaa
open Go.RowKit

def badT (i : Nat) (t : Tk) : Bool := !inB t.work 1 10000 || !inB t.need 1 9 || !risingB t.af || t.af.any (outOf i) || t.co.any longS
def badAt (l : List Tk) (i : Nat) : Bool := match l[i]? with
  | some t => badT i t
  | none => false
def chkL (l : List Tk) : Int := if 12 < l.length ∨ l.any manyC = true then 2 else if (List.range l.length).any (badAt l) = true then 1 else 0
theorem badAt_eq (l : List Tk) (i : Nat) (hi : i < l.length) : badAt l i = badT i l[i] := by unfold badAt; rw [List.getElem?_eq_getElem hi]
theorem bad_yes {l : List Tk} {i : Nat} (hi : i < l.length) (h : badT i l[i] = true) : (List.range l.length).any (badAt l) = true :=
  List.any_eq_true.2 ⟨i, by simpa using hi, by rw [badAt_eq l i hi]; exact h⟩
theorem bad_no {l : List Tk} (h : ∀ i (hi : i < l.length), badT i l[i] = false) : (List.range l.length).any (badAt l) = false := by
  rw [List.any_eq_false]
  intro i hi
  have hi' : i < l.length := by simpa using hi
  rw [badAt_eq l i hi', h i hi']; exact Bool.false_ne_true
theorem anyOut (l : List Int) (A : Option Addr) (c i bb : Nat) (W : World) (hl : Lies W W.heap.size A (ints l)) (hm : l.length ≤ 1000) (hi : i ≤ 1000) (hc : W.cell? ⟨bb, 0, none⟩ = some (.int .i64 i)) :
    Calls Try.prog 72 #[.slice A l.length c, .func (.func 73) #[] #[.pointer (some ⟨bb, 0, none⟩)]] W (ShEnd (l.any (outOf i)) W) :=
  anyI73 (outOf i) l A c W bb hl hm (show Hid _ from fun x _ W' hb => outOf_any i x bb W' hi (by
    have hlt : bb < W.heap.size := block_lt_of_cell hc
    rw [hb.cell (p := ⟨bb, 0, none⟩) hlt]; exact hc))
theorem anyLong (l : List ByteArray) (A : Option Addr) (c : Nat) (W : World) (hl : Lies W W.heap.size A (strsC l)) (hm : l.length ≤ 1000) (hs : ∀ s ∈ l, s.size ≤ 1000) :
    Calls Try.prog 74 #[.slice A l.length c, .func (.func 75) #[] #[]] W (ShEnd (l.any longS) W) :=
  anyS75 longS l A c W hl hm (show Hid _ from fun s hs' W' _ => longS_any s W' (hs s hs'))
/-- what is asked of the tasks' sizes -/
def tame (l : List Tk) : Prop := l.length ≤ 1000 ∧ ∀ t ∈ l, t.af.length ≤ 1000 ∧ t.co.length ≤ 100 ∧ ∀ s ∈ t.co, s.size ≤ 1000

set_option maxRecDepth 100000 in
set_option maxHeartbeats 1000000 in
theorem checkTasks_any (l : List Tk) (A : Option Addr) (c : Nat) (w : World) (hT : TasksAt w w.heap.size A l) (ht : tame l) :
    Calls Try.prog 18 #[.slice A l.length c] w (IntEnd (chkL l) w) := by
  have HC : Hid (chkL l = if 12 < l.length ∨ l.any manyC = true then 2 else if (List.range l.length).any (badAt l) = true then 1 else 0) := rfl
  have hm := ht.1
  have HMA := Lib.hid (fun W (hb : Below w.heap.size w W) => anyT71 manyC l A c W (((hT.below hb (Nat.le_refl _)).more hb.size).at_) hm (show Hid _ from fun t ht' W' _ => manyC_any t W' (ht.2 t ht').2.1))
  by_cases h1 : 12 < l.length
  · have H : Hid (chkL l = 2) := by show _ = _; rw [HC.out, if_pos (.inl h1)]
    clear HC hT ht
    go_enter Try.func18, Try.ntmps18
    go_wp2
    go_ret
    exact int_end H.out.symm (by repeat (first | with_reducible exact Below.refl _ _ | with_reducible assumption | with_reducible refine Below.drew ?_ | with_reducible refine below_drewN ?_ _ | (with_reducible refine Below.alloc ?_ ?_ _; rotate_left; (try simp) <;> omega) | (with_reducible refine Below.setCell ?_ ?_ _; rotate_left; (try simp) <;> omega)))
  cases h2 : l.any manyC with
  | true =>
    have H : Hid (chkL l = 2) := by show _ = _; rw [HC.out, if_pos (.inr h2)]
    have H2 := Lib.hid h2
    clear HC hT ht h2
    go_enter Try.func18, Try.ntmps18
    go_wp2_with (go_at_call 70; refine (HMA.out _ (by exact (by repeat (first | with_reducible exact Below.refl _ _ | with_reducible assumption | with_reducible refine Below.drew ?_ | with_reducible refine below_drewN ?_ _ | (with_reducible refine Below.alloc ?_ ?_ _; rotate_left; (try simp) <;> omega) | (with_reducible refine Below.setCell ?_ ?_ _; rotate_left; (try simp) <;> omega))))).mono ?_; rintro e w1 ⟨rfl, hb⟩; rw [H2.out])
    go_ret
    exact int_end H.out.symm hb
  | false =>
  have HC' : Hid (chkL l = if (List.range l.length).any (badAt l) = true then 1 else 0) := by show _ = _; rw [HC.out, if_neg (by rw [h2]; simp; omega)]
  have H2 := Lib.hid h2
  have HY := Lib.hid (fun i (hi : i < l.length) (h : badT i l[i] = true) => show Hid (chkL l = 1) from HC'.out.trans (if_pos (bad_yes hi h)))
  have HN := Lib.hid (fun (h : ∀ i (hi : i < l.length), badT i l[i] = false) => show Hid (chkL l = 0) from HC'.out.trans (if_neg (by rw [bad_no h]; exact Bool.false_ne_true)))
  have HTA := Lib.hid (fun W (hb : Below w.heap.size w W) => (hT.below hb (Nat.le_refl _)).more hb.size)
  have HTM := Lib.hid ht.2
  clear HC hT ht h2 HC'
  go_enter Try.func18, Try.ntmps18
  go_wp2_with (go_at_call 70; refine (HMA.out _ (by exact (by repeat (first | with_reducible exact Below.refl _ _ | with_reducible assumption | with_reducible refine Below.drew ?_ | with_reducible refine below_drewN ?_ _ | (with_reducible refine Below.alloc ?_ ?_ _; rotate_left; (try simp) <;> omega) | (with_reducible refine Below.setCell ?_ ?_ _; rotate_left; (try simp) <;> omega))))).mono ?_; rintro e w1 ⟨rfl, hb⟩; rw [H2.out])
  clear H2 HMA
  go_loopw [14] (fun y wr => ∃ k : Nat, k ≤ l.length ∧ y = .int .i64 k ∧ Hid (∀ j (hj : j < k) (h' : j < l.length), badT j l[j] = false) ∧ Below w.heap.size w wr) (fun y _ => l.length - (intOf y).toNat)
  case atStart => exact ⟨0, by omega, rfl, fun j hj => absurd hj (by omega), hb⟩
  case round =>
  clear hb
  obtain ⟨k, hk, rfl, hg, hbw⟩ := hrel
  have hbs := hbw.size
  by_cases hlt : k < l.length
  · obtain ⟨ad, hA, hadb, c0, c1, c2, c3⟩ := task_at (HTA.out wr hbw).at_ hlt
    subst hA
    have HOU := Lib.hid (fun W (hb : Below w.heap.size w W) bb (hc : W.cell? ⟨bb, 0, none⟩ = some (.int .i64 k)) => anyOut l[k].af l[k].aA l[k].ac k bb W ((HTA.out W hb).af _ (List.getElem_mem hlt)) (HTM.out _ (List.getElem_mem hlt)).1 (by omega) hc)
    have HLO := Lib.hid (fun W (hb : Below w.heap.size w W) => anyLong l[k].co l[k].cA l[k].cc W ((HTA.out W hb).co _ (List.getElem_mem hlt)) (by have := (HTM.out _ (List.getElem_mem hlt)).2.1; omega) (HTM.out _ (List.getElem_mem hlt)).2.2)
    have HRI := Lib.hid (fun W (hb : Below w.heap.size w W) => rising_any l[k].af l[k].aA l[k].ac W ((HTA.out W hb).af _ (List.getElem_mem hlt)) (HTM.out _ (List.getElem_mem hlt)).1)
    have HYk := Lib.hid (HY.out k hlt)
    have HG := Lib.hid (fun (h : badT k l[k] = false) => show Hid (∀ j (hj : j < k + 1) (h' : j < l.length), badT j l[j] = false) from fun j hj h' => by
      by_cases e : j = k
      · subst e; exact h
      · exact hg.out j (by omega) h')
    clear hg
    have HX : Hid (badT k l[k] = (!inB l[k].work 1 10000 || !inB l[k].need 1 9 || !risingB l[k].af || l[k].af.any (outOf k) || l[k].co.any longS)) := rfl
    generalize hq : badT k l[k] = q at *
    have HQ := Lib.hid hq; clear hq
    generalize l[k] = t at *
    obtain ⟨wk, nd, aA, ac, af, cA, cc, co⟩ := t
    try dsimp only at *
    cases h1 : inB wk 1 10000 with
    | false =>
      have H := HYk.out (by rw [HX.out, h1]; rfl)
      have H1 := Lib.hid h1; clear h1
      go_wp2_with (go_at_call 66; refine (in_any _ _ _ _).mono ?_; rintro e w' ⟨rfl, rfl⟩; rw [H1.out])
      go_ret
      exact int_end H.out.symm (by repeat (first | with_reducible exact Below.refl _ _ | with_reducible assumption | with_reducible refine Below.drew ?_ | with_reducible refine below_drewN ?_ _ | (with_reducible refine Below.alloc ?_ ?_ _; rotate_left; (try simp) <;> omega) | (with_reducible refine Below.setCell ?_ ?_ _; rotate_left; (try simp) <;> omega)))
    | true =>
    have H1 := Lib.hid h1
    cases h2 : inB nd 1 9 with
    | false =>
      have H := HYk.out (by rw [HX.out, h1, h2]; rfl)
      have H2 := Lib.hid h2; clear h2 h1
      go_wp2_with (go_at_call 66; refine (in_any _ _ _ _).mono ?_; rintro e w' ⟨rfl, rfl⟩; first | rw [H1.out] | rw [H2.out])
      go_ret
      exact int_end H.out.symm (by repeat (first | with_reducible exact Below.refl _ _ | with_reducible assumption | with_reducible refine Below.drew ?_ | with_reducible refine below_drewN ?_ _ | (with_reducible refine Below.alloc ?_ ?_ _; rotate_left; (try simp) <;> omega) | (with_reducible refine Below.setCell ?_ ?_ _; rotate_left; (try simp) <;> omega)))
    | true =>
    have H2 := Lib.hid h2
    cases h3 : risingB af with
    | false =>
      have H := HYk.out (by rw [HX.out, h1, h2, h3]; rfl)
      have H3 := Lib.hid h3; clear h3 h2 h1
      go_wp2_with (first | (go_at_call 66; refine (in_any _ _ _ _).mono ?_; rintro e w' ⟨rfl, rfl⟩; first | rw [H1.out] | rw [H2.out]) | (go_at_call 67; refine (HRI.out _ (by exact (by repeat (first | with_reducible exact Below.refl _ _ | with_reducible assumption | with_reducible refine Below.drew ?_ | with_reducible refine below_drewN ?_ _ | (with_reducible refine Below.alloc ?_ ?_ _; rotate_left; (try simp) <;> omega) | (with_reducible refine Below.setCell ?_ ?_ _; rotate_left; (try simp) <;> omega))))).mono ?_; rintro e w2 ⟨rfl, hb⟩; rw [H3.out]))
      go_ret
      exact int_end H.out.symm (((((hbw.alloc hbs _).alloc (by simp; omega) _)).trans (hb.mono (by simp; omega))))
    | true =>
    have H3 := Lib.hid h3
    cases h4 : af.any (outOf k) with
    | true =>
      have H := HYk.out (by rw [HX.out, h1, h2, h3, h4]; rfl)
      have H4 := Lib.hid h4; clear h4 h3 h2 h1
      go_wp2_with (first | (go_at_call 66; refine (in_any _ _ _ _).mono ?_; rintro e w' ⟨rfl, rfl⟩; first | rw [H1.out] | rw [H2.out]) | (go_at_call 67; refine (HRI.out _ (by exact (by repeat (first | with_reducible exact Below.refl _ _ | with_reducible assumption | with_reducible refine Below.drew ?_ | with_reducible refine below_drewN ?_ _ | (with_reducible refine Below.alloc ?_ ?_ _; rotate_left; (try simp) <;> omega) | (with_reducible refine Below.setCell ?_ ?_ _; rotate_left; (try simp) <;> omega))))).mono ?_; rintro e w2 ⟨rfl, hb⟩; rw [H3.out]; have hB2 : Below w.heap.size w w2 := Below.trans (by exact (by repeat (first | with_reducible exact Below.refl _ _ | with_reducible assumption | with_reducible refine Below.drew ?_ | with_reducible refine below_drewN ?_ _ | (with_reducible refine Below.alloc ?_ ?_ _; rotate_left; (try simp) <;> omega) | (with_reducible refine Below.setCell ?_ ?_ _; rotate_left; (try simp) <;> omega)))) (hb.mono (by simp; omega)); have hkb : Bk w2 wr.heap.size 3 #[.int .i64 k] := Bk.below (by exact (by repeat (first | with_reducible assumption | with_reducible exact Bk.new _ _ _ | with_reducible refine Bk.drew ?_ | with_reducible refine Bk.drewN ?_ _ | with_reducible refine Bk.alloc ?_ _ | (with_reducible refine Bk.far ?_ ?_ _; rotate_left; (try simp) <;> omega)))) hb (by simp; omega); have hkt : Bk w2 (wr.heap.size + 1) 48 #[.int .i64 wk, .int .i64 nd, .slice aA af.length ac, .slice cA co.length cc] := Bk.below (by simpa using Bk.new (wr.alloc (.cells #[.int .i64 k] 3)) 48 #[.int .i64 wk, .int .i64 nd, .slice aA af.length ac, .slice cA co.length cc]) hb (by simp); have z2 := hkt.cell 2 rfl; have z3 := hkt.cell 3 rfl; have zl := hkt.lt; clear hb) | (go_at_call 72; refine (HOU.out _ hB2 _ (hkb.cell 0 rfl)).mono ?_; rintro e w3 ⟨rfl, hb2⟩; rw [H4.out]; have hB3 : Below w.heap.size w w3 := Below.trans hB2 (hb2.mono hB2.size); have hkt2 := hkt.below hb2 hkt.lt; have y3 := hkt2.cell 3 rfl; have yl := hkt2.lt))
      go_ret
      exact int_end H.out.symm (hB2.trans (hb2.mono hB2.size))
    | false =>
    have H4 := Lib.hid h4
    cases h5 : co.any longS with
    | true =>
      have H := HYk.out (by rw [HX.out, h1, h2, h3, h4, h5]; rfl)
      have H5 := Lib.hid h5; clear h5 h4 h3 h2 h1
      go_wp2_with (first | (go_at_call 66; refine (in_any _ _ _ _).mono ?_; rintro e w' ⟨rfl, rfl⟩; first | rw [H1.out] | rw [H2.out]) | (go_at_call 67; refine (HRI.out _ (by exact (by repeat (first | with_reducible exact Below.refl _ _ | with_reducible assumption | with_reducible refine Below.drew ?_ | with_reducible refine below_drewN ?_ _ | (with_reducible refine Below.alloc ?_ ?_ _; rotate_left; (try simp) <;> omega) | (with_reducible refine Below.setCell ?_ ?_ _; rotate_left; (try simp) <;> omega))))).mono ?_; rintro e w2 ⟨rfl, hb⟩; rw [H3.out]; have hB2 : Below w.heap.size w w2 := Below.trans (by exact (by repeat (first | with_reducible exact Below.refl _ _ | with_reducible assumption | with_reducible refine Below.drew ?_ | with_reducible refine below_drewN ?_ _ | (with_reducible refine Below.alloc ?_ ?_ _; rotate_left; (try simp) <;> omega) | (with_reducible refine Below.setCell ?_ ?_ _; rotate_left; (try simp) <;> omega)))) (hb.mono (by simp; omega)); have hkb : Bk w2 wr.heap.size 3 #[.int .i64 k] := Bk.below (by exact (by repeat (first | with_reducible assumption | with_reducible exact Bk.new _ _ _ | with_reducible refine Bk.drew ?_ | with_reducible refine Bk.drewN ?_ _ | with_reducible refine Bk.alloc ?_ _ | (with_reducible refine Bk.far ?_ ?_ _; rotate_left; (try simp) <;> omega)))) hb (by simp; omega); have hkt : Bk w2 (wr.heap.size + 1) 48 #[.int .i64 wk, .int .i64 nd, .slice aA af.length ac, .slice cA co.length cc] := Bk.below (by simpa using Bk.new (wr.alloc (.cells #[.int .i64 k] 3)) 48 #[.int .i64 wk, .int .i64 nd, .slice aA af.length ac, .slice cA co.length cc]) hb (by simp); have z2 := hkt.cell 2 rfl; have z3 := hkt.cell 3 rfl; have zl := hkt.lt; clear hb) | (go_at_call 72; refine (HOU.out _ hB2 _ (hkb.cell 0 rfl)).mono ?_; rintro e w3 ⟨rfl, hb2⟩; rw [H4.out]; have hB3 : Below w.heap.size w w3 := Below.trans hB2 (hb2.mono hB2.size); have hkt2 := hkt.below hb2 hkt.lt; have y3 := hkt2.cell 3 rfl; have yl := hkt2.lt) | (go_at_call 74; refine (HLO.out _ hB3).mono ?_; rintro e w4 ⟨rfl, hb3⟩; rw [H5.out]))
      go_ret
      exact int_end H.out.symm (hB3.trans (hb3.mono hB3.size))
    | false =>
      have H := HG.out (by rw [HX.out, h1, h2, h3, h4, h5]; rfl)
      have H5 := Lib.hid h5; clear h5 h4 h3 h2 h1
      go_wp2_with (first | (go_at_call 66; refine (in_any _ _ _ _).mono ?_; rintro e w' ⟨rfl, rfl⟩; first | rw [H1.out] | rw [H2.out]) | (go_at_call 67; refine (HRI.out _ (by exact (by repeat (first | with_reducible exact Below.refl _ _ | with_reducible assumption | with_reducible refine Below.drew ?_ | with_reducible refine below_drewN ?_ _ | (with_reducible refine Below.alloc ?_ ?_ _; rotate_left; (try simp) <;> omega) | (with_reducible refine Below.setCell ?_ ?_ _; rotate_left; (try simp) <;> omega))))).mono ?_; rintro e w2 ⟨rfl, hb⟩; rw [H3.out]; have hB2 : Below w.heap.size w w2 := Below.trans (by exact (by repeat (first | with_reducible exact Below.refl _ _ | with_reducible assumption | with_reducible refine Below.drew ?_ | with_reducible refine below_drewN ?_ _ | (with_reducible refine Below.alloc ?_ ?_ _; rotate_left; (try simp) <;> omega) | (with_reducible refine Below.setCell ?_ ?_ _; rotate_left; (try simp) <;> omega)))) (hb.mono (by simp; omega)); have hkb : Bk w2 wr.heap.size 3 #[.int .i64 k] := Bk.below (by exact (by repeat (first | with_reducible assumption | with_reducible exact Bk.new _ _ _ | with_reducible refine Bk.drew ?_ | with_reducible refine Bk.drewN ?_ _ | with_reducible refine Bk.alloc ?_ _ | (with_reducible refine Bk.far ?_ ?_ _; rotate_left; (try simp) <;> omega)))) hb (by simp; omega); have hkt : Bk w2 (wr.heap.size + 1) 48 #[.int .i64 wk, .int .i64 nd, .slice aA af.length ac, .slice cA co.length cc] := Bk.below (by simpa using Bk.new (wr.alloc (.cells #[.int .i64 k] 3)) 48 #[.int .i64 wk, .int .i64 nd, .slice aA af.length ac, .slice cA co.length cc]) hb (by simp); have z2 := hkt.cell 2 rfl; have z3 := hkt.cell 3 rfl; have zl := hkt.lt; clear hb) | (go_at_call 72; refine (HOU.out _ hB2 _ (hkb.cell 0 rfl)).mono ?_; rintro e w3 ⟨rfl, hb2⟩; rw [H4.out]; have hB3 : Below w.heap.size w w3 := Below.trans hB2 (hb2.mono hB2.size); have hkt2 := hkt.below hb2 hkt.lt; have y3 := hkt2.cell 3 rfl; have yl := hkt2.lt) | (go_at_call 74; refine (HLO.out _ hB3).mono ?_; rintro e w4 ⟨rfl, hb3⟩; rw [H5.out]))
      go_roundw
      case rel => (first | exact ⟨k + 1, by omega, by go_num, H, hB3.trans (hb3.mono hB3.size)⟩ | ((repeat apply Exists.intro); exact ⟨⟨k + 1, by omega, by go_num, H, hB3.trans (hb3.mono hB3.size)⟩, rfl⟩))
      case measure => simp [intOf]; omega
  · obtain rfl : k = l.length := by omega
    have H := HN.out (fun i hi => hg.out i hi hi)
    clear hg
    go_wp2
    go_ret
    exact int_end H.out.symm hbw
end Go.Proofs.Ytjgnikmnadmheaa
