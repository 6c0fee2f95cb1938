/- Gives of the reference: a recipe's sums are those of a wanted shade. -/
import Derived.Test.YtkjceegmmhnajaaD1
namespace Go.Proofs.Ytkjceegmmhnajaa
open Go.RowKit

theorem want_mul {v n : Int} (h : 0 ≤ v ∧ v ≤ 1000) (k : 1 ≤ n ∧ n ≤ 4000000000000) : 0 ≤ v * n ∧ v * n ≤ 4000000000000000 := by
  refine ⟨Int.mul_nonneg h.1 (by omega), ?_⟩
  have := Int.mul_le_mul h.2 k.2 (by omega) (by omega)
  omega
set_option maxHeartbeats 1000000 in
theorem rgives_any (l : List Tn) (ps : List Pt) (x y z : Int) (At A : Option Addr) (ct c : Nat) (w : World) (hlt : Lies w w.heap.size At (tintsC l)) (hl : Lies w w.heap.size A (partsC ps)) (hm : ps.length ≤ 4) (hm2 : l.length ≤ 1000)
    (hps : goodP l.length ps) (hf : ∀ j, ∀ t ∈ l, 0 ≤ sel j t ∧ sel j t ≤ 10000) (hpr : ∀ t ∈ l, 0 ≤ t.price ∧ t.price ≤ 10000) (hw : 1 ≤ wall ps ∧ wall ps ≤ 4000000000000) (hx : shIn x y z) :
    Calls Try.prog 54 #[.slice At l.length ct, .agg #[.slice A ps.length c], .agg #[.int .i64 x, .int .i64 y, .int .i64 z]] w (ShEnd (rgiveB l ps x y z) w) := by
  have HS := Lib.hid (fun W (hb : Below w.heap.size w W) => sums_any l ps At A ct c W ((hlt.below hb (Nat.le_refl _)).more hb.size) ((hl.below hb (Nat.le_refl _)).more hb.size) hm hm2 hps hf hpr)
  obtain ⟨V, h1, h2, h3⟩ : ∃ V : Nat → Int, V 0 = x ∧ V 1 = y ∧ V 2 = z := ⟨fun k => if k = 0 then x else if k = 1 then y else z, rfl, rfl, rfl⟩
  subst h1; subst h2; subst h3
  have HP : Hid (∀ k, k < 3 → 0 ≤ V k * wall ps ∧ V k * wall ps ≤ 4000000000000000) := fun k hk => want_mul (by
    match k, hk with
    | 0, _ => exact hx.1
    | 1, _ => exact hx.2.1
    | 2, _ => exact hx.2.2) hw
  obtain ⟨S, hS⟩ : ∃ S : Nat → Int, S = fun j => wsum (sel j) l ps := ⟨_, rfl⟩
  rw [← hS] at HS
  have HG : Hid (rgiveB l ps (V 0) (V 1) (V 2) = (decide (S 0 = V 0 * wall ps) && (decide (S 1 = V 1 * wall ps) && decide (S 2 = V 2 * wall ps)))) := by rw [hS]; rfl
  generalize rgiveB l ps (V 0) (V 1) (V 2) = r at *
  generalize wsum Tn.price l ps = pw at *
  generalize wall ps = n at *
  clear hlt hl hps hf hpr hS hx hw
  go_enter Try.func54, Try.ntmps54
  go_wp2_with (go_at_call 33; refine (HS.out _ (by repeat (first | with_reducible exact Below.refl _ _ | with_reducible assumption | with_reducible refine Below.drew ?_ | with_reducible refine below_drewN ?_ _ | (with_reducible refine Below.alloc ?_ ?_ _; rotate_left; (try simp) <;> omega) | (with_reducible refine Below.setCell ?_ ?_ _; rotate_left; (try simp) <;> omega)))).mono ?_; rintro e w1 ⟨rfl, hb⟩; have hB : Below w.heap.size w w1 := (Below.trans (by repeat (first | with_reducible exact Below.refl _ _ | with_reducible assumption | with_reducible refine Below.drew ?_ | with_reducible refine below_drewN ?_ _ | (with_reducible refine Below.alloc ?_ ?_ _; rotate_left; (try simp) <;> omega) | (with_reducible refine Below.setCell ?_ ?_ _; rotate_left; (try simp) <;> omega))) (hb.mono (by first | omega | (simp; omega) | simp))); have k0 := (Bk.new (w.alloc (.cells #[.slice A ps.length c] 25)) 37 #[.int .i64 (V 0), .int .i64 (V 1), .int .i64 (V 2)]).below hb (by simp); rw [World.size_alloc] at k0; have l0 := k0.lt)
  go_loopw [10] (fun y wr => ∃ k : Nat, k ≤ 3 ∧ y = .int .i64 k ∧ Hid (∀ j, j < k → S j = V j * n) ∧ Below w.heap.size w wr ∧ (Bk wr (w.heap.size + 1) 37 #[.int .i64 (V 0), .int .i64 (V 1), .int .i64 (V 2)] ∧ Bk wr w1.heap.size 37 #[.int .i64 (S 0), .int .i64 (S 1), .int .i64 (S 2)])) (fun y _ => 3 - (intOf y).toNat)
  case atStart => exact ⟨0, by omega, rfl, fun j hj => absurd hj (by omega), (by repeat (first | with_reducible exact Below.refl _ _ | with_reducible assumption | with_reducible refine Below.drew ?_ | with_reducible refine below_drewN ?_ _ | (with_reducible refine Below.alloc ?_ ?_ _; rotate_left; (try simp) <;> omega) | (with_reducible refine Below.setCell ?_ ?_ _; rotate_left; (try simp) <;> omega))), k0.alloc _, Bk.new _ _ _⟩
  case round =>
    clear hb hB k0 l0
    obtain ⟨k, hk, rfl, hg, hbw, hv, hsx⟩ := hrel
    have g1 := hv.lt
    have g2 := hsx.lt
    by_cases hlt : k < 3
    · have c1 : wr.cell? ⟨w.heap.size + 1, k, none⟩ = some (.int .i64 (V k)) := hv.cell k (by
        match k, hlt with
        | 0, _ => rfl
        | 1, _ => rfl
        | 2, _ => rfl)
      have c2 : wr.cell? ⟨w1.heap.size, k, none⟩ = some (.int .i64 (S k)) := hsx.cell k (by
        match k, hlt with
        | 0, _ => rfl
        | 1, _ => rfl
        | 2, _ => rfl)
      have hbd := HP.out k hlt
      have hlt' : (k : Int) < 3 := by omega
      have hkn : 0 ≤ (k : Int) := by omega
      have W1 : Hid (IntKind.i64.wrap (V k * n) = V k * n) := IntWalk.i64_in _ (by omega)
      obtain ⟨b1, b2⟩ := hbd
      by_cases he : S k = V k * n
      · have hbe : (S k != V k * n) = false := by rw [he]; simp
        have H : Hid (∀ j, j < k + 1 → S j = V j * n) := fun j h => by
          by_cases e : j = k
          · subst e; exact he
          · exact hg.out j (by omega)
        have HE := Lib.hid he; clear he
        go_wp2
        go_quiet (fail)
        try rw [W1.out]
        go_wp2
        go_roundw
        case rel => exact ⟨k + 1, by omega, by go_num, H, (by repeat (first | with_reducible exact Below.refl _ _ | with_reducible assumption | with_reducible refine Below.drew ?_ | with_reducible refine below_drewN ?_ _ | (with_reducible refine Below.alloc ?_ ?_ _; rotate_left; (try simp) <;> omega) | (with_reducible refine Below.setCell ?_ ?_ _; rotate_left; (try simp) <;> omega))), (by repeat (first | with_reducible assumption | with_reducible exact Bk.new _ _ _ | with_reducible refine Bk.drew ?_ | with_reducible refine Bk.drewN ?_ _ | with_reducible refine Bk.alloc ?_ _ | (with_reducible refine Bk.far ?_ ?_ _; rotate_left; (try simp) <;> omega))), (by repeat (first | with_reducible assumption | with_reducible exact Bk.new _ _ _ | with_reducible refine Bk.drew ?_ | with_reducible refine Bk.drewN ?_ _ | with_reducible refine Bk.alloc ?_ _ | (with_reducible refine Bk.far ?_ ?_ _; rotate_left; (try simp) <;> omega)))⟩
        case measure => simp [intOf]; omega
      · have hbe : (S k != V k * n) = true := by rw [bne_iff_ne]; exact he
        have H : Hid (r = false) := by
          show _ = _
          rw [HG.out]
          match k, hlt with
          | 0, _ => simp [he]
          | 1, _ => simp [he]
          | 2, _ => simp [he]
        have HE := Lib.hid he; clear he
        go_wp2
        go_quiet (fail)
        try rw [W1.out]
        go_wp2
        go_ret
        exact sh_ret H.out.symm (by repeat (first | with_reducible exact Below.refl _ _ | with_reducible assumption | with_reducible refine Below.drew ?_ | with_reducible refine below_drewN ?_ _ | (with_reducible refine Below.alloc ?_ ?_ _; rotate_left; (try simp) <;> omega) | (with_reducible refine Below.setCell ?_ ?_ _; rotate_left; (try simp) <;> omega)))
    · obtain rfl : k = 3 := by omega
      have H : Hid (r = true) := by show _ = _; rw [HG.out, hg.out 0 (by omega), hg.out 1 (by omega), hg.out 2 (by omega)]; simp
      go_wp2
      go_ret
      exact sh_ret H.out.symm (by repeat (first | with_reducible exact Below.refl _ _ | with_reducible assumption | with_reducible refine Below.drew ?_ | with_reducible refine below_drewN ?_ _ | (with_reducible refine Below.alloc ?_ ?_ _; rotate_left; (try simp) <;> omega) | (with_reducible refine Below.setCell ?_ ?_ _; rotate_left; (try simp) <;> omega)))
end Go.Proofs.Ytkjceegmmhnajaa
