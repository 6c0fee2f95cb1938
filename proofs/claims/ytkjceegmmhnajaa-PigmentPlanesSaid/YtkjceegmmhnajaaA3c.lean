import Derived.Test.YtkjceegmmhnajaaA3b
import Derived.StillTailTactics
import Derived.IntWalk
import Derived.Deep.RegionHeld3
namespace Go.Proofs.Ytkjceegmmhnajaa
open Go.RowKit

/-- a fraction in lowest terms, den positive -/
def lowest (a b : Int) : Int × Int := (a.tdiv (Int.gcd a b), b.tdiv (Int.gcd a b))
def FracEnd (f : Int × Int) (w : World) (e : Ending) (w' : World) : Prop := e = .returned (.agg #[.int .i64 f.1, .int .i64 f.2]) ∧ Below w.heap.size w w'
theorem frac_end {f : Int × Int} {a b : Int} {w w' : World} (h : f = (a, b)) (hb : Below w.heap.size w w') : FracEnd f w (.returned (.agg #[.int .i64 a, .int .i64 b])) w' := ⟨by rw [h], hb⟩
theorem fraction_any (a b : Int) (w : World) (ha : bigP a) (hb : bigP b) (hb1 : 1 ≤ b) :
    Calls Try.prog 42 #[.int .i64 a, .int .i64 b] w (FracEnd (lowest a b) w) := by
  have hd := gcd_pos_right a b hb1
  have hle : (Int.gcd a b : Int) ≤ 3050000000000000000 := by
    have := Int.gcd_le_natAbs_right a (show b ≠ 0 by omega)
    unfold bigP at hb; omega
  have := fraction_aux a b (Int.gcd a b) w ha hb (by show _ = _; rw [gcdL_two]) hd hle
  refine this.mono fun e w' h => ⟨?_, h.2⟩
  rw [h.1, if_neg (by omega)]; rfl
theorem ratio_end (a b : Int) (w : World) (ha : bigP a) (hb : bigP b) (hb1 : 1 ≤ b) :
    Calls Try.prog 34 #[.int .i64 a, .int .i64 b] w (FracEnd (lowest a b) w) := (ratio_any a b w ha hb hb1).mono fun _ _ h => h

def tv (f : Tn → Int) (l : List Tn) (i : Int) : Int := match l[i.toNat]? with | some t => f t | none => 0
def wsum (f : Tn → Int) (l : List Tn) (ps : List Pt) : Int := ps.foldl (fun s p => s + p.w * tv f l p.t) 0
def wall (ps : List Pt) : Int := ps.foldl (fun s p => s + p.w) 0
theorem wsum_snoc (f : Tn → Int) (l : List Tn) (ps : List Pt) (p : Pt) : wsum f l (ps ++ [p]) = wsum f l ps + p.w * tv f l p.t := by simp [wsum]
theorem wall_snoc (ps : List Pt) (p : Pt) : wall (ps ++ [p]) = wall ps + p.w := by simp [wall]
theorem wsum_take (f : Tn → Int) (l : List Tn) (ps : List Pt) (k : Nat) (hk : k < ps.length) : wsum f l (ps.take (k + 1)) = wsum f l (ps.take k) + ps[k].w * tv f l ps[k].t := by
  rw [List.take_succ_eq_append_getElem hk, wsum_snoc]
theorem wall_take (ps : List Pt) (k : Nat) (hk : k < ps.length) : wall (ps.take (k + 1)) = wall (ps.take k) + ps[k].w := by
  rw [List.take_succ_eq_append_getElem hk, wall_snoc]
theorem tv_in (f : Tn → Int) (l : List Tn) (i : Int) (h : i.toNat < l.length) : tv f l i = f l[i.toNat] := by unfold tv; rw [List.getElem?_eq_getElem h]

def goodP (nt : Nat) (ps : List Pt) : Prop := ∀ k (h : k < ps.length), (0 ≤ ps[k].t ∧ ps[k].t.toNat < nt) ∧ 1 ≤ ps[k].w ∧ ps[k].w ≤ 1000000000000
theorem goodP_of {nt : Nat} {ps : List Pt} (h : recP nt ps) : goodP nt ps := fun k hk => by
  have := h.2.1 k hk
  unfold okPt at this
  omega
theorem mul_bound (w v : Int) (h1 : 1 ≤ w) (h2 : w ≤ 1000000000000) (h3 : 0 ≤ v) (h4 : v ≤ 10000) : 0 ≤ w * v ∧ w * v ≤ 10000000000000000 := by
  refine ⟨Int.mul_nonneg (by omega) h3, ?_⟩
  have := Int.mul_le_mul h2 h4 h3 (by omega)
  omega

set_option maxRecDepth 100000 in
set_option maxHeartbeats 1000000 in
theorem mixed67 (f : Tn → Int) (l : List Tn) (ps : List Pt) (At A : Option Addr) (ct c : Nat) (w : World)  (hlt : Lies w w.heap.size At (tintsC l)) (hl : Lies w w.heap.size A (partsC ps)) (hm : ps.length ≤ 4) (hm2 : l.length ≤ 1000) (hn : 1 ≤ ps.length)
    (hps : goodP l.length ps) (hf : ∀ t ∈ l, 0 ≤ f t ∧ f t ≤ 10000)
    (hp : Hid (∀ t ∈ l, ∀ W : World, Below w.heap.size w W → Calls Try.prog 67 (#[t.agg] ++ #[]) W (IntEnd (f t) W))) :
    Calls Try.prog 62 #[.slice At l.length ct, .agg #[.slice A ps.length c], .func (.func 67) #[] #[]] w (FracEnd (lowest (wsum f l ps) (wall ps)) w) := by
  have HF := Lib.hid hf; clear hf
  have HP := Lib.hid hps; clear hps
  go_enter Try.func62, Try.ntmps62
  go_wp2
  go_loopw [7, 8, 14] (fun s a y wr => ∃ (k : Nat) (p q : Int), k ≤ ps.length ∧ s = .int .i64 p ∧ a = .int .i64 q ∧ y = .int .i64 k ∧ Hid (p = wsum f l (ps.take k)) ∧ Hid (q = wall (ps.take k)) ∧ (0 ≤ p ∧ p ≤ 10000000000000000 * k) ∧ (k ≤ q ∧ q ≤ 1000000000000 * k)
     ∧ Below w.heap.size w wr ∧ (Bk wr w.heap.size 25 #[.slice A ps.length c] ∧ Bk wr (w.heap.size + 1) 29 #[.int .i64 0, .int .i64 0])) (fun _ _ y _ => ps.length - (intOf y).toNat)
  case atStart => exact ⟨0, 0, 0, by omega, rfl, rfl, rfl, rfl, rfl, by omega, by omega, (by repeat (first | with_reducible exact Below.refl _ _ | with_reducible assumption | with_reducible refine Below.drew ?_ | with_reducible refine below_drewN ?_ _ | (with_reducible refine Below.alloc ?_ ?_ _; rotate_left; (try simp) <;> omega) | (with_reducible refine Below.setCell ?_ ?_ _; rotate_left; (try simp) <;> omega))), (Bk.new _ _ _).alloc _, by simpa using Bk.new (w.alloc (.cells #[.slice A ps.length c] 25)) 29 #[.int .i64 0, .int .i64 0]⟩
  case round =>
    obtain ⟨k, p, q, hk, rfl, rfl, rfl, hp1, hq1, ⟨hpb, hpb2⟩, ⟨hqb, hqb2⟩, hbw, hbk, hbr⟩ := hrel
    have hbs := hbw.size
    have hbl := hbk.lt
    have hbl2 := hbr.lt
    have x0 := hbk.cell 0 rfl
    by_cases hlk : k < ps.length
    · obtain ⟨ad, rfl, hadb, c0, c1⟩ := part_at (hl.below hbw (Nat.le_refl _)) hlk
      obtain ⟨⟨ht0, htn⟩, hw1, hw2⟩ := HP.out k hlk
      obtain ⟨at_, rfl, hatb, d0, d1, d2, d3, d4⟩ := tint_at (hlt.below hbw (Nat.le_refl _)) htn
      have htI : ps[k].t < (l.length : Int) := by omega
      have hfb := HF.out _ (List.getElem_mem htn)
      have hmb := mul_bound _ _ hw1 hw2 hfb.1 hfb.2
      have HC := Lib.hid (hp.out _ (List.getElem_mem htn))
      have H1 : Hid (p + ps[k].w * f l[ps[k].t.toNat] = wsum f l (ps.take (k + 1))) := by
        show _ = _
        rw [wsum_take f l ps k hlk, tv_in f l _ htn, hp1.out]
      have H2 : Hid (q + ps[k].w = wall (ps.take (k + 1))) := by
        show _ = _
        rw [wall_take ps k hlk, hq1.out]
      have hadb' : (ad.add (k * 2)).block < wr.heap.size := by rw [add_block]; omega
      have hatb' : (at_.add (ps[k].t.toNat * 5)).block < wr.heap.size := by rw [add_block]; omega
      have HLT := Lib.hid hlt
      clear hl hlt HF HP hp1 hq1
      generalize hfv : f l[ps[k].t.toNat] = fv at *
      have HFV := Lib.hid hfv; clear hfv
      obtain ⟨hm1, hm2'⟩ := hmb
      obtain ⟨hv1, hv2⟩ := hfb
      have W1 : IntKind.i64.wrap (ps[k].w * fv) = ps[k].w * fv := IntWalk.i64_in _ (by omega)
      have W2 : IntKind.i64.wrap (p + ps[k].w * fv) = p + ps[k].w * fv := IntWalk.i64_in _ (by omega)
      have WW1 := Lib.hid W1
      have WW2 := Lib.hid W2
      clear W1 W2
      go_wp2
      go_region_held3 (fun w' => w'.cell? ⟨wr.heap.size, 0, none⟩ = some (.int .i64 ps[k].t) ∧ w'.cell? ⟨wr.heap.size, 1, none⟩ = some (.int .i64 ps[k].w) ∧ w'.cell? (at_.add (ps[k].t.toNat * 5)) = some (.string l[ps[k].t.toNat].name) ∧ w'.cell? ⟨(at_.add (ps[k].t.toNat * 5)).block, (at_.add (ps[k].t.toNat * 5)).off + 1, none⟩ = some (.int .i64 l[ps[k].t.toNat].a) ∧ w'.cell? ⟨(at_.add (ps[k].t.toNat * 5)).block, (at_.add (ps[k].t.toNat * 5)).off + 2, none⟩ = some (.int .i64 l[ps[k].t.toNat].b) ∧ w'.cell? ⟨(at_.add (ps[k].t.toNat * 5)).block, (at_.add (ps[k].t.toNat * 5)).off + 3, none⟩ = some (.int .i64 l[ps[k].t.toNat].c) ∧ w'.cell? ⟨(at_.add (ps[k].t.toNat * 5)).block, (at_.add (ps[k].t.toNat * 5)).off + 4, none⟩ = some (.int .i64 l[ps[k].t.toNat].price))
        (first | go_keep | (refine ⟨?_, ?_, ?_, ?_, ?_, ?_, ?_⟩ <;> first | assumption | go_keep))
        (first | (go_at_call 67; refine (HC.out _ ?_).mono ?_; (exact (by repeat (first | with_reducible exact Below.refl _ _ | with_reducible assumption | with_reducible refine Below.drew ?_ | with_reducible refine below_drewN ?_ _ | (with_reducible refine Below.alloc ?_ ?_ _; rotate_left; (try simp) <;> omega) | (with_reducible refine Below.setCell ?_ ?_ _; rotate_left; (try simp) <;> omega)))); rintro e w1 ⟨rfl, hb⟩; have hbw1 : Below w.heap.size w w1 := (Below.trans (by repeat (first | with_reducible exact Below.refl _ _ | with_reducible assumption | with_reducible refine Below.drew ?_ | with_reducible refine below_drewN ?_ _ | (with_reducible refine Below.alloc ?_ ?_ _; rotate_left; (try simp) <;> omega) | (with_reducible refine Below.setCell ?_ ?_ _; rotate_left; (try simp) <;> omega))) (hb.mono (by simp; omega))); obtain ⟨at2, e2, _, q0, q1, q2, q3, q4⟩ := tint_at (HLT.out.below hbw1 (Nat.le_refl _)) htn; cases e2; obtain ⟨hc, hf⟩ := bcell hb; have hz := hb.size; try simp at hz))
      rw [WW1.out, WW2.out]
      go_wp2
      go_roundw
      case rel =>
        exact ⟨k + 1, _, _, by omega, rfl, rfl, by go_num, H1, H2, by omega, by omega, hbw1, ((hbk.alloc _).drew).below hb (by simp; omega), ((hbr.alloc _).drew).below hb (by simp; omega)⟩
      case measure => simp [intOf]; omega
    · obtain rfl : k = ps.length := by omega
      rw [List.take_length] at hp1 hq1
      have f0 := hbr.fro 0
      have f1 := hbr.fro 1
      have y0 := hbr.cell 0 rfl
      have y1 := hbr.cell 1 rfl
      have HR := Lib.hid (fun W => fraction_any p q W (by unfold bigP; omega) (by unfold bigP; omega) (by omega))
      have HE : Hid (lowest (wsum f l ps) (wall ps) = lowest p q) := by show _ = _; rw [hp1.out, hq1.out]
      generalize lowest p q = fr at *
      obtain ⟨fa, fb⟩ := fr
      go_wp2_with (go_at_call 42; refine (HR.out _).mono ?_; rintro e w1 ⟨rfl, hb⟩; obtain ⟨hc, hf⟩ := bcell hb; have hz := hb.size; try simp at hz)
      refine bodyPost_ret (v := .agg #[.int .i64 fa, .int .i64 fb]) ?_ rfl (frac_end HE.out ?_)
      · simp [results, Try.results62, go_sem, hc, hbl2, y0, y1]
      · have hbw1 : Below w.heap.size w w1 := hbw.trans (hb.mono (by omega))
        exact (by repeat (first | with_reducible exact Below.refl _ _ | with_reducible assumption | with_reducible refine Below.drew ?_ | with_reducible refine below_drewN ?_ _ | (with_reducible refine Below.alloc ?_ ?_ _; rotate_left; (try simp) <;> omega) | (with_reducible refine Below.setCell ?_ ?_ _; rotate_left; (try simp) <;> omega)))

set_option maxRecDepth 100000 in
set_option maxHeartbeats 1000000 in
theorem mixed63 (f : Tn → Int) (l : List Tn) (ps : List Pt) (At A : Option Addr) (ct c : Nat) (w : World) (pc : Addr) (hlt : Lies w w.heap.size At (tintsC l)) (hl : Lies w w.heap.size A (partsC ps)) (hm : ps.length ≤ 4) (hm2 : l.length ≤ 1000) (hn : 1 ≤ ps.length)
    (hps : goodP l.length ps) (hf : ∀ t ∈ l, 0 ≤ f t ∧ f t ≤ 10000)
    (hp : Hid (∀ t ∈ l, ∀ W : World, Below w.heap.size w W → Calls Try.prog 63 (#[t.agg] ++ #[.pointer (some pc)]) W (IntEnd (f t) W))) :
    Calls Try.prog 62 #[.slice At l.length ct, .agg #[.slice A ps.length c], .func (.func 63) #[] #[.pointer (some pc)]] w (FracEnd (lowest (wsum f l ps) (wall ps)) w) := by
  have HF := Lib.hid hf; clear hf
  have HP := Lib.hid hps; clear hps
  go_enter Try.func62, Try.ntmps62
  go_wp2
  go_loopw [7, 8, 14] (fun s a y wr => ∃ (k : Nat) (p q : Int), k ≤ ps.length ∧ s = .int .i64 p ∧ a = .int .i64 q ∧ y = .int .i64 k ∧ Hid (p = wsum f l (ps.take k)) ∧ Hid (q = wall (ps.take k)) ∧ (0 ≤ p ∧ p ≤ 10000000000000000 * k) ∧ (k ≤ q ∧ q ≤ 1000000000000 * k)
     ∧ Below w.heap.size w wr ∧ (Bk wr w.heap.size 25 #[.slice A ps.length c] ∧ Bk wr (w.heap.size + 1) 29 #[.int .i64 0, .int .i64 0])) (fun _ _ y _ => ps.length - (intOf y).toNat)
  case atStart => exact ⟨0, 0, 0, by omega, rfl, rfl, rfl, rfl, rfl, by omega, by omega, (by repeat (first | with_reducible exact Below.refl _ _ | with_reducible assumption | with_reducible refine Below.drew ?_ | with_reducible refine below_drewN ?_ _ | (with_reducible refine Below.alloc ?_ ?_ _; rotate_left; (try simp) <;> omega) | (with_reducible refine Below.setCell ?_ ?_ _; rotate_left; (try simp) <;> omega))), (Bk.new _ _ _).alloc _, by simpa using Bk.new (w.alloc (.cells #[.slice A ps.length c] 25)) 29 #[.int .i64 0, .int .i64 0]⟩
  case round =>
    obtain ⟨k, p, q, hk, rfl, rfl, rfl, hp1, hq1, ⟨hpb, hpb2⟩, ⟨hqb, hqb2⟩, hbw, hbk, hbr⟩ := hrel
    have hbs := hbw.size
    have hbl := hbk.lt
    have hbl2 := hbr.lt
    have x0 := hbk.cell 0 rfl
    by_cases hlk : k < ps.length
    · obtain ⟨ad, rfl, hadb, c0, c1⟩ := part_at (hl.below hbw (Nat.le_refl _)) hlk
      obtain ⟨⟨ht0, htn⟩, hw1, hw2⟩ := HP.out k hlk
      obtain ⟨at_, rfl, hatb, d0, d1, d2, d3, d4⟩ := tint_at (hlt.below hbw (Nat.le_refl _)) htn
      have htI : ps[k].t < (l.length : Int) := by omega
      have hfb := HF.out _ (List.getElem_mem htn)
      have hmb := mul_bound _ _ hw1 hw2 hfb.1 hfb.2
      have HC := Lib.hid (hp.out _ (List.getElem_mem htn))
      have H1 : Hid (p + ps[k].w * f l[ps[k].t.toNat] = wsum f l (ps.take (k + 1))) := by
        show _ = _
        rw [wsum_take f l ps k hlk, tv_in f l _ htn, hp1.out]
      have H2 : Hid (q + ps[k].w = wall (ps.take (k + 1))) := by
        show _ = _
        rw [wall_take ps k hlk, hq1.out]
      have hadb' : (ad.add (k * 2)).block < wr.heap.size := by rw [add_block]; omega
      have hatb' : (at_.add (ps[k].t.toNat * 5)).block < wr.heap.size := by rw [add_block]; omega
      have HLT := Lib.hid hlt
      clear hl hlt HF HP hp1 hq1
      generalize hfv : f l[ps[k].t.toNat] = fv at *
      have HFV := Lib.hid hfv; clear hfv
      obtain ⟨hm1, hm2'⟩ := hmb
      obtain ⟨hv1, hv2⟩ := hfb
      have W1 : IntKind.i64.wrap (ps[k].w * fv) = ps[k].w * fv := IntWalk.i64_in _ (by omega)
      have W2 : IntKind.i64.wrap (p + ps[k].w * fv) = p + ps[k].w * fv := IntWalk.i64_in _ (by omega)
      have WW1 := Lib.hid W1
      have WW2 := Lib.hid W2
      clear W1 W2
      go_wp2
      go_region_held3 (fun w' => w'.cell? ⟨wr.heap.size, 0, none⟩ = some (.int .i64 ps[k].t) ∧ w'.cell? ⟨wr.heap.size, 1, none⟩ = some (.int .i64 ps[k].w) ∧ w'.cell? (at_.add (ps[k].t.toNat * 5)) = some (.string l[ps[k].t.toNat].name) ∧ w'.cell? ⟨(at_.add (ps[k].t.toNat * 5)).block, (at_.add (ps[k].t.toNat * 5)).off + 1, none⟩ = some (.int .i64 l[ps[k].t.toNat].a) ∧ w'.cell? ⟨(at_.add (ps[k].t.toNat * 5)).block, (at_.add (ps[k].t.toNat * 5)).off + 2, none⟩ = some (.int .i64 l[ps[k].t.toNat].b) ∧ w'.cell? ⟨(at_.add (ps[k].t.toNat * 5)).block, (at_.add (ps[k].t.toNat * 5)).off + 3, none⟩ = some (.int .i64 l[ps[k].t.toNat].c) ∧ w'.cell? ⟨(at_.add (ps[k].t.toNat * 5)).block, (at_.add (ps[k].t.toNat * 5)).off + 4, none⟩ = some (.int .i64 l[ps[k].t.toNat].price))
        (first | go_keep | (refine ⟨?_, ?_, ?_, ?_, ?_, ?_, ?_⟩ <;> first | assumption | go_keep))
        (first | (go_at_call 63; refine (HC.out _ ?_).mono ?_; (exact (by repeat (first | with_reducible exact Below.refl _ _ | with_reducible assumption | with_reducible refine Below.drew ?_ | with_reducible refine below_drewN ?_ _ | (with_reducible refine Below.alloc ?_ ?_ _; rotate_left; (try simp) <;> omega) | (with_reducible refine Below.setCell ?_ ?_ _; rotate_left; (try simp) <;> omega)))); rintro e w1 ⟨rfl, hb⟩; have hbw1 : Below w.heap.size w w1 := (Below.trans (by repeat (first | with_reducible exact Below.refl _ _ | with_reducible assumption | with_reducible refine Below.drew ?_ | with_reducible refine below_drewN ?_ _ | (with_reducible refine Below.alloc ?_ ?_ _; rotate_left; (try simp) <;> omega) | (with_reducible refine Below.setCell ?_ ?_ _; rotate_left; (try simp) <;> omega))) (hb.mono (by simp; omega))); obtain ⟨at2, e2, _, q0, q1, q2, q3, q4⟩ := tint_at (HLT.out.below hbw1 (Nat.le_refl _)) htn; cases e2; obtain ⟨hc, hf⟩ := bcell hb; have hz := hb.size; try simp at hz))
      rw [WW1.out, WW2.out]
      go_wp2
      go_roundw
      case rel =>
        exact ⟨k + 1, _, _, by omega, rfl, rfl, by go_num, H1, H2, by omega, by omega, hbw1, ((hbk.alloc _).drew).below hb (by simp; omega), ((hbr.alloc _).drew).below hb (by simp; omega)⟩
      case measure => simp [intOf]; omega
    · obtain rfl : k = ps.length := by omega
      rw [List.take_length] at hp1 hq1
      have f0 := hbr.fro 0
      have f1 := hbr.fro 1
      have y0 := hbr.cell 0 rfl
      have y1 := hbr.cell 1 rfl
      have HR := Lib.hid (fun W => fraction_any p q W (by unfold bigP; omega) (by unfold bigP; omega) (by omega))
      have HE : Hid (lowest (wsum f l ps) (wall ps) = lowest p q) := by show _ = _; rw [hp1.out, hq1.out]
      generalize lowest p q = fr at *
      obtain ⟨fa, fb⟩ := fr
      go_wp2_with (go_at_call 42; refine (HR.out _).mono ?_; rintro e w1 ⟨rfl, hb⟩; obtain ⟨hc, hf⟩ := bcell hb; have hz := hb.size; try simp at hz)
      refine bodyPost_ret (v := .agg #[.int .i64 fa, .int .i64 fb]) ?_ rfl (frac_end HE.out ?_)
      · simp [results, Try.results62, go_sem, hc, hbl2, y0, y1]
      · have hbw1 : Below w.heap.size w w1 := hbw.trans (hb.mono (by omega))
        exact (by repeat (first | with_reducible exact Below.refl _ _ | with_reducible assumption | with_reducible refine Below.drew ?_ | with_reducible refine below_drewN ?_ _ | (with_reducible refine Below.alloc ?_ ?_ _; rotate_left; (try simp) <;> omega) | (with_reducible refine Below.setCell ?_ ?_ _; rotate_left; (try simp) <;> omega)))

end Go.Proofs.Ytkjceegmmhnajaa
