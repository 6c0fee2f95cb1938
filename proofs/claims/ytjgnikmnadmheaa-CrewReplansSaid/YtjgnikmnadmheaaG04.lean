/- Minutes, batches, skilled masters of a right yard. -/
import Derived.Deep.MidRow
import Derived.Laws.AppendOwn
import Derived.Deep.AppendLies
import Derived.Test.YtjgnikmnadmheaaG03

namespace Go.Proofs.Ytjgnikmnadmheaa
open Go.RowKit

theorem info29 : (Try.prog.info? 29).map (·.size) = some 28 := by kernel_rfl
/-- a block as a range -/
theorem Bk.range {w : World} {b : Nat} {t : TypeId} {C : Array Value} (h : Bk w b t C) : w.rangeAt b 0 C.toList := fun j v hv => by
  rw [Nat.zero_add]
  exact h.cell j (by simpa using hv)
theorem YardAt.len {w : World} {B : Nat} {C : Array Value} {Y : Yd} (h : YardAt w B C Y) : C.toList.length = 28 := by rw [Array.length_toList]; exact h.size

/-- the load of a row whose guard lets it be carried out -/
theorem wpList_load_guard {P : Program} {ops : Array Oper} {rest : List Oper} {op : Oper} {a : Act} {w : World} {Q : Exit → Act → World → Prop} (hgd : Region.wanted op (yielded ops a.tmps) = true) (ty : TypeId) (x : Operand) (ho : op.op = .load ty x)
    (b o : Nat) (hx : a.eval x = .pointer (some ⟨b, o, none⟩)) (cs : List Value) (d : TypeDesc) (hc : w.rangeAt b o cs)
    (hu : P.underlying ty = some d) (hd : d.isRow = true) (hi : (P.info? ty).map (·.size) = some cs.length)
    (h : wpList P ops Q rest (a.put op.dst (.agg cs.toArray)) w) : wpList P ops Q (op :: rest) a w := by
  unfold wpList
  rw [if_pos hgd]
  exact .inl (wp_load_mid ty x ho b o hx cs d hc hu hd hi h)

def minOf (Y : Yd) (d : Int) : Int := if openB Y d = true then min (Y.se (2 * seaI d)) (Y.se (2 * seaI d + 1)) else 0
set_option maxRecDepth 100000 in
set_option maxHeartbeats 400000 in
theorem minutes_any (C : Array Value) (Y : Yd) (d : Int) (w : World) (hY : YardAt w w.heap.size C Y) (hv : Valid Y) : Calls Try.prog 107 #[.agg C, .int .i64 d] w (IntEnd (minOf Y d) w) := by
  have HO := Lib.hid (fun W (hb : Below w.heap.size w W) => open_any C Y d W ((hY.below hb (Nat.le_refl _)).more hb.size) hv)
  have HS : Hid (∀ W, Below w.heap.size w W → 0 ≤ d → d ≤ 100000 → Calls Try.prog 105 #[.agg C, .int .i64 d] W (PairEnd (Y.se (2 * seaI d)) (Y.se (2 * seaI d + 1)) W)) := fun W hb h0 h1 => season_any C Y d W ((hY.below hb (Nat.le_refl _)).more hb.size) h0 h1
  have HLOAD : Hid (∀ W : World, Bk W w.heap.size 29 C → W.rangeAt w.heap.size 0 C.toList) := fun W hb => hb.range
  have HC28 := Lib.hid hY.len
  have HM : Hid (minOf Y d = if openB Y d = true then min (Y.se (2 * seaI d)) (Y.se (2 * seaI d + 1)) else 0) := rfl
  have HD : Hid (openB Y d = true → 0 ≤ d ∧ d ≤ 100000) := fun h => by unfold openB at h; rw [Bool.and_eq_true] at h; exact inB_iff.1 h.1
  clear hY hv
  generalize openB Y d = q at *
  generalize Y.se (2 * seaI d) = s1 at *
  generalize Y.se (2 * seaI d + 1) = s2 at *
  generalize minOf Y d = m at *
  cases q with
  | false =>
    have HE : Hid (m = 0) := by show _ = _; rw [HM.out]; rfl
    clear HM HD HS
    go_enter Try.func107, Try.ntmps107
    go_wp2_with (first | (refine wpList_load_mid (P := Try.prog) rfl 29 (.tmp 2) rfl w.heap.size 0 rfl C.toList _ (HLOAD.out _ (by exact (by repeat (first | with_reducible assumption | with_reducible exact Bk.new _ _ _ | with_reducible refine Bk.drew ?_ | with_reducible refine Bk.drewN ?_ _ | with_reducible refine Bk.alloc ?_ _ | (with_reducible refine Bk.far ?_ ?_ _; rotate_left; (try simp) <;> omega))))) Try.underlying29 rfl (by rw [HC28.out]; exact info29) ?_) | (go_at_call 106; refine (HO.out _ (by exact (by repeat (first | with_reducible exact Below.refl _ _ | with_reducible assumption | with_reducible refine Below.drew ?_ | with_reducible refine below_drewN ?_ _ | (with_reducible refine Below.alloc ?_ ?_ _; rotate_left; (try simp) <;> omega) | (with_reducible refine Below.setCell ?_ ?_ _; rotate_left; (try simp) <;> omega))))).mono ?_; rintro e w1 ⟨rfl, hb⟩; have hB1 : Below w.heap.size w w1 := Below.trans (by exact (by repeat (first | with_reducible exact Below.refl _ _ | with_reducible assumption | with_reducible refine Below.drew ?_ | with_reducible refine below_drewN ?_ _ | (with_reducible refine Below.alloc ?_ ?_ _; rotate_left; (try simp) <;> omega) | (with_reducible refine Below.setCell ?_ ?_ _; rotate_left; (try simp) <;> omega)))) (hb.mono (by simp))))
    go_ret
    exact int_end HE.out.symm hB1
  | true =>
    have HE : Hid (m = min s1 s2) := by show _ = _; rw [HM.out]; rfl
    obtain ⟨d0, d1⟩ := HD.out rfl
    have HS' := Lib.hid (fun W (hb : Below w.heap.size w W) => HS.out W hb d0 d1)
    clear HM HD HS
    go_enter Try.func107, Try.ntmps107
    go_upto_region 3 with (first | (refine wpList_load_mid (P := Try.prog) rfl 29 (.tmp 2) rfl w.heap.size 0 rfl C.toList _ (HLOAD.out _ (by exact (by repeat (first | with_reducible assumption | with_reducible exact Bk.new _ _ _ | with_reducible refine Bk.drew ?_ | with_reducible refine Bk.drewN ?_ _ | with_reducible refine Bk.alloc ?_ _ | (with_reducible refine Bk.far ?_ ?_ _; rotate_left; (try simp) <;> omega))))) Try.underlying29 rfl (by rw [HC28.out]; exact info29) ?_) | (go_at_call 106; refine (HO.out _ (by exact (by repeat (first | with_reducible exact Below.refl _ _ | with_reducible assumption | with_reducible refine Below.drew ?_ | with_reducible refine below_drewN ?_ _ | (with_reducible refine Below.alloc ?_ ?_ _; rotate_left; (try simp) <;> omega) | (with_reducible refine Below.setCell ?_ ?_ _; rotate_left; (try simp) <;> omega))))).mono ?_; rintro e w1 ⟨rfl, hb⟩; have hB1 : Below w.heap.size w w1 := Below.trans (by exact (by repeat (first | with_reducible exact Below.refl _ _ | with_reducible assumption | with_reducible refine Below.drew ?_ | with_reducible refine below_drewN ?_ _ | (with_reducible refine Below.alloc ?_ ?_ _; rotate_left; (try simp) <;> omega) | (with_reducible refine Below.setCell ?_ ?_ _; rotate_left; (try simp) <;> omega)))) (hb.mono (by simp)); have hK1 : Bk w1 w.heap.size 29 C := (Bk.new w 29 C).below hb (by simp); clear hb))
    have hz := hB1.size
    go_wp2_with (first | (refine wpList_load_mid (P := Try.prog) rfl 29 (.tmp 2) rfl w.heap.size 0 rfl C.toList _ (HLOAD.out _ hK1) Try.underlying29 rfl (by rw [HC28.out]; exact info29) ?_) | (go_at_call 105; refine (HS'.out _ hB1).mono ?_; rintro e w2 ⟨rfl, hb2⟩; have hB2 : Below w.heap.size w w2 := Below.trans hB1 (hb2.mono hB1.size); have hz2 := hB2.size))
    all_goals
      go_ret
      exact int_end (by rw [HE.out]) (by exact (by repeat (first | with_reducible exact Below.refl _ _ | with_reducible assumption | with_reducible refine Below.drew ?_ | with_reducible refine below_drewN ?_ _ | (with_reducible refine Below.alloc ?_ ?_ _; rotate_left; (try simp) <;> omega) | (with_reducible refine Below.setCell ?_ ?_ _; rotate_left; (try simp) <;> omega))))

def agedB (p : Pit) (d : Int) : Bool := decide (p.s + p.a ≤ d)
set_option maxHeartbeats 400000 in
theorem aged_any (p : Pit) (d : Int) (w : World) (h0 : 0 ≤ p.s ∧ p.s ≤ 100000) (h1 : 0 ≤ p.a ∧ p.a ≤ 10000) : Calls Try.prog 99 #[p.agg, .int .i64 d] w (ShEnd (agedB p d) w) := by
  have HA : Hid (agedB p d = decide (p.s + p.a ≤ d)) := rfl
  obtain ⟨s, a, b⟩ := p
  dsimp only at *
  obtain ⟨h2, h3⟩ := h0
  obtain ⟨h4, h5⟩ := h1
  go_enter Try.func99, Try.ntmps99
  go_wp2
  go_ret
  exact sh_ret HA.out.symm (by exact (by repeat (first | with_reducible exact Below.refl _ _ | with_reducible assumption | with_reducible refine Below.drew ?_ | with_reducible refine below_drewN ?_ _ | (with_reducible refine Below.alloc ?_ ?_ _; rotate_left; (try simp) <;> omega) | (with_reducible refine Below.setCell ?_ ?_ _; rotate_left; (try simp) <;> omega))))

def batAt (d : Int) (p : Pit) : Int := if agedB p d = true then p.b else 0
def batOf (l : List Pit) (d : Int) : Int := (l.map (batAt d)).sum
theorem batOf_take (l : List Pit) (d : Int) (k : Nat) (hk : k < l.length) : batOf (l.take (k + 1)) d = batOf (l.take k) d + batAt d l[k] := by
  unfold batOf
  rw [List.take_succ_eq_append_getElem hk]; simp only [List.map_append, List.sum_append, List.map_cons, List.map_nil, List.sum_cons, List.sum_nil]; omega
theorem batAt_bd {p : Pit} (d : Int) (h : 1 ≤ p.b ∧ p.b ≤ 100) : 0 ≤ batAt d p ∧ batAt d p ≤ 100 := by unfold batAt; split <;> omega
set_option maxHeartbeats 400000 in
theorem batches_any (C : Array Value) (Y : Yd) (d : Int) (w : World) (hY : YardAt w w.heap.size C Y) (hv : Valid Y) : Calls Try.prog 108 #[.agg C, .int .i64 d] w (IntEnd (batOf Y.pi d) w) := by
  obtain ⟨A2, k2, e2, L2⟩ := hY.pi
  have hm := hv.n2
  have HP := Lib.hid hv.pi
  clear hY hv
  go_enter Try.func108, Try.ntmps108
  have hk0 : Bk (w.alloc (.cells C 29)) w.heap.size 29 C := Bk.new w 29 C
  have x2 := hk0.cell 25 e2
  go_wp2
  go_loopw [5, 11] (fun s y wr => ∃ (k : Nat) (n : Int), k ≤ Y.pi.length ∧ y = .int .i64 k ∧ s = .int .i64 n ∧ Hid (n = batOf (Y.pi.take k) d) ∧ (0 ≤ n ∧ n ≤ 100 * k) ∧ Below w.heap.size w wr) (fun _ y _ => Y.pi.length - (intOf y).toNat)
  case atStart => exact ⟨0, 0, by omega, rfl, rfl, rfl, by omega, by exact (by repeat (first | with_reducible exact Below.refl _ _ | with_reducible assumption | with_reducible refine Below.drew ?_ | with_reducible refine below_drewN ?_ _ | (with_reducible refine Below.alloc ?_ ?_ _; rotate_left; (try simp) <;> omega) | (with_reducible refine Below.setCell ?_ ?_ _; rotate_left; (try simp) <;> omega)))⟩
  case round =>
  clear x2 hk0
  obtain ⟨k, n, hk, rfl, rfl, hn, ⟨n0, n1⟩, hbw⟩ := hrel
  have hbs := hbw.size
  by_cases hlt : k < Y.pi.length
  · obtain ⟨ad, hA, hadb, c0, c1, c2⟩ := pit_at (L2.below hbw (Nat.le_refl _)) hlt
    subst hA
    obtain ⟨p1, p2, p3⟩ := HP.out _ (List.getElem_mem hlt)
    have HX : Hid (batOf (Y.pi.take (k + 1)) d = n + batAt d Y.pi[k]) := by show _ = _; rw [batOf_take _ _ _ hlt, hn.out]
    have HB : Hid (batAt d Y.pi[k] = if agedB Y.pi[k] d = true then Y.pi[k].b else 0) := rfl
    have HA := Lib.hid (fun W => aged_any Y.pi[k] d W p1 p2)
    obtain ⟨p4, p5⟩ := p3
    clear p1 p2 hn
    generalize agedB Y.pi[k] d = q at *
    generalize batAt d Y.pi[k] = x at *
    generalize Y.pi[k] = p at *
    obtain ⟨s, a, b⟩ := p
    dsimp only at *
    have hadb' : (ad.add (k * 3)).block < wr.heap.size := by rw [add_block]; omega
    cases q with
    | true =>
      have HX' : Hid (batOf (Y.pi.take (k + 1)) d = n + b) := by show _ = _; rw [HX.out, HB.out]; rfl
      clear HX HB
      go_wp2_with (go_at_call 99; refine (HA.out _).mono ?_; rintro e w1 ⟨rfl, hb⟩; obtain ⟨hc, hf⟩ := bcell hb; have hz := hb.size; (try simp at hz); have hB1 : Below w.heap.size w w1 := Below.trans (by exact (by repeat (first | with_reducible exact Below.refl _ _ | with_reducible assumption | with_reducible refine Below.drew ?_ | with_reducible refine below_drewN ?_ _ | (with_reducible refine Below.alloc ?_ ?_ _; rotate_left; (try simp) <;> omega) | (with_reducible refine Below.setCell ?_ ?_ _; rotate_left; (try simp) <;> omega)))) (hb.mono (by simp; omega)))
      go_roundw
      case rel => exact ⟨k + 1, n + b, by omega, by go_num, by go_num, HX'.out.symm, by omega, hB1⟩
      case measure => simp [intOf]; omega
    | false =>
      have HX' : Hid (batOf (Y.pi.take (k + 1)) d = n) := by show _ = _; rw [HX.out, HB.out]; simp
      clear HX HB
      go_wp2_with (go_at_call 99; refine (HA.out _).mono ?_; rintro e w1 ⟨rfl, hb⟩; obtain ⟨hc, hf⟩ := bcell hb; have hz := hb.size; (try simp at hz); have hB1 : Below w.heap.size w w1 := Below.trans (by exact (by repeat (first | with_reducible exact Below.refl _ _ | with_reducible assumption | with_reducible refine Below.drew ?_ | with_reducible refine below_drewN ?_ _ | (with_reducible refine Below.alloc ?_ ?_ _; rotate_left; (try simp) <;> omega) | (with_reducible refine Below.setCell ?_ ?_ _; rotate_left; (try simp) <;> omega)))) (hb.mono (by simp; omega)))
      go_roundw
      case rel => exact ⟨k + 1, n, by omega, by go_num, by go_num, HX'.out.symm, by omega, hB1⟩
      case measure => simp [intOf]; omega
  · obtain rfl : k = Y.pi.length := by omega
    rw [List.take_length] at hn
    clear hlt hk
    go_wp2
    go_ret
    exact int_end hn.out hbw

end Go.Proofs.Ytjgnikmnadmheaa

namespace Go.Proofs.Ytjgnikmnadmheaa
open Go.RowKit

theorem ownsRow_lies {w : World} {base : Nat} {e : TypeId} {A : Option Addr} {size n c : Nat} {xs : List Value} (h : w.ownsRow base e size (.slice A n c) n xs) : Lies w w.heap.size A xs := fun hn => by
  have hpos : 0 < n := by
    have := h.1
    rcases Nat.eq_zero_or_pos n with h0 | h0
    · subst h0; simp at this; exact absurd this hn
    · exact h0
  obtain ⟨g, cap, hv, _, hlt⟩ := h.form hpos
  have hA : A = some ⟨g, 0, none⟩ := by injection hv
  subst hA
  exact ⟨_, rfl, hlt, h.cells (g := g) rfl⟩
theorem info3 : (Try.prog.info? 3).map (fun i => (i.zero, i.size, i.bytes)) = some (some (.int .i64 0), 1, 8) := by kernel_rfl
theorem ownsRow_below {w w' : World} {base B : Nat} {e : TypeId} {size n : Nat} {v : Value} {xs : List Value} (h : w.ownsRow base e size v n xs) (hb : Below B w w') (hB : w.heap.size ≤ B) : w'.ownsRow base e size v n xs := by
  refine ⟨h.1, ?_⟩
  rcases h.2 with h2 | ⟨g, cap, cur, h1, h2, h3, h4⟩
  · exact .inl h2
  · have hg : g < w.heap.size := (Array.getElem?_eq_some_iff.1 h3).1
    exact .inr ⟨g, cap, cur, h1, h2, (hb.block g (by omega)).trans h3, h4⟩
theorem below_own {a w w1 : World} {B base : Nat} {e : TypeId} {size n : Nat} {v : Value} {xs : List Value} (hb : Below B a w) (ho : w.ownsRow base e size v n xs) (hg : w.grownBy w1 v.ownBlock) (hB : B ≤ base) (hw : B ≤ w.heap.size) : Below B a w1 :=
  Below.grown hb hg hw (fun g hg => by
    rcases ho.2 with ⟨rfl, _⟩ | ⟨g', _, _, rfl, hge, _⟩
    · simp [Value.ownBlock] at hg
    · simp [Value.ownBlock] at hg; omega)

def skB (m : Mas) (d need : Int) : Bool := decide (m.f ≤ d) && (decide (d < m.u) && decide (need ≤ m.k))
def skAt (l : List Mas) (d need : Int) (i : Nat) : Bool := match l[i]? with | some m => skB m d need | none => false
/-- the indices, below k, of those that can do something -/
def skK (l : List Mas) (d need : Int) (k : Nat) : List Int := ((List.range k).filter (skAt l d need)).map Int.ofNat
def skL (l : List Mas) (d need : Int) : List Int := skK l d need l.length
theorem skK_yes {l : List Mas} {d need : Int} {k : Nat} (hk : k < l.length) (h : skB l[k] d need = true) : skK l d need (k + 1) = skK l d need k ++ [(k : Int)] := by
  unfold skK
  rw [List.range_succ, List.filter_append]
  have : skAt l d need k = true := by unfold skAt; rw [List.getElem?_eq_getElem hk]; exact h
  simp [List.filter_cons, this]
theorem skK_no {l : List Mas} {d need : Int} {k : Nat} (hk : k < l.length) (h : skB l[k] d need = false) : skK l d need (k + 1) = skK l d need k := by
  unfold skK
  rw [List.range_succ, List.filter_append]
  have : skAt l d need k = false := by unfold skAt; rw [List.getElem?_eq_getElem hk]; exact h
  simp [List.filter_cons, this]
theorem skK_len (l : List Mas) (d need : Int) (k : Nat) : (skK l d need k).length ≤ k := by
  unfold skK
  rw [List.length_map]
  exact Nat.le_trans (List.length_filter_le _ _) (by simp)
/-- a list of integers that a call made -/
def IntsEnd (l : List Int) (w : World) (e : Ending) (w' : World) : Prop := ∃ v : Value, e = .returned v ∧ w'.ownsRow w.heap.size 3 1 v l.length (ints l) ∧ Below w.heap.size w w'
theorem ints_snoc (l : List Int) (x : Int) : ints l ++ [Value.int .i64 x] = ints (l ++ [x]) := by simp [ints]
theorem ints_len (l : List Int) : (ints l).length = l.length := by simp [ints]

set_option maxHeartbeats 400000 in
theorem able_any (m : Mas) (d need : Int) (w : World) : Calls Try.prog 100 #[m.agg, .int .i64 d, .int .i64 need] w (ShEnd (skB m d need) w) := by
  have HA : Hid (skB m d need = (decide (m.f ≤ d) && (decide (d < m.u) && decide (need ≤ m.k)))) := rfl
  obtain ⟨nm, f, u, k⟩ := m
  dsimp only at *
  by_cases h1 : f ≤ d
  · by_cases h2 : d < u
    · by_cases h3 : need ≤ k
      all_goals
        go_enter Try.func100, Try.ntmps100
        go_wp2
        go_ret
        exact sh_ret (by rw [HA.out]; simp [h1, h2, h3] <;> omega) (by exact (by repeat (first | with_reducible exact Below.refl _ _ | with_reducible assumption | with_reducible refine Below.drew ?_ | with_reducible refine below_drewN ?_ _ | (with_reducible refine Below.alloc ?_ ?_ _; rotate_left; (try simp) <;> omega) | (with_reducible refine Below.setCell ?_ ?_ _; rotate_left; (try simp) <;> omega))))
    · go_enter Try.func100, Try.ntmps100
      go_wp2
      go_ret
      exact sh_ret (by rw [HA.out]; simp [h1, h2] <;> omega) (by exact (by repeat (first | with_reducible exact Below.refl _ _ | with_reducible assumption | with_reducible refine Below.drew ?_ | with_reducible refine below_drewN ?_ _ | (with_reducible refine Below.alloc ?_ ?_ _; rotate_left; (try simp) <;> omega) | (with_reducible refine Below.setCell ?_ ?_ _; rotate_left; (try simp) <;> omega))))
  · go_enter Try.func100, Try.ntmps100
    go_wp2
    go_ret
    exact sh_ret (by rw [HA.out]; simp [h1] <;> omega) (by exact (by repeat (first | with_reducible exact Below.refl _ _ | with_reducible assumption | with_reducible refine Below.drew ?_ | with_reducible refine below_drewN ?_ _ | (with_reducible refine Below.alloc ?_ ?_ _; rotate_left; (try simp) <;> omega) | (with_reducible refine Below.setCell ?_ ?_ _; rotate_left; (try simp) <;> omega))))

set_option maxHeartbeats 1000000 in
theorem skilled_any (C : Array Value) (Y : Yd) (d need : Int) (w : World) (hY : YardAt w w.heap.size C Y) (hv : Valid Y) : Calls Try.prog 98 #[.agg C, .int .i64 d, .int .i64 need] w (IntsEnd (skL Y.ma d need) w) := by
  obtain ⟨A3, k3, e3, L3⟩ := hY.ma
  have hm := hv.n3
  obtain ⟨i0, hi0, hz0, hz1, hz2⟩ := info_parts info3
  have I3 := Lib.hid (And.intro hi0 (And.intro hz0 (And.intro hz1 hz2))); clear hi0 hz0 hz1 hz2
  clear hY hv
  have hk0 : Bk (w.alloc (.cells C 29)) w.heap.size 29 C := Bk.new w 29 C
  have x3 := hk0.cell 26 e3
  go_enter Try.func98, Try.ntmps98
  go_wp2
  go_loopw [7, 13] (fun v y wr => ∃ k : Nat, k ≤ Y.ma.length ∧ y = .int .i64 k ∧ wr.ownsRow w.heap.size 3 1 v (skK Y.ma d need k).length (ints (skK Y.ma d need k)) ∧ Below w.heap.size w wr) (fun _ y _ => Y.ma.length - (intOf y).toNat)
  case atStart => exact ⟨0, by omega, rfl, World.ownsRow_nil _ _ _ _, by exact (by repeat (first | with_reducible exact Below.refl _ _ | with_reducible assumption | with_reducible refine Below.drew ?_ | with_reducible refine below_drewN ?_ _ | (with_reducible refine Below.alloc ?_ ?_ _; rotate_left; (try simp) <;> omega) | (with_reducible refine Below.setCell ?_ ?_ _; rotate_left; (try simp) <;> omega)))⟩
  case round =>
  clear x3 hk0
  obtain ⟨k, hk, rfl, hown, hbw⟩ := hrel
  have hbs := hbw.size
  by_cases hlt : k < Y.ma.length
  · obtain ⟨ad, hA, hadb, c0, c1, c2, c3⟩ := mas_at (L3.below hbw (Nat.le_refl _)) hlt
    subst hA
    have HY := Lib.hid (fun (h : skB Y.ma[k] d need = true) => skK_yes hlt h)
    have HN := Lib.hid (fun (h : skB Y.ma[k] d need = false) => skK_no hlt h)
    have HB : Hid (skB Y.ma[k] d need = (decide (Y.ma[k].f ≤ d) && (decide (d < Y.ma[k].u) && decide (need ≤ Y.ma[k].k)))) := rfl
    have hln := skK_len Y.ma d need k
    generalize skB Y.ma[k] d need = q at *
    generalize skK Y.ma d need k = S at *
    generalize Y.ma[k] = m at *
    obtain ⟨nm, f, u, kk⟩ := m
    dsimp only at *
    by_cases h1 : f ≤ d
    · by_cases h2 : d < u
      · by_cases h3 : need ≤ kk
        · have HE := Lib.hid (HY.out (by rw [HB.out]; simp [h1, h2, h3]))
          clear HY HN HB
          go_wp2_with (at_builtin; refine wpList_append_own _ rfl (.tmp 34) (.tmp 36) 25 rfl (w.heap.size) 3 i0 (.int .i64 0) 1 8 Try.underlying25 I3.out.1 I3.out.2.1 I3.out.2.2.1 I3.out.2.2.2 rfl (by decide) _ S.length (ints S) rfl ((hown.alloc _).alloc _) ⟨wr.heap.size + 1, 0, none⟩ 1 1 [.int .i64 k] rfl rfl ?c1 ?c2 ?c3 ?c4 ?c5 ?_)
          case c1 => simpa using cell_one_new (wr.alloc (.cells #[.string nm, .int .i64 f, .int .i64 u, .int .i64 kk] 78)) (.int .i64 k) 3
          case c2 => intro u hu; simp at hu; subst hu; rfl
          case c3 => unfold maxLen; omega
          case c4 => omega
          case c5 => simp; omega
          intro v' w1 hown' hgrow _
          rw [ints_snoc, ← HE.out] at hown'
          have hlen : Hid (S.length + 1 = (skK Y.ma d need (k + 1)).length) := by show _ = _; rw [HE.out]; simp
          rw [hlen.out] at hown'
          have hb1 : Below w.heap.size w w1 := below_own (by exact (by repeat (first | with_reducible exact Below.refl _ _ | with_reducible assumption | with_reducible refine Below.drew ?_ | with_reducible refine below_drewN ?_ _ | (with_reducible refine Below.alloc ?_ ?_ _; rotate_left; (try simp) <;> omega) | (with_reducible refine Below.setCell ?_ ?_ _; rotate_left; (try simp) <;> omega)))) ((hown.alloc _).alloc _) hgrow (Nat.le_refl _) (by simp; omega)
          clear hgrow hown
          go_wp2
          go_roundw
          case rel => exact ⟨k + 1, by omega, by go_num, hown', hb1⟩
          case measure => simp [intOf]; omega
        · have HE := Lib.hid (HN.out (by rw [HB.out]; simp [h1, h2, h3]))
          clear HY HN HB
          go_wp2
          go_roundw
          case rel => exact ⟨k + 1, by omega, by go_num, by rw [HE.out]; exact hown.alloc _, by exact (by repeat (first | with_reducible exact Below.refl _ _ | with_reducible assumption | with_reducible refine Below.drew ?_ | with_reducible refine below_drewN ?_ _ | (with_reducible refine Below.alloc ?_ ?_ _; rotate_left; (try simp) <;> omega) | (with_reducible refine Below.setCell ?_ ?_ _; rotate_left; (try simp) <;> omega)))⟩
          case measure => simp [intOf]; omega
      · have HE := Lib.hid (HN.out (by rw [HB.out]; simp [h1, h2]))
        clear HY HN HB
        go_wp2
        go_roundw
        case rel => exact ⟨k + 1, by omega, by go_num, by rw [HE.out]; exact hown.alloc _, by exact (by repeat (first | with_reducible exact Below.refl _ _ | with_reducible assumption | with_reducible refine Below.drew ?_ | with_reducible refine below_drewN ?_ _ | (with_reducible refine Below.alloc ?_ ?_ _; rotate_left; (try simp) <;> omega) | (with_reducible refine Below.setCell ?_ ?_ _; rotate_left; (try simp) <;> omega)))⟩
        case measure => simp [intOf]; omega
    · have HE := Lib.hid (HN.out (by rw [HB.out]; simp [h1]))
      clear HY HN HB
      go_wp2
      go_roundw
      case rel => exact ⟨k + 1, by omega, by go_num, by rw [HE.out]; exact hown.alloc _, by exact (by repeat (first | with_reducible exact Below.refl _ _ | with_reducible assumption | with_reducible refine Below.drew ?_ | with_reducible refine below_drewN ?_ _ | (with_reducible refine Below.alloc ?_ ?_ _; rotate_left; (try simp) <;> omega) | (with_reducible refine Below.setCell ?_ ?_ _; rotate_left; (try simp) <;> omega)))⟩
      case measure => simp [intOf]; omega
  · obtain rfl : k = Y.ma.length := by omega
    clear hlt hk
    go_wp2
    go_ret
    exact ⟨_, rfl, hown, hbw⟩
end Go.Proofs.Ytjgnikmnadmheaa
