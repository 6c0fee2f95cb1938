/- crew.Close, for all yards. -/
import Derived.Deep.MidRow
import Derived.Laws.OwnMore
import Derived.Tactics
import Derived.Test.YtjgnikmnadmheaaG02
import Derived.Test.YtjgnikmnadmheaaG07
import Derived.Test.YtjgnikmnadmheaaG63

namespace Go.Proofs.Ytjgnikmnadmheaa
open Go.RowKit

/-- the cells of a yard without anything -/
def zeroC : List Value := (List.replicate 24 (Value.int .i64 0)) ++ [.slice none 0 0, .slice none 0 0, .slice none 0 0, .int .i64 0]
def noYd : Yd := ⟨fun _ => 0, [], [], [], 0⟩
theorem zero_at (w : World) (B : Nat) : YardAt w B zeroC.toArray noYd where
  size := rfl
  se := fun k hk => by
    unfold zeroC noYd
    simp only [List.getElem?_toArray]
    rw [List.getElem?_append_left (by simp; exact hk), List.getElem?_replicate, if_pos hk]
  cl := ⟨none, 0, rfl, fun h => absurd rfl h⟩
  pi := ⟨none, 0, rfl, fun h => absurd rfl h⟩
  ma := ⟨none, 0, rfl, fun h => absurd rfl h⟩
  dry := rfl
theorem results_row {P : Program} {fn : Func} {s t ty : Nat} (h : fn.results = #[.cell s ty, .tmp t]) (tmps : Array Value) (w : World) (b : Nat) (cs : List Value) (d : TypeDesc) (ha : tmps.getD s undef = .pointer (some ⟨b, 0, none⟩))
    (hc : w.rangeAt b 0 cs) (hu : P.underlying ty = some d) (hd : d.isRow = true) (hi : (P.info? ty).map (·.size) = some cs.length) : (results fn tmps).run P w = .ok (.tuple #[.agg cs.toArray, tmps.getD t undef]) w := by
  have hl := run_loadVar_mid (P := P) w b 0 ty cs d hc hu hd hi
  have ha' : tmps[s]?.getD undef = .pointer (some ⟨b, 0, none⟩) := by simpa [Array.getD_eq_getD_getElem?] using ha
  simp [results, h, ha', asAddr, hl]

theorem Far.bk {w w' : World} {b g t : Nat} {C : Array Value} (h : Far w w' b) (hg : g ≠ b) (hk : Bk w g t C) : Bk w' g t C := (h.blk g hg).trans hk
theorem Far.own {w w' : World} {b base e size n : Nat} {v : Value} {xs : List Value} (h : Far w w' b) (ho : w.ownsRow base e size v n xs) (hb : b < base) : w'.ownsRow base e size v n xs := by
  refine ⟨ho.1, ?_⟩
  rcases ho.2 with h2 | ⟨g, cap, cur, h1, h2, h3, h4⟩
  · exact .inl h2
  · exact .inr ⟨g, cap, cur, h1, h2, (h.blk g (by omega)).trans h3, h4⟩
theorem far_setCells (b : Nat) : ∀ (vs : List Value) (o : Nat) (w : World), Far w (w.setCells b o vs) b
  | [], _, w => ⟨rfl, fun _ _ => rfl, fun _ _ _ h => h⟩
  | v :: r, o, w => by
    have h1 := far_setCells b r (o + 1) (w.setCell ⟨b, o, none⟩ v)
    refine ⟨h1.size.trans (by simp), fun g hg => (h1.blk g hg).trans (Below.heap_setCell w _ v g hg), fun B a hB hb => h1.bel B a hB (hb.setCell (by exact hB) v)⟩
/-- a whole struct is stored over a block -/
theorem wpList_store_blk {P : Program} {ops : Array Oper} {rest : List Oper} {op : Oper} {a : Act} {w : World} {Q : Exit → Act → World → Prop} (hgd : op.guard = none) (ty : TypeId) (x y : Operand) (ho : op.op = .store ty x y)
    (b : Nat) (C0 C' : Array Value) (hx : a.eval x = .pointer (some ⟨b, 0, none⟩)) (hy : a.eval y = .agg C') (hk : Bk w b ty C0) (hs : C0.size = C'.size) (hi : (P.info? ty).map (·.size) = some C'.size) (h1 : ∀ v ∈ C'.toList, v.oneCell' = true)
    (h : ∀ W', Bk W' b ty C' → Far w W' b → wpList P ops Q rest (a.put op.dst undef) W') : wpList P ops Q (op :: rest) a w := by
  refine wpList_store_mid hgd ty x y ho b 0 C' hx hy (fun j hj => ⟨?_, hk.fro _⟩) hi (Array.all_eq_true_iff_forall_mem.2 (fun v hv => h1 v (by simpa using hv))) (h _ ?_ (far_setCells b _ _ _))
  · rw [Nat.zero_add]
    rw [hk.cell j (v := C0[j]'(by omega)) (Array.getElem?_eq_getElem _)]; rfl
  · obtain ⟨C2, h2, h3, h4⟩ := Bk.setCells C'.toList 0 w C0 hk
    have : C2 = C' := by
      apply Array.ext_getElem?
      intro j
      rw [h4 j]
      by_cases hj : j < C'.size
      · rw [if_pos (by simp; omega)]; simp
      · rw [if_neg (fun h => hj (by have := h.2.1; simp at this; exact this)), Array.getElem?_eq_none (by omega), Array.getElem?_eq_none (by omega)]
    rw [this] at h2; exact h2
theorem Far.lies {w w' : World} {b B : Nat} {A : Option Addr} {cs : List Value} (h : Far w w' b) (hl : Lies w B A cs) (hA : ∀ ad, A = some ad → ad.block ≠ b) : Lies w' B A cs := fun hn => by
  obtain ⟨ad, e, hb, hc⟩ := hl hn
  refine ⟨ad, e, hb, fun j u hu => ?_⟩
  have := hc j u hu
  unfold World.cell? at this ⊢
  rw [add_block] at this ⊢
  rw [h.blk _ (hA ad e)]; exact this
/-- a yard with other lists -/
theorem yard_new {w9 : World} {C : Array Value} {Y : Yd} {L : List Int} {A4 A6 A7 : Option Addr} {c4 c6 c7 : Nat} (hsz : C.size = 28) (hse : ∀ k, k < 24 → C[k]? = some (.int .i64 (Y.se k))) (hdry : C[27]? = some (.int .i64 Y.dry))
    (h4 : Lies w9 w9.heap.size A4 (ints L)) (h6 : Lies w9 w9.heap.size A6 (pitsC Y.pi)) (h7 : Lies w9 w9.heap.size A7 (massC Y.ma)) :
    YardAt w9 w9.heap.size (((C.setIfInBounds 24 (.slice A4 L.length c4)).setIfInBounds 25 (.slice A6 Y.pi.length c6)).setIfInBounds 26 (.slice A7 Y.ma.length c7)) { Y with cl := L } where
  size := by simp [hsz]
  se := fun k hk => by rw [Array.getElem?_setIfInBounds_ne (by omega), Array.getElem?_setIfInBounds_ne (by omega), Array.getElem?_setIfInBounds_ne (by omega)]; exact hse k hk
  cl := ⟨A4, c4, by rw [Array.getElem?_setIfInBounds_ne (by omega), Array.getElem?_setIfInBounds_ne (by omega)]; simp [hsz], h4⟩
  pi := ⟨A6, c6, by rw [Array.getElem?_setIfInBounds_ne (by omega)]; simp [hsz], h6⟩
  ma := ⟨A7, c7, by simp [hsz], h7⟩
  dry := by rw [Array.getElem?_setIfInBounds_ne (by omega), Array.getElem?_setIfInBounds_ne (by omega), Array.getElem?_setIfInBounds_ne (by omega)]; exact hdry
theorem YardAt.one {w : World} {B : Nat} {C : Array Value} {Y : Yd} (h : YardAt w B C Y) : ∀ v ∈ C.toList, v.oneCell' = true := fun v hv => by
  obtain ⟨j, hj⟩ := List.getElem?_of_mem hv
  have hj' : C[j]? = some v := by simpa using hj
  have hlt : j < 28 := by have := (Array.getElem?_eq_some_iff.1 hj').1; have := h.size; omega
  obtain ⟨A1, k1, e1, _⟩ := h.cl
  obtain ⟨A2, k2, e2, _⟩ := h.pi
  obtain ⟨A3, k3, e3, _⟩ := h.ma
  by_cases h24 : j < 24
  · rw [h.se j h24] at hj'; cases hj'; rfl
  · rcases (by omega : j = 24 ∨ j = 25 ∨ j = 26 ∨ j = 27) with rfl | rfl | rfl | rfl
    · rw [e1] at hj'; cases hj'; rfl
    · rw [e2] at hj'; cases hj'; rfl
    · rw [e3] at hj'; cases hj'; rfl
    · rw [h.dry] at hj'; cases hj'; rfl
theorem own_ne' {w : World} {base b e size n c : Nat} {A : Option Addr} {xs : List Value} (h : w.ownsRow base e size (.slice A n c) n xs) (hb : b < base) : ∀ ad, A = some ad → ad.block ≠ b := fun ad hA => by
  subst hA
  rcases h.2 with ⟨h1, _⟩ | ⟨g', cap, cur, h1, h2, _⟩
  · cases h1
  · cases h1; show g' ≠ b; omega
theorem zero_new (w : World) (C : Array Value) : Bk ((w.alloc (.cells C 29)).alloc (.cells #[.int .i64 0, .int .i64 0, .int .i64 0, .int .i64 0, .int .i64 0, .int .i64 0, .int .i64 0, .int .i64 0, .int .i64 0, .int .i64 0, .int .i64 0, .int .i64 0, .int .i64 0, .int .i64 0, .int .i64 0, .int .i64 0, .int .i64 0, .int .i64 0, .int .i64 0, .int .i64 0, .int .i64 0, .int .i64 0, .int .i64 0, .int .i64 0, .slice none 0 0, .slice none 0 0, .slice none 0 0, .int .i64 0] 29)) (w.heap.size + 1) 29 zeroC.toArray := by
  have := Bk.new (w.alloc (.cells C 29)) 29 zeroC.toArray
  rw [World.size_alloc] at this
  exact this
theorem zero_one : ∀ v ∈ zeroC.toArray.toList, v.oneCell' = true := by decide

def closeE (Y : Yd) (d : Int) : Int := if okY Y = true then (if inB d 0 100000 = true then (if Y.cl.contains d = true then 6 else if 200 ≤ Y.cl.length then 2 else 0) else 1) else chkY Y
def closeY (Y : Yd) (d : Int) : Yd := if closeE Y d = 0 then { Y with cl := insL Y.cl (cntLt Y.cl d) d } else noYd
def YardEnd (Y : Yd) (n : Int) (w : World) (e : Ending) (w' : World) : Prop := ∃ C, e = .returned (.tuple #[.agg C, .int .i64 n]) ∧ YardAt w' w'.heap.size C Y ∧ Below w.heap.size w w'

set_option maxRecDepth 100000 in
set_option maxHeartbeats 1000000 in
theorem close_bad (C : Array Value) (Y : Yd) (d : Int) (w : World) (hY : YardAt w w.heap.size C Y) (hs : Small Y) (h : okY Y = false) : Calls Try.prog 20 #[.agg C, .int .i64 d] w (YardEnd noYd (chkY Y) w) := by
  have HCK := Lib.hid (fun W (hb : Below w.heap.size w W) => checkYard_any C Y W ((hY.below hb (Nat.le_refl _)).more hb.size) hs.cl hs.pi hs.ma hs.nm)
  have HLOAD := load_any hY
  have HC28 := Lib.hid hY.len
  have HN := Lib.hid (chk_of Y)
  clear hY hs
  generalize chkY Y = n at *
  have hn : (n != 0) = true := HN.out.nff.trans (by rw [h]; rfl)
  clear HN h
  go_enter Try.func20, Try.ntmps20
  go_wp2_with (first | (refine wpList_load_guard (P := Try.prog) (by rfl) 29 (.tmp 2) rfl w.heap.size 0 rfl C.toList _ (HLOAD.out _ _ (by exact (by repeat (first | with_reducible assumption | with_reducible exact Bk.new _ _ _ | with_reducible refine Bk.drew ?_ | with_reducible refine Bk.drewN ?_ _ | with_reducible refine Bk.alloc ?_ _ | (with_reducible refine Bk.far ?_ ?_ _; rotate_left; (try simp) <;> omega))))) Try.underlying29 rfl (by rw [HC28.out]; exact info29) ?_) | (go_at_call 16; refine (HCK.out _ (by exact (by repeat (first | with_reducible exact Below.refl _ _ | with_reducible assumption | with_reducible refine Below.drew ?_ | with_reducible refine below_drewN ?_ _ | (with_reducible refine Below.alloc ?_ ?_ _; rotate_left; (try simp) <;> omega) | (with_reducible refine Below.setCell ?_ ?_ _; rotate_left; (try simp) <;> omega))))).mono ?_; rintro e w1 ⟨rfl, hb1⟩; have hB1 : Below w.heap.size w w1 := Below.trans (by exact (by repeat (first | with_reducible exact Below.refl _ _ | with_reducible assumption | with_reducible refine Below.drew ?_ | with_reducible refine below_drewN ?_ _ | (with_reducible refine Below.alloc ?_ ?_ _; rotate_left; (try simp) <;> omega) | (with_reducible refine Below.setCell ?_ ?_ _; rotate_left; (try simp) <;> omega)))) (hb1.mono (by first | omega | (simp; omega) | simp)); have hJ1 : Bk w1 (w.heap.size + 1) 29 zeroC.toArray := Bk.below (zero_new w C) hb1 (by first | omega | (simp; omega) | simp); have hl1 := hJ1.lt) | (refine wpList_store_blk (P := Try.prog) rfl 29 (.tmp 4) (.tmp 13) rfl (w.heap.size + 1) zeroC.toArray zeroC.toArray rfl rfl hJ1 rfl info29 zero_one ?_; intro w2 hk2 hf2))
  exact bodyPost_ret (results_row rfl _ _ (w.heap.size + 1) zeroC _ rfl hk2.range Try.underlying29 rfl info29) rfl ⟨_, rfl, zero_at _ _, hf2.bel _ _ (by omega) hB1⟩
end Go.Proofs.Ytjgnikmnadmheaa

namespace Go.Proofs.Ytjgnikmnadmheaa
open Go.RowKit

set_option maxRecDepth 100000 in
set_option maxHeartbeats 1000000 in
theorem close_day (C : Array Value) (Y : Yd) (d : Int) (w : World) (hY : YardAt w w.heap.size C Y) (hs : Small Y) (h : okY Y = true) (hd : inB d 0 100000 = false) : Calls Try.prog 20 #[.agg C, .int .i64 d] w (YardEnd noYd 1 w) := by
  have HCK := Lib.hid (fun W (hb : Below w.heap.size w W) => checkYard_any C Y W ((hY.below hb (Nat.le_refl _)).more hb.size) hs.cl hs.pi hs.ma hs.nm)
  have HLOAD := load_any hY
  have HC28 := Lib.hid hY.len
  have hn : chkY Y = 0 := by unfold okY at h; exact eq_of_beq h
  have hv := okY_valid h
  obtain ⟨A1, k1, e1, L1⟩ := hY.cl
  have HBS := Lib.hid (fun W (hb : Below w.heap.size w W) => bsearch_any Y.cl d A1 k1 W ((L1.below hb (Nat.le_refl _)).more hb.size) hv.ris (by have := hv.n1; omega))
  have hln := hv.n1
  rw [hn] at HCK
  clear hn h hs
  clear hY hv L1
  have HD := Lib.hid hd; clear hd
  go_enter Try.func20, Try.ntmps20
  go_wp2_with (first | (refine wpList_load_guard (P := Try.prog) (by rfl) 29 (.tmp 2) rfl w.heap.size 0 rfl C.toList _ (HLOAD.out _ _ (by exact bkw)) Try.underlying29 rfl (by rw [HC28.out]; exact info29) ?_) | (go_at_call 16; refine (HCK.out _ (by exact bw)).mono ?_; rintro e w1 ⟨rfl, hb1⟩; have hB1 : Below w.heap.size w w1 := Below.trans (by exact bw) (hb1.mono (by first | omega | (simp; omega) | simp)); have hK1 : Bk w1 w.heap.size 29 C := Bk.below (by exact bkw) hb1 (by first | omega | (simp; omega) | simp); have hJ1 : Bk w1 (w.heap.size + 1) 29 zeroC.toArray := Bk.below (zero_new w C) hb1 (by first | omega | (simp; omega) | simp); have hl1 := hJ1.lt; have x1 := hK1.cell 24 e1; clear hb1) | (go_at_call 76; refine (HBS.out _ hB1).mono ?_; rintro e w2 ⟨rfl, hb2⟩; have hB2 : Below w.heap.size w w2 := Below.trans hB1 (hb2.mono hB1.size); have hK2 := hK1.below hb2 hK1.lt; have hJ2 := hJ1.below hb2 hl1; have hl2 := hJ2.lt; have x2 := hK2.cell 24 e1; clear hb2) | (go_at_call 66; refine (in_any _ _ _ _).mono ?_; rintro e w' ⟨rfl, rfl⟩; rw [HD.out]) | (refine wpList_store_blk (P := Try.prog) rfl 29 (.tmp 4) (.tmp 26) rfl (w.heap.size + 1) zeroC.toArray zeroC.toArray rfl rfl hJ2 rfl info29 zero_one ?_; intro w3 hk3 hf3))
  exact bodyPost_ret (results_row rfl _ _ (w.heap.size + 1) zeroC _ rfl hk3.range Try.underlying29 rfl info29) rfl ⟨_, rfl, zero_at _ _, hf3.bel _ _ (by omega) hB2⟩

set_option maxRecDepth 100000 in
set_option maxHeartbeats 1000000 in
theorem close_twice (C : Array Value) (Y : Yd) (d : Int) (w : World) (hY : YardAt w w.heap.size C Y) (hs : Small Y) (h : okY Y = true) (hd : inB d 0 100000 = true) (hc : Y.cl.contains d = true) : Calls Try.prog 20 #[.agg C, .int .i64 d] w (YardEnd noYd 6 w) := by
  have HCK := Lib.hid (fun W (hb : Below w.heap.size w W) => checkYard_any C Y W ((hY.below hb (Nat.le_refl _)).more hb.size) hs.cl hs.pi hs.ma hs.nm)
  have HLOAD := load_any hY
  have HC28 := Lib.hid hY.len
  have hn : chkY Y = 0 := by unfold okY at h; exact eq_of_beq h
  have hv := okY_valid h
  obtain ⟨A1, k1, e1, L1⟩ := hY.cl
  have HBS := Lib.hid (fun W (hb : Below w.heap.size w W) => bsearch_any Y.cl d A1 k1 W ((L1.below hb (Nat.le_refl _)).more hb.size) hv.ris (by have := hv.n1; omega))
  have hln := hv.n1
  rw [hn] at HCK
  clear hn h hs
  clear hY hv L1
  have HD := Lib.hid hd; clear hd
  rw [hc] at HBS
  clear hc
  go_enter Try.func20, Try.ntmps20
  go_wp2_with (first | (refine wpList_load_guard (P := Try.prog) (by rfl) 29 (.tmp 2) rfl w.heap.size 0 rfl C.toList _ (HLOAD.out _ _ (by exact bkw)) Try.underlying29 rfl (by rw [HC28.out]; exact info29) ?_) | (go_at_call 16; refine (HCK.out _ (by exact bw)).mono ?_; rintro e w1 ⟨rfl, hb1⟩; have hB1 : Below w.heap.size w w1 := Below.trans (by exact bw) (hb1.mono (by first | omega | (simp; omega) | simp)); have hK1 : Bk w1 w.heap.size 29 C := Bk.below (by exact bkw) hb1 (by first | omega | (simp; omega) | simp); have hJ1 : Bk w1 (w.heap.size + 1) 29 zeroC.toArray := Bk.below (zero_new w C) hb1 (by first | omega | (simp; omega) | simp); have hl1 := hJ1.lt; have x1 := hK1.cell 24 e1; clear hb1) | (go_at_call 76; refine (HBS.out _ hB1).mono ?_; rintro e w2 ⟨rfl, hb2⟩; have hB2 : Below w.heap.size w w2 := Below.trans hB1 (hb2.mono hB1.size); have hK2 := hK1.below hb2 hK1.lt; have hJ2 := hJ1.below hb2 hl1; have hl2 := hJ2.lt; have x2 := hK2.cell 24 e1; clear hb2) | (go_at_call 66; refine (in_any _ _ _ _).mono ?_; rintro e w' ⟨rfl, rfl⟩; rw [HD.out]) | (refine wpList_store_blk (P := Try.prog) rfl 29 (.tmp 4) (.tmp 29) rfl (w.heap.size + 1) zeroC.toArray zeroC.toArray rfl rfl hJ2 rfl info29 zero_one ?_; intro w3 hk3 hf3))
  exact bodyPost_ret (results_row rfl _ _ (w.heap.size + 1) zeroC _ rfl hk3.range Try.underlying29 rfl info29) rfl ⟨_, rfl, zero_at _ _, hf3.bel _ _ (by omega) hB2⟩

set_option maxRecDepth 100000 in
set_option maxHeartbeats 1000000 in
theorem close_full (C : Array Value) (Y : Yd) (d : Int) (w : World) (hY : YardAt w w.heap.size C Y) (hs : Small Y) (h : okY Y = true) (hd : inB d 0 100000 = true) (hc : Y.cl.contains d = false) (hf : 200 ≤ Y.cl.length) : Calls Try.prog 20 #[.agg C, .int .i64 d] w (YardEnd noYd 2 w) := by
  have HCK := Lib.hid (fun W (hb : Below w.heap.size w W) => checkYard_any C Y W ((hY.below hb (Nat.le_refl _)).more hb.size) hs.cl hs.pi hs.ma hs.nm)
  have HLOAD := load_any hY
  have HC28 := Lib.hid hY.len
  have hn : chkY Y = 0 := by unfold okY at h; exact eq_of_beq h
  have hv := okY_valid h
  obtain ⟨A1, k1, e1, L1⟩ := hY.cl
  have HBS := Lib.hid (fun W (hb : Below w.heap.size w W) => bsearch_any Y.cl d A1 k1 W ((L1.below hb (Nat.le_refl _)).more hb.size) hv.ris (by have := hv.n1; omega))
  have hln := hv.n1
  rw [hn] at HCK
  clear hn h hs
  clear hY hv L1
  have HD := Lib.hid hd; clear hd
  rw [hc] at HBS
  clear hc
  go_enter Try.func20, Try.ntmps20
  go_wp2_with (first | (refine wpList_load_guard (P := Try.prog) (by rfl) 29 (.tmp 2) rfl w.heap.size 0 rfl C.toList _ (HLOAD.out _ _ (by exact bkw)) Try.underlying29 rfl (by rw [HC28.out]; exact info29) ?_) | (go_at_call 16; refine (HCK.out _ (by exact bw)).mono ?_; rintro e w1 ⟨rfl, hb1⟩; have hB1 : Below w.heap.size w w1 := Below.trans (by exact bw) (hb1.mono (by first | omega | (simp; omega) | simp)); have hK1 : Bk w1 w.heap.size 29 C := Bk.below (by exact bkw) hb1 (by first | omega | (simp; omega) | simp); have hJ1 : Bk w1 (w.heap.size + 1) 29 zeroC.toArray := Bk.below (zero_new w C) hb1 (by first | omega | (simp; omega) | simp); have hl1 := hJ1.lt; have x1 := hK1.cell 24 e1; clear hb1) | (go_at_call 76; refine (HBS.out _ hB1).mono ?_; rintro e w2 ⟨rfl, hb2⟩; have hB2 : Below w.heap.size w w2 := Below.trans hB1 (hb2.mono hB1.size); have hK2 := hK1.below hb2 hK1.lt; have hJ2 := hJ1.below hb2 hl1; have hl2 := hJ2.lt; have x2 := hK2.cell 24 e1; clear hb2) | (go_at_call 66; refine (in_any _ _ _ _).mono ?_; rintro e w' ⟨rfl, rfl⟩; rw [HD.out]) | (refine wpList_store_blk (P := Try.prog) rfl 29 (.tmp 4) (.tmp 35) rfl (w.heap.size + 1) zeroC.toArray zeroC.toArray rfl rfl hJ2 rfl info29 zero_one ?_; intro w3 hk3 hf3))
  exact bodyPost_ret (results_row rfl _ _ (w.heap.size + 1) zeroC _ rfl hk3.range Try.underlying29 rfl info29) rfl ⟨_, rfl, zero_at _ _, hf3.bel _ _ (by omega) hB2⟩

theorem own_bk {w : World} {base e size n c : Nat} {A : Option Addr} {xs : List Value} (h : w.ownsRow base e size (.slice A n c) n xs) (hn : n ≠ 0) : ∃ g R, A = some ⟨g, 0, none⟩ ∧ base ≤ g ∧ Bk w g e R ∧ n ≤ c := by
  rcases h.2 with ⟨_, h1⟩ | ⟨g', cap, cur, h1, h2, h3, h4, _⟩
  · exact absurd h1 hn
  · cases h1
    exact ⟨g', cur, rfl, h2, h3, h4⟩
structure YardNew (w w' : World) (C : Array Value) (Y : Yd) : Prop where
  out : ∃ g4 g6 g7 c4 c6 c7 R4 R6 R7, w.heap.size ≤ g4 ∧ g4 < g6 ∧ g6 < g7 ∧ C[24]? = some (.slice (some ⟨g4, 0, none⟩) Y.cl.length c4) ∧ C[25]? = some (.slice (some ⟨g6, 0, none⟩) Y.pi.length c6) ∧ C[26]? = some (.slice (some ⟨g7, 0, none⟩) Y.ma.length c7)
    ∧ Bk w' g4 3 R4 ∧ Bk w' g6 87 R6 ∧ Bk w' g7 78 R7 ∧ Y.cl.length ≤ c4 ∧ Y.pi.length ≤ c6 ∧ Y.ma.length ≤ c7
def CloseEnd (Y Y' : Yd) (w : World) (e : Ending) (w' : World) : Prop := ∃ C, e = .returned (.tuple #[.agg C, .int .i64 0]) ∧ YardAt w' w'.heap.size C Y' ∧ Below w.heap.size w w' ∧ (Y.pi ≠ [] → Y.ma ≠ [] → YardNew w w' C Y')
theorem own_lt {w : World} {base e size n : Nat} {v : Value} {xs : List Value} (h : w.ownsRow base e size v n xs) (g : Nat) (hg : v.ownBlock = some g) : g < w.heap.size := by
  rcases h.2 with ⟨rfl, _⟩ | ⟨g', cap, cur, rfl, _, h3, _⟩
  · simp [Value.ownBlock] at hg
  · simp [Value.ownBlock] at hg
    subst hg
    exact (Array.getElem?_eq_some_iff.1 h3).1
set_option maxRecDepth 100000 in
set_option maxHeartbeats 1000000 in
theorem close_ok (C : Array Value) (Y : Yd) (d : Int) (w : World) (hY : YardAt w w.heap.size C Y) (hs : Small Y) (h : okY Y = true) (hd : inB d 0 100000 = true) (hc : Y.cl.contains d = false) (hf : ¬ 200 ≤ Y.cl.length) : Calls Try.prog 20 #[.agg C, .int .i64 d] w (CloseEnd Y { Y with cl := insL Y.cl (cntLt Y.cl d) d } w) := by
  have HCK := Lib.hid (fun W (hb : Below w.heap.size w W) => checkYard_any C Y W ((hY.below hb (Nat.le_refl _)).more hb.size) hs.cl hs.pi hs.ma hs.nm)
  have HLOAD := load_any hY
  have HC28 := Lib.hid hY.len
  have hn : chkY Y = 0 := by unfold okY at h; exact eq_of_beq h
  have hv := okY_valid h
  obtain ⟨A1, k1, e1, L1⟩ := hY.cl
  have HBS := Lib.hid (fun W (hb : Below w.heap.size w W) => bsearch_any Y.cl d A1 k1 W ((L1.below hb (Nat.le_refl _)).more hb.size) hv.ris (by have := hv.n1; omega))
  have hln := hv.n1
  rw [hn] at HCK
  clear hn h hs
  obtain ⟨A2, k2, e2, L2⟩ := hY.pi
  obtain ⟨A3, k3, e3, L3⟩ := hY.ma
  have HCL := Lib.hid (fun W (hb : Below w.heap.size w W) => clone_ints Y.cl A1 k1 W ((L1.below hb (Nat.le_refl _)).more hb.size) (by omega))
  have HCP := Lib.hid (fun W (hb : Below w.heap.size w W) => clone_pits Y.pi A2 k2 W ((L2.below hb (Nat.le_refl _)).more hb.size) (by have := hv.n2; omega))
  have HCM := Lib.hid (fun W (hb : Below w.heap.size w W) => clone_mass Y.ma A3 k3 W ((L3.below hb (Nat.le_refl _)).more hb.size) (by have := hv.n3; omega))
  have hcnt : cntLt Y.cl d ≤ Y.cl.length := List.countP_le_length
  have HIL := Lib.hid (insL_len Y.cl (cntLt Y.cl d) d hcnt)
  have HYS := Lib.hid hY.se
  have HYD := Lib.hid hY.dry
  have hsz := hY.size
  have HD := Lib.hid hd; clear hd
  rw [hc] at HBS
  clear hY hv L1 L2 L3 hc
  generalize hn : cntLt Y.cl d = n at *
  have HNN := Lib.hid hn; clear hn
  go_enter Try.func20, Try.ntmps20
  go_upto_region 12 with (first | (refine wpList_load_guard (P := Try.prog) (by rfl) 29 (.tmp 2) rfl w.heap.size 0 rfl C.toList _ (HLOAD.out _ _ (by exact bkw)) Try.underlying29 rfl (by rw [HC28.out]; exact info29) ?_) | (go_at_call 16; refine (HCK.out _ (by exact bw)).mono ?_; rintro e w1 ⟨rfl, hb1⟩; have hB1 : Below w.heap.size w w1 := Below.trans (by exact bw) (hb1.mono (by first | omega | (simp; omega) | simp)); have hK1 : Bk w1 w.heap.size 29 C := Bk.below (by exact bkw) hb1 (by first | omega | (simp; omega) | simp); have hJ1 : Bk w1 (w.heap.size + 1) 29 zeroC.toArray := Bk.below (zero_new w C) hb1 (by first | omega | (simp; omega) | simp); have hl1 := hJ1.lt; have x1 := hK1.cell 24 e1; clear hb1) | (go_at_call 76; refine (HBS.out _ hB1).mono ?_; rintro e w2 ⟨rfl, hb2⟩; have hB2 : Below w.heap.size w w2 := Below.trans hB1 (hb2.mono hB1.size); have hK2 := hK1.below hb2 hK1.lt; have hJ2 := hJ1.below hb2 hl1; have hl2 := hJ2.lt; have x2 := hK2.cell 24 e1; clear hb2) | (go_at_call 66; refine (in_any _ _ _ _).mono ?_; rintro e w' ⟨rfl, rfl⟩; rw [HD.out]) | (go_at_call 78; refine (HCL.out _ hB2).mono ?_; rintro e w3 ⟨v3, rfl, ho3, hb3⟩; have hB3 : Below w.heap.size w w3 := Below.trans hB2 (hb3.mono hB2.size); have hK3 := hK2.below hb3 hK2.lt; have hJ3 := hJ2.below hb3 hl2; have hl3 := hJ3.lt; have hz3 := hb3.size; clear hb3) | (go_at_call 77; refine (insert_any Y.cl n d v3 w2.heap.size w3.heap.size (w3.alloc (.cells #[.int .i64 d] 3)) (ho3.alloc _) (Bk.new _ _ _) (.inr (fun e => by have := own_lt ho3 _ e.symm; omega)) (by omega) (by omega) (by simp; omega)).mono ?_; rintro e w4 ⟨g4, c4, R4, rfl, hl4, hg4, hG4, hc4, hb4⟩; rw [HIL.out]; have hB4 : Below w.heap.size w w4 := Below.trans (by exact bw) (hb4.mono hB2.size); have hK4 : Bk w4 w.heap.size 29 C := Bk.below (by exact bkw) hb4 hK2.lt; have hJ4 : Bk w4 (w.heap.size + 1) 29 zeroC.toArray := Bk.below (by exact bkw) hb4 hl2; have hl5 := hJ4.lt; have hk4 := hK4.lt; have x4 := hK4.cell 24 e1; have f4 := hK4.fro 24; clear hb4))
  obtain ⟨A4, hAe⟩ : ∃ A4 : Option Addr, A4 = some ⟨g4, 0, none⟩ := ⟨_, rfl⟩
  rw [← hAe] at hl4 ⊢
  have hA4 : ∀ ad, A4 = some ad → w2.heap.size ≤ ad.block := fun ad e => by rw [hAe] at e; cases e; exact hg4
  have hG5 : Bk (w4.setCell ⟨w.heap.size, 24, none⟩ (Value.slice A4 (Y.cl.length + 1) c4)) g4 3 R4 := hG4.far (by have := hB2.size; have := hK2.lt; show g4 ≠ w.heap.size; omega) _
  have hlt4 := hG4.lt
  obtain ⟨V, hV⟩ : ∃ V, V = Value.slice A4 (Y.cl.length + 1) c4 := ⟨_, rfl⟩
  rw [← hV] at hG5 ⊢
  have hK5 : Bk (w4.setCell ⟨w.heap.size, 24, none⟩ V) w.heap.size 29 (C.setIfInBounds 24 V) := hK4.set 24 V
  have hJ5 : Bk (w4.setCell ⟨w.heap.size, 24, none⟩ V) (w.heap.size + 1) 29 zeroC.toArray := hJ4.far (by simp) V
  have hB5 : Below w.heap.size w (w4.setCell ⟨w.heap.size, 24, none⟩ V) := hB4.setCell (Nat.le_refl _) _
  have hl6 : Lies (w4.setCell ⟨w.heap.size, 24, none⟩ V) w4.heap.size A4 (ints (insL Y.cl n d)) := (far_setCells w.heap.size [V] 24 w4).lies hl4 (fun ad e => by have := hA4 ad e; have := hB2.size; have := hK2.lt; omega)
  have HV := Lib.hid hV
  clear hV hl4 hK4 hJ4 hB4 x4 f4
  have HSZ : Hid (w4.heap.size ≤ (w4.setCell ⟨w.heap.size, 24, none⟩ V).heap.size) := by show _ ≤ _; simp
  generalize w4.setCell ⟨w.heap.size, 24, none⟩ V = w5 at *
  have y2 : w5.cell? ⟨w.heap.size, 25, none⟩ = some (.slice A2 Y.pi.length k2) := hK5.cell 25 (by rw [Array.getElem?_setIfInBounds_ne (by omega)]; exact e2)
  have y3 : w5.cell? ⟨w.heap.size, 26, none⟩ = some (.slice A3 Y.ma.length k3) := hK5.cell 26 (by rw [Array.getElem?_setIfInBounds_ne (by omega)]; exact e3)
  have Y2 : Hid ((C.setIfInBounds 24 V)[25]? = some (.slice A2 Y.pi.length k2)) := by show _ = _; rw [Array.getElem?_setIfInBounds_ne (by omega)]; exact e2
  have Y3 : Hid ((C.setIfInBounds 24 V)[26]? = some (.slice A3 Y.ma.length k3)) := by show _ = _; rw [Array.getElem?_setIfInBounds_ne (by omega)]; exact e3
  have hlk := hK5.lt
  have hlj := hJ5.lt
  have hlg := hG5.lt
  have HAE := Lib.hid hAe
  clear hAe hG4
  go_region_with (first | (go_at_call 79; refine (HCP.out _ (by exact bw)).mono ?_; rintro e w6 ⟨v6, rfl, ho6, hb6⟩; obtain ⟨A6, c6, rfl, _, _⟩ := ownsSlice ho6; have hB6 : Below w.heap.size w w6 := Below.trans (by exact bw) (hb6.mono (by first | exact hB5.size | (simp; exact hB5.size))); have hK6 : Bk w6 w.heap.size 29 (C.setIfInBounds 24 V) := Bk.below (by exact bkw) hb6 (by first | exact hlk | (simp; exact hlk)); have hJ6 : Bk w6 (w.heap.size + 1) 29 zeroC.toArray := Bk.below (by exact bkw) hb6 (by first | exact hlj | (simp; exact hlj)); have hG6 : Bk w6 g4 3 R4 := Bk.below (by exact bkw) hb6 (by first | exact hlg | (simp; exact hlg)); have hlt6 := Lib.hid (own_lt ho6); have hC6 : Below w5.heap.size w5 w6 := Below.trans (by exact bw) (hb6.mono (by first | exact Nat.le_refl _ | simp)); have hl7 : Lies w6 w4.heap.size A4 (ints (insL Y.cl n d)) := hl6.below hC6 HSZ.out; have y6 := hK6.cell 26 Y3.out; clear hb6) | (go_at_call 80; refine (HCM.out _ (by exact bw)).mono ?_; rintro e w7 ⟨v7, rfl, ho7, hb7⟩; obtain ⟨A7, c7, rfl, _, _⟩ := ownsSlice ho7; have hB7 : Below w.heap.size w w7 := Below.trans (by exact bw) (hb7.mono (by first | exact hB6.size | (simp; exact hB6.size))); have hK7 : Bk w7 w.heap.size 29 (C.setIfInBounds 24 V) := Bk.below (by exact bkw) hb7 (by first | exact hK6.lt | (simp; exact hK6.lt)); have hJ7 : Bk w7 (w.heap.size + 1) 29 zeroC.toArray := Bk.below (by exact bkw) hb7 (by first | exact hJ6.lt | (simp; exact hJ6.lt)); have hlk7 := hK7.lt; have hG7 : Bk w7 g4 3 R4 := Bk.below (by exact bkw) hb7 (by first | exact hG6.lt | (simp; exact hG6.lt)); have q2 := hK7.cell 25 Y2.out; have q3 := hK7.cell 26 Y3.out; have r2 := hK7.fro 25; have r3 := hK7.fro 26; have hC7 : Below w6.heap.size w6 w7 := Below.trans (by exact bw) (hb7.mono (by first | exact Nat.le_refl _ | simp)); have ho8 := ownsRow_below ho6 hC7 (Nat.le_refl _); have hl8 : Lies w7 w4.heap.size A4 (ints (insL Y.cl n d)) := hl7.below hC7 (by have := hC6.size; have := HSZ.out; omega); have hs7 := hC7.size; clear hb7))
  all_goals
    have hF1 : Far w7 (w7.setCell ⟨w.heap.size, 25, none⟩ (.slice A6 Y.pi.length c6)) w.heap.size := far_setCells w.heap.size [_] 25 w7
    have hF2 : Far (w7.setCell ⟨w.heap.size, 25, none⟩ (.slice A6 Y.pi.length c6)) ((w7.setCell ⟨w.heap.size, 25, none⟩ (.slice A6 Y.pi.length c6)).setCell ⟨w.heap.size, 26, none⟩ (.slice A7 Y.ma.length c7)) w.heap.size := far_setCells w.heap.size [_] 26 _
    have hK8 := (hK7.set 25 (.slice A6 Y.pi.length c6)).set 26 (.slice A7 Y.ma.length c7)
    have hJ8 := hF2.bk (by omega) (hF1.bk (by omega) hJ7)
    have hB8 := hF2.bel _ _ (Nat.le_refl _) (hF1.bel _ _ (Nat.le_refl _) hB7)
    have hA6 := own_ne' (b := w.heap.size) ho8 (by first | exact hlk | (simp; exact hlk))
    have hA7 := own_ne' (b := w.heap.size) ho7 (by first | exact hK6.lt | (simp; exact hK6.lt))
    have hA4' : ∀ ad, A4 = some ad → ad.block ≠ w.heap.size := fun ad e => by have := hA4 ad e; have := hB2.size; have := hK2.lt; omega
    have hG8 := hF2.bk (by omega) (hF1.bk (by omega) hG7)
    have hO6 := hF2.own (hF1.own ho8 hlk) hlk
    have hO7 := hF2.own (hF1.own ho7 (by first | exact hK6.lt | (simp; exact hK6.lt))) (by first | exact hK6.lt | (simp; exact hK6.lt))
    have hj6 := hJ6.lt
    have hsz6 := hC6.size
    have hL4 := hF2.lies (hF1.lies hl8 hA4') hA4'
    have hL6 := hF2.lies (hF1.lies (ownsRow_lies ho8) hA6) hA6
    have hL7 := hF2.lies (hF1.lies (ownsRow_lies ho7) hA7) hA7
    have hsz8 : w4.heap.size ≤ ((w7.setCell ⟨w.heap.size, 25, none⟩ (.slice A6 Y.pi.length c6)).setCell ⟨w.heap.size, 26, none⟩ (.slice A7 Y.ma.length c7)).heap.size := by rw [hF2.size, hF1.size]; have := hC6.size; have := HSZ.out; omega
    have hsz9 : w7.heap.size ≤ ((w7.setCell ⟨w.heap.size, 25, none⟩ (.slice A6 Y.pi.length c6)).setCell ⟨w.heap.size, 26, none⟩ (.slice A7 Y.ma.length c7)).heap.size := by rw [hF2.size, hF1.size]; exact Nat.le_refl _
    have hC8 : ∃ C8, C8 = ((C.setIfInBounds 24 V).setIfInBounds 25 (.slice A6 Y.pi.length c6)).setIfInBounds 26 (.slice A7 Y.ma.length c7) := ⟨_, rfl⟩
    obtain ⟨C8, hC8⟩ := hC8
    rw [← hC8] at hK8
    have h28 : C8.size = 28 := by rw [hC8]; simp [hsz]
    have hY8 := yard_new (L := insL Y.cl n d) (c4 := c4) (c6 := c6) (c7 := c7) hsz HYS.out HYD.out (hL4.more hsz8) (hL6.more (Nat.le_trans (by first | exact hC7.size | exact Nat.le_refl _) hsz9)) (hL7.more hsz9)
    rw [HIL.out, ← HV.out, ← hC8] at hY8
    have h1c := hY8.one
    have gA4 : ∀ ad, A4 = some ad → ad.block ≠ w.heap.size + 1 := fun ad e => by have := hA4 ad e; have := hl2; omega
    have gA6 := own_ne' (b := w.heap.size + 1) ho8 (by first | exact hlj | (simp; exact hlj))
    have gA7 := own_ne' (b := w.heap.size + 1) ho7 (by first | exact hJ6.lt | (simp; exact hJ6.lt))
    have HH8 := Lib.hid hC8
    have hi8 : (Try.prog.info? 29).map (·.size) = some C8.toList.length := by rw [Array.length_toList, h28]; exact info29
    have HSZ6 := Lib.hid hsz6
    clear hC8 hF1 hF2 hG5 hG6 hG7 hsz6 hK7 hJ7 hB7 q2 q3 r2 r3 hK6 hJ6 y6 hK5 hJ5 y2 y3 ho8 hl8 hl7 hl6
    generalize ((w7.setCell ⟨w.heap.size, 25, none⟩ (Value.slice A6 Y.pi.length c6)).setCell ⟨w.heap.size, 26, none⟩ (Value.slice A7 Y.ma.length c7)) = w8 at *
    have hI8 := Lib.hid hi8
    have h288 := Lib.hid h28
    clear hi8 h28
    go_wp2_with (first | (refine wpList_load_guard (P := Try.prog) (by rfl) 29 (.tmp 2) rfl w.heap.size 0 rfl C8.toList _ hK8.range Try.underlying29 rfl hI8.out ?_) | (refine wpList_store_blk (P := Try.prog) rfl 29 (.tmp 4) (.tmp 52) rfl (w.heap.size + 1) zeroC.toArray C8 rfl rfl hJ8 h288.out.symm (by rw [h288.out]; exact info29) h1c ?_; intro w9 hk9 hf9))
    refine bodyPost_ret (results_row rfl _ _ (w.heap.size + 1) C8.toList _ rfl hk9.range Try.underlying29 rfl hI8.out) rfl ⟨C8, rfl, ?_, hf9.bel _ _ (by omega) hB8, fun hp hm => ?_⟩
    · rw [HH8.out, HV.out, ← HIL.out]
      exact yard_new (L := insL Y.cl n d) hsz HYS.out HYD.out ((hf9.lies hL4 gA4).more (by rw [hf9.size]; omega)) ((hf9.lies hL6 gA6).more (by rw [hf9.size]; omega)) ((hf9.lies hL7 gA7).more (by rw [hf9.size]; omega))
    · obtain ⟨g6, R6, rfl, k1, k2, k3⟩ := own_bk (hf9.own hO6 hlj) (fun e => hp (List.length_eq_zero_iff.1 e))
      obtain ⟨g7, R7, rfl, k4, k5, k6⟩ := own_bk (hf9.own hO7 hj6) (fun e => hm (List.length_eq_zero_iff.1 e))
      have k7 := hlt6.out g6 rfl
      have k8 := HSZ.out
      have k9 : w5.heap.size ≤ g6 := k1
      refine ⟨⟨g4, g6, g7, c4, c6, c7, R4, R6, R7, by omega, by omega, by omega, ?_, ?_, ?_, hf9.bk (by omega) hG8, k2, k5, by first | exact hc4 | (rw [HIL.out]; exact hc4), k3, k6⟩⟩
      · rw [HH8.out, HV.out, HAE.out, HIL.out, Array.getElem?_setIfInBounds_ne (by omega), Array.getElem?_setIfInBounds_ne (by omega)]; simp [hsz]
      · rw [HH8.out, Array.getElem?_setIfInBounds_ne (by omega)]; simp [hsz]
      · rw [HH8.out]; simp [hsz]

end Go.Proofs.Ytjgnikmnadmheaa

namespace Go.Proofs.Ytjgnikmnadmheaa
open Go.RowKit

theorem Close_any (C : Array Value) (Y : Yd) (d : Int) (w : World) (hY : YardAt w w.heap.size C Y) (hs : Small Y) : Calls Try.prog 20 #[.agg C, .int .i64 d] w (YardEnd (closeY Y d) (closeE Y d) w) := by
  unfold closeY closeE
  cases h : okY Y with
  | false =>
    have hn : chkY Y ≠ 0 := fun e => by unfold okY at h; rw [e] at h; cases h
    simp only [Bool.false_eq_true, if_false, hn]
    exact close_bad C Y d w hY hs h
  | true =>
    cases hd : inB d 0 100000 with
    | false => simp; exact close_day C Y d w hY hs h hd
    | true =>
      cases hc : Y.cl.contains d with
      | true => simp; exact close_twice C Y d w hY hs h hd hc
      | false =>
        by_cases hf : 200 ≤ Y.cl.length
        · simp only [Bool.false_eq_true, if_false, if_true, hf]; exact close_full C Y d w hY hs h hd hc hf
        · simp only [Bool.false_eq_true, if_false, if_true, hf]
          exact (close_ok C Y d w hY hs h hd hc hf).mono fun e w' ⟨C', h1, h2, h3, _⟩ => ⟨C', h1, h2, h3⟩
end Go.Proofs.Ytjgnikmnadmheaa

namespace Go.Proofs.Ytjgnikmnadmheaa
open Go.RowKit

/-- append(own, xs...), the source nil, empty or not -/
theorem wpList_append_lies {P : Program} {w : World} {ops : Array Oper} {rest : List Oper} {o : Oper} {a : Act} {Q : Exit → Act → World → Prop} (hgd : o.guard = none) (s x : Operand) (t : TypeId)
    (ho : o.op = .call { callee := .builtin .append, args := #[s, x], argTypes := #[t, t] })
    (base : Nat) (e : TypeId) (i : TypeInfo) (z : Value) (size bytes : Nat) (ht : P.underlying t = some (.slice e)) (hi : P.info? e = some i) (hz : i.zero = some z)
    (hsize : i.size = size) (hby : i.bytes = bytes) (hzs : z.cells.size = size) (hsz : 0 < size)
    (v : Value) (n : Nat) (xs : List Value) (hs : a.eval s = v) (hown : w.ownsRow base e size v n xs)
    (B : Nat) (A : Option Addr) (m c : Nat) (news : List Value) (hx : a.eval x = .slice A m c) (hl : news.length = m * size) (hr : Lies w B A news) (h1 : ∀ u ∈ news, u.oneCell' = true)
    (h63 : n + m ≤ maxLen) (hbytes : (n + m) * bytes ≤ 140737488355328) (hbase : base ≤ w.heap.size)
    (h : ∀ v' w', w'.ownsRow base e size v' (n + m) (xs ++ news) → w.grownBy w' v.ownBlock → wpList P ops Q rest (a.put o.dst v') w') : wpList P ops Q (o :: rest) a w := by
  cases A with
  | some ad =>
    refine wpList_append_own w hgd s x t ho base e i z size bytes ht hi hz hsize hby hzs hsz v n xs hs hown ad m c news hx hl (fun j u hj => ?_) h1 h63 hbytes hbase (fun v' w' h2 h3 _ => h v' w' h2 h3)
    obtain ⟨ad2, e2, _, hc⟩ := hr (by intro e; rw [e] at hj; simp at hj)
    cases e2; exact hc j u hj
  | none =>
    have hn : news = [] := Classical.byContradiction fun hne => by
      obtain ⟨ad, e, _⟩ := hr hne
      cases e
    subst hn
    have hm : m = 0 := by
      rcases Nat.eq_zero_or_pos m with h0 | h0
      · exact h0
      · have := Nat.mul_pos h0 hsz; simp at hl; omega
    subst hm
    refine wpList_plain hgd fun K hK => ?_
    have hrun : (Builtin.append_ #[t, t] o.type #[v, .slice none 0 c]).run P w = .ok v w := by
      rcases hown.2 with ⟨rfl, rfl⟩ | ⟨g, cap, cur, rfl, _, _, hnc, _⟩
      · simp [Builtin.append_, run_underlying ht, sizeOf, typeInfo, hi, Builtin.lenOf, Builtin.firstCells]
      · simp [Builtin.append_, run_underlying ht, sizeOf, typeInfo, hi, Builtin.lenOf, Builtin.firstCells, hnc, storeCells]
    unfold Oper.wp
    simp [execOp, ho, resolve, invoke, builtin, hs, hx, hrun, Result.andThen]
    exact hK _ _ (h v w (by simpa using hown) (World.grownBy.refl w _))

theorem cntLt_at {l : List Int} (x : Int) (h : l.Pairwise (· < ·)) : ∀ j (hj : j < l.length), j < cntLt l x ↔ l[j] < x := by
  unfold cntLt
  induction l with
  | nil => intro j hj; simp at hj
  | cons y r ih =>
    intro j hj
    have h1 := List.pairwise_cons.1 h
    rw [List.countP_cons]
    have hall : ¬ y < x → r.countP (fun z => decide (z < x)) = 0 := fun hy => by
      rw [List.countP_eq_zero]
      intro z hz
      have := h1.1 z hz
      simp; omega
    cases j with
    | zero =>
      by_cases hy : y < x
      · simp [hy]
      · simp [hy, hall hy]
    | succ j =>
      have := ih h1.2 j (by simpa using hj)
      by_cases hy : y < x
      · simp [hy]; exact this
      · rw [hall hy]
        have hr := h1.1 _ (List.getElem_mem (by simpa using hj : j < r.length))
        simp [hy]; omega
theorem cntLt_le (l : List Int) (x : Int) : cntLt l x ≤ l.length := List.countP_le_length
/-- the reference's list when k days are over -/
def clK (l : List Int) (p k : Nat) (x : Int) : List Int := if k ≤ p then l.take k else insL (l.take k) p x
theorem clK_lo {l : List Int} {p k : Nat} {x : Int} (hk : k < l.length) (h : k < p) : clK l p (k + 1) x = clK l p k x ++ [l[k]] := by
  unfold clK; rw [if_pos (by omega), if_pos (by omega), List.take_succ_eq_append_getElem hk]
theorem clK_at {l : List Int} {p : Nat} {x : Int} (hk : p < l.length) : clK l p (p + 1) x = (clK l p p x ++ [x]) ++ [l[p]] := by
  unfold clK; rw [if_neg (by omega), if_pos (Nat.le_refl _), List.take_succ_eq_append_getElem hk]
  unfold insL
  rw [List.take_append_of_le_length (by simp; omega), List.take_take, Nat.min_self, List.drop_append_of_le_length (by simp; omega)]
  simp
theorem clK_hi {l : List Int} {p k : Nat} {x : Int} (hk : k < l.length) (h : p < k) : clK l p (k + 1) x = clK l p k x ++ [l[k]] := by
  unfold clK; rw [if_neg (by omega), if_neg (by omega), List.take_succ_eq_append_getElem hk]
  unfold insL
  rw [List.take_append_of_le_length (by simp; omega), List.drop_append_of_le_length (by simp; omega)]
  simp
theorem clK_len {l : List Int} {p k : Nat} (x : Int) (hk : k ≤ l.length) : (clK l p k x).length ≤ k + 1 := by
  unfold clK insL; split <;> simp <;> omega
theorem clK_end {l : List Int} {p : Nat} (x : Int) (h : p < l.length) : clK l p l.length x = insL l p x := by
  unfold clK; rw [if_neg (by omega), List.take_length]
theorem clK_end0 (l : List Int) (x : Int) : clK l l.length l.length x ++ [x] = insL l l.length x := by
  unfold clK insL; rw [if_pos (Nat.le_refl _)]; simp
end Go.Proofs.Ytjgnikmnadmheaa

namespace Go.Proofs.Ytjgnikmnadmheaa
open Go.RowKit

theorem info55 : (Try.prog.info? 55).map (fun i => (i.zero, i.size, i.bytes)) = some (some (.agg #[.int .i64 0, .int .i64 0, .int .i64 0]), 3, 24) := by kernel_rfl
theorem one_turns (l : List Tu) : ∀ u ∈ turnsC l, u.oneCell' = true := fun u hu => by
  unfold turnsC at hu; obtain ⟨p, _, hp⟩ := List.mem_flatMap.1 hu
  simp at hp; rcases hp with rfl | rfl | rfl <;> rfl
theorem turns_len (l : List Tu) : (turnsC l).length = l.length * 3 := flat_length Tu.cells 3 (fun _ => rfl) l
theorem turns_snoc (l : List Tu) (t : Tu) : turnsC l ++ t.cells = turnsC (l ++ [t]) := by unfold turnsC; simp
theorem cells_new (w : World) (cs : Array Value) (t : TypeId) (j : Nat) (u : Value) (h : cs.toList[j]? = some u) : (w.alloc (.cells cs t)).cell? ((⟨w.heap.size, 0, none⟩ : Addr).add j) = some u := by
  obtain ⟨ad, e, _, hc⟩ := Lies.new w cs t (B := w.heap.size + 1) (by omega) (by intro e; rw [e] at h; simp at h)
  cases e
  exact hc j u h
/-- one operation that alone may come up -/
theorem held_one {P : Program} {ops : Array Oper} {Q : Exit → Act → World → Prop} {S : World → Prop} {fuel : Nat} {listed : Array Bool} {a : Act} {w : World} (i : Nat) (o : Oper) (ho : ops[i]? = some o) (hr : Region.ready .any ops listed = [i])
    (hw : Region.wanted o (yielded ops a.tmps) = true) (h : o.wp P a w (fun a' w' => S w' ∧ wpAnyH P .any ops Q S fuel (listed.setIfInBounds i true) a' w') Q) : wpAnyH P .any ops Q S (fuel + 1) listed a w := by
  refine wpAnyH_all hr (by simp) fun j hj => ?_
  obtain rfl : j = i := by simpa using hj
  unfold wpOp
  rw [ho]
  dsimp only
  rw [if_pos hw]
  exact .inl h

/-- the usual turn of the next task -/
def usualT (Y : Yd) (l : List Tk) (days : List Int) (ts : List Tu) : Tu :=
  let d := days.getD ts.length 0
  ⟨d, pitOf Y.pi ts d, bestM Y.ma (skL Y.ma d (match l[ts.length]? with | some t => t.need | none => 0))⟩
def usualU (Y : Yd) (l : List Tk) (days : List Int) : Nat → List Tu → List Tu
  | 0, ts => ts
  | m + 1, ts => usualU Y l days m (ts ++ [usualT Y l days ts])
def usual (Y : Yd) (l : List Tk) (stay : List Tu) (days : List Int) : List Tu := usualU Y l days (days.length - stay.length) stay
theorem usual_end {Y : Yd} {l : List Tk} {ts : List Tu} {days : List Int} (h : days.length ≤ ts.length) : usual Y l ts days = ts := by unfold usual; rw [Nat.sub_eq_zero_of_le h]; rfl
theorem usual_step {Y : Yd} {l : List Tk} {ts : List Tu} {days : List Int} (h : ts.length < days.length) : usual Y l ts days = usual Y l (ts ++ [usualT Y l days ts]) days := by
  unfold usual
  obtain ⟨m, hm⟩ : ∃ m, days.length - ts.length = m + 1 := ⟨days.length - ts.length - 1, by omega⟩
  have : days.length - (ts ++ [usualT Y l days ts]).length = m := by simp; omega
  rw [hm, this]; rfl
theorem usualT_at {Y : Yd} {l : List Tk} {ts : List Tu} {days : List Int} (h : ts.length < days.length) (hl : ts.length < l.length) : usualT Y l days ts = ⟨days[ts.length], pitOf Y.pi ts days[ts.length], bestM Y.ma (skL Y.ma days[ts.length] l[ts.length].need)⟩ := by
  unfold usualT; rw [List.getElem?_eq_getElem hl, List.getD_eq_getElem?_getD, List.getElem?_eq_getElem h]; rfl
def PlanEnd (ts : List Tu) (w : World) (e : Ending) (w' : World) : Prop := ∃ v : Value, e = .returned (.agg #[v]) ∧ w'.ownsRow w.heap.size 55 3 v ts.length (turnsC ts) ∧ Below w.heap.size w w'

set_option maxRecDepth 100000 in
set_option maxHeartbeats 1000000 in
theorem rusual_any (C : Array Value) (Y : Yd) (l : List Tk) (A : Option Addr) (c : Nat) (stay : List Tu) (T : Option Addr) (ct : Nat) (days : List Int) (D : Option Addr) (cd : Nat) (w : World) (hY : YardAt w w.heap.size C Y) (ho : okY Y = true) (hL : TasksAt w w.heap.size A l)
    (hT : Lies w w.heap.size T (turnsC stay)) (hD : Lies w w.heap.size D (ints days)) (hn : days.length ≤ l.length) (hl : l.length ≤ 12) (hs : stay.length ≤ 20) :
    Calls Try.prog 46 #[.agg C, .slice A l.length c, .slice T stay.length ct, .slice D days.length cd] w (PlanEnd (usual Y l stay days) w) := by
  have HLOAD := load_any hY
  have HC28 := Lib.hid hY.len
  have HPI : Hid (∀ W : World, Below w.heap.size w W → ∀ (ts : List Tu) (A2 : Option Addr) (c2 : Nat) (d : Int), W.ownsRow (w.heap.size + 2) 55 3 (.slice A2 ts.length c2) ts.length (turnsC ts) → ts.length ≤ 1000 → Calls Try.prog 101 #[.agg C, .slice A2 ts.length c2, .int .i64 d] W (IntEnd (pitOf Y.pi ts d) W)) :=
    fun W hb ts A2 c2 d h hn => rpit_any C Y ts A2 c2 d W ((hY.below hb (Nat.le_refl _)).more hb.size) (okY_valid ho) (ownsRow_lies h) hn
  have HMA : Hid (∀ W : World, Below w.heap.size w W → ∀ d need : Int, Calls Try.prog 102 #[.agg C, .int .i64 d, .int .i64 need] W (IntEnd (bestM Y.ma (skL Y.ma d need)) W)) :=
    fun W hb d need => rmaster_any C Y d need W ((hY.below hb (Nat.le_refl _)).more hb.size) ho
  have HDD := Lib.hid (fun W (hb : Below w.heap.size w W) => hD.below hb (Nat.le_refl _))
  have HLL := Lib.hid (fun W (hb : Below w.heap.size w W) => hL.at_.below hb (Nat.le_refl _))
  have HTL := Lib.hid (turns_len stay)
  have hi29 : (Try.prog.info? 29).map (·.size) = some C.toList.length := by rw [HC28.out]; exact info29
  have hu29 := Try.underlying29
  obtain ⟨i0, hi0, hz0, hz1, hz2⟩ := info_parts info55
  have I5 := Lib.hid (And.intro hi0 (And.intro hz0 (And.intro hz1 hz2))); clear hi0 hz0 hz1 hz2
  clear hY ho hL hD
  generalize hE : usual Y l stay days = E at *
  have HE := Lib.hid hE; clear hE
  go_enter Try.func46, Try.ntmps46
  have k4 : Bk ((w.alloc (.cells C 29)).alloc (.cells #[.slice none 0 0] 42)) w.heap.size 29 C := (Bk.new _ _ _).alloc _
  have k8 : Bk ((w.alloc (.cells C 29)).alloc (.cells #[.slice none 0 0] 42)) (w.heap.size + 1) 42 #[.slice none 0 0] := by simpa using Bk.new (w.alloc (.cells C 29)) 42 #[.slice none 0 0]
  have hb0 : Below w.heap.size w ((w.alloc (.cells C 29)).alloc (.cells #[.slice none 0 0] 42)) := by exact (by repeat (first | with_reducible exact Below.refl _ _ | with_reducible assumption | with_reducible refine Below.drew ?_ | with_reducible refine below_drewN ?_ _ | (with_reducible refine Below.alloc ?_ ?_ _; rotate_left; (try simp) <;> omega) | (with_reducible refine Below.setCell ?_ ?_ _; rotate_left; (try simp) <;> omega)))
  have hz0 : ((w.alloc (.cells C 29)).alloc (.cells #[.slice none 0 0] 42)).heap.size = w.heap.size + 2 := by simp
  go_upto_region 1 with fail
  generalize (w.alloc (.cells C 29)).alloc (.cells #[.slice none 0 0] 42) = w0 at *
  have HZ0 := Lib.hid hz0
  have hz1 : w.heap.size + 2 ≤ w0.heap.size := by omega
  clear hz0
  go_wp2_with (at_builtin; refine wpList_append_lies rfl (.tmp 11) (.tmp 12) 40 rfl w0.heap.size 55 i0 (.agg #[.int .i64 0, .int .i64 0, .int .i64 0]) 3 24 Try.underlying40 I5.out.1 I5.out.2.1 I5.out.2.2.1 I5.out.2.2.2 rfl (by decide) (.slice (some ⟨w0.heap.size, 0, none⟩) 0 0) 0 [] rfl (World.ownsRow_made w0 #[] 0 (Nat.le_refl _) (Nat.zero_le _) rfl) w.heap.size T stay.length ct (turnsC stay) rfl ?_ ?_ ?_ ?_ ?_ ?_ ?_; (exact HTL.out); (exact hT.below (by exact (by repeat (first | with_reducible exact Below.refl _ _ | with_reducible assumption | with_reducible refine Below.drew ?_ | with_reducible refine below_drewN ?_ _ | (with_reducible refine Below.alloc ?_ ?_ _; rotate_left; (try simp) <;> omega) | (with_reducible refine Below.setCell ?_ ?_ _; rotate_left; (try simp) <;> omega)))) (Nat.le_refl _)); (exact one_turns _); (unfold maxLen; omega); (omega); (simp); intro v1 w1 ho1 hg1; rw [Nat.zero_add, List.nil_append, HZ0.out] at ho1; have hb1 : Below w.heap.size w w1 := Below.grown (by exact (by repeat (first | with_reducible exact Below.refl _ _ | with_reducible assumption | with_reducible refine Below.drew ?_ | with_reducible refine below_drewN ?_ _ | (with_reducible refine Below.alloc ?_ ?_ _; rotate_left; (try simp) <;> omega) | (with_reducible refine Below.setCell ?_ ?_ _; rotate_left; (try simp) <;> omega)))) hg1 (by simp; omega) (by intro g hg; simp [Value.ownBlock] at hg; omega); have hk4 : Bk w1 w.heap.size 29 C := Bk.grown (by exact (by repeat (first | with_reducible assumption | with_reducible exact Bk.new _ _ _ | with_reducible refine Bk.drew ?_ | with_reducible refine Bk.drewN ?_ _ | with_reducible refine Bk.alloc ?_ _ | (with_reducible refine Bk.far ?_ ?_ _; rotate_left; (try simp) <;> omega)))) hg1 (by simp [Value.ownBlock]; omega); have hk8 : Bk w1 (w.heap.size + 1) 42 #[.slice none 0 0] := Bk.grown (by exact (by repeat (first | with_reducible assumption | with_reducible exact Bk.new _ _ _ | with_reducible refine Bk.drew ?_ | with_reducible refine Bk.drewN ?_ _ | with_reducible refine Bk.alloc ?_ _ | (with_reducible refine Bk.far ?_ ?_ _; rotate_left; (try simp) <;> omega)))) hg1 (by simp [Value.ownBlock]; omega); clear hg1)
  go_loopw [9, 10] (fun v y wr => ∃ ts : List Tu, ts.length ≤ 20 ∧ y = .int .i64 ts.length ∧ wr.ownsRow (w.heap.size + 2) 55 3 v ts.length (turnsC ts) ∧ Hid (usual Y l ts days = E) ∧ Below w.heap.size w wr ∧ (Bk wr w.heap.size 29 C ∧ Bk wr (w.heap.size + 1) 42 #[.slice none 0 0])) (fun _ y _ => days.length - (intOf y).toNat)
  case atStart => exact ⟨stay, hs, rfl, ho1, HE, hb1, hk4, hk8⟩
  case round =>
  clear ho1 hb1 hk4 hk8 hb0 k4 k8 hz1 HZ0
  obtain ⟨ts, hts, rfl, hown, HU, hbw, hbk, hb8⟩ := hrel
  obtain ⟨A2, c2, rfl, _, _⟩ := ownsSlice hown
  have hbs := hb8.lt
  by_cases hlt : ts.length < days.length
  · obtain ⟨a1, rfl, ha1, d0⟩ := int_at (HDD.out wr hbw) hlt
    obtain ⟨a2, rfl, ha2, _, t1, _, _⟩ := task_at (HLL.out wr hbw) (k := ts.length) (by omega)
    have HST := Lib.hid (usual_step (Y := Y) (l := l) hlt)
    rw [usualT_at hlt (by omega)] at HST
    have hr := hbk.range
    generalize hx1 : days[ts.length] = d at *
    generalize hx2 : l[ts.length].need = nd at *
    have HX1 := Lib.hid hx1; have HX2 := Lib.hid hx2; clear hx1 hx2
    have HP2 := Lib.hid (HPI.out wr.drew (by exact (by repeat (first | with_reducible exact Below.refl _ _ | with_reducible assumption | with_reducible refine Below.drew ?_ | with_reducible refine below_drewN ?_ _ | (with_reducible refine Below.alloc ?_ ?_ _; rotate_left; (try simp) <;> omega) | (with_reducible refine Below.setCell ?_ ?_ _; rotate_left; (try simp) <;> omega)))) ts A2 c2 d hown (by omega))
    have HM2 := Lib.hid (fun W hb => HMA.out W hb d nd)
    have hnl : ts.length < l.length := by omega
    generalize pitOf Y.pi ts d = pp at *
    generalize bestM Y.ma (skL Y.ma d nd) = mm at *
    have hnI : (ts.length : Int) < (days.length : Int) := by omega
    have hn0 : 0 ≤ (ts.length : Int) := by omega
    have hnL : (ts.length : Int) < (l.length : Int) := by omega
    have l4 := hbk.lt
    have ha1' : (a1.add ts.length).block < w.heap.size := by rw [add_block]; exact ha1
    have ha2' : (a2.add (ts.length * 4)).block < w.heap.size := by rw [add_block]; exact ha2
    have hS : Hid (∀ W : World, Below w.heap.size w W → Bk W w.heap.size 29 C → W.rangeAt w.heap.size 0 C.toList ∧ W.cell? (a1.add ts.length) = some (.int .i64 d) ∧ W.cell? ⟨(a2.add (ts.length * 4)).block, (a2.add (ts.length * 4)).off + 1, none⟩ = some (.int .i64 nd)) := fun W hb hk => by
      obtain ⟨b1, e1, _, q1⟩ := int_at (HDD.out W hb) (k := ts.length) (by omega)
      obtain ⟨b2, e2, _, _, q2, _, _⟩ := task_at (HLL.out W hb) (k := ts.length) (by omega)
      cases e1; cases e2
      rw [HX1.out] at q1
      rw [HX2.out] at q2
      exact ⟨hk.range, q1, q2⟩
    go_wp2
    refine wp_region_held_drew (S := (fun w' => w'.rangeAt w.heap.size 0 C.toList ∧ w'.cell? (a1.add ts.length) = some (.int .i64 d) ∧ w'.cell? ⟨(a2.add (ts.length * 4)).block, (a2.add (ts.length * 4)).off + 1, none⟩ = some (.int .i64 nd))) (by kernel_rfl) ?_ (fun hHeld => ?_)
    · exact hS.out _ (by exact (by repeat (first | with_reducible exact Below.refl _ _ | with_reducible assumption | with_reducible refine Below.drew ?_ | with_reducible refine below_drewN ?_ _ | (with_reducible refine Below.alloc ?_ ?_ _; rotate_left; (try simp) <;> omega) | (with_reducible refine Below.setCell ?_ ?_ _; rotate_left; (try simp) <;> omega)))) (by exact (by repeat (first | with_reducible assumption | with_reducible exact Bk.new _ _ _ | with_reducible refine Bk.drew ?_ | with_reducible refine Bk.drewN ?_ _ | with_reducible refine Bk.alloc ?_ _ | (with_reducible refine Bk.far ?_ ?_ _; rotate_left; (try simp) <;> omega))))
    refine tk 0 22 ?_
    refine tk 1 23 ?_
    refine tk 2 24 ?_
    refine tk 3 25 ?_
    refine tk 4 26 ?_
    (refine held_row 5 (some 27) 29 (.tmp 4) (w.heap.size) 0 C.toList _ rfl rfl (by kernel_rfl) (by kernel_rfl) (by kernel_rfl) (by rfl) rfl (fun _ _ _ h => h) (by assumption) (fun _ hS => hS.1) Try.underlying29 rfl (by assumption) ?_; (try simp only [Act.put, List.setIfInBounds_toArray, List.set_cons_zero, List.set_cons_succ]))
    refine tk 6 28 ?_
    refine tk 7 29 ?_
    refine tk 8 30 ?_
    refine tk 9 31 ?_
    refine tk 10 32 ?_
    (refine held_row 12 (some 34) 29 (.tmp 4) (w.heap.size) 0 C.toList _ rfl rfl (by kernel_rfl) (by kernel_rfl) (by kernel_rfl) (by rfl) rfl (fun _ _ _ h => h) (by assumption) (fun _ hS => hS.1) Try.underlying29 rfl (by assumption) ?_; (try simp only [Act.put, List.setIfInBounds_toArray, List.set_cons_zero, List.set_cons_succ]))
    refine tk 13 35 ?_
    refine tk 14 36 ?_
    refine tk 15 37 ?_
    refine tk 16 38 ?_
    refine tk 17 39 ?_
    refine tk 18 40 ?_
    refine tk 19 41 ?_
    refine tk 20 42 ?_
    refine tk 21 43 ?_
    (refine held_call 11 (some 33) 101 _ rfl (by kernel_rfl) (by rfl) ?_ (HP2.out) ?_; rotate_left; rotate_left; (simp only [List.getElem?_toArray, List.getElem?_cons_zero, List.getElem?_cons_succ, Option.map_some]; refine congrArg some ?_; go_simp))
    rintro e w5 ⟨rfl, hb5⟩
    have hB5 : Below w.heap.size w w5 := Below.trans (by exact (by repeat (first | with_reducible exact Below.refl _ _ | with_reducible assumption | with_reducible refine Below.drew ?_ | with_reducible refine below_drewN ?_ _ | (with_reducible refine Below.alloc ?_ ?_ _; rotate_left; (try simp) <;> omega) | (with_reducible refine Below.setCell ?_ ?_ _; rotate_left; (try simp) <;> omega)))) (hb5.mono hbw.size)
    have hb5' : Below wr.heap.size wr w5 := Below.trans (by exact (by repeat (first | with_reducible exact Below.refl _ _ | with_reducible assumption | with_reducible refine Below.drew ?_ | with_reducible refine below_drewN ?_ _ | (with_reducible refine Below.alloc ?_ ?_ _; rotate_left; (try simp) <;> omega) | (with_reducible refine Below.setCell ?_ ?_ _; rotate_left; (try simp) <;> omega)))) hb5
    have hK5 : Bk w5 w.heap.size 29 C := Bk.below hbk hb5' l4
    have hown5 := ownsRow_below hown hb5' (Nat.le_refl _)
    have h85 := Bk.below hb8 hb5' hbs
    refine ⟨_, rfl, hS.out _ hB5 hK5, fun hHeld => ?_⟩
    (try simp only [Act.put, List.setIfInBounds_toArray, List.set_cons_zero, List.set_cons_succ])
    (refine held_call 22 (some 44) 102 _ rfl (by kernel_rfl) (by rfl) ?_ (HM2.out w5 hB5) ?_; rotate_left; rotate_left; (simp only [List.getElem?_toArray, List.getElem?_cons_zero, List.getElem?_cons_succ, Option.map_some]; refine congrArg some ?_; go_simp))
    rintro e w6 ⟨rfl, hb6⟩
    have hB6 : Below w.heap.size w w6 := hB5.trans (hb6.mono hB5.size)
    have hK6 : Bk w6 w.heap.size 29 C := hK5.below hb6 hK5.lt
    have hown6 := ownsRow_below hown5 hb6 (Nat.le_refl _)
    have h86 := Bk.below h85 hb6 h85.lt
    have hz6 := hB6.size
    have hz7 := h86.lt
    refine ⟨_, rfl, hS.out _ hB6 hK6, fun hHeld => ?_⟩
    (try simp only [Act.put, List.setIfInBounds_toArray, List.set_cons_zero, List.set_cons_succ])
    refine tk 23 45 ?_
    refine held_one 24 ⟨some 46, .buildSlice 40 1 #[(0, .tmp 45)], 40, _, _, none⟩ rfl (by kernel_rfl) (by rfl) ?_
    unfold Oper.wp
    go_simp
    refine ⟨hS.out _ (by exact (by repeat (first | with_reducible exact Below.refl _ _ | with_reducible assumption | with_reducible refine Below.drew ?_ | with_reducible refine below_drewN ?_ _ | (with_reducible refine Below.alloc ?_ ?_ _; rotate_left; (try simp) <;> omega) | (with_reducible refine Below.setCell ?_ ?_ _; rotate_left; (try simp) <;> omega)))) (by exact (by repeat (first | with_reducible assumption | with_reducible exact Bk.new _ _ _ | with_reducible refine Bk.drew ?_ | with_reducible refine Bk.drewN ?_ _ | with_reducible refine Bk.alloc ?_ _ | (with_reducible refine Bk.far ?_ ?_ _; rotate_left; (try simp) <;> omega)))), ?_⟩
    (try simp only [Act.put, List.setIfInBounds_toArray, List.set_cons_zero, List.set_cons_succ])
    refine held_one 25 ⟨some 47, .call { callee := .builtin .append, args := #[.tmp 22, .tmp 46], argTypes := #[40, 40] }, 40, _, _, none⟩ rfl (by kernel_rfl) (by rfl) ?_
    refine wp_append_own _ (.tmp 22) (.tmp 46) 40 rfl (w.heap.size + 2) 55 i0 (.agg #[.int .i64 0, .int .i64 0, .int .i64 0]) 3 24 Try.underlying40 I5.out.1 I5.out.2.1 I5.out.2.2.1 I5.out.2.2.2 rfl (by decide) (.slice A2 ts.length c2) ts.length (turnsC ts) rfl (hown6.alloc _) ⟨w6.heap.size, 0, none⟩ 1 1 [.int .i64 d, .int .i64 pp, .int .i64 mm] rfl rfl (fun j u hj => cells_new w6 _ 55 j u hj) ?_ ?_ ?_ ?_ ?_
    · intro u hu; simp at hu; rcases hu with rfl | rfl | rfl <;> rfl
    · unfold maxLen; omega
    · omega
    · simp; omega
    intro v7 w7 hown7 hg7 _
    have hB7 : Below w.heap.size w w7 := below_own (by exact (by repeat (first | with_reducible exact Below.refl _ _ | with_reducible assumption | with_reducible refine Below.drew ?_ | with_reducible refine below_drewN ?_ _ | (with_reducible refine Below.alloc ?_ ?_ _; rotate_left; (try simp) <;> omega) | (with_reducible refine Below.setCell ?_ ?_ _; rotate_left; (try simp) <;> omega)))) (hown6.alloc _) hg7 (by omega) (by simp; omega)
    have hK7 : Bk w7 w.heap.size 29 C := Bk.grown (by exact (by repeat (first | with_reducible assumption | with_reducible exact Bk.new _ _ _ | with_reducible refine Bk.drew ?_ | with_reducible refine Bk.drewN ?_ _ | with_reducible refine Bk.alloc ?_ _ | (with_reducible refine Bk.far ?_ ?_ _; rotate_left; (try simp) <;> omega)))) hg7 (own_ne hown6 (by omega))
    have h87 : Bk w7 (w.heap.size + 1) 42 #[.slice none 0 0] := Bk.grown (by exact (by repeat (first | with_reducible assumption | with_reducible exact Bk.new _ _ _ | with_reducible refine Bk.drew ?_ | with_reducible refine Bk.drewN ?_ _ | with_reducible refine Bk.alloc ?_ _ | (with_reducible refine Bk.far ?_ ?_ _; rotate_left; (try simp) <;> omega)))) hg7 (own_ne hown6 (by omega))
    have hS7 := hS.out _ hB7 hK7
    refine ⟨hS7, ?_⟩
    (try simp only [Act.put, List.setIfInBounds_toArray, List.set_cons_zero, List.set_cons_succ])
    refine tk 26 9 ?_
    refine wpAnyH_done (by kernel_rfl) ?_ _
    have HE7 : Hid (usual Y l (ts ++ [⟨d, pp, mm⟩]) days = E) := by show _ = _; rw [← HST.out]; exact HU.out
    have hlen : Hid (ts.length + 1 = (ts ++ [(⟨d, pp, mm⟩ : Tu)]).length) := by show _ = _; simp
    have HTS := Lib.hid (turns_snoc ts ⟨d, pp, mm⟩)
    rw [show ([.int .i64 d, .int .i64 pp, .int .i64 mm] : List Value) = (⟨d, pp, mm⟩ : Tu).cells from rfl, HTS.out, hlen.out] at hown7
    clear hg7
    go_wp2
    go_roundw
    case rel => exact ⟨ts ++ [⟨d, pp, mm⟩], by rw [← hlen.out]; omega, by rw [← hlen.out]; go_num, hown7, HE7, hB7, hK7, h87⟩
    case measure => simp [intOf]; omega
  · have HU2 : Hid (E = ts) := by show _ = _; rw [← HU.out]; exact usual_end (by omega)
    have x8 := hb8.cell 0 rfl
    have f8 := hb8.fro 0
    go_wp2
    have hF := far_setCells (w.heap.size + 1) [.slice A2 ts.length c2] 0 wr
    have hs8 := hb8.set 0 (.slice A2 ts.length c2)
    have x9 := hs8.cell 0 rfl
    have ho9 : (wr.setCell ⟨w.heap.size + 1, 0, none⟩ (.slice A2 ts.length c2)).ownsRow (w.heap.size + 2) 55 3 (.slice A2 ts.length c2) ts.length (turnsC ts) := hF.own hown (by omega)
    have hb9 : Below w.heap.size w (wr.setCell ⟨w.heap.size + 1, 0, none⟩ (.slice A2 ts.length c2)) := hbw.setCell (by simp) _
    clear hF hs8 x8 f8
    generalize wr.setCell ⟨w.heap.size + 1, 0, none⟩ (.slice A2 ts.length c2) = w9 at *
    refine bodyPost_ret (v := .agg #[.slice A2 ts.length c2]) (by simp [results, Try.results46, go_sem, x9]) rfl ?_
    rw [HU2.out]
    exact ⟨_, rfl, ownsRow_base ho9 (by omega), hb9⟩
end Go.Proofs.Ytjgnikmnadmheaa
