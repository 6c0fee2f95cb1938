/- crew.Close, for all yards. -/
import Derived.Test.YtjgnikmnadmheaaS12
import Derived.Test.YtjgnikmnadmheaaS7
import Derived.Test.YtjgnikmnadmheaaD2a
import Derived.Deep.MidRow
namespace Go.Proofs.Ytjgnikmnadmheaa
open Go.RowKit

/-- the cells of a yard without anything -/
def zeroC : List Value := (List.replicate 24 (Value.int .i64 0)) ++ [.slice none 0 0, .slice none 0 0, .slice none 0 0, .int .i64 0]
def noYd : Yd := ⟨fun _ => 0, [], [], [], 0⟩
theorem zero_at (w : World) (B : Nat) : YardAt w B zeroC.toArray noYd where
  size := rfl
  se := fun k hk => by
    unfold zeroC noYd
    simp only [List.getElem?_toArray]
    rw [List.getElem?_append_left (by simp; exact hk), List.getElem?_replicate, if_pos hk]
  cl := ⟨none, 0, rfl, fun h => absurd rfl h⟩
  pi := ⟨none, 0, rfl, fun h => absurd rfl h⟩
  ma := ⟨none, 0, rfl, fun h => absurd rfl h⟩
  dry := rfl
theorem results_row {P : Program} {fn : Func} {s t ty : Nat} (h : fn.results = #[.cell s ty, .tmp t]) (tmps : Array Value) (w : World) (b : Nat) (cs : List Value) (d : TypeDesc) (ha : tmps.getD s undef = .pointer (some ⟨b, 0, none⟩))
    (hc : w.rangeAt b 0 cs) (hu : P.underlying ty = some d) (hd : d.isRow = true) (hi : (P.info? ty).map (·.size) = some cs.length) : (results fn tmps).run P w = .ok (.tuple #[.agg cs.toArray, tmps.getD t undef]) w := by
  have hl := run_loadVar_mid (P := P) w b 0 ty cs d hc hu hd hi
  have ha' : tmps[s]?.getD undef = .pointer (some ⟨b, 0, none⟩) := by simpa [Array.getD_eq_getD_getElem?] using ha
  simp [results, h, ha', asAddr, hl]

theorem Far.bk {w w' : World} {b g t : Nat} {C : Array Value} (h : Far w w' b) (hg : g ≠ b) (hk : Bk w g t C) : Bk w' g t C := (h.blk g hg).trans hk
theorem Far.own {w w' : World} {b base e size n : Nat} {v : Value} {xs : List Value} (h : Far w w' b) (ho : w.ownsRow base e size v n xs) (hb : b < base) : w'.ownsRow base e size v n xs := by
  refine ⟨ho.1, ?_⟩
  rcases ho.2 with h2 | ⟨g, cap, cur, h1, h2, h3, h4⟩
  · exact .inl h2
  · exact .inr ⟨g, cap, cur, h1, h2, (h.blk g (by omega)).trans h3, h4⟩
theorem far_setCells (b : Nat) : ∀ (vs : List Value) (o : Nat) (w : World), Far w (w.setCells b o vs) b
  | [], _, w => ⟨rfl, fun _ _ => rfl, fun _ _ _ h => h⟩
  | v :: r, o, w => by
    have h1 := far_setCells b r (o + 1) (w.setCell ⟨b, o, none⟩ v)
    refine ⟨h1.size.trans (by simp), fun g hg => (h1.blk g hg).trans (Below.heap_setCell w _ v g hg), fun B a hB hb => h1.bel B a hB (hb.setCell (by exact hB) v)⟩
/-- a whole struct is stored over a block -/
theorem wpList_store_blk {P : Program} {ops : Array Oper} {rest : List Oper} {op : Oper} {a : Act} {w : World} {Q : Exit → Act → World → Prop} (hgd : op.guard = none) (ty : TypeId) (x y : Operand) (ho : op.op = .store ty x y)
    (b : Nat) (C0 C' : Array Value) (hx : a.eval x = .pointer (some ⟨b, 0, none⟩)) (hy : a.eval y = .agg C') (hk : Bk w b ty C0) (hs : C0.size = C'.size) (hi : (P.info? ty).map (·.size) = some C'.size) (h1 : ∀ v ∈ C'.toList, v.oneCell' = true)
    (h : ∀ W', Bk W' b ty C' → Far w W' b → wpList P ops Q rest (a.put op.dst undef) W') : wpList P ops Q (op :: rest) a w := by
  refine wpList_store_mid hgd ty x y ho b 0 C' hx hy (fun j hj => ⟨?_, hk.fro _⟩) hi (Array.all_eq_true_iff_forall_mem.2 (fun v hv => h1 v (by simpa using hv))) (h _ ?_ (far_setCells b _ _ _))
  · rw [Nat.zero_add]
    rw [hk.cell j (v := C0[j]'(by omega)) (Array.getElem?_eq_getElem _)]; rfl
  · obtain ⟨C2, h2, h3, h4⟩ := Bk.setCells C'.toList 0 w C0 hk
    have : C2 = C' := by
      apply Array.ext_getElem?
      intro j
      rw [h4 j]
      by_cases hj : j < C'.size
      · rw [if_pos (by simp; omega)]; simp
      · rw [if_neg (fun h => hj (by have := h.2.1; simp at this; exact this)), Array.getElem?_eq_none (by omega), Array.getElem?_eq_none (by omega)]
    rw [this] at h2; exact h2
theorem Far.lies {w w' : World} {b B : Nat} {A : Option Addr} {cs : List Value} (h : Far w w' b) (hl : Lies w B A cs) (hA : ∀ ad, A = some ad → ad.block ≠ b) : Lies w' B A cs := fun hn => by
  obtain ⟨ad, e, hb, hc⟩ := hl hn
  refine ⟨ad, e, hb, fun j u hu => ?_⟩
  have := hc j u hu
  unfold World.cell? at this ⊢
  rw [add_block] at this ⊢
  rw [h.blk _ (hA ad e)]; exact this
/-- a yard with other lists -/
theorem yard_new {w9 : World} {C : Array Value} {Y : Yd} {L : List Int} {A4 A6 A7 : Option Addr} {c4 c6 c7 : Nat} (hsz : C.size = 28) (hse : ∀ k, k < 24 → C[k]? = some (.int .i64 (Y.se k))) (hdry : C[27]? = some (.int .i64 Y.dry))
    (h4 : Lies w9 w9.heap.size A4 (ints L)) (h6 : Lies w9 w9.heap.size A6 (pitsC Y.pi)) (h7 : Lies w9 w9.heap.size A7 (massC Y.ma)) :
    YardAt w9 w9.heap.size (((C.setIfInBounds 24 (.slice A4 L.length c4)).setIfInBounds 25 (.slice A6 Y.pi.length c6)).setIfInBounds 26 (.slice A7 Y.ma.length c7)) { Y with cl := L } where
  size := by simp [hsz]
  se := fun k hk => by rw [Array.getElem?_setIfInBounds_ne (by omega), Array.getElem?_setIfInBounds_ne (by omega), Array.getElem?_setIfInBounds_ne (by omega)]; exact hse k hk
  cl := ⟨A4, c4, by rw [Array.getElem?_setIfInBounds_ne (by omega), Array.getElem?_setIfInBounds_ne (by omega)]; simp [hsz], h4⟩
  pi := ⟨A6, c6, by rw [Array.getElem?_setIfInBounds_ne (by omega)]; simp [hsz], h6⟩
  ma := ⟨A7, c7, by simp [hsz], h7⟩
  dry := by rw [Array.getElem?_setIfInBounds_ne (by omega), Array.getElem?_setIfInBounds_ne (by omega), Array.getElem?_setIfInBounds_ne (by omega)]; exact hdry
theorem YardAt.one {w : World} {B : Nat} {C : Array Value} {Y : Yd} (h : YardAt w B C Y) : ∀ v ∈ C.toList, v.oneCell' = true := fun v hv => by
  obtain ⟨j, hj⟩ := List.getElem?_of_mem hv
  have hj' : C[j]? = some v := by simpa using hj
  have hlt : j < 28 := by have := (Array.getElem?_eq_some_iff.1 hj').1; have := h.size; omega
  obtain ⟨A1, k1, e1, _⟩ := h.cl
  obtain ⟨A2, k2, e2, _⟩ := h.pi
  obtain ⟨A3, k3, e3, _⟩ := h.ma
  by_cases h24 : j < 24
  · rw [h.se j h24] at hj'; cases hj'; rfl
  · rcases (by omega : j = 24 ∨ j = 25 ∨ j = 26 ∨ j = 27) with rfl | rfl | rfl | rfl
    · rw [e1] at hj'; cases hj'; rfl
    · rw [e2] at hj'; cases hj'; rfl
    · rw [e3] at hj'; cases hj'; rfl
    · rw [h.dry] at hj'; cases hj'; rfl
theorem own_ne' {w : World} {base b e size n c : Nat} {A : Option Addr} {xs : List Value} (h : w.ownsRow base e size (.slice A n c) n xs) (hb : b < base) : ∀ ad, A = some ad → ad.block ≠ b := fun ad hA => by
  subst hA
  rcases h.2 with ⟨h1, _⟩ | ⟨g', cap, cur, h1, h2, _⟩
  · cases h1
  · cases h1; show g' ≠ b; omega
theorem zero_new (w : World) (C : Array Value) : Bk ((w.alloc (.cells C 29)).alloc (.cells #[.int .i64 0, .int .i64 0, .int .i64 0, .int .i64 0, .int .i64 0, .int .i64 0, .int .i64 0, .int .i64 0, .int .i64 0, .int .i64 0, .int .i64 0, .int .i64 0, .int .i64 0, .int .i64 0, .int .i64 0, .int .i64 0, .int .i64 0, .int .i64 0, .int .i64 0, .int .i64 0, .int .i64 0, .int .i64 0, .int .i64 0, .int .i64 0, .slice none 0 0, .slice none 0 0, .slice none 0 0, .int .i64 0] 29)) (w.heap.size + 1) 29 zeroC.toArray := by
  have := Bk.new (w.alloc (.cells C 29)) 29 zeroC.toArray
  rw [World.size_alloc] at this
  exact this
theorem zero_one : ∀ v ∈ zeroC.toArray.toList, v.oneCell' = true := by decide

def closeE (Y : Yd) (d : Int) : Int := if okY Y = true then (if inB d 0 100000 = true then (if Y.cl.contains d = true then 6 else if 200 ≤ Y.cl.length then 2 else 0) else 1) else chkY Y
def closeY (Y : Yd) (d : Int) : Yd := if closeE Y d = 0 then { Y with cl := insL Y.cl (cntLt Y.cl d) d } else noYd
def YardEnd (Y : Yd) (n : Int) (w : World) (e : Ending) (w' : World) : Prop := ∃ C, e = .returned (.tuple #[.agg C, .int .i64 n]) ∧ YardAt w' w'.heap.size C Y ∧ Below w.heap.size w w'

set_option maxRecDepth 100000 in
set_option maxHeartbeats 1000000 in
theorem close_bad (C : Array Value) (Y : Yd) (d : Int) (w : World) (hY : YardAt w w.heap.size C Y) (hs : Small Y) (h : okY Y = false) : Calls Try.prog 20 #[.agg C, .int .i64 d] w (YardEnd noYd (chkY Y) w) := by
  have HCK := Lib.hid (fun W (hb : Below w.heap.size w W) => checkYard_any C Y W ((hY.below hb (Nat.le_refl _)).more hb.size) hs.cl hs.pi hs.ma hs.nm)
  have HLOAD := load_any hY
  have HC28 := Lib.hid hY.len
  have HN := Lib.hid (chk_of Y)
  clear hY hs
  generalize chkY Y = n at *
  have hn : (n != 0) = true := HN.out.nff.trans (by rw [h]; rfl)
  clear HN h
  go_enter Try.func20, Try.ntmps20
  go_wp2_with (first | (refine wpList_load_guard (P := Try.prog) (by rfl) 29 (.tmp 2) rfl w.heap.size 0 rfl C.toList _ (HLOAD.out _ _ (by exact (by repeat (first | with_reducible assumption | with_reducible exact Bk.new _ _ _ | with_reducible refine Bk.drew ?_ | with_reducible refine Bk.drewN ?_ _ | with_reducible refine Bk.alloc ?_ _ | (with_reducible refine Bk.far ?_ ?_ _; rotate_left; (try simp) <;> omega))))) Try.underlying29 rfl (by rw [HC28.out]; exact info29) ?_) | (go_at_call 16; refine (HCK.out _ (by exact (by repeat (first | with_reducible exact Below.refl _ _ | with_reducible assumption | with_reducible refine Below.drew ?_ | with_reducible refine below_drewN ?_ _ | (with_reducible refine Below.alloc ?_ ?_ _; rotate_left; (try simp) <;> omega) | (with_reducible refine Below.setCell ?_ ?_ _; rotate_left; (try simp) <;> omega))))).mono ?_; rintro e w1 ⟨rfl, hb1⟩; have hB1 : Below w.heap.size w w1 := Below.trans (by exact (by repeat (first | with_reducible exact Below.refl _ _ | with_reducible assumption | with_reducible refine Below.drew ?_ | with_reducible refine below_drewN ?_ _ | (with_reducible refine Below.alloc ?_ ?_ _; rotate_left; (try simp) <;> omega) | (with_reducible refine Below.setCell ?_ ?_ _; rotate_left; (try simp) <;> omega)))) (hb1.mono (by first | omega | (simp; omega) | simp)); have hJ1 : Bk w1 (w.heap.size + 1) 29 zeroC.toArray := Bk.below (zero_new w C) hb1 (by first | omega | (simp; omega) | simp); have hl1 := hJ1.lt) | (refine wpList_store_blk (P := Try.prog) rfl 29 (.tmp 4) (.tmp 13) rfl (w.heap.size + 1) zeroC.toArray zeroC.toArray rfl rfl hJ1 rfl info29 zero_one ?_; intro w2 hk2 hf2))
  exact bodyPost_ret (results_row rfl _ _ (w.heap.size + 1) zeroC _ rfl hk2.range Try.underlying29 rfl info29) rfl ⟨_, rfl, zero_at _ _, hf2.bel _ _ (by omega) hB1⟩
end Go.Proofs.Ytjgnikmnadmheaa
