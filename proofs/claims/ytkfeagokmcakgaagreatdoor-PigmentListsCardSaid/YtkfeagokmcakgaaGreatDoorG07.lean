/- The frame of this seat's tied cards: what the package variables hold when a law is called; what the closing texts share. -/
import Derived.Test.YtkfeagokmcakgaaGreatDoorCards
import Derived.Test.YtkfeagokmcakgaaGreatDoorTie
import Derived.Handed
import Derived.Lib.LaidTab
import Derived.LaidLaws
import Derived.LaidMore
import Derived.LaidHandle
import Derived.MakeChecks
import Derived.Lay
import Derived.SevenTiedAt
import Derived.Stop.Joined
import Derived.Test.YtkfeagokmcakgaaGreatDoorG02
import Derived.Test.YtkfeagokmcakgaaGreatDoorG05
import Derived.Test.YtkfeagokmcakgaaGreatDoorG06

set_option linter.unusedVariables false
set_option linter.unusedSimpArgs false

namespace Go.Proofs.YtkfeagokmcakgaaGreatDoor
open Go.ChangeShapes Go.WideShapes Go.ChangeAt Go.RowKit Go.Deep

theorem returnsInHanded_shaped {H : Type} {enc : TypeId × Value → H} {a : Assume} {C : Checked} {os : Os} {f : FuncId} {fn : Func} {s : ChangeSpec} {conds : List PathCond} {apart fresh handsOn again : Bool} {X : World → Array Value → Prop}
    (hX : ∀ (w w' : World) (args : Array Value), w.heap = w'.heap → X w args → X w' args)
    (own : ownKnob C.prog.godebug = none) (started : os.Started) (noInit : C.prog.inits.idxOf? f = none) (hfn : C.prog.funcs[f]? = some fn)
    (witness : ∃ (w : World) (tape : Tape) (i : Input), w.os = os ∧ (w.forCall tape i).Shaped C.prog ∧ i.vars = [] ∧ Input.okWide C.prog (w.forCall tape i) .any w.heap.size f i ∧
      ((s.pre enc C.prog fn conds apart (w.forCall tape i).memory i.args ∧ X (w.forCall tape i).memory i.args) ∧ sizedMet enc C.prog fn (OpenSpec.ofChange s) apart (w.forCall tape i).memory i.args) ∧ a.holds C.prog (lone (Frame.enter C.prog f i.args .normal) [] (w.forCall tape i)))
    (contract : ∀ (W : World) (base : Nat) (args : Array Value) (ds gs : List (DataW H)) (before : List MemPlace), W.ShapedOpen C.prog →
      (∀ (j : Nat) t v, fn.params[j]? = some t → args[j]? = some v → Value.okWide C.prog W .any base t v) →
      DataW.Whole enc C.prog fn.params.toList s.vars apart W args.toList ds gs before → X W args →
      Calls C.prog f args W fun e W' => ∃ v, e = .returned v ∧ s.post enc C.prog fn apart fresh handsOn again W args v W') :
    ReturnsInHanded a C os f .any (fun w args => (s.pre enc C.prog fn conds apart w args ∧ X w args) ∧ sizedMet enc C.prog fn (OpenSpec.ofChange s) apart w args) (s.post enc C.prog fn apart fresh handsOn again) := by
  refine returnsInHanded_of_calls own started noInit witness ?_
  intro w tape i _ hsh _ hok hpre _
  obtain ⟨_, _, _, fn', hfn', _, _, _, _, hval⟩ := hok
  obtain rfl : fn' = fn := Option.some.inj (hfn'.symm.trans hfn)
  obtain ⟨⟨⟨ds, gs, before, hw, _⟩, hx⟩, _⟩ := hpre
  refine (contract (w.forCall tape i) w.heap.size i.args ds gs before hsh hval (DataW.Whole.of_heap (w' := w.forCall tape i) (by rfl) hw) (hX _ _ _ (by rfl) hx)).mono fun e W' ⟨v, he, hp⟩ => ?_
  subst he
  exact ChangeSpec.post_blind hp

/-- what each of this seat's rows lists -/
def LAID : List (String × DataW Unit) := Rows.pigmentLimitRow.laid
theorem laid_met (os : Os) (args : Array Value) : laidMetH Tryz.prog LAID ((World.laidAll Tryz.prog os LAID).forCall (fun _ _ => 0) ⟨#[], args, []⟩).memory := by
  rw [MakeChecks.laidMetH_plain _ _ _ (by kernel_rfl)]
  exact laidMet_laidAll _ (by kernel_rfl) (by kernel_rfl)

theorem iface_met {W : World} {name : String} {g : Nat} {t : TypeId} {ms : Array (String × TypeId)} {nm : String} {d : DataW Unit} {rest : List (String × DataW Unit)} (hg : Tryz.prog.globalNamed name = some g) (hty : (Tryz.prog.globals[g]?).map (·.type) = some t) (hu : Tryz.prog.underlying t = some (.interface ms))
    (h : laidMet Tryz.prog ((name, .iface nm d) :: rest) W) : ∃ u v, W.cell? ⟨g, 0, none⟩ = some (.iface u v) := by
  obtain ⟨ps, ⟨g', t', cs, fuel, p, q, hg', ht', hvar, hd, _, _⟩, _⟩ := h
  obtain rfl := Option.some.inj (hg.symm.trans hg')
  obtain rfl := Option.some.inj (hty.symm.trans ht')
  obtain ⟨_, u, v, e, _, _⟩ := iface_of_trod hu hd
  refine ⟨u, v, ?_⟩
  rw [World.var?_cell hg hvar 0, ← Array.getElem?_toList, e]
  rfl
theorem met_tail {P : Program} {W : World} {x : String × DataW Unit} {l : List (String × DataW Unit)} (h : laidMet P (x :: l) W) : laidMet P l W := by
  obtain ⟨ps, ⟨g', t', cs, fuel, p, q, hg', ht', hvar, hd, hrest, hps⟩, hn, hr⟩ := h
  subst hps
  exact ⟨q, hrest, (List.nodup_append.1 hn).2.1, fun b off hm => hr b off (List.mem_append_right _ hm)⟩

theorem cell_zero {W : World} {cs : Array Value} {t : TypeId} {v : Value} (h : W.heap[0]? = some (.cells cs t)) (hv : cs[0]? = some v) : W.cell? ⟨0, 0, none⟩ = some v := by
  simp only [World.cell?, h]; exact hv
set_option maxRecDepth 100000 in
theorem glob_of {W : World} (hs : W.ShapedOpen Tryz.prog) (hL : laidMetH Tryz.prog LAID W) : Glob W := by
  rw [MakeChecks.laidMetH_plain _ _ _ (by kernel_rfl)] at hL
  have S := hs.1
  have hn : Tryz.prog.globals.size = 8 := by kernel_rfl
  refine ⟨?_, ?_, ?_, ?_, ?_⟩
  · obtain ⟨⟨zero, t⟩, hz⟩ := Option.isSome_iff_exists.1 (show (((begin Tryz.prog (fun _ _ => 0) default).world.heap[7]?).bind Obj.row?).isSome = true by kernel_rfl)
    obtain ⟨cs, e7, _⟩ := S 7 zero t (by rw [hn]; decide) hz
    have := (Array.getElem?_eq_some_iff.1 e7).1
    omega
  · exact Lib.tabIs_of_head (t := 208) (e := 176) (n := 20) pow10_at (by kernel_rfl) (by kernel_rfl) (by kernel_rfl) (by kernel_rfl) (by kernel_rfl) (met_tail (met_tail hL))
  · obtain ⟨cs, e0, hsz, hr⟩ := S 0 #[.int .i64 0] 3 (by rw [hn]; decide) (by kernel_rfl)
    obtain ⟨ts, h1, _, h3⟩ := hr (by kernel_rfl)
    obtain rfl : ts = [3] := Option.some.inj (h1.symm.trans (by kernel_rfl))
    obtain ⟨v, hv⟩ : ∃ v, cs[0]? = some v := ⟨cs[0]'(by rw [hsz]; decide), Array.getElem?_eq_getElem _⟩
    obtain ⟨u, hu, hc⟩ := h3 0 v hv
    obtain rfl : u = 3 := by simpa using hu.symm
    unfold Cell.ok at hc
    rw [Tryz.underlying3] at hc
    cases v <;> simp only at hc
    rename_i k n
    obtain ⟨rfl, _⟩ := hc
    exact ⟨n, cell_zero e0 hv⟩
  · exact iface_met (g := 4) (by kernel_rfl) (by kernel_rfl) Tryz.underlying88 (met_tail (met_tail (met_tail (met_tail (met_tail hL)))))
  · exact iface_met (g := 5) (by kernel_rfl) (by kernel_rfl) Tryz.underlying88 (met_tail (met_tail (met_tail (met_tail hL))))
end Go.Proofs.YtkfeagokmcakgaaGreatDoor

namespace Go.Proofs.YtkfeagokmcakgaaGreatDoor
open Go.ChangeShapes Go.WideShapes Go.ChangeAt Go.RowKit Go.Deep

section
variable {H : Type} {enc : TypeId × Value → H} {W : World} {sp : Nat → Bool} {hd : Bool}
theorem cells23 : Tryz.prog.cellsOf 23 = 1 := by kernel_rfl
theorem cells25 : Tryz.prog.cellsOf 25 = 1 := by kernel_rfl
set_option maxRecDepth 100000 in
theorem open_int {v : Value} {d : DataW H} {p : List MemPlace} {r : Go.Reach} {b0 : Nat} (hv : Value.okWide Tryz.prog W r b0 3 v) (h : DataW.Trod enc Tryz.prog W 0 sp hd 3 v d p) : ∃ x : Int, v = .int .i64 x ∧ i64 x := by
  obtain ⟨x, rfl⟩ := okWide_int Tryz.underlying3 hv
  obtain ⟨fuel, hf⟩ := h
  obtain ⟨k, h1, h2⟩ := int_cell hf
  cases h1
  exact ⟨x, rfl, h2⟩
set_option maxRecDepth 100000 in
theorem open_strv {v : Value} {d : DataW H} {p : List MemPlace} {r : Go.Reach} {b0 : Nat} (hv : Value.okWide Tryz.prog W r b0 9 v) (h : DataW.Trod enc Tryz.prog W 0 sp hd 9 v d p) : ∃ s : ByteArray, v = .string s ∧ s.size ≤ maxLen := by
  obtain ⟨s, rfl⟩ := okWide_string Tryz.underlying9 hv
  obtain ⟨fuel, hf⟩ := h
  obtain ⟨s2, h1, h2⟩ := str_cell hf
  cases h1
  exact ⟨s, rfl, h2⟩
set_option maxRecDepth 100000 in
theorem open_strsV {v : Value} {r : Go.Reach} {b0 : Nat} {d : DataW H} {p : List MemPlace} (hv : Value.okWide Tryz.prog W r b0 34 v) (h : DataW.Trod enc Tryz.prog W 0 sp hd 34 v d p) :
    ∃ (l : List ByteArray) (A : Option Addr) (ct : Nat), v = .slice A l.length ct ∧ Lies W W.heap.size A (strsC l) ∧ (l.length ≤ ct ∧ ct ≤ maxLen) ∧ ∀ s ∈ l, s.size ≤ maxLen := by
  obtain ⟨a, len, cap, rfl⟩ := okWide_slice Tryz.underlying34 hv
  obtain ⟨fuel, hf⟩ := h
  exact open_strs hf
set_option maxRecDepth 100000 in
theorem open_rulesV {v : Value} {r : Go.Reach} {b0 : Nat} {d : DataW H} {p : List MemPlace} (hv : Value.okWide Tryz.prog W r b0 23 v) (h : DataW.Trod enc Tryz.prog W 0 sp hd 23 v d p) :
    ∃ (l : List Rul) (A : Option Addr) (ct : Nat), v = .slice A l.length ct ∧ Lies W W.heap.size A (rulesC l) ∧ (l.length ≤ ct ∧ ct ≤ maxLen) ∧ ∀ r ∈ l, RulW r := by
  obtain ⟨a, len, cap, rfl⟩ := okWide_slice Tryz.underlying23 hv
  obtain ⟨fuel, hf⟩ := h
  exact open_rules hf
set_option maxRecDepth 100000 in
theorem open_book {v : Value} {r : Go.Reach} {b0 : Nat} {d : DataW H} {p : List MemPlace} (hv : Value.okWide Tryz.prog W r b0 25 v) (h : DataW.Trod enc Tryz.prog W 0 sp hd 25 v d p) :
    ∃ (l : List Rul) (A : Option Addr) (ct : Nat), v = .agg #[.slice A l.length ct] ∧ Lies W W.heap.size A (rulesC l) ∧ (l.length ≤ ct ∧ ct ≤ maxLen) ∧ ∀ r ∈ l, RulW r := by
  obtain ⟨cs, rfl, hsz⟩ := okWide_struct Tryz.underlying25 hv
  obtain ⟨fuel, hf⟩ := h
  obtain ⟨cl⟩ := cs
  rw [cells25] at hsz
  match cl, hsz with
  | [c0], _ =>
    obtain ⟨_, hg⟩ := struct_cells Tryz.underlying25 cells25 hf
    obtain ⟨_, _, f0⟩ := hg 0 _ rfl
    simp only [List.getElem_toArray, List.getElem_cons_zero, List.getElem_cons_succ] at f0
    simp only [Value.cells] at f0
    rw [cells23] at f0
    dsimp only [List.drop, List.take] at f0
    obtain ⟨l, A, ct, rfl, h1, h2⟩ := open_rules f0
    exact ⟨l, A, ct, rfl, h1, h2⟩
set_option maxRecDepth 100000 in
theorem open_ruleV {v : Value} {r : Go.Reach} {b0 : Nat} {d : DataW H} {p : List MemPlace} (hv : Value.okWide Tryz.prog W r b0 50 v) (h : DataW.Trod enc Tryz.prog W 0 sp hd 50 v d p) : ∃ x : Rul, v = x.agg ∧ RulW x := by
  obtain ⟨cs, rfl, _⟩ := okWide_struct Tryz.underlying50 hv
  obtain ⟨fuel, hf⟩ := h
  obtain ⟨cl⟩ := cs
  simp only [Value.cells] at hf
  obtain ⟨x, hx, hn⟩ := rule_cells hf
  refine ⟨x, ?_, hn⟩
  rw [show cl = x.cells from hx]
  rfl
theorem rulW_sub {l : List Rul} (h : ∀ r ∈ l, RulW r) : ∀ r ∈ l, (r.x.size ≤ maxLen ∧ r.y.size ≤ maxLen) ∧ (0 ≤ r.kind ∧ r.kind ≤ 255) := fun r hr => (h r hr).2
end
end Go.Proofs.YtkfeagokmcakgaaGreatDoor

namespace Go.Proofs.YtkfeagokmcakgaaGreatDoor
open Go.RowKit

theorem ownsRow_below {w w' : World} {base B : Nat} {e : TypeId} {size n : Nat} {v : Value} {xs : List Value} (h : w.ownsRow base e size v n xs) (hb : Below B w w') (hB : w.heap.size ≤ B) : w'.ownsRow base e size v n xs := by
  refine ⟨h.1, ?_⟩
  rcases h.2 with h2 | ⟨g, cap, cur, h1, h2, h3, h4⟩
  · exact .inl h2
  · have hg : g < w.heap.size := (Array.getElem?_eq_some_iff.1 h3).1
    exact .inr ⟨g, cap, cur, h1, h2, (hb.block g (by omega)).trans h3, h4⟩
/-- one more element; what lies below B stays -/
theorem wpList_append1 {P : Program} {ops : Array Oper} {rest : List Oper} {o : Oper} {a : Act} {w : World} {Q : Exit → Act → World → Prop} (hgd : o.guard = none) (s x : Operand) (t : TypeId)
    (ho : o.op = .call { callee := .builtin .append, args := #[s, x], argTypes := #[t, t] })
    (base : Nat) (e : TypeId) (z : Value) (size bytes : Nat) (ht : P.underlying t = some (.slice e)) (hi : (P.info? e).map (fun i => (i.zero, i.size, i.bytes)) = some (some z, size, bytes)) (hzs : z.cells.size = size) (hsz : 0 < size)
    (v : Value) (n : Nat) (xs : List Value) (hs : a.eval s = v) (hown : w.ownsRow base e size v n xs)
    (b : Nat) (C : Array Value) (tt : TypeId) (hx : a.eval x = .slice (some ⟨b, 0, none⟩) 1 1) (hbk : Bk w b tt C) (hl : C.size = size) (h1 : ∀ u ∈ C.toList, u.oneCell' = true)
    (h63 : n < 100000) (hbytes : bytes ≤ 1000) (hbase : base ≤ w.heap.size) (B : Nat) (a0 : World) (hB : Below B a0 w) (hBb : B ≤ base)
    (h : ∀ v' w', w'.ownsRow base e size v' (n + 1) (xs ++ C.toList) → Below B a0 w' → Below base w w' → wpList P ops Q rest (a.put o.dst v') w') : wpList P ops Q (o :: rest) a w := by
  obtain ⟨i0, hi0, hz0, hz1, hz2⟩ := info_parts hi
  refine wpList_append_own w hgd s x t ho base e i0 z size bytes ht hi0 hz0 hz1 hz2 hzs hsz v n xs hs hown ⟨b, 0, none⟩ 1 1 C.toList hx (by simpa using hl) (bk_cells hbk) h1 (by unfold maxLen; omega) ?_ hbase ?_
  · calc (n + 1) * bytes ≤ 100000 * 1000 := Nat.mul_le_mul (by omega) hbytes
      _ ≤ 140737488355328 := by decide
  · intro v' w' ho' hg _
    have hge : ∀ k, v.ownBlock = some k → base ≤ k := fun k hk => (hown.lt k hk).1
    exact h v' w' ho' (Below.grown hB hg (Nat.le_trans hBb hbase) fun k hk => Nat.le_trans hBb (hge k hk)) (Below.grown (Below.refl _ _) hg hbase fun k hk => hge k hk)
def zeroRul : Value := .agg #[.int .i64 0, .int .i64 0, .int .u8 0, .string ByteArray.empty, .string ByteArray.empty, .int .i64 0]
theorem info50 : (Tryz.prog.info? 50).map (fun i => (i.zero, i.size, i.bytes)) = some (some zeroRul, 6, 64) := by kernel_rfl
theorem rulesC_snoc (l : List Rul) (r : Rul) : rulesC l ++ [.int .i64 r.id, .int .i64 r.known, .int .u8 r.kind, .string r.x, .string r.y, .int .i64 r.of] = rulesC (l ++ [r]) := by rw [rulesC_app]; rfl
/-- a list of rules in new memory -/
def SlE (m : List Rul) (w : World) (e : Ending) (w' : World) : Prop := ∃ A c, e = .returned (.slice A m.length c) ∧ Lies w' w'.heap.size A (rulesC m) ∧ (m.length ≤ c ∧ c ≤ maxLen) ∧ Below w.heap.size w w'
theorem RulOK.sub {l m : List Rul} (h : RulOK l) (hs : ∀ r ∈ m, r ∈ l) : RulOK m := fun r hr => h r (hs r hr)
/-- one more element, where several rows of the call's own grow -/
theorem wpList_append2 {P : Program} {ops : Array Oper} {rest : List Oper} {o : Oper} {a : Act} {w : World} {Q : Exit → Act → World → Prop} (hgd : o.guard = none) (s x : Operand) (t : TypeId)
    (ho : o.op = .call { callee := .builtin .append, args := #[s, x], argTypes := #[t, t] })
    (base : Nat) (e : TypeId) (z : Value) (size bytes : Nat) (ht : P.underlying t = some (.slice e)) (hi : (P.info? e).map (fun i => (i.zero, i.size, i.bytes)) = some (some z, size, bytes)) (hzs : z.cells.size = size) (hsz : 0 < size)
    (v : Value) (n : Nat) (xs : List Value) (hs : a.eval s = v) (hown : w.ownsRow base e size v n xs)
    (b : Nat) (C : Array Value) (tt : TypeId) (hx : a.eval x = .slice (some ⟨b, 0, none⟩) 1 1) (hbk : Bk w b tt C) (hl : C.size = size) (h1 : ∀ u ∈ C.toList, u.oneCell' = true)
    (h63 : n < 100000) (hbytes : bytes ≤ 1000) (hbase : base ≤ w.heap.size) (B : Nat) (a0 : World) (hB : Below B a0 w) (hBb : B ≤ base)
    (h : ∀ v' w', w'.ownsRow base e size v' (n + 1) (xs ++ C.toList) → Below B a0 w' → w.grownBy w' v.ownBlock → (v'.ownBlock = v.ownBlock ∨ v'.ownBlock = some w.heap.size) → wpList P ops Q rest (a.put o.dst v') w') : wpList P ops Q (o :: rest) a w := by
  obtain ⟨i0, hi0, hz0, hz1, hz2⟩ := info_parts hi
  refine wpList_append_own_at w hgd s x t ho base e i0 z size bytes ht hi0 hz0 hz1 hz2 hzs hsz v n xs hs hown ⟨b, 0, none⟩ 1 1 C.toList hx (by simpa using hl) (bk_cells hbk) h1 (by unfold maxLen; omega) ?_ hbase ?_
  · calc (n + 1) * bytes ≤ 100000 * 1000 := Nat.mul_le_mul (by omega) hbytes
      _ ≤ 140737488355328 := by decide
  · intro v' w' ho' hg _ hat
    have hge : ∀ k, v.ownBlock = some k → base ≤ k := fun k hk => (hown.lt k hk).1
    exact h v' w' ho' (Below.grown hB hg (Nat.le_trans hBb hbase) fun k hk => Nat.le_trans hBb (hge k hk)) hg hat
end Go.Proofs.YtkfeagokmcakgaaGreatDoor

namespace Go.Proofs.YtkfeagokmcakgaaGreatDoor
open Go.RowKit

theorem MapG.lookI {w : World} {b n : Nat} {g : Int → Option Bool} (h : MapG mIB w b n g) {x : Int} (hx : i64v x) : (Instr.lookup 112 (.map (some b)) (.int .i64 x) false).run Tryz.prog w = .ok (.bool ((g x).getD false)) w := h.look (M := mIB) (x := x) (WalkArith.wf_i64 hx)
theorem MapG.putI {w : World} {b n : Nat} {g : Int → Option Bool} (h : MapG mIB w b n g) (hn : n ≤ 100000) {x : Int} (hx : i64v x) (v : Bool) :
    ∃ w', (Instr.mapUpdate 112 (.map (some b)) (.int .i64 x) (.bool v)).run Tryz.prog w = .ok () w' ∧ MapG mIB w' b (n + 1) (mPut g x v) ∧ w.grownBy w' (some b) := h.put (M := mIB) (x := x) (v := v) (by unfold maxLen; omega) (WalkArith.wf_i64 hx) trivial
def setI (S : Int → Bool) : Int → Option Bool := fun x => if S x = true then some true else none
theorem setI_get (S : Int → Bool) (x : Int) : (setI S x).getD false = S x := by unfold setI; cases S x <;> rfl
theorem setI_none {S : Int → Bool} (h : ∀ x, S x = false) : setI S = mNone := by funext z; simp [setI, h z, mNone]
/-- a rule takes back others -/
def vdB (known : Int) (v : Rul) : Bool := frm v && decide (v.known ≤ known) && decide (v.kind = 6)
theorem void_take (l : List Rul) (known : Int) (k : Nat) (hk : k < l.length) (id : Int) : voidB (l.take (k + 1)) known id = (voidB (l.take k) known id || vdB known l[k] && decide (l[k].of = id)) := by
  unfold voidB vdB
  rw [← List.take_append_getElem hk, List.any_append]; simp
theorem void_skip {l : List Rul} {known : Int} {k : Nat} (hk : k < l.length) (h : vdB known l[k] = false) : setI (voidB (l.take (k + 1)) known) = setI (voidB (l.take k) known) := by
  congr 1; funext id; rw [void_take l known k hk, h]; simp
theorem void_put {l : List Rul} {known : Int} {k : Nat} (hk : k < l.length) (h : vdB known l[k] = true) : setI (voidB (l.take (k + 1)) known) = mPut (setI (voidB (l.take k) known)) l[k].of true := by
  funext id
  unfold setI mPut
  rw [void_take l known k hk, h]
  by_cases e : id = l[k].of
  · subst e; simp
  · have : decide (l[k].of = id) = false := by simp; exact fun h => e h.symm
    rw [this]; simp [e]
theorem frm_of {r : Rul} (h : frm r = true) (h6 : r.kind = 6) : i64v r.of := by
  rw [frm_eq, shpB_6 r h6] at h
  simp [shp6, idB] at h
  unfold i64v; omega
theorem frm_id {r : Rul} (h : frm r = true) : i64v r.id := by
  rw [frm_eq] at h
  simp [idB] at h
  unfold i64v; omega
theorem filt_skip {l : List Rul} {p : Rul → Bool} {k : Nat} (hk : k < l.length) (h : p l[k] = false) : (l.take (k + 1)).filter p = (l.take k).filter p := by
  rw [← List.take_append_getElem hk, List.filter_append]; simp [h]
theorem filt_take {l : List Rul} {p : Rul → Bool} {k : Nat} (hk : k < l.length) (h : p l[k] = true) : (l.take (k + 1)).filter p = (l.take k).filter p ++ [l[k]] := by
  rw [← List.take_append_getElem hk, List.filter_append]; simp [h]
theorem filt_len (l : List Rul) (p : Rul → Bool) (k : Nat) : ((l.take k).filter p).length ≤ l.length := Nat.le_trans (List.length_filter_le _ _) (by rw [List.length_take]; omega)

set_option maxRecDepth 100000 in
set_option maxHeartbeats 2500000 in
theorem counting_any (l : List Rul) (A : Option Addr) (c : Nat) (known : Int) (w : World) (hl : Lies w w.heap.size A (rulesC l)) (hok : RulOK l) (hm : l.length ≤ 1000) :
    Calls Tryz.prog 38 #[.agg #[.slice A l.length c], .int .i64 known] w (SlE (cntL l known) w) := by
  have HL := Lib.hid hl
  have HOK := Lib.hid hok
  have hmm := @run_makeMap Tryz.prog
  have HG0 : Hid (setI (voidB (l.take 0) known) = mNone) := setI_none (fun x => by simp [voidB])
  clear hl hok
  go_enter Tryz.func38, Tryz.ntmps38
  go_wp2
  go_loopw [15] (fun y wr => ∃ (k n : Nat), k ≤ l.length ∧ y = .int .i64 k ∧ n ≤ k ∧ Hid (MapG mIB wr (w.heap.size + 1) n (setI (voidB (l.take k) known))) ∧ Below w.heap.size w wr ∧ Bk wr w.heap.size 25 #[.slice A l.length c]) (fun y _ => l.length - (intOf y).toNat)
  case atStart => exact ⟨0, 0, by omega, rfl, Nat.le_refl _, by show MapG _ _ _ _ _; rw [HG0.out]; simpa using MapG.made mIB (w.alloc (.cells #[.slice A l.length c] 25)), (by repeat (first | with_reducible exact Below.refl _ _ | with_reducible assumption | with_reducible refine Below.drew ?_ | with_reducible refine below_drewN ?_ _ | (with_reducible refine Below.alloc ?_ ?_ _; rotate_left; (try simp) <;> omega) | (with_reducible refine Below.setCell ?_ ?_ _; rotate_left; (try simp) <;> omega))), (Bk.new _ _ _).alloc _⟩
  case round =>
    obtain ⟨k, n, hk, rfl, hnk, hg, hbw, hbk⟩ := hrel
    have hbs := hbw.size
    have hgl := hg.out.lt
    by_cases hlt : k < l.length
    · obtain ⟨ad, rfl, hadb, c0, c1, c2, c3, c4, c5⟩ := rule_at ((HL.out.below hbw (Nat.le_refl _)).more hbw.size) hlt
      have hrn := HOK.out _ (List.getElem_mem hlt)
      have HSK := Lib.hid (fun h => void_skip (known := known) hlt h)
      have HPT := Lib.hid (fun h => void_put (known := known) hlt h)
      generalize l[k] = r at *
      obtain ⟨id, kn, kd, x, y, of⟩ := r
      have HF := Lib.hid (fun W => formed_any ⟨id, kn, kd, x, y, of⟩ W hrn.1 hrn.2.1)
      have HOF := Lib.hid (fun h1 h2 => frm_of (r := ⟨id, kn, kd, x, y, of⟩) h1 h2)
      have HVD : Hid (vdB known ⟨id, kn, kd, x, y, of⟩ = (frm ⟨id, kn, kd, x, y, of⟩ && decide (kn ≤ known) && decide (kd = 6))) := rfl
      dsimp only at *
      have hx0 := hbk.lt
      cases hfr : frm ⟨id, kn, kd, x, y, of⟩
      · rw [hfr] at HVD
        have HS2 := Lib.hid (HSK.out (by rw [HVD.out]; rfl))
        have H1 := Lib.hid hfr
        clear hfr HSK HPT HVD HOF
        go_wp2_with (go_at_call 81; refine (HF.out _).mono ?_; rintro e w1 ⟨rfl, hb1⟩; rw [H1.out]; obtain ⟨hcc1, hff1⟩ := bcell hb1; have hs1 := hb1.size; try simp at hs1)
        have hb0 : Below wr.heap.size wr w1 := ((Below.refl _ _).alloc (Nat.le_refl _) _).trans (hb1.mono (by simp))
        clear hcc1 hff1
        go_roundw
        case rel => exact ⟨k + 1, n, by omega, by go_num, by omega, by rw [HS2.out]; exact hg.out.below hb0 hgl, hbw.trans (hb0.mono hbs), hbk.below hb0 hx0⟩
        case measure => simp [intOf]; omega
      · rw [hfr] at HVD
        have H1 := Lib.hid hfr
        by_cases h2 : kn ≤ known
        · by_cases h3 : kd = 6
          · have h3' : (kd == 6) = true := by rw [h3]; rfl
            have HP2 := Lib.hid (HPT.out (by rw [HVD.out]; simp [h2, h3]))
            have hof := HOF.out hfr h3
            clear hfr HSK HPT HVD HOF h3
            go_wp2_with (go_at_call 81; refine (HF.out _).mono ?_; rintro e w1 ⟨rfl, hb1⟩; rw [H1.out]; obtain ⟨hcc1, hff1⟩ := bcell hb1; have hs1 := hb1.size; have hb0 : Below wr.heap.size wr w1 := ((Below.refl _ _).alloc (Nat.le_refl _) _).trans (hb1.mono (by simp)); obtain ⟨W2, hup, hm2, hg2⟩ := (hg.out.below hb0 hgl).putI (show n ≤ 100000 by omega) hof true; rw [← HP2.out] at hm2; have HM2 := Lib.hid hm2; clear hm2; try simp at hs1)
            have hbW : Below w.heap.size w W2 := (hbw.trans (hb0.mono hbs)).grown hg2 (by have := hb0.size; omega) (fun g e => by cases e; omega)
            have hbk2 : Bk W2 w.heap.size 25 #[.slice (some ad) l.length c] := (hbk.below hb0 hx0).grown hg2 (by simp)
            clear hup hg2 hcc1 hff1
            go_roundw
            case rel => exact ⟨k + 1, n + 1, by omega, by go_num, by omega, HM2, hbW, hbk2⟩
            case measure => simp [intOf]; omega
          · have h3' : (kd == 6) = false := by simpa using h3
            have HS2 := Lib.hid (HSK.out (by rw [HVD.out]; simp [h3]))
            clear hfr HSK HPT HVD HOF h3
            go_wp2_with (go_at_call 81; refine (HF.out _).mono ?_; rintro e w1 ⟨rfl, hb1⟩; rw [H1.out]; obtain ⟨hcc1, hff1⟩ := bcell hb1; have hs1 := hb1.size; try simp at hs1)
            have hb0 : Below wr.heap.size wr w1 := ((Below.refl _ _).alloc (Nat.le_refl _) _).trans (hb1.mono (by simp))
            clear hcc1 hff1
            go_roundw
            case rel => exact ⟨k + 1, n, by omega, by go_num, by omega, by rw [HS2.out]; exact hg.out.below hb0 hgl, hbw.trans (hb0.mono hbs), hbk.below hb0 hx0⟩
            case measure => simp [intOf]; omega
        · have HS2 := Lib.hid (HSK.out (by rw [HVD.out]; simp [h2]))
          clear hfr HSK HPT HVD HOF
          go_wp2_with (go_at_call 81; refine (HF.out _).mono ?_; rintro e w1 ⟨rfl, hb1⟩; rw [H1.out]; obtain ⟨hcc1, hff1⟩ := bcell hb1; have hs1 := hb1.size; try simp at hs1)
          have hb0 : Below wr.heap.size wr w1 := ((Below.refl _ _).alloc (Nat.le_refl _) _).trans (hb1.mono (by simp))
          clear hcc1 hff1
          go_roundw
          case rel => exact ⟨k + 1, n, by omega, by go_num, by omega, by rw [HS2.out]; exact hg.out.below hb0 hgl, hbw.trans (hb0.mono hbs), hbk.below hb0 hx0⟩
          case measure => simp [intOf]; omega
    · obtain rfl : k = l.length := by omega
      rw [List.take_length] at hg
      have x0 := hbk.cell 0 rfl
      go_wp2
      have hwa2 : w.heap.size + 2 ≤ wr.heap.size := by omega
      have HLK : Hid (∀ W, Below (w.heap.size + 2) wr W → ∀ x, i64v x → (Instr.lookup 112 (.map (some (w.heap.size + 1))) (.int .i64 x) false).run Tryz.prog W = .ok (.bool (voidB l known x)) W) := fun W hb x hx => by
        have := (hg.out.below hb (by omega)).lookI hx
        rwa [setI_get] at this
      have HBW : Hid (∀ W, Below (w.heap.size + 2) wr W → Below w.heap.size w W) := fun W hb => hbw.trans (hb.mono (by omega))
      have HEN : Hid ((l.take l.length).filter (cntB l known) = cntL l known) := by show _ = _; rw [List.take_length]; rfl
      clear hg hgl hbw hbk x0 hbs hnk hk HG0
      generalize wr = wa at *
      go_loopw [8, 39] (fun v y w2 => ∃ (k : Nat) (A' : Option Addr) (c' : Nat), k ≤ l.length ∧ v = .slice A' ((l.take k).filter (cntB l known)).length c' ∧ y = .int .i64 k ∧ w2.ownsRow (w.heap.size + 2) 50 6 (.slice A' ((l.take k).filter (cntB l known)).length c') ((l.take k).filter (cntB l known)).length (rulesC ((l.take k).filter (cntB l known))) ∧ Below (w.heap.size + 2) wa w2) (fun _ y _ => l.length - (intOf y).toNat)
      case atStart => exact ⟨0, none, 0, by omega, rfl, rfl, by simpa [rulesC] using World.ownsRow_nil _ _ _ _, Below.refl _ _⟩
      case round =>
        obtain ⟨k, A', c', hk, rfl, rfl, hown, hbw⟩ := hrel
        have hbs := hbw.size
        by_cases hlt : k < l.length
        · obtain ⟨ad, rfl, hadb, c0, c1, c2, c3, c4, c5⟩ := rule_at ((HL.out.below (HBW.out wr hbw) (Nat.le_refl _)).more (HBW.out wr hbw).size) hlt
          have hrn := HOK.out _ (List.getElem_mem hlt)
          have HSK := Lib.hid (fun h => filt_skip (p := cntB l known) hlt h)
          have HPT := Lib.hid (fun h => filt_take (p := cntB l known) hlt h)
          have hfl := filt_len l (cntB l known) k
          generalize (l.take k).filter (cntB l known) = fk at *
          generalize l[k] = r at *
          have HVD : Hid (cntB l known r = (frm r && decide (r.known ≤ known) && !decide (r.kind = 6) && !voidB l known r.id)) := rfl
          have HID := Lib.hid (fun h1 => frm_id (r := r) h1)
          have HF := Lib.hid (fun W => formed_any r W hrn.1 hrn.2.1)
          have HSN := Lib.hid (rulesC_snoc fk r)
          obtain ⟨id, kn, kd, x, y, of⟩ := r
          dsimp only at *
          have HREL : Hid (∀ w1, Below (wr.heap.size + 1) (wr.alloc (.cells #[.int .i64 id, .int .i64 kn, .int .u8 kd, .string x, .string y, .int .i64 of] 50)) w1 → w1.ownsRow (w.heap.size + 2) 50 6 (.slice A' fk.length c') fk.length (rulesC fk) ∧ Below (w.heap.size + 2) wa w1) := fun w1 hb => by
            have hb0 : Below wr.heap.size wr w1 := ((Below.refl _ _).alloc (Nat.le_refl _) _).trans (hb.mono (by omega))
            exact ⟨ownsRow_below hown hb0 (Nat.le_refl _), hbw.trans (hb0.mono (by omega))⟩
          cases hfr : frm ⟨id, kn, kd, x, y, of⟩
          · rw [hfr] at HVD
            have HS2 := Lib.hid (HSK.out (by rw [HVD.out]; rfl))
            have H1 := Lib.hid hfr
            clear hfr HSK HPT HVD HSN HLK HID
            go_wp2_with (first | (go_at_call 81; refine (HF.out _).mono ?_; rintro e w1 ⟨rfl, hb1⟩; rw [H1.out]; obtain ⟨hcc1, hff1⟩ := bcell hb1; have hs1 := hb1.size; have HZ := Lib.hid (HREL.out w1 (hb1.mono (by simp))); try simp at hs1))
            clear hcc1 hff1 hown
            go_roundw
            case rel => exact ⟨k + 1, A', c', by omega, by rw [HS2.out], by go_num, by rw [HS2.out]; exact HZ.out.1, HZ.out.2⟩
            case measure => simp [intOf]; omega
          · rw [hfr] at HVD
            have H1 := Lib.hid hfr
            have hidv := HID.out hfr
            by_cases h2 : kn ≤ known
            · by_cases h3 : kd = 6
              · have h3' : (kd != 6) = false := by rw [h3]; rfl
                have HS2 := Lib.hid (HSK.out (by rw [HVD.out]; simp [h3]))
                clear hfr HSK HPT HVD HSN HLK HID h3
                go_wp2_with (first | (go_at_call 81; refine (HF.out _).mono ?_; rintro e w1 ⟨rfl, hb1⟩; rw [H1.out]; obtain ⟨hcc1, hff1⟩ := bcell hb1; have hs1 := hb1.size; have HZ := Lib.hid (HREL.out w1 (hb1.mono (by simp))); try simp at hs1))
                clear hcc1 hff1 hown
                go_roundw
                case rel => exact ⟨k + 1, A', c', by omega, by rw [HS2.out], by go_num, by rw [HS2.out]; exact HZ.out.1, HZ.out.2⟩
                case measure => simp [intOf]; omega
              · have h3' : (kd != 6) = true := by simpa using h3
                cases hvo : voidB l known id
                · have HVO := Lib.hid hvo
                  have HS2 := Lib.hid (HPT.out (by rw [HVD.out, hvo]; simp [h2, h3]))
                  clear hfr HSK HPT HVD HID h3 hvo
                  go_wp2_with (first | (go_at_call 81; refine (HF.out _).mono ?_; rintro e w1 ⟨rfl, hb1⟩; rw [H1.out]; obtain ⟨hcc1, hff1⟩ := bcell hb1; have hs1 := hb1.size; have HZ := Lib.hid (HREL.out w1 (hb1.mono (by simp))); have hlk1 := HLK.out w1 HZ.out.2 id hidv; rw [HVO.out] at hlk1; try simp at hs1) | (at_builtin; refine wpList_append1 rfl (.tmp 63) (.tmp 65) 23 rfl (w.heap.size + 2) 50 zeroRul 6 64 Tryz.underlying23 info50 rfl (by decide) _ fk.length (rulesC fk) rfl (HZ.out.1.alloc _) w1.heap.size #[.int .i64 id, .int .i64 kn, .int .u8 kd, .string x, .string y, .int .i64 of] 50 rfl (Bk.new _ _ _) rfl ?c1 ?c2 (by decide) ?c3 (w.heap.size + 2) wa ?c4 (Nat.le_refl _) ?_))
                  case c1 => exact ⟨rfl, rfl, rfl, rfl, rfl, rfl⟩
                  case c2 => omega
                  case c3 => simp; omega
                  case c4 => exact HZ.out.2.alloc (by omega) _
                  intro v' w4 ho4 hb4 _
                  rw [HSN.out] at ho4
                  obtain ⟨A4, c4, rfl, _, _⟩ := ownsSlice ho4
                  have HLN : Hid (fk.length + 1 = (fk ++ [Rul.mk id kn kd x y of]).length) := by show _ = _; simp
                  clear hcc1 hff1 hown hlk1
                  go_wp2
                  go_roundw
                  case rel => exact ⟨k + 1, A4, c4, by omega, by rw [HS2.out, HLN.out], by go_num, by rw [HS2.out, ← HLN.out]; exact ho4, hb4⟩
                  case measure => simp [intOf]; omega
                · have HVO := Lib.hid hvo
                  have HS2 := Lib.hid (HSK.out (by rw [HVD.out, hvo]; simp))
                  clear hfr HSK HPT HVD HSN HID h3 hvo
                  go_wp2_with (first | (go_at_call 81; refine (HF.out _).mono ?_; rintro e w1 ⟨rfl, hb1⟩; rw [H1.out]; obtain ⟨hcc1, hff1⟩ := bcell hb1; have hs1 := hb1.size; have HZ := Lib.hid (HREL.out w1 (hb1.mono (by simp))); have hlk1 := HLK.out w1 HZ.out.2 id hidv; rw [HVO.out] at hlk1; try simp at hs1))
                  clear hcc1 hff1 hown
                  go_roundw
                  case rel => exact ⟨k + 1, A', c', by omega, by rw [HS2.out], by go_num, by rw [HS2.out]; exact HZ.out.1, HZ.out.2⟩
                  case measure => simp [intOf]; omega
            · have HS2 := Lib.hid (HSK.out (by rw [HVD.out]; simp [h2]))
              clear hfr HSK HPT HVD HSN HLK HID
              go_wp2_with (first | (go_at_call 81; refine (HF.out _).mono ?_; rintro e w1 ⟨rfl, hb1⟩; rw [H1.out]; obtain ⟨hcc1, hff1⟩ := bcell hb1; have hs1 := hb1.size; have HZ := Lib.hid (HREL.out w1 (hb1.mono (by simp))); try simp at hs1))
              clear hcc1 hff1 hown
              go_roundw
              case rel => exact ⟨k + 1, A', c', by omega, by rw [HS2.out], by go_num, by rw [HS2.out]; exact HZ.out.1, HZ.out.2⟩
              case measure => simp [intOf]; omega
        · obtain rfl : k = l.length := by omega
          rw [HEN.out] at hown ⊢
          have hcap := ownsSlice hown
          have HLI := Lib.hid (ownsRow_lies hown)
          have HBE := Lib.hid (HBW.out wr hbw)
          clear HLK HEN HBW hown hbw
          go_wp2
          go_ret
          obtain ⟨A2, c2, e2, h1, h2⟩ := hcap
          cases e2
          exact ⟨A', c', rfl, HLI.out, ⟨h1, h2⟩, HBE.out⟩
end Go.Proofs.YtkfeagokmcakgaaGreatDoor

namespace Go.Proofs.YtkfeagokmcakgaaGreatDoor
open Go.RowKit

theorem find_hit {l : List Rul} {p : Rul → Bool} : ∀ {k : Nat} (hk : k < l.length), (∀ j (h : j < l.length), j < k → p l[j] = false) → p l[k] = true → l.find? p = some l[k] := by
  induction l with
  | nil => intro k hk; simp at hk
  | cons a r ih =>
    intro k hk h0 h1
    cases k with
    | zero => simp at h1; simp [h1]
    | succ k =>
      have ha := h0 0 (by simp) (by omega)
      simp at ha
      rw [List.find?_cons_of_neg (by simp [ha])]
      have := ih (k := k) (by simpa using hk) (fun j hj hjk => by have := h0 (j + 1) (by simpa using hj) (by omega); rwa [List.getElem_cons_succ] at this) (by simpa using h1)
      simpa using this
theorem find_none {l : List Rul} {p : Rul → Bool} (h : ∀ j (h : j < l.length), p l[j] = false) : l.find? p = none := by
  rw [List.find?_eq_none]
  intro x hx
  obtain ⟨j, hj, rfl⟩ := List.getElem_of_mem hx
  rw [h j hj]; simp
def BarE (p : Bool × Int) (w : World) (e : Ending) (w' : World) : Prop := e = .returned (.tuple #[.bool p.1, .int .i64 p.2]) ∧ Below w.heap.size w w'
set_option maxRecDepth 100000 in
set_option maxHeartbeats 2500000 in
theorem bars_any (l : List Rul) (A : Option Addr) (c : Nat) (kind : Int) (x y : ByteArray) (back : Bool) (w : World) (hl : Lies w w.heap.size A (rulesC l)) (hok : RulOK l) (hm : l.length ≤ 1000) (hxs : x.size ≤ 100) (hys : y.size ≤ 100) :
    Calls Tryz.prog 79 #[.slice A l.length c, .int .u8 kind, .string x, .string y, .bool back] w (BarE (barL l kind x y back) w) := by
  have HG1 := Lib.hid (groups_any l A c x w hl hok hm hxs)
  have HG2 : Hid (∀ W, Below w.heap.size w W → Calls Tryz.prog 90 #[.slice A l.length c, .string y] W (GrpE l y W)) := fun W hb => groups_any l A c y W ((hl.below hb (Nat.le_refl _)).more hb.size) hok hm hys
  have HL := Lib.hid hl
  have HOK := Lib.hid hok
  have HHIT : Hid (∀ (k : Nat) (hk : k < l.length), (∀ j (h : j < l.length), j < k → barB l kind x y back l[j] = false) → barB l kind x y back l[k] = true → barL l kind x y back = (false, l[k].id)) := fun k hk h0 h1 => by
    unfold barL; rw [find_hit hk h0 h1]
  have HNO : Hid ((∀ j (h : j < l.length), barB l kind x y back l[j] = false) → barL l kind x y back = (true, 0)) := fun h => by
    unfold barL; rw [find_none h]
  have tk1 : True := trivial
  clear hl hok
  go_enter Tryz.func79, Tryz.ntmps79
  go_wp2_with (first | (go_at_call 90; have _t := tk1; refine HG1.out.mono ?_; rintro e w1 ⟨b1, n1, rfl, hbb1, hn1, hg1, hb1⟩; clear tk1) | (go_at_call 90; refine (HG2.out _ hb1).mono ?_; rintro e w2 ⟨b2, n2, rfl, hbb2, hn2, hg2, hb2⟩))
  have hgl1 := hg1.lt
  have hgl2 := hg2.lt
  have hs2 := hb2.size
  have HLK1 : Hid (∀ W, Below w2.heap.size w2 W → ∀ z : ByteArray, z.size ≤ 100 → (Instr.lookup 114 (.map (some b1)) (.string z) false).run Tryz.prog W = .ok (.bool (inG l x z)) W) := fun W hb z hz => by
    have := ((hg1.below hb2 hgl1).below hb (by omega)).lookS hz
    rwa [setG_get] at this
  have HLK2 : Hid (∀ W, Below w2.heap.size w2 W → ∀ z : ByteArray, z.size ≤ 100 → (Instr.lookup 114 (.map (some b2)) (.string z) false).run Tryz.prog W = .ok (.bool (inG l y z)) W) := fun W hb z hz => by
    have := (hg2.below hb hgl2).lookS hz
    rwa [setG_get] at this
  have HBW : Hid (∀ W, Below w2.heap.size w2 W → Below w.heap.size w W) := fun W hb => (hb1.trans (hb2.mono hb1.size)).trans (hb.mono (Nat.le_trans hb1.size hb2.size))
  clear hg1 hg2 hgl1 hgl2 HG1 HG2
  go_loopw [24] (fun v wr => ∃ (k : Nat), k ≤ l.length ∧ v = .int .i64 k ∧ Hid (∀ j (h : j < l.length), j < k → barB l kind x y back l[j] = false) ∧ Below w2.heap.size w2 wr) (fun v _ => l.length - (intOf v).toNat)
  case atStart => exact ⟨0, by omega, rfl, fun j _ h => absurd h (by omega), Below.refl _ _⟩
  case round =>
    obtain ⟨k, hk, rfl, hno, hbw⟩ := hrel
    have hbs := hbw.size
    by_cases hlt : k < l.length
    · obtain ⟨ad, rfl, hadb, c0, c1, c2, c3, c4, c5⟩ := rule_at ((HL.out.below (HBW.out wr hbw) (Nat.le_refl _)).more (HBW.out wr hbw).size) hlt
      have hrn := HOK.out _ (List.getElem_mem hlt)
      have HSK : Hid (barB l kind x y back l[k] = false → ∀ j (h : j < l.length), j < k + 1 → barB l kind x y back l[j] = false) := fun h j hj hjk => by
        by_cases e : j = k
        · subst e; exact h
        · exact hno.out j hj (by omega)
      have HHT := Lib.hid (HHIT.out k hlt hno.out)
      generalize l[k] = r at *
      have HVD : Hid (barB l kind x y back r = (decide (r.kind = kind) && (inG l x r.x && inG l y r.y || back && inG l y r.x && inG l x r.y))) := rfl
      obtain ⟨id, kn, kd, rx, ry, of⟩ := r
      dsimp only at *
      have hb0 : Below w2.heap.size w2 (wr.alloc (.cells #[.int .i64 id, .int .i64 kn, .int .u8 kd, .string rx, .string ry, .int .i64 of] 50)) := hbw.trans (((Below.refl _ _).alloc (Nat.le_refl _) _).mono hbs)
      have lk1 := HLK1.out _ hb0 rx hrn.1
      have lk2 := HLK1.out _ hb0 ry hrn.2.1
      have lk3 := HLK2.out _ hb0 rx hrn.1
      have lk4 := HLK2.out _ hb0 ry hrn.2.1
      have HB0 := Lib.hid hb0
      generalize inG l x rx = p1 at *
      generalize inG l x ry = p2 at *
      generalize inG l y rx = q1 at *
      generalize inG l y ry = q2 at *
      generalize barB l kind x y back ⟨id, kn, kd, rx, ry, of⟩ = bb at *
      generalize barL l kind x y back = bl at *
      clear HNO HHIT HLK1 HLK2 hno hb0
      by_cases hkd : kd = kind
      · have e1 : (kd == kind) = true := by simpa using hkd
        rw [decide_eq_true hkd] at HVD
        clear hkd
        cases p1 <;> cases q2 <;> cases back <;> cases q1 <;> cases p2
        all_goals first
          | (have HB : Hid (bb = false) := HVD.out
             have HS := Lib.hid (HSK.out HB.out)
             clear HVD HSK HHT HB
             go_wp2
             go_roundw
             case rel => exact ⟨k + 1, by omega, by go_num, HS, HB0.out⟩
             case measure => simp [intOf]; omega)
          | (have HB : Hid (bb = true) := HVD.out
             have HS := Lib.hid (HHT.out HB.out)
             clear HVD HSK HHT HB
             go_wp2
             go_region
             go_wp2
             go_ret2
             exact ⟨by rw [HS.out]; rfl, HBW.out _ HB0.out.drew⟩)
      · have e1 : (kd == kind) = false := by simpa using hkd
        rw [decide_eq_false hkd] at HVD
        have HB : Hid (bb = false) := by show _ = _; rw [HVD.out]; rfl
        have HS := Lib.hid (HSK.out HB.out)
        clear hkd HVD HSK HHT HB
        go_wp2
        go_roundw
        case rel => exact ⟨k + 1, by omega, by go_num, HS, HB0.out⟩
        case measure => simp [intOf]; omega
    · obtain rfl : k = l.length := by omega
      have HS := Lib.hid (HNO.out (fun j hj => hno.out j hj hj))
      clear HLK1 HLK2 HHIT HNO hno
      go_wp2
      go_ret2
      exact ⟨by rw [HS.out]; rfl, HBW.out _ hbw⟩
set_option maxHeartbeats 1000000 in
theorem mayBeside_any (l : List Rul) (A : Option Addr) (c : Nat) (known : Int) (x y : ByteArray) (w : World) (hl : Lies w w.heap.size A (rulesC l)) (hok : RulOK l) (hm : l.length ≤ 1000) (hxs : x.size ≤ 100) (hys : y.size ≤ 100) :
    Calls Tryz.prog 29 #[.agg #[.slice A l.length c], .int .i64 known, .string x, .string y] w (BarE (barL (cntL l known) 3 x y true) w) := by
  have HC : Hid (∀ W, Below w.heap.size w W → Calls Tryz.prog 38 #[.agg #[.slice A l.length c], .int .i64 known] W (SlE (cntL l known) W)) := fun W hb => counting_any l A c known W ((hl.below hb (Nat.le_refl _)).more hb.size) hok hm
  have HS := Lib.hid (fun A' c' W hL => bars_any (cntL l known) A' c' 3 x y true W hL (hok.sub (fun r hr => (List.mem_filter.1 hr).1)) (Nat.le_trans (List.length_filter_le _ _) hm) hxs hys)
  clear hl hok
  go_enter Tryz.func29, Tryz.ntmps29
  go_wp2_with (first | (go_at_call 38; refine (HC.out _ (by repeat (first | with_reducible exact Below.refl _ _ | with_reducible assumption | with_reducible refine Below.drew ?_ | with_reducible refine below_drewN ?_ _ | (with_reducible refine Below.alloc ?_ ?_ _; rotate_left; (try simp) <;> omega) | (with_reducible refine Below.setCell ?_ ?_ _; rotate_left; (try simp) <;> omega)))).mono ?_; rintro e w1 ⟨A1, c1, rfl, hl1, _, hb1⟩; have hB1 : Below w.heap.size w w1 := Below.trans (by repeat (first | with_reducible exact Below.refl _ _ | with_reducible assumption | with_reducible refine Below.drew ?_ | with_reducible refine below_drewN ?_ _ | (with_reducible refine Below.alloc ?_ ?_ _; rotate_left; (try simp) <;> omega) | (with_reducible refine Below.setCell ?_ ?_ _; rotate_left; (try simp) <;> omega))) (hb1.mono (by simp))) | (go_at_call 79; refine (HS.out _ _ _ hl1).mono ?_; rintro e w2 ⟨rfl, hb2⟩))
  go_ret2
  exact ⟨rfl, hB1.trans (hb2.mono hB1.size)⟩
set_option maxHeartbeats 1000000 in
theorem mayOver_any (l : List Rul) (A : Option Addr) (c : Nat) (known : Int) (x y : ByteArray) (w : World) (hl : Lies w w.heap.size A (rulesC l)) (hok : RulOK l) (hm : l.length ≤ 1000) (hxs : x.size ≤ 100) (hys : y.size ≤ 100) :
    Calls Tryz.prog 31 #[.agg #[.slice A l.length c], .int .i64 known, .string x, .string y] w (BarE (barL (cntL l known) 4 x y false) w) := by
  have HC : Hid (∀ W, Below w.heap.size w W → Calls Tryz.prog 38 #[.agg #[.slice A l.length c], .int .i64 known] W (SlE (cntL l known) W)) := fun W hb => counting_any l A c known W ((hl.below hb (Nat.le_refl _)).more hb.size) hok hm
  have HS := Lib.hid (fun A' c' W hL => bars_any (cntL l known) A' c' 4 x y false W hL (hok.sub (fun r hr => (List.mem_filter.1 hr).1)) (Nat.le_trans (List.length_filter_le _ _) hm) hxs hys)
  clear hl hok
  go_enter Tryz.func31, Tryz.ntmps31
  go_wp2_with (first | (go_at_call 38; refine (HC.out _ (by repeat (first | with_reducible exact Below.refl _ _ | with_reducible assumption | with_reducible refine Below.drew ?_ | with_reducible refine below_drewN ?_ _ | (with_reducible refine Below.alloc ?_ ?_ _; rotate_left; (try simp) <;> omega) | (with_reducible refine Below.setCell ?_ ?_ _; rotate_left; (try simp) <;> omega)))).mono ?_; rintro e w1 ⟨A1, c1, rfl, hl1, _, hb1⟩; have hB1 : Below w.heap.size w w1 := Below.trans (by repeat (first | with_reducible exact Below.refl _ _ | with_reducible assumption | with_reducible refine Below.drew ?_ | with_reducible refine below_drewN ?_ _ | (with_reducible refine Below.alloc ?_ ?_ _; rotate_left; (try simp) <;> omega) | (with_reducible refine Below.setCell ?_ ?_ _; rotate_left; (try simp) <;> omega))) (hb1.mono (by simp))) | (go_at_call 79; refine (HS.out _ _ _ hl1).mono ?_; rintro e w2 ⟨rfl, hb2⟩))
  go_ret2
  exact ⟨rfl, hB1.trans (hb2.mono hB1.size)⟩
end Go.Proofs.YtkfeagokmcakgaaGreatDoor

namespace Go.Proofs.YtkfeagokmcakgaaGreatDoor
open Go.RowKit

set_option maxRecDepth 100000 in
set_option maxHeartbeats 2500000 in
theorem about_any (l : List Rul) (A : Option Addr) (c : Nat) (x : ByteArray) (w : World) (hl : Lies w w.heap.size A (rulesC l)) (hok : RulOK l) (hm : l.length ≤ 1000) (hxs : x.size ≤ 100) :
    Calls Tryz.prog 93 #[.slice A l.length c, .string x] w (SlE (abtL l x) w) := by
  have HG := Lib.hid (groups_any l A c x w hl hok hm hxs)
  have HL := Lib.hid hl
  have HOK := Lib.hid hok
  clear hl hok
  go_enter Tryz.func93, Tryz.ntmps93
  go_wp2_with (go_at_call 90; refine HG.out.mono ?_; rintro e w1 ⟨b, n, rfl, hbb, hn, hg, hb1⟩)
  have hgl := hg.lt
  have HLK : Hid (∀ W, Below w1.heap.size w1 W → ∀ z : ByteArray, z.size ≤ 100 → (Instr.lookup 114 (.map (some b)) (.string z) false).run Tryz.prog W = .ok (.bool (inG l x z)) W) := fun W hb z hz => by
    have := (hg.below hb hgl).lookS hz
    rwa [setG_get] at this
  have HBW : Hid (∀ W, Below w1.heap.size w1 W → Below w.heap.size w W) := fun W hb => hb1.trans (hb.mono hb1.size)
  have HEN : Hid ((l.take l.length).filter (abtB l x) = abtL l x) := by show _ = _; rw [List.take_length]; rfl
  clear hg hgl HG
  go_loopw [6, 14] (fun v y w2 => ∃ (k : Nat) (A' : Option Addr) (c' : Nat), k ≤ l.length ∧ v = .slice A' ((l.take k).filter (abtB l x)).length c' ∧ y = .int .i64 k ∧ w2.ownsRow w1.heap.size 50 6 (.slice A' ((l.take k).filter (abtB l x)).length c') ((l.take k).filter (abtB l x)).length (rulesC ((l.take k).filter (abtB l x))) ∧ Below w1.heap.size w1 w2) (fun _ y _ => l.length - (intOf y).toNat)
  case atStart => exact ⟨0, none, 0, by omega, rfl, rfl, by simpa [rulesC] using World.ownsRow_nil _ _ _ _, Below.refl _ _⟩
  case round =>
    obtain ⟨k, A', c', hk, rfl, rfl, hown, hbw⟩ := hrel
    have hbs := hbw.size
    by_cases hlt : k < l.length
    · obtain ⟨ad, rfl, hadb, c0, c1, c2, c3, c4, c5⟩ := rule_at ((HL.out.below (HBW.out wr hbw) (Nat.le_refl _)).more (HBW.out wr hbw).size) hlt
      have hrn := HOK.out _ (List.getElem_mem hlt)
      have HSK := Lib.hid (fun h => filt_skip (p := abtB l x) hlt h)
      have HPT := Lib.hid (fun h => filt_take (p := abtB l x) hlt h)
      have hfl := filt_len l (abtB l x) k
      generalize (l.take k).filter (abtB l x) = fk at *
      generalize l[k] = r at *
      have HVD : Hid (abtB l x r = ((decide (r.kind = 1) || decide (r.kind = 2)) && inG l x r.x)) := rfl
      have HSN := Lib.hid (rulesC_snoc fk r)
      obtain ⟨id, kn, kd, rx, ry, of⟩ := r
      dsimp only at *
      have hb0 : Below wr.heap.size wr (wr.alloc (.cells #[.int .i64 id, .int .i64 kn, .int .u8 kd, .string rx, .string ry, .int .i64 of] 50)) := (Below.refl _ _).alloc (Nat.le_refl _) _
      have HZ : Hid ((wr.alloc (.cells #[.int .i64 id, .int .i64 kn, .int .u8 kd, .string rx, .string ry, .int .i64 of] 50)).ownsRow w1.heap.size 50 6 (.slice A' fk.length c') fk.length (rulesC fk) ∧ Below w1.heap.size w1 (wr.alloc (.cells #[.int .i64 id, .int .i64 kn, .int .u8 kd, .string rx, .string ry, .int .i64 of] 50))) := ⟨ownsRow_below hown hb0 (Nat.le_refl _), hbw.trans (hb0.mono hbs)⟩
      have hlk1 := HLK.out _ HZ.out.2 rx hrn.1
      clear hb0
      by_cases h1 : kd = 1 ∨ kd = 2
      · have HK := Lib.hid h1
        have HK2 : Hid ((decide (kd = 1) || decide (kd = 2)) = true) := by show _ = _; rcases h1 with h | h <;> simp [h]
        rw [HK2.out] at HVD
        cases hin : inG l x rx
        · rw [hin] at hlk1
          have HS2 := Lib.hid (HSK.out (by rw [HVD.out, hin]; rfl))
          clear HSK HPT HVD HSN HLK hin
          rcases h1 with h1 | h1
          all_goals
            have e1 : (kd == 1) = decide (kd = 1) := rfl
            have e2 : (kd == 2) = decide (kd = 2) := rfl
            simp only [h1] at e1 e2
            subst h1
            clear hown
            go_wp2
            go_roundw
            case rel => exact ⟨k + 1, A', c', by omega, by rw [HS2.out], by go_num, by rw [HS2.out]; exact HZ.out.1, HZ.out.2⟩
            case measure => simp [intOf]; omega
        · rw [hin] at hlk1
          have HS2 := Lib.hid (HPT.out (by rw [HVD.out, hin]; rfl))
          clear HSK HPT HVD HLK hin
          have HLN : Hid (fk.length + 1 = (fk ++ [Rul.mk id kn kd rx ry of]).length) := by show _ = _; simp
          rcases h1 with h1 | h1
          · subst h1
            go_wp2_with (at_builtin; refine wpList_append1 rfl (.tmp 32) (.tmp 34) 23 rfl w1.heap.size 50 zeroRul 6 64 Tryz.underlying23 info50 rfl (by decide) _ fk.length (rulesC fk) rfl (HZ.out.1.alloc _) (wr.heap.size + 1) #[.int .i64 id, .int .i64 kn, .int .u8 1, .string rx, .string ry, .int .i64 of] 50 rfl ?c0 rfl ?c1 ?c2 (by decide) ?c3 w1.heap.size w1 ?c4 (Nat.le_refl _) ?_)
            case c0 => simpa using Bk.new (wr.alloc (.cells #[.int .i64 id, .int .i64 kn, .int .u8 1, .string rx, .string ry, .int .i64 of] 50)) 50 #[.int .i64 id, .int .i64 kn, .int .u8 1, .string rx, .string ry, .int .i64 of]
            case c1 => exact ⟨rfl, rfl, rfl, rfl, rfl, rfl⟩
            case c2 => omega
            case c3 => first | omega | (simp; omega)
            case c4 => exact HZ.out.2.alloc (by simp; omega) _
            intro v' w4 ho4 hb4 _
            rw [HSN.out] at ho4
            obtain ⟨A4, c4, rfl, _, _⟩ := ownsSlice ho4
            clear hown hlk1
            go_wp2
            go_roundw
            case rel => exact ⟨k + 1, A4, c4, by omega, by rw [HS2.out, HLN.out], by go_num, by rw [HS2.out, ← HLN.out]; exact ho4, hb4⟩
            case measure => simp [intOf]; omega
          · subst h1
            go_wp2_with (at_builtin; refine wpList_append1 rfl (.tmp 32) (.tmp 34) 23 rfl w1.heap.size 50 zeroRul 6 64 Tryz.underlying23 info50 rfl (by decide) _ fk.length (rulesC fk) rfl (HZ.out.1.alloc _) (wr.heap.size + 1) #[.int .i64 id, .int .i64 kn, .int .u8 2, .string rx, .string ry, .int .i64 of] 50 rfl ?c0 rfl ?c1 ?c2 (by decide) ?c3 w1.heap.size w1 ?c4 (Nat.le_refl _) ?_)
            case c0 => simpa using Bk.new (wr.alloc (.cells #[.int .i64 id, .int .i64 kn, .int .u8 2, .string rx, .string ry, .int .i64 of] 50)) 50 #[.int .i64 id, .int .i64 kn, .int .u8 2, .string rx, .string ry, .int .i64 of]
            case c1 => exact ⟨rfl, rfl, rfl, rfl, rfl, rfl⟩
            case c2 => omega
            case c3 => first | omega | (simp; omega)
            case c4 => exact HZ.out.2.alloc (by simp; omega) _
            intro v' w4 ho4 hb4 _
            rw [HSN.out] at ho4
            obtain ⟨A4, c4, rfl, _, _⟩ := ownsSlice ho4
            clear hown hlk1
            go_wp2
            go_roundw
            case rel => exact ⟨k + 1, A4, c4, by omega, by rw [HS2.out, HLN.out], by go_num, by rw [HS2.out, ← HLN.out]; exact ho4, hb4⟩
            case measure => simp [intOf]; omega
      · have HK2 : Hid ((decide (kd = 1) || decide (kd = 2)) = false) := by show _ = _; simp; omega
        rw [HK2.out] at HVD
        have HS2 := Lib.hid (HSK.out (by rw [HVD.out]; rfl))
        have e1 : (kd == 1) = false := by simp; omega
        have e2 : (kd == 2) = false := by simp; omega
        clear HSK HPT HVD HSN HLK hown h1
        go_wp2
        go_roundw
        case rel => exact ⟨k + 1, A', c', by omega, by rw [HS2.out], by go_num, by rw [HS2.out]; exact HZ.out.1, HZ.out.2⟩
        case measure => simp [intOf]; omega
    · obtain rfl : k = l.length := by omega
      rw [HEN.out] at hown ⊢
      have hcap := ownsSlice hown
      have HLI := Lib.hid (ownsRow_lies hown)
      have HBE := Lib.hid (HBW.out wr hbw)
      clear HLK HEN HBW hown hbw
      go_wp2
      go_ret
      obtain ⟨A2, c2, e2, h1, h2⟩ := hcap
      cases e2
      exact ⟨A', c', rfl, HLI.out, ⟨h1, h2⟩, HBE.out⟩

theorem abt_sub (l : List Rul) (x : ByteArray) : ∀ r ∈ abtL l x, r ∈ l := fun r hr => (List.mem_filter.1 hr).1
theorem abt_len (l : List Rul) (x : ByteArray) : (abtL l x).length ≤ l.length := List.length_filter_le _ _
theorem sttA_bd (m : List Rul) : sttA m = 0 ∨ sttA m = 1 ∨ sttA m = 2 ∨ sttA m = 3 := by
  unfold sttA; split <;> split <;> simp
theorem sttA_one {m : List Rul} {k : Nat} (hk : k < m.length) (h : m[k].kind = 1) : sttA (m.take (k + 1)) = if sttA (m.take k) = 0 ∨ sttA (m.take k) = 1 then 1 else 3 := by
  rw [← List.take_append_getElem hk]
  unfold sttA
  simp only [List.any_append, List.any_cons, List.any_nil, h]
  cases (m.take k).any (fun r => decide (r.kind = 1)) <;> cases (m.take k).any (fun r => !decide (r.kind = 1)) <;> simp
theorem sttA_two {m : List Rul} {k : Nat} (hk : k < m.length) (h : m[k].kind ≠ 1) : sttA (m.take (k + 1)) = if sttA (m.take k) = 0 ∨ sttA (m.take k) = 2 then 2 else 3 := by
  rw [← List.take_append_getElem hk]
  unfold sttA
  simp only [List.any_append, List.any_cons, List.any_nil, h]
  cases (m.take k).any (fun r => decide (r.kind = 1)) <;> cases (m.take k).any (fun r => !decide (r.kind = 1)) <;> simp
def U8End (n : Nat) (w : World) (e : Ending) (w' : World) : Prop := e = .returned (.int .u8 n) ∧ Below w.heap.size w w'
set_option maxRecDepth 100000 in
set_option maxHeartbeats 2500000 in
theorem state_any (l : List Rul) (A : Option Addr) (c : Nat) (x : ByteArray) (w : World) (hl : Lies w w.heap.size A (rulesC l)) (hok : RulOK l) (hm : l.length ≤ 1000) (hxs : x.size ≤ 100) :
    Calls Tryz.prog 75 #[.slice A l.length c, .string x] w (U8End (stt l x) w) := by
  have HA := Lib.hid (about_any l A c x w hl hok hm hxs)
  have hml := abt_len l x
  have HST : Hid (stt l x = sttA (abtL l x)) := rfl
  generalize abtL l x = m at *
  generalize stt l x = ST at *
  clear hl hok
  go_enter Tryz.func75, Tryz.ntmps75
  go_wp2_with (go_at_call 93; refine HA.out.mono ?_; rintro e w1 ⟨A1, c1, rfl, hl1, ⟨hc1, hc2⟩, hb1⟩)
  have HL := Lib.hid hl1
  have hs1 := hb1.size
  clear hl1 HA
  go_loopw [5, 12] (fun v y w2 => ∃ (k : Nat) (q : Int), k ≤ m.length ∧ v = .int .u8 q ∧ Hid (q = (sttA (m.take k) : Int)) ∧ y = .int .i64 k ∧ Below w1.heap.size w1 w2) (fun _ y _ => m.length - (intOf y).toNat)
  case atStart => exact ⟨0, 0, by omega, rfl, by show _ = _; simp [sttA], rfl, Below.refl _ _⟩
  case round =>
    obtain ⟨k, q, hk, rfl, hq, rfl, hbw⟩ := hrel
    have hbs := hbw.size
    by_cases hlt : k < m.length
    · obtain ⟨ad, rfl, hadb, d0, d1, d2, d3, d4, d5⟩ := rule_at ((HL.out.below hbw (Nat.le_refl _)).more hbs) hlt
      have HO := Lib.hid (fun h => sttA_one hlt h)
      have HT := Lib.hid (fun h => sttA_two hlt h)
      have hbd := sttA_bd (m.take k)
      generalize sttA (m.take k) = s at *
      generalize m[k] = r at *
      obtain ⟨id, kn, kd, rx, ry, of⟩ := r
      dsimp only at *
      have hq' : q = (s : Int) := hq.out
      clear hq
      by_cases h1 : kd = 1
      · have h1' : (kd == 1) = true := by rw [h1]; rfl
        have HS := Lib.hid (HO.out h1)
        clear HO HT h1
        rcases hbd with rfl | rfl | rfl | rfl
        all_goals
          subst hq'
          go_wp2
          go_roundw
          case rel => exact ⟨k + 1, _, by omega, rfl, by show _ = _; rw [HS.out]; rfl, by go_num, hbw.trans (Below.mono (by repeat (first | with_reducible exact Below.refl _ _ | with_reducible assumption | with_reducible refine Below.drew ?_ | with_reducible refine below_drewN ?_ _ | (with_reducible refine Below.alloc ?_ ?_ _; rotate_left; (try simp) <;> omega) | (with_reducible refine Below.setCell ?_ ?_ _; rotate_left; (try simp) <;> omega))) hbs)⟩
          case measure => simp [intOf]; omega
      · have h1' : (kd == 1) = false := by simpa using h1
        have HS := Lib.hid (HT.out h1)
        clear HO HT h1
        rcases hbd with rfl | rfl | rfl | rfl
        all_goals
          subst hq'
          go_wp2
          go_roundw
          case rel => exact ⟨k + 1, _, by omega, rfl, by show _ = _; rw [HS.out]; rfl, by go_num, hbw.trans (Below.mono (by repeat (first | with_reducible exact Below.refl _ _ | with_reducible assumption | with_reducible refine Below.drew ?_ | with_reducible refine below_drewN ?_ _ | (with_reducible refine Below.alloc ?_ ?_ _; rotate_left; (try simp) <;> omega) | (with_reducible refine Below.setCell ?_ ?_ _; rotate_left; (try simp) <;> omega))) hbs)⟩
          case measure => simp [intOf]; omega
    · obtain rfl : k = m.length := by omega
      rw [List.take_length] at hq
      go_wp2
      go_ret
      exact ⟨by rw [hq.out, HST.out]; rfl, hb1.trans (hbw.mono hs1)⟩
theorem cnt_sub (l : List Rul) (known : Int) : ∀ r ∈ cntL l known, r ∈ l := fun r hr => (List.mem_filter.1 hr).1
theorem cnt_len (l : List Rul) (known : Int) : (cntL l known).length ≤ l.length := List.length_filter_le _ _
set_option maxHeartbeats 1000000 in
theorem State_any (l : List Rul) (A : Option Addr) (c : Nat) (known : Int) (x : ByteArray) (w : World) (hl : Lies w w.heap.size A (rulesC l)) (hok : RulOK l) (hm : l.length ≤ 1000) (hxs : x.size ≤ 100) :
    Calls Tryz.prog 25 #[.agg #[.slice A l.length c], .int .i64 known, .string x] w (U8End (stt (cntL l known) x) w) := by
  have HC : Hid (∀ W, Below w.heap.size w W → Calls Tryz.prog 38 #[.agg #[.slice A l.length c], .int .i64 known] W (SlE (cntL l known) W)) := fun W hb => counting_any l A c known W ((hl.below hb (Nat.le_refl _)).more hb.size) hok hm
  have HS := Lib.hid (fun A' c' W hL => state_any (cntL l known) A' c' x W hL (hok.sub (cnt_sub l known)) (Nat.le_trans (cnt_len l known) hm) hxs)
  clear hl hok
  go_enter Tryz.func25, Tryz.ntmps25
  go_wp2_with (first | (go_at_call 38; refine (HC.out _ (by repeat (first | with_reducible exact Below.refl _ _ | with_reducible assumption | with_reducible refine Below.drew ?_ | with_reducible refine below_drewN ?_ _ | (with_reducible refine Below.alloc ?_ ?_ _; rotate_left; (try simp) <;> omega) | (with_reducible refine Below.setCell ?_ ?_ _; rotate_left; (try simp) <;> omega)))).mono ?_; rintro e w1 ⟨A1, c1, rfl, hl1, _, hb1⟩; have hB1 : Below w.heap.size w w1 := Below.trans (by repeat (first | with_reducible exact Below.refl _ _ | with_reducible assumption | with_reducible refine Below.drew ?_ | with_reducible refine below_drewN ?_ _ | (with_reducible refine Below.alloc ?_ ?_ _; rotate_left; (try simp) <;> omega) | (with_reducible refine Below.setCell ?_ ?_ _; rotate_left; (try simp) <;> omega))) (hb1.mono (by simp))) | (go_at_call 75; refine (HS.out _ _ _ hl1).mono ?_; rintro e w2 ⟨rfl, hb2⟩))
  go_ret
  exact ⟨rfl, hB1.trans (hb2.mono hB1.size)⟩
end Go.Proofs.YtkfeagokmcakgaaGreatDoor
