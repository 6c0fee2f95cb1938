/- The second machine over this program: its types,its functions; a call without arguments. -/
import Derived.Test.YtkjceegmmhnajaaProg
import Derived.KernelRfl
import Derived.Test.YtkjceegmmhnajaaRows
import Derived.WalkKit
import Derived.WalkSpells
import Derived.WalkLawsBesides
import Derived.Lib.Hide
import Derived.Deep.QuietTactic
import Derived.BigQuiet
import Derived.Test.YtkjceegmmhnajaaG54
import Derived.Test.YtkjceegmmhnajaaG58

set_option linter.unusedVariables false
set_option linter.unusedSimpArgs false

namespace Go.Proofs.Ytkjceegmmhnajaa
open Go.RowKit

noncomputable def tree {α : Type} (f : Nat → Option α) (k : Nat) : Tr α → Tr α:=Nat.rec (fun t=>t) (fun k ih t=>match f k with | some x=>ih (t.set k x) | none=>ih t) k
theorem tree_get {α : Type} (f : Nat → Option α) : ∀ (k : Nat) (t : Tr α) (i : Nat) (x : α),(tree f k t).get i = some x → (i < k ∧ f i = some x) ∨ t.get i = some x
 | 0,t,i,x,h=>.inr h
 | k + 1,t,i,x,h=>by
  change (match f k with | some y=>tree f k (t.set k y) | none=>tree f k t : Tr α).get i = some x at h
  split at h
  ·rename_i y hy
   rcases tree_get f k _ i x h with ⟨h1,h2⟩ | h1
   ·exact .inl ⟨by omega,h2⟩
   ·rw [Tr.get_set] at h1
    by_cases e : i = k
    ·subst e; rw [if_pos rfl] at h1; cases h1; exact .inl ⟨by omega,hy⟩
    ·rw [if_neg e] at h1; exact .inr h1
  ·rcases tree_get f k _ i x h with ⟨h1,h2⟩ | h1
   ·exact .inl ⟨by omega,h2⟩
   ·exact .inr h1

noncomputable def mkTv (P : Program) (t : Nat) : Option TV :=
 match P.info? t with
 | some i=>match i.zero,P.underlying t with
  | some z,some u=>Bool.rec none (some ⟨i.size,i.bytes,z,u,isAggD u⟩) (ground 3 z && z.cells.size == i.size)
  | _,_=>none
 | none=>none
noncomputable def mkFn (P : Program) (wrs : List Nat) (f : Nat) : Option FI :=
 match P.funcs[f]? with
 | some fn=>match fn.body with
  | some c=>some ⟨c,fn.ntmps,fn.results.toList,wrs.contains f⟩
  | none=>none
 | none=>none
def fnOk (P : Program) (f : Nat) : Bool :=
 match P.funcs[f]? with
 | some fn=>match fn.body with
  | some c => ck c && !(fn.name == "runtime.NumGoroutine")
  | none=>true
 | none=>true

noncomputable def tvs : Tr TV:=tree (mkTv Try.prog) 145 .e
noncomputable def fs : Tr FI:=tree (mkFn Try.prog [68,72,73]) 94 .e
noncomputable def E0 : Env:=⟨Try.prog,tvs.get,fs.get,fun _ _ _=>none,fun _ _ _=>none,fun _ _ _ _=>none⟩

theorem tvOk_of (P : Program) (n : Nat) : TvOk P (tree (mkTv P) n .e).get:=⟨fun t x h=>by
 rcases tree_get _ _ _ _ _ h with ⟨_,h1⟩ | h1
 ·unfold mkTv at h1
  split at h1
  ·rename_i i hi
   split at h1
   ·rename_i z u hz hu
    cases hg : (ground 3 z && z.cells.size == i.size) with
    | false=>rw [hg] at h1; cases h1
    | true =>
     rw [hg] at h1; cases h1
     simp only [Bool.and_eq_true,beq_iff_eq] at hg
     exact ⟨⟨i,hi,rfl,rfl,hz⟩,hu,rfl,hg.1,hg.2⟩
   ·cases h1
  ·cases h1
 ·rw [Tr.get_e] at h1; cases h1⟩

theorem fnsOk_of (P : Program) (wrs : List Nat) (N : Nat) (hck : (List.range N).all (fnOk P) = true) (f : Nat) (fi : FI) (h : (tree (mkFn P wrs) N .e).get f = some fi) :
  ∃ fn, P.funcs[f]? = some fn ∧ fn.body = some fi.body ∧ fn.ntmps = fi.ntmps ∧ fn.results.toList = fi.results ∧ ck fi.body = true ∧ (fn.name == "runtime.NumGoroutine") = false := by
 rcases tree_get _ _ _ _ _ h with ⟨hlt,h1⟩ | h1
 ·have hok:=List.all_eq_true.1 hck f (by simpa using hlt)
  unfold fnOk at hok
  unfold mkFn at h1
  split at h1
  ·rename_i fn hfn
   rw [hfn] at hok
   dsimp only at hok
   split at h1
   ·rename_i c hc
    rw [hc] at hok
    dsimp only at hok
    cases h1
    simp only [Bool.and_eq_true,Bool.not_eq_true'] at hok
    exact ⟨fn,hfn,hc,rfl,rfl,hok.1,hok.2⟩
   ·cases h1
  ·cases h1
 ·rw [Tr.get_e] at h1; cases h1

set_option maxRecDepth 100000 in
theorem fns_ok : (List.range 94).all (fnOk Try.prog) = true:=by decide +kernel

end Go.Proofs.Ytkjceegmmhnajaa

namespace Go.Proofs.Ytkjceegmmhnajaa
open Go.RowKit
set_option maxRecDepth 100000 in
theorem E0_ok : EnvOk E0 where
 tv:=show TvOk Try.prog (tree (mkTv Try.prog) 145 .e).get from tvOk_of Try.prog 145
 mixed:=show Try.prog.follows .mixedOrders = true by kernel_rfl
 fns:=fun f fi h=>fnsOk_of Try.prog [68,72,73] 94 fns_ok f fi h
 ext:=fun f args H v h=>by cases (show (none : Option Value) = some v from h)
 extn:=fun f args H n r h=>by cases (show (none : Option (Value × List AO)) = some r from h)

theorem closed_call {E : Env} (hE : EnvOk E) {k g : Nat} {v : Value} {H : Tr AO} {n : Nat} (h : callF E (exec E k) 0 g #[] .e 0 = some (v,H,n)) (hg : ground 2 v = true) (hx : ∀ j a H,E.exty j a H = none) (hf : ∀ j a H,E.extf j a H = none) (hn : ∀ j a H m,E.extn j a H m = none) (w : World) :
  Calls E.P g #[] w fun e w'=>e = .returned v ∧ Below w.heap.size w w':=by
 obtain ⟨_,hc⟩:=callF_ok hE (exec_sound hE k) h (Nat.le_refl _) (fun i _=>Tr.get_e i)
 have:=hc (B:=⟨w.heap.size,0,Nat.le_refl _⟩) (w0:=w) (p:=fun _=>none) (h:=fun _=>none) (w:=w) (args':=#[]) (R:=fun e w'=>e = .returned v ∧ Below w.heap.size w w') (ro:=none)
  (fun i o hi=>by rw [Tr.get_e] at hi; cases hi) (fun i _ _=>rfl) ⟨Nat.le_refl _,Below.refl _ _,fun q hq j args args' H v w _ _ _=>⟨fun he=>(by rw [hx] at he; cases he),fun he=>(by rw [hf] at he; cases he),fun m l _ he=>(by rw [hn] at he; cases he)⟩,fun i o hi=>(by cases hi),fun i j b k k' hi=>(by cases hi)⟩ (AR.empty _)
  (fun v' w' q hv _ hr=>⟨by rw [VR.eq_of_ground 2 hg hv],hr.low⟩)
 exact callsIn_wide.1 this
end Go.Proofs.Ytkjceegmmhnajaa

namespace Go.Proofs.Ytkjceegmmhnajaa
open Go.RowKit
noncomputable def isTrueR (x : Option (Value × Tr AO × Nat)) : Bool:=match x with | some (.bool b,_,_)=>b | _=>false
set_option maxRecDepth 100000 in
theorem mixed_run : isTrueR (callF E0 (exec E0 100000) 0 10 #[] .e 0) = true:=by decide +kernel
theorem mixed_any (w : World) : Calls Try.prog 10 #[] w fun e w'=>e = .returned (.bool true) ∧ Below w.heap.size w w':=by
 have h:=mixed_run
 unfold isTrueR at h
 split at h
 ·rename_i b H n hc
  subst h
  exact closed_call E0_ok hc rfl (fun _ _ _=>rfl) (fun _ _ _=>rfl) (fun _ _ _ _=>rfl) w
 ·cases h
end Go.Proofs.Ytkjceegmmhnajaa

namespace Go.Proofs.Ytkjceegmmhnajaa
open Go.RowKit

def bigP (n : Int) : Prop:=-3050000000000000000 ≤ n ∧ n ≤ 3050000000000000000

set_option maxHeartbeats 400000 in
theorem among_any (n a b : Int) (w : World) :
  Calls Try.prog 45 #[.int .i64 n, .int .i64 a, .int .i64 b] w fun e w'=>e = .returned (.bool (decide (a ≤ n) && decide (n ≤ b))) ∧ w = w':=by
 by_cases h1 : a ≤ n <;> by_cases h2 : n ≤ b
 all_goals
  go_enter Try.func45,Try.ntmps45
  go_wp2
  go_ret
  simp [h1,h2]

set_option maxHeartbeats 400000 in
theorem minus_any (a b c x y z : Int) (w : World) (h1 : bigP (a - x)) (h2 : bigP (b - y)) (h3 : bigP (c - z)) :
  Calls Try.prog 75 #[.agg #[.int .i64 a, .int .i64 b, .int .i64 c], .agg #[.int .i64 x, .int .i64 y, .int .i64 z]] w fun e w' => 
   e = .returned (.agg #[.int .i64 (a - x), .int .i64 (b - y), .int .i64 (c - z)]) ∧ Below w.heap.size w w':=by
 unfold bigP at h1 h2 h3
 go_enter Try.func75,Try.ntmps75
 go_wp2
 refine bodyPost_ret (v:=.agg #[.int .i64 (a - x), .int .i64 (b - y), .int .i64 (c - z)]) (by simp [results,Try.results75,go_sem]) rfl ⟨rfl,?_⟩
 exact ((((Below.refl _ _).alloc (Nat.le_refl _) _).alloc (by simp) _).alloc (by simp; omega) _)

set_option maxHeartbeats 400000 in
theorem rminus_any (a b c x y z : Int) (w : World) (h1 : bigP (a - x)) (h2 : bigP (b - y)) (h3 : bigP (c - z)) :
  Calls Try.prog 91 #[.agg #[.int .i64 a, .int .i64 b, .int .i64 c], .agg #[.int .i64 x, .int .i64 y, .int .i64 z]] w fun e w' => 
   e = .returned (.agg #[.int .i64 (a - x), .int .i64 (b - y), .int .i64 (c - z)]) ∧ Below w.heap.size w w':=by
 unfold bigP at h1 h2 h3
 go_enter Try.func91,Try.ntmps91
 go_wp2
 refine bodyPost_ret (v:=.agg #[.int .i64 (a - x), .int .i64 (b - y), .int .i64 (c - z)]) (by simp [results,Try.results91,go_sem]) rfl ⟨rfl,?_⟩
 exact ((((Below.refl _ _).alloc (Nat.le_refl _) _).alloc (by simp) _).alloc (by simp; omega) _)

set_option maxHeartbeats 400000 in
theorem times_any (a b c x y z : Int) (w : World) (h1 : bigP (a * x)) (h2 : bigP (b * y)) (h3 : bigP (c * z)) :
  Calls Try.prog 46 #[.agg #[.int .i64 a, .int .i64 b, .int .i64 c], .agg #[.int .i64 x, .int .i64 y, .int .i64 z]] w fun e w' => 
   e = .returned (.int .i64 (a * x + b * y + c * z)) ∧ Below w.heap.size w w':=by
 unfold bigP at h1 h2 h3
 go_enter Try.func46,Try.ntmps46
 go_wp2
 go_ret
 exact ⟨rfl,((Below.refl _ _).alloc (Nat.le_refl _) _).alloc (by simp) _⟩

set_option maxHeartbeats 400000 in
theorem dot_any (a b c x y z : Int) (w : World) (h1 : bigP (a * x)) (h2 : bigP (b * y)) (h3 : bigP (c * z)) :
  Calls Try.prog 50 #[.agg #[.int .i64 a, .int .i64 b, .int .i64 c], .agg #[.int .i64 x, .int .i64 y, .int .i64 z]] w fun e w' => 
   e = .returned (.int .i64 (a * x + b * y + c * z)) ∧ Below w.heap.size w w':=by
 unfold bigP at h1 h2 h3
 go_enter Try.func50,Try.ntmps50
 go_wp2
 go_ret
 exact ⟨rfl,((Below.refl _ _).alloc (Nat.le_refl _) _).alloc (by simp) _⟩

set_option maxHeartbeats 400000 in
theorem isNaN_any (n : Int) (w : World) :
  Calls Try.prog 88 #[.int .i64 n] w fun e w'=>e = .returned (.bool false) ∧ w = w':=by
 go_enter Try.func88,Try.ntmps88
 go_wp2
 go_ret
 simp

def cmpI (x y : Int) : Int:=if x < y then -1 else if y < x then 1 else 0
set_option maxHeartbeats 400000 in
theorem compare_any (x y : Int) (w : World) :
  Calls Try.prog 71 #[.int .i64 x, .int .i64 y] w fun e w'=>e = .returned (.int .i64 (cmpI x y)) ∧ w = w':=by
 by_cases h : x < y
 ·go_enter Try.func71,Try.ntmps71
  go_wp2_with (go_at_call 88; refine (isNaN_any _ _).mono ?_; rintro e w' ⟨rfl,rfl⟩)
  go_ret
  simp [cmpI,h]
 ·by_cases h' : y < x
  ·go_enter Try.func71,Try.ntmps71
   go_wp2_with (go_at_call 88; refine (isNaN_any _ _).mono ?_; rintro e w' ⟨rfl,rfl⟩)
   go_ret
   simp [cmpI,h,h']
  ·go_enter Try.func71,Try.ntmps71
   go_wp2_with (go_at_call 88; refine (isNaN_any _ _).mono ?_; rintro e w' ⟨rfl,rfl⟩)
   go_ret
   exact ⟨ret_int (by unfold cmpI; rw [if_neg (by omega),if_neg (by omega)]),rfl⟩

theorem tdiv_floor (a b : Int) (h : ¬ 0 ≤ a) (hb : 1 ≤ b) (h' : a.tmod b < 0) : a.tdiv b - 1 = a / b:=by
 have h1:=Int.mul_tdiv_add_tmod a b
 have h2:=Int.lt_tmod_of_pos a (show 0 < b by omega)
 refine ((Int.ediv_emod_unique (a:=a) (b:=b) (r:=a.tmod b + b) (q:=a.tdiv b - 1) (by omega)).2 ⟨?_,by omega,by omega⟩).1.symm
 have : b * (a.tdiv b - 1) = b * a.tdiv b - b:=by rw [Int.mul_sub]; omega
 omega
theorem tdiv_zero (a b : Int) (h : ¬ 0 ≤ a) (hb : 1 ≤ b) (h' : ¬ a.tmod b < 0) : a.tdiv b = a / b:=by
 have h1:=Int.mul_tdiv_add_tmod a b
 have h2:=Int.tmod_nonneg b (show 0 ≤ -a by omega)
 rw [Int.neg_tmod] at h2
 refine ((Int.ediv_emod_unique (a:=a) (b:=b) (r:=0) (q:=a.tdiv b) (by omega)).2 ⟨?_,by omega,by omega⟩).1.symm
 omega
theorem tdiv_range (a b : Int) (ha : bigP a) (hb : 1 ≤ b) : -3050000000000000000 ≤ a.tdiv b ∧ a.tdiv b ≤ 3050000000000000000:=by
 unfold bigP at ha
 have h1:=Int.natAbs_tdiv_le_natAbs a b
 omega

set_option maxHeartbeats 400000 in
theorem floor_any (a b : Int) (w : World) (ha : bigP a) (hb : 1 ≤ b) (hb2 : b ≤ 3050000000000000000) :
  Calls Try.prog 44 #[.int .i64 a, .int .i64 b] w fun e w'=>e = .returned (.int .i64 (a / b)) ∧ w = w':=by
 have hr:=tdiv_range a b ha hb
 unfold bigP at ha
 by_cases h : 0 ≤ a
 ·have hm : 0 ≤ a % b:=Int.emod_nonneg _ (by omega)
  go_enter Try.func44,Try.ntmps44
  go_wp2
  go_ret
  exact ⟨ret_int (Int.tdiv_eq_ediv_of_nonneg h),rfl⟩
 ·by_cases h' : a.tmod b < 0
  ·have e:=tdiv_floor a b h hb h'
   obtain ⟨hr1,hr2⟩:=hr
   rw [← e]; clear e
   go_enter Try.func44,Try.ntmps44
   go_wp2
   go_ret
   exact ⟨rfl,rfl⟩
  ·have e:=tdiv_zero a b h hb h'
   rw [← e]; clear e
   go_enter Try.func44,Try.ntmps44
   go_wp2
   go_ret
   exact ⟨rfl,rfl⟩

theorem gcd_step (x y : Int) : Int.gcd y (x.tmod y) = Int.gcd x y:=by
 unfold Int.gcd
 rw [Int.natAbs_tmod,Nat.gcd_comm,← Nat.gcd_rec,Nat.gcd_comm]
theorem tmod_lt (x y : Int) (h : y ≠ 0) : (x.tmod y).natAbs < y.natAbs:=by
 rw [Int.natAbs_tmod]; exact Nat.mod_lt _ (by omega)
theorem tmod_in (x y : Int) (h : y ≠ 0) (h1 : -3050000000000000000 ≤ y) (h2 : y ≤ 3050000000000000000) : -3050000000000000000 ≤ x.tmod y ∧ x.tmod y ≤ 3050000000000000000:=by
 have:=tmod_lt x y h
 generalize x.tmod y = m at *
 omega

set_option maxHeartbeats 400000 in
theorem rgcd_any (a b : Int) (w : World) (ha : bigP a) (hb : bigP b) :
  Calls Try.prog 66 #[.int .i64 a, .int .i64 b] w fun e w'=>e = .returned (.int .i64 (Int.gcd a b)) ∧ w = w':=by
 unfold bigP at ha hb
 go_enter Try.func66,Try.ntmps66
 go_wp2
 go_loop [0,1] (fun x y=>∃ p q : Int,x = .int .i64 p ∧ y = .int .i64 q ∧ Hid (Int.gcd p q = Int.gcd a b) ∧ (-3050000000000000000 ≤ p ∧ p ≤ 3050000000000000000) ∧ (-3050000000000000000 ≤ q ∧ q ≤ 3050000000000000000)) (fun _ y=>(intOf y).natAbs)
 case atStart=>exact ⟨a,b,rfl,rfl,rfl,ha,hb⟩
 case round =>
  obtain ⟨p,q,rfl,rfl,hg,⟨hp1,hp2⟩,hq1,hq2⟩:=hrel
  by_cases h : q = 0
  ·subst h
   by_cases hn : p < 0
   all_goals
    go_wp2
    go_ret
    have:=hg.out
    exact ⟨ret_int (by rw [← this]; simp [Int.gcd]; omega),rfl⟩
  ·have hl:=tmod_lt p q h
   have hs:=gcd_step p q
   have hi:=tmod_in p q h hq1 hq2
   have H : Hid (Int.gcd q (p.tmod q) = Int.gcd a b):=by rw [hs]; exact hg
   clear hs
   have hb : (q != 0) = true:=by rw [bne_iff_ne]; exact h
   go_wp2
   go_round
   case rel=>exact ⟨q,p.tmod q,rfl,rfl,H,⟨hq1,hq2⟩,hi⟩
   case measure=>exact hl

theorem gcd_pos_right (a b : Int) (hb : 1 ≤ b) : 1 ≤ (Int.gcd a b : Int):=by
 have:=Int.gcd_pos_iff (a:=a) (b:=b)
 have h : 0 < Int.gcd a b:=this.2 (.inr (by omega))
 omega
set_option maxHeartbeats 400000 in
theorem ratio_aux (a b g : Int) (w : World) (ha : bigP a) (hb : bigP b) (Hg : Hid (g = Int.gcd a b)) (hg : 1 ≤ g) :
  Calls Try.prog 34 #[.int .i64 a, .int .i64 b] w fun e w'=>e = .returned (.agg #[.int .i64 (a.tdiv g), .int .i64 (b.tdiv g)]) ∧ Below w.heap.size w w':=by
 have h1:=tdiv_range a g ha hg
 have h2:=tdiv_range b g hb hg
 have hne : (g == 0) = false:=by rw [beq_eq_false_iff_ne]; omega
 go_enter Try.func34,Try.ntmps34
 go_wp2_with (go_at_call 66; refine (rgcd_any _ _ _ ha hb).mono ?_; rintro e w' ⟨rfl,rfl⟩; rw [← Hg.out])
 go_region
 all_goals
  go_wp2
  refine bodyPost_ret (v:=.agg #[.int .i64 (a.tdiv g), .int .i64 (b.tdiv g)]) (by simp [results,Try.results34,go_sem]) rfl ⟨rfl,?_⟩
  exact (by repeat (first | with_reducible exact Below.refl _ _ | with_reducible assumption | with_reducible refine Below.drew ?_ | with_reducible refine below_drewN ?_ _ | (with_reducible refine Below.alloc ?_ ?_ _; rotate_left; (try simp) <;> omega) | (with_reducible refine Below.setCell ?_ ?_ _; rotate_left; (try simp) <;> omega)))
theorem ratio_any (a b : Int) (w : World) (ha : bigP a) (hb : bigP b) (hb1 : 1 ≤ b) :
  Calls Try.prog 34 #[.int .i64 a, .int .i64 b] w fun e w'=>e = .returned (.agg #[.int .i64 (a.tdiv (Int.gcd a b)), .int .i64 (b.tdiv (Int.gcd a b))]) ∧ Below w.heap.size w w' :=
 ratio_aux a b _ w ha hb rfl (gcd_pos_right a b hb1)

def gcdL (l : List Int) : Nat:=l.foldl (fun g n=>Nat.gcd g n.natAbs) 0
theorem gcdL_snoc (l : List Int) (n : Int) : gcdL (l ++ [n]) = Nat.gcd (gcdL l) n.natAbs:=by simp [gcdL]

set_option maxHeartbeats 400000 in
theorem divisor_aux (l : List Int) (A : Option Addr) (c : Nat) (w : World) (hl : Lies w w.heap.size A (ints l)) (hb : ∀ n ∈ l,bigP n) (hm : l.length ≤ 1000) :
  Calls Try.prog 61 #[.slice A l.length c] w fun e w'=>e = .returned (.int .i64 (gcdL l)) ∧ ∃ n,w' = w.drewN n:=by
 go_enter Try.func61,Try.ntmps61
 go_wp2
 go_loopw [3,8] (fun x y wr=>∃ (k : Nat) (g : Int),k ≤ l.length ∧ y = .int .i64 k ∧ x = .int .i64 g ∧ Hid (g.natAbs = gcdL (l.take k)) ∧ (-3050000000000000000 ≤ g ∧ g ≤ 3050000000000000000) ∧ ∃ n,wr = w.drewN n) (fun _ y _=>l.length - (intOf y).toNat)
 case atStart=>exact ⟨0,0,by omega,rfl,rfl,rfl,by omega,0,rfl⟩
 case round =>
  obtain ⟨k,g,hk,rfl,rfl,hg,⟨hg1,hg2⟩,n,rfl⟩:=hrel
  by_cases hlt : k < l.length
  ·obtain ⟨ad,u,rfl,_,hu,hcell⟩:=hl.at_ (k:=k) (by simpa [ints] using hlt)
   obtain ⟨v,hv⟩ : ∃ v,l[k]? = some v:=⟨_,List.getElem?_eq_getElem hlt⟩
   have hbv:=hb v (List.mem_of_getElem? hv)
   obtain rfl : u = .int .i64 v:=by simp [ints,hv] at hu; exact hu.symm
   have H0 : Hid (gcdL (l.take (k + 1)) = Nat.gcd (gcdL (l.take k)) v.natAbs):=by
    rw [List.take_add_one,hv]; exact gcdL_snoc _ _
   clear hu hb hl
   have Hv:=Lib.hid hv; clear hv
   obtain ⟨hb1,hb2⟩:=hbv
   go_wp2
   go_loopw [3,5] (fun x y wr=>∃ p q : Int,x = .int .i64 p ∧ y = .int .i64 q ∧ Hid (Int.gcd p q = gcdL (l.take (k + 1))) ∧ (-3050000000000000000 ≤ p ∧ p ≤ 3050000000000000000) ∧ (-3050000000000000000 ≤ q ∧ q ≤ 3050000000000000000) ∧ ∃ n,wr = w.drewN n) (fun _ y _=>(intOf y).natAbs)
   case atStart=>exact ⟨g,v,rfl,rfl,by rw [H0.out,← hg.out]; rfl,⟨hg1,hg2⟩,⟨hb1,hb2⟩,n,rfl⟩
   case round =>
    obtain ⟨p,q,rfl,rfl,hgg,⟨hp1,hp2⟩,⟨hq1,hq2⟩,n',rfl⟩:=hrel
    by_cases h : q = 0
    ·subst h
     have H : Hid (p.natAbs = gcdL (l.take (k + 1))):=by have e:=hgg.out; rw [Int.gcd_zero_right] at e; exact e
     clear hgg
     go_wp2
     go_roundw
     case rel=>exact ⟨k + 1,p,by omega,by go_num,rfl,H,⟨hp1,hp2⟩,_,rfl⟩
     case measure=>simp [intOf]; omega
    ·have hl:=tmod_lt p q h
     have hi:=tmod_in p q h hq1 hq2
     have H : Hid (Int.gcd q (p.tmod q) = gcdL (l.take (k + 1))):=by rw [gcd_step p q]; exact hgg
     clear hgg
     have hb : (q != 0) = true:=by rw [bne_iff_ne]; exact h
     have hb' : (q == 0) = false:=by rw [beq_eq_false_iff_ne]; exact h
     go_wp2
     go_region
     all_goals
      go_wp2
      go_roundw
      case rel=>exact ⟨q,p.tmod q,rfl,rfl,H,⟨hq1,hq2⟩,hi,n' + 1,rfl⟩
      case measure=>exact hl
  ·obtain rfl : k = l.length:=by omega
   rw [List.take_length] at hg
   go_wp2
   all_goals
    go_ret
    exact ⟨ret_int (by rw [← hg.out]; omega),n,rfl⟩

set_option maxHeartbeats 400000 in
theorem fraction_aux (a b d : Int) (w : World) (ha : bigP a) (hb : bigP b) (Hd : Hid (d = gcdL [a,b])) (hd : 1 ≤ d) (hd2 : d ≤ 3050000000000000000) :
  Calls Try.prog 42 #[.int .i64 a, .int .i64 b] w fun e w'=>e = .returned (if b < 0 then .agg #[.int .i64 (a.tdiv (-d)), .int .i64 (b.tdiv (-d))] else .agg #[.int .i64 (a.tdiv d), .int .i64 (b.tdiv d)]) ∧ Below w.heap.size w w':=by
 have h1:=tdiv_range a d ha hd
 have h2:=tdiv_range b d hb hd
 have h3 : -3050000000000000000 ≤ a.tdiv (-d) ∧ a.tdiv (-d) ≤ 3050000000000000000:=by rw [Int.tdiv_neg]; omega
 have h4 : -3050000000000000000 ≤ b.tdiv (-d) ∧ b.tdiv (-d) ≤ 3050000000000000000:=by rw [Int.tdiv_neg]; omega
 have hne : (d == 0) = false:=by rw [beq_eq_false_iff_ne]; omega
 have hne' : (-d == 0) = false:=by rw [beq_eq_false_iff_ne]; omega
 have hD : ∀ w1 : World,Lies w1 w1.heap.size (some ⟨w.heap.size + 1,0,none⟩) (ints [a,b]) → Calls Try.prog 61 #[.slice (some ⟨w.heap.size + 1,0,none⟩) 2 2] w1 fun e w'=>e = .returned (.int .i64 d) ∧ ∃ n,w' = w1.drewN n:=by
  intro w1 hw1
  have:=divisor_aux [a,b] _ 2 w1 hw1 (by intro n hn; simp at hn; rcases hn with rfl | rfl <;> assumption) (by simp)
  rw [Hd.out]; exact this
 have HD:=Lib.hid hD; clear hD
 have HL:=Lib.hid (Lies.new (w.alloc (Obj.cells #[.int .i64 0, .int .i64 0] 29)) #[.int .i64 a, .int .i64 b] 3 (B:=w.heap.size + 1 + 1) (by simp))
 by_cases hs : b < 0
 ·rw [if_pos hs]
  go_enter Try.func42,Try.ntmps42
  go_wp2_with (go_at_call 61; refine (HD.out _ (by simpa [ints] using HL.out)).mono ?_; rintro e w' ⟨rfl,n,rfl⟩)
  go_region
  all_goals
   go_wp2
   refine bodyPost_ret (v:=.agg #[.int .i64 (a.tdiv (-d)), .int .i64 (b.tdiv (-d))]) (by simp [results,Try.results42,go_sem]) rfl ⟨rfl,?_⟩
   exact (by repeat (first | with_reducible exact Below.refl _ _ | with_reducible assumption | with_reducible refine Below.drew ?_ | with_reducible refine below_drewN ?_ _ | (with_reducible refine Below.alloc ?_ ?_ _; rotate_left; (try simp) <;> omega) | (with_reducible refine Below.setCell ?_ ?_ _; rotate_left; (try simp) <;> omega)))
 ·rw [if_neg hs]
  go_enter Try.func42,Try.ntmps42
  go_wp2_with (go_at_call 61; refine (HD.out _ (by simpa [ints] using HL.out)).mono ?_; rintro e w' ⟨rfl,n,rfl⟩)
  go_region
  all_goals
   go_wp2
   refine bodyPost_ret (v:=.agg #[.int .i64 (a.tdiv d), .int .i64 (b.tdiv d)]) (by simp [results,Try.results42,go_sem]) rfl ⟨rfl,?_⟩
   exact (by repeat (first | with_reducible exact Below.refl _ _ | with_reducible assumption | with_reducible refine Below.drew ?_ | with_reducible refine below_drewN ?_ _ | (with_reducible refine Below.alloc ?_ ?_ _; rotate_left; (try simp) <;> omega) | (with_reducible refine Below.setCell ?_ ?_ _; rotate_left; (try simp) <;> omega)))

end Go.Proofs.Ytkjceegmmhnajaa

namespace Go.Proofs.Ytkjceegmmhnajaa
open Go.RowKit

def okc (c : UInt8) : Bool := (decide (97 ≤ (c.toNat : Int)) && decide ((c.toNat : Int) ≤ 122)) || (decide (48 ≤ (c.toNat : Int)) && decide ((c.toNat : Int) ≤ 57)) || decide ((c.toNat : Int) = 45)
def nameB (s : ByteArray) : Bool := decide (1 ≤ s.size) && decide (s.size ≤ 24) && (match s.data.toList with | c :: _ => decide (97 ≤ (c.toNat : Int)) && decide ((c.toNat : Int) ≤ 122) | [] => false) && s.data.toList.all okc

theorem nameB_iff (s : ByteArray) : nameB s = true ↔ (1 ≤ s.size ∧ s.size ≤ 24 ∧ (∀ h : 0 < s.size, 97 ≤ (s[0].toNat : Int) ∧ (s[0].toNat : Int) ≤ 122) ∧ ∀ k (h : k < s.size), okc s[k] = true) := by
  unfold nameB
  have hsz : s.size = s.data.toList.length := by rw [Array.length_toList]; rfl
  have hget : ∀ k (h : k < s.size), s[k] = s.data.toList[k]'(by rw [← hsz]; exact h) := fun k h => rfl
  generalize hl : s.data.toList = l at *
  match l with
  | [] => simp at hsz; simp [hsz]
  | c :: r =>
    simp only [Bool.and_eq_true, decide_eq_true_eq, List.all_eq_true]
    constructor
    · rintro ⟨⟨⟨h1, h2⟩, h3⟩, h4⟩
      refine ⟨h1, h2, fun h => ?_, fun k h => ?_⟩
      · rw [hget 0 h]; exact h3
      · rw [hget k h]; exact h4 _ (List.getElem_mem _)
    · rintro ⟨h1, h2, h3, h4⟩
      refine ⟨⟨⟨h1, h2⟩, ?_⟩, fun x hx => ?_⟩
      · have := h3 (by omega); rw [hget 0 (by omega)] at this; exact this
      · obtain ⟨k, hk, rfl⟩ := List.getElem_of_mem hx
        have := h4 k (by omega); rw [hget k (by omega)] at this; exact this
def BoolEnd (b : Bool) (w : World) (e : Ending) (w' : World) : Prop := e = .returned (.bool b) ∧ w = w'
theorem bool_ret {b c : Bool} {w : World} (h : c = true ↔ b = true) : BoolEnd b w (.returned (.bool c)) w := ⟨by rw [Bool.eq_iff_iff.2 h], rfl⟩

set_option maxHeartbeats 1000000 in
theorem isName_any (s : ByteArray) (w : World) (hs : s.size ≤ 100) :
    Calls Try.prog 58 #[.string s] w (BoolEnd (nameB s) w) := by
  have HN := Lib.hid (nameB_iff s)
  by_cases hz0 : s.size = 0
  · have hz : ((s.size : Int) == 0) = true := by rw [beq_iff_eq]; omega
    have HF : Hid (¬ nameB s = true) := fun h => by have := HN.out.1 h; omega
    have hz1 : (s.size : Int) < 1 := by omega
    have HZ := Lib.hid hz0; clear hz0
    go_enter Try.func58, Try.ntmps58
    go_wp2
    all_goals
      go_ret
      exact bool_ret (by simpa using HF.out)
  have hz : ((s.size : Int) == 0) = false := by rw [beq_eq_false_iff_ne]; omega
  have hp : 1 ≤ (s.size : Int) := by omega
  have hp' : 0 < s.size := by omega
  by_cases h24 : s.size ≤ 24
  · by_cases h97 : 97 ≤ (s[0].toNat : Int)
    · by_cases h122 : (s[0].toNat : Int) ≤ 122
      · have HQ : Hid (∀ k (h : k < 0), ∀ h' : k < s.size, okc s[k] = true) := fun k h => absurd h (by omega)
        go_enter Try.func58, Try.ntmps58
        go_wp2
        go_loop [25] (fun x => ∃ k : Nat, k ≤ s.size ∧ x = .int .i64 k ∧ Hid (∀ j (h : j < k) (h' : j < s.size), okc s[j] = true)) (fun x => s.size - (intOf x).toNat)
        case atStart => exact ⟨0, by omega, rfl, HQ⟩
        case round =>
          obtain ⟨k, hk, rfl, hh⟩ := hrel
          clear HQ
          by_cases hlt : k < s.size
          · have hokc : okc s[k] = true ↔ ((97 ≤ (s[k].toNat : Int) ∧ (s[k].toNat : Int) ≤ 122) ∨ (48 ≤ (s[k].toNat : Int) ∧ (s[k].toNat : Int) ≤ 57) ∨ (s[k].toNat : Int) = 45) := by
              unfold okc; simp only [Bool.or_eq_true, Bool.and_eq_true, decide_eq_true_eq]; exact or_assoc
            have HO := Lib.hid hokc; clear hokc
            have HY : okc s[k] = true → Hid (∀ j (h : j < k + 1) (h' : j < s.size), okc s[j] = true) := fun ho j h h' => by
              by_cases e : j = k
              · subst e; exact ho
              · exact hh.out j (by omega) h'
            have HX : ¬ okc s[k] = true → ¬ nameB s = true := fun ho hn => ho ((HN.out.1 hn).2.2.2 k hlt)
            have HY' := Lib.hid HY; clear HY
            have HX' := Lib.hid HX; clear HX
            by_cases c1 : 97 ≤ (s[k].toNat : Int) <;> by_cases c2 : (s[k].toNat : Int) ≤ 122 <;> by_cases c3 : 48 ≤ (s[k].toNat : Int) <;> by_cases c4 : (s[k].toNat : Int) ≤ 57 <;> by_cases c5 : (s[k].toNat : Int) = 45
            all_goals first | (exfalso; omega) | skip
            all_goals
              first
                | (have c6 : ((s[k].toNat : Int) != 45) = false := by rw [c5]; rfl
                   have hok : okc s[k] = true := HO.out.2 (by omega)
                   have H1 := HY'.out hok
                   have C5 := Lib.hid c5
                   clear hok HO HX' HY' hh HN c5
                   go_wp2
                   go_round
                   case rel => exact ⟨k + 1, by omega, by go_num, H1⟩
                   case measure => simp [intOf]; omega)
                | (have hok : okc s[k] = true := HO.out.2 (by omega)
                   have H1 := HY'.out hok
                   have c6 : ((s[k].toNat : Int) != 45) = true := by rw [bne_iff_ne]; exact c5
                   have C5 := Lib.hid c5
                   clear hok HO HX' HY' hh HN c5
                   go_wp2
                   go_round
                   case rel => exact ⟨k + 1, by omega, by go_num, H1⟩
                   case measure => simp [intOf]; omega)
                | (have hok : ¬ okc s[k] = true := fun h => by have := HO.out.1 h; omega
                   have H1 := Lib.hid (HX'.out hok)
                   have c6 : ((s[k].toNat : Int) != 45) = true := by rw [bne_iff_ne]; exact c5
                   have C5 := Lib.hid c5
                   clear hok HO HX' HY' hh HN c5
                   go_wp2
                   go_ret
                   exact bool_ret (by simpa using H1.out))
          · obtain rfl : k = s.size := by omega
            have HT := Lib.hid (HN.out.2 ⟨by omega, h24, fun _ => ⟨h97, h122⟩, fun j hj => hh.out j hj hj⟩)
            go_wp2
            go_ret
            exact bool_ret (by simpa using HT.out)
      · have HF : Hid (¬ nameB s = true) := fun h => by have := (HN.out.1 h).2.2.1 hp'; omega
        clear HN
        go_enter Try.func58, Try.ntmps58
        go_wp2
        all_goals
          go_ret
          exact bool_ret (by simpa using HF.out)
    · have HF : Hid (¬ nameB s = true) := fun h => by have := (HN.out.1 h).2.2.1 hp'; omega
      clear HN
      go_enter Try.func58, Try.ntmps58
      go_wp2
      all_goals
        go_ret
        exact bool_ret (by simpa using HF.out)
  · have HF : Hid (¬ nameB s = true) := fun h => by have := HN.out.1 h; omega
    clear HN
    go_enter Try.func58, Try.ntmps58
    go_wp2
    all_goals
      go_ret
      exact bool_ret (by simpa using HF.out)
set_option maxHeartbeats 1000000 in
theorem rName_any (s : ByteArray) (w : World) (hs : s.size ≤ 100) :
    Calls Try.prog 64 #[.string s] w (BoolEnd (nameB s) w) := by
  have HN := Lib.hid (nameB_iff s)
  by_cases hz0 : s.size = 0
  · have hz : ((s.size : Int) == 0) = true := by rw [beq_iff_eq]; omega
    have HF : Hid (¬ nameB s = true) := fun h => by have := HN.out.1 h; omega
    have hz1 : (s.size : Int) < 1 := by omega
    have HZ := Lib.hid hz0; clear hz0
    go_enter Try.func64, Try.ntmps64
    go_wp2
    all_goals
      go_ret
      exact bool_ret (by simpa using HF.out)
  have hz : ((s.size : Int) == 0) = false := by rw [beq_eq_false_iff_ne]; omega
  have hp : 1 ≤ (s.size : Int) := by omega
  have hp' : 0 < s.size := by omega
  by_cases h24 : s.size ≤ 24
  · by_cases h97 : 97 ≤ (s[0].toNat : Int)
    · by_cases h122 : (s[0].toNat : Int) ≤ 122
      · have HQ : Hid (∀ k (h : k < 0), ∀ h' : k < s.size, okc s[k] = true) := fun k h => absurd h (by omega)
        go_enter Try.func64, Try.ntmps64
        go_wp2
        go_loop [3] (fun x => ∃ k : Nat, k ≤ s.size ∧ x = .int .i64 k ∧ Hid (∀ j (h : j < k) (h' : j < s.size), okc s[j] = true)) (fun x => s.size - (intOf x).toNat)
        case atStart => exact ⟨0, by omega, rfl, HQ⟩
        case round =>
          obtain ⟨k, hk, rfl, hh⟩ := hrel
          clear HQ
          by_cases hlt : k < s.size
          · have hokc : okc s[k] = true ↔ ((97 ≤ (s[k].toNat : Int) ∧ (s[k].toNat : Int) ≤ 122) ∨ (48 ≤ (s[k].toNat : Int) ∧ (s[k].toNat : Int) ≤ 57) ∨ (s[k].toNat : Int) = 45) := by
              unfold okc; simp only [Bool.or_eq_true, Bool.and_eq_true, decide_eq_true_eq]; exact or_assoc
            have HO := Lib.hid hokc; clear hokc
            have HY : okc s[k] = true → Hid (∀ j (h : j < k + 1) (h' : j < s.size), okc s[j] = true) := fun ho j h h' => by
              by_cases e : j = k
              · subst e; exact ho
              · exact hh.out j (by omega) h'
            have HX : ¬ okc s[k] = true → ¬ nameB s = true := fun ho hn => ho ((HN.out.1 hn).2.2.2 k hlt)
            have HY' := Lib.hid HY; clear HY
            have HX' := Lib.hid HX; clear HX
            by_cases c1 : 97 ≤ (s[k].toNat : Int) <;> by_cases c2 : (s[k].toNat : Int) ≤ 122 <;> by_cases c3 : 48 ≤ (s[k].toNat : Int) <;> by_cases c4 : (s[k].toNat : Int) ≤ 57 <;> by_cases c5 : (s[k].toNat : Int) = 45
            all_goals first | (exfalso; omega) | skip
            all_goals
              first
                | (have c6 : ((s[k].toNat : Int) != 45) = false := by rw [c5]; rfl
                   have hok : okc s[k] = true := HO.out.2 (by omega)
                   have H1 := HY'.out hok
                   have C5 := Lib.hid c5
                   clear hok HO HX' HY' hh HN c5
                   go_wp2
                   go_round
                   case rel => exact ⟨k + 1, by omega, by go_num, H1⟩
                   case measure => simp [intOf]; omega)
                | (have hok : okc s[k] = true := HO.out.2 (by omega)
                   have H1 := HY'.out hok
                   have c6 : ((s[k].toNat : Int) != 45) = true := by rw [bne_iff_ne]; exact c5
                   have C5 := Lib.hid c5
                   clear hok HO HX' HY' hh HN c5
                   go_wp2
                   go_round
                   case rel => exact ⟨k + 1, by omega, by go_num, H1⟩
                   case measure => simp [intOf]; omega)
                | (have hok : ¬ okc s[k] = true := fun h => by have := HO.out.1 h; omega
                   have H1 := Lib.hid (HX'.out hok)
                   have c6 : ((s[k].toNat : Int) != 45) = true := by rw [bne_iff_ne]; exact c5
                   have C5 := Lib.hid c5
                   clear hok HO HX' HY' hh HN c5
                   go_wp2
                   go_ret
                   exact bool_ret (by simpa using H1.out))
          · obtain rfl : k = s.size := by omega
            have HT := Lib.hid (HN.out.2 ⟨by omega, h24, fun _ => ⟨h97, h122⟩, fun j hj => hh.out j hj hj⟩)
            go_wp2
            go_ret
            exact bool_ret (by simpa using HT.out)
      · have HF : Hid (¬ nameB s = true) := fun h => by have := (HN.out.1 h).2.2.1 hp'; omega
        clear HN
        go_enter Try.func64, Try.ntmps64
        go_wp2
        all_goals
          go_ret
          exact bool_ret (by simpa using HF.out)
    · have HF : Hid (¬ nameB s = true) := fun h => by have := (HN.out.1 h).2.2.1 hp'; omega
      clear HN
      go_enter Try.func64, Try.ntmps64
      go_wp2
      all_goals
        go_ret
        exact bool_ret (by simpa using HF.out)
  · have HF : Hid (¬ nameB s = true) := fun h => by have := HN.out.1 h; omega
    clear HN
    go_enter Try.func64, Try.ntmps64
    go_wp2
    all_goals
      go_ret
      exact bool_ret (by simpa using HF.out)
end Go.Proofs.Ytkjceegmmhnajaa

namespace Go.Proofs.Ytkjceegmmhnajaa
open Go.RowKit

def idxL {α : Type} (p : α → Bool) (l : List α) : Int:=match l.findIdx? p with | some i=>(i : Int) | none=>-1
theorem idxL_drop {α : Type} (p : α → Bool) (l : List α) (k : Nat) (hk : k ≤ l.length) (h : ∀ j (hj : j < k) (h' : j < l.length),p l[j] = false) (hp : k = l.length ∨ ∃ h : k < l.length,p l[k] = true) :
  idxL p l = if k < l.length then (k : Int) else -1:=by
 unfold idxL
 rcases hp with rfl | ⟨hlt,hp⟩
 ·have : l.findIdx? p = none:=by
   rw [List.findIdx?_eq_none_iff]; intro x hx
   obtain ⟨j,hj,rfl⟩:=List.getElem_of_mem hx
   exact h j hj hj
  rw [this]; simp
 ·have : l.findIdx? p = some k:=by
   rw [List.findIdx?_eq_some_iff_getElem]
   exact ⟨hlt,hp,fun j hj=>by simpa using h j hj (by omega)⟩
  rw [this]; simp [hlt]
theorem idxL_any {α : Type} (p : α → Bool) (l : List α) : (0 ≤ idxL p l) = (l.any p = true):=by
 unfold idxL
 cases h : l.findIdx? p with
 | none => 
  have:=List.findIdx?_eq_none_iff.1 h
  simp; exact fun x hx=>by simpa using this x hx
 | some i =>
  obtain ⟨hi,hp,_⟩:=List.findIdx?_eq_some_iff_getElem.1 h
  simp
  exact ⟨_,List.getElem_mem hi,hp⟩

theorem idxL_dec {α : Type} (p : α → Bool) (l : List α) : decide (0 ≤ idxL p l) = l.any p:=by rw [Bool.eq_iff_iff,decide_eq_true_iff,idxL_any]

def offShade (n : Int) : Bool:=!decide (0 ≤ n) || !decide (n ≤ 1000)
set_option maxHeartbeats 400000 in
theorem isShade1_any (n : Int) (w : World) : Calls Try.prog 84 #[.int .i64 n] w fun e w'=>e = .returned (.bool (offShade n)) ∧ w = w':=by
 go_enter Try.func84,Try.ntmps84
 go_wp2_with (go_at_call 45; refine (among_any _ _ _ _).mono ?_; rintro e w' ⟨rfl,rfl⟩)
 go_ret
 exact ⟨rfl,rfl⟩
def notPos (n : Int) : Bool:=decide (n ≤ 0)
set_option maxHeartbeats 400000 in
theorem recipe1_any (n : Int) (w : World) : Calls Try.prog 87 #[.int .i64 n] w fun e w'=>e = .returned (.bool (notPos n)) ∧ w = w':=by
 go_enter Try.func87,Try.ntmps87
 go_wp2
 go_ret
 exact ⟨rfl,rfl⟩
def notZero (n : Int) : Bool:=n != 0
set_option maxHeartbeats 400000 in
theorem slopes1_any (n : Int) (w : World) : Calls Try.prog 90 #[.int .i64 n] w fun e w'=>e = .returned (.bool (notZero n)) ∧ w = w':=by
 go_enter Try.func90,Try.ntmps90
 go_wp2
 go_ret
 exact ⟨rfl,rfl⟩

set_option maxHeartbeats 400000 in
theorem idx84 (l : List Int) (A : Option Addr) (c : Nat) (w : World) (hl : Lies w w.heap.size A (ints l)) (hm : l.length ≤ 1000) :
  Calls Try.prog 89 #[.slice A l.length c, .func (.func 84) #[] #[]] w fun e w'=>e = .returned (.int .i64 (idxL offShade l)) ∧ w = w':=by
 go_enter Try.func89,Try.ntmps89
 go_wp2
 go_loop [8] (fun y=>∃ k : Nat,k ≤ l.length ∧ y = .int .i64 k ∧ Hid (∀ j (hj : j < k) (h' : j < l.length),offShade l[j] = false)) (fun y=>l.length - (intOf y).toNat)
 case atStart=>exact ⟨0,by omega,rfl,fun j hj=>absurd hj (by omega)⟩
 case round =>
  obtain ⟨k,hk,rfl,hg⟩:=hrel
  by_cases hlt : k < l.length
  ·obtain ⟨ad,u,rfl,_,hu,hcell⟩:=hl.at_ (k:=k) (by simpa [ints] using hlt)
   obtain ⟨v,hv⟩ : ∃ v,v = l[k]:=⟨_,rfl⟩
   obtain rfl : u = .int .i64 v:=by simp [ints,List.getElem?_eq_getElem hlt] at hu; rw [hv]; exact hu.symm
   have HV:=Lib.hid hv; clear hu hl hv
   by_cases h0 : offShade v = true
   ·have H : Hid (idxL offShade l = (k : Int)):=by
     have:=idxL_drop offShade l k hk hg.out (.inr ⟨hlt,by rw [← HV.out]; exact h0⟩)
     rw [if_pos hlt] at this; exact this
    go_wp2_with (go_at_call 84; refine (isShade1_any _ _).mono ?_; rintro e w' ⟨rfl,rfl⟩)
    go_ret
    exact ⟨ret_int H.out.symm,rfl⟩
   ·have h0' : offShade v = false:=by simpa using h0
    have H : Hid (∀ j (hj : j < k + 1) (h' : j < l.length),offShade l[j] = false):=fun j hj h'=>by
     by_cases e : j = k
     ·subst e; rw [← HV.out]; exact h0'
     ·exact hg.out j (by omega) h'
    clear h0
    go_wp2_with (go_at_call 84; refine (isShade1_any _ _).mono ?_; rintro e w' ⟨rfl,rfl⟩)
    go_round
    case rel=>exact ⟨k + 1,by omega,by go_num,H⟩
    case measure=>simp [intOf]; omega
  ·obtain rfl : k = l.length:=by omega
   have H : Hid (idxL offShade l = -1):=by
    have:=idxL_drop offShade l _ hk hg.out (.inl rfl)
    rw [if_neg (by omega)] at this; exact this
   go_wp2
   go_ret
   exact ⟨ret_int H.out.symm,rfl⟩

set_option maxHeartbeats 400000 in
theorem any84 (l : List Int) (A : Option Addr) (c : Nat) (w : World) (hl : Lies w w.heap.size A (ints l)) (hm : l.length ≤ 1000) :
  Calls Try.prog 83 #[.slice A l.length c, .func (.func 84) #[] #[]] w fun e w'=>e = .returned (.bool (l.any offShade)) ∧ w = w':=by
 go_enter Try.func83,Try.ntmps83
 go_wp2_with (go_at_call 89; refine (idx84 l _ _ _ hl hm).mono ?_; rintro e w' ⟨rfl,rfl⟩)
 go_ret
 exact ⟨congrArg (fun b=>Ending.returned (.bool b)) (idxL_dec _ _),rfl⟩
set_option maxHeartbeats 400000 in
theorem idx87 (l : List Int) (A : Option Addr) (c : Nat) (w : World) (hl : Lies w w.heap.size A (ints l)) (hm : l.length ≤ 1000) :
  Calls Try.prog 89 #[.slice A l.length c, .func (.func 87) #[] #[]] w fun e w'=>e = .returned (.int .i64 (idxL notPos l)) ∧ w = w':=by
 go_enter Try.func89,Try.ntmps89
 go_wp2
 go_loop [8] (fun y=>∃ k : Nat,k ≤ l.length ∧ y = .int .i64 k ∧ Hid (∀ j (hj : j < k) (h' : j < l.length),notPos l[j] = false)) (fun y=>l.length - (intOf y).toNat)
 case atStart=>exact ⟨0,by omega,rfl,fun j hj=>absurd hj (by omega)⟩
 case round =>
  obtain ⟨k,hk,rfl,hg⟩:=hrel
  by_cases hlt : k < l.length
  ·obtain ⟨ad,u,rfl,_,hu,hcell⟩:=hl.at_ (k:=k) (by simpa [ints] using hlt)
   obtain ⟨v,hv⟩ : ∃ v,v = l[k]:=⟨_,rfl⟩
   obtain rfl : u = .int .i64 v:=by simp [ints,List.getElem?_eq_getElem hlt] at hu; rw [hv]; exact hu.symm
   have HV:=Lib.hid hv; clear hu hl hv
   by_cases h0 : notPos v = true
   ·have H : Hid (idxL notPos l = (k : Int)):=by
     have:=idxL_drop notPos l k hk hg.out (.inr ⟨hlt,by rw [← HV.out]; exact h0⟩)
     rw [if_pos hlt] at this; exact this
    go_wp2_with (go_at_call 87; refine (recipe1_any _ _).mono ?_; rintro e w' ⟨rfl,rfl⟩)
    go_ret
    exact ⟨ret_int H.out.symm,rfl⟩
   ·have h0' : notPos v = false:=by simpa using h0
    have H : Hid (∀ j (hj : j < k + 1) (h' : j < l.length),notPos l[j] = false):=fun j hj h'=>by
     by_cases e : j = k
     ·subst e; rw [← HV.out]; exact h0'
     ·exact hg.out j (by omega) h'
    clear h0
    go_wp2_with (go_at_call 87; refine (recipe1_any _ _).mono ?_; rintro e w' ⟨rfl,rfl⟩)
    go_round
    case rel=>exact ⟨k + 1,by omega,by go_num,H⟩
    case measure=>simp [intOf]; omega
  ·obtain rfl : k = l.length:=by omega
   have H : Hid (idxL notPos l = -1):=by
    have:=idxL_drop notPos l _ hk hg.out (.inl rfl)
    rw [if_neg (by omega)] at this; exact this
   go_wp2
   go_ret
   exact ⟨ret_int H.out.symm,rfl⟩

set_option maxHeartbeats 400000 in
theorem any87 (l : List Int) (A : Option Addr) (c : Nat) (w : World) (hl : Lies w w.heap.size A (ints l)) (hm : l.length ≤ 1000) :
  Calls Try.prog 83 #[.slice A l.length c, .func (.func 87) #[] #[]] w fun e w'=>e = .returned (.bool (l.any notPos)) ∧ w = w':=by
 go_enter Try.func83,Try.ntmps83
 go_wp2_with (go_at_call 89; refine (idx87 l _ _ _ hl hm).mono ?_; rintro e w' ⟨rfl,rfl⟩)
 go_ret
 exact ⟨congrArg (fun b=>Ending.returned (.bool b)) (idxL_dec _ _),rfl⟩
set_option maxHeartbeats 400000 in
theorem idx90 (l : List Int) (A : Option Addr) (c : Nat) (w : World) (hl : Lies w w.heap.size A (ints l)) (hm : l.length ≤ 1000) :
  Calls Try.prog 89 #[.slice A l.length c, .func (.func 90) #[] #[]] w fun e w'=>e = .returned (.int .i64 (idxL notZero l)) ∧ w = w':=by
 go_enter Try.func89,Try.ntmps89
 go_wp2
 go_loop [8] (fun y=>∃ k : Nat,k ≤ l.length ∧ y = .int .i64 k ∧ Hid (∀ j (hj : j < k) (h' : j < l.length),notZero l[j] = false)) (fun y=>l.length - (intOf y).toNat)
 case atStart=>exact ⟨0,by omega,rfl,fun j hj=>absurd hj (by omega)⟩
 case round =>
  obtain ⟨k,hk,rfl,hg⟩:=hrel
  by_cases hlt : k < l.length
  ·obtain ⟨ad,u,rfl,_,hu,hcell⟩:=hl.at_ (k:=k) (by simpa [ints] using hlt)
   obtain ⟨v,hv⟩ : ∃ v,v = l[k]:=⟨_,rfl⟩
   obtain rfl : u = .int .i64 v:=by simp [ints,List.getElem?_eq_getElem hlt] at hu; rw [hv]; exact hu.symm
   have HV:=Lib.hid hv; clear hu hl hv
   by_cases h0 : notZero v = true
   ·have H : Hid (idxL notZero l = (k : Int)):=by
     have:=idxL_drop notZero l k hk hg.out (.inr ⟨hlt,by rw [← HV.out]; exact h0⟩)
     rw [if_pos hlt] at this; exact this
    go_wp2_with (go_at_call 90; refine (slopes1_any _ _).mono ?_; rintro e w' ⟨rfl,rfl⟩)
    go_ret
    exact ⟨ret_int H.out.symm,rfl⟩
   ·have h0' : notZero v = false:=by simpa using h0
    have H : Hid (∀ j (hj : j < k + 1) (h' : j < l.length),notZero l[j] = false):=fun j hj h'=>by
     by_cases e : j = k
     ·subst e; rw [← HV.out]; exact h0'
     ·exact hg.out j (by omega) h'
    clear h0
    go_wp2_with (go_at_call 90; refine (slopes1_any _ _).mono ?_; rintro e w' ⟨rfl,rfl⟩)
    go_round
    case rel=>exact ⟨k + 1,by omega,by go_num,H⟩
    case measure=>simp [intOf]; omega
  ·obtain rfl : k = l.length:=by omega
   have H : Hid (idxL notZero l = -1):=by
    have:=idxL_drop notZero l _ hk hg.out (.inl rfl)
    rw [if_neg (by omega)] at this; exact this
   go_wp2
   go_ret
   exact ⟨ret_int H.out.symm,rfl⟩


/-! tints -/
structure Tn where
 name : ByteArray
 a : Int
 b : Int
 c : Int
 price : Int
def Tn.cells (t : Tn) : List Value:=[.string t.name, .int .i64 t.a, .int .i64 t.b, .int .i64 t.c, .int .i64 t.price]
def tintsC (l : List Tn) : List Value:=l.flatMap Tn.cells
theorem tintsC_length (l : List Tn) : (tintsC l).length = l.length * 5:=by
 induction l with
 | nil=>rfl
 | cons t r ih=>simp only [tintsC,List.flatMap_cons,List.length_append] at *; rw [ih]; simp [Tn.cells]; omega
theorem tintsC_at (l : List Tn) (k : Nat) (hk : k < l.length) (j : Nat) (hj : j < 5) : (tintsC l)[k * 5 + j]? = (l[k]).cells[j]?:=by
 induction l generalizing k with
 | nil=>simp at hk
 | cons t r ih =>
  simp only [tintsC,List.flatMap_cons] at *
  cases k with
  | zero=>rw [List.getElem?_append_left (by simp [Tn.cells]; omega)]; simp
  | succ k =>
   rw [List.getElem?_append_right (by simp [Tn.cells]; omega)]
   have : (k + 1) * 5 + j - t.cells.length = k * 5 + j:=by simp [Tn.cells]; omega
   rw [this,ih k (by simpa using hk)]; simp
theorem add_rec (a : Addr) (i j : Nat) (hj : 0 < j) : a.add (i + j) = ⟨(a.add i).block,(a.add i).off + j,none⟩:=by
 rw [← add_add']; unfold Addr.add; rw [if_neg (by omega)]
theorem tint_at {w : World} {B : Nat} {A : Option Addr} {l : List Tn} (h : Lies w B A (tintsC l)) {k : Nat} (hk : k < l.length) :
  ∃ ad,A = some ad ∧ ad.block < B ∧ w.cell? (ad.add (k * 5)) = some (.string l[k].name) ∧ w.cell? ⟨(ad.add (k * 5)).block,(ad.add (k * 5)).off + 1,none⟩ = some (.int .i64 l[k].a) ∧ w.cell? ⟨(ad.add (k * 5)).block,(ad.add (k * 5)).off + 2,none⟩ = some (.int .i64 l[k].b)
   ∧ w.cell? ⟨(ad.add (k * 5)).block,(ad.add (k * 5)).off + 3,none⟩ = some (.int .i64 l[k].c) ∧ w.cell? ⟨(ad.add (k * 5)).block,(ad.add (k * 5)).off + 4,none⟩ = some (.int .i64 l[k].price):=by
 obtain ⟨ad,e,hb,hc⟩:=h (by intro e; have:=tintsC_length l; rw [e] at this; simp at this; omega)
 refine ⟨ad,e,hb,hc _ _ (tintsC_at l k hk 0 (by omega)),?_,?_,?_,?_⟩
 ·rw [← add_rec _ _ _ (by omega)]; exact hc _ _ (tintsC_at l k hk 1 (by omega))
 ·rw [← add_rec _ _ _ (by omega)]; exact hc _ _ (tintsC_at l k hk 2 (by omega))
 ·rw [← add_rec _ _ _ (by omega)]; exact hc _ _ (tintsC_at l k hk 3 (by omega))
 ·rw [← add_rec _ _ _ (by omega)]; exact hc _ _ (tintsC_at l k hk 4 (by omega))

def fineB (l : List Tn) (n : Int) : Bool:=decide ((l.length : Int) ≤ n) && l.all (fun t=>decide (t.name.size ≤ 60))
set_option maxHeartbeats 400000 in
theorem fine_any (l : List Tn) (A : Option Addr) (c : Nat) (n : Int) (w : World) (hl : Lies w w.heap.size A (tintsC l)) (hm : l.length ≤ maxLen) (hs : ∀ t ∈ l,t.name.size ≤ maxLen) :
  Calls Try.prog 9 #[.slice A l.length c, .int .i64 n] w (BoolEnd (fineB l n) w):=by
 unfold maxLen at hm hs
 by_cases h0 : (l.length : Int) ≤ n
 ·go_enter Try.func9,Try.ntmps9
  go_wp2
  go_loop [5] (fun x=>∃ k : Nat,k ≤ l.length ∧ x = .int .i64 k ∧ Hid (∀ j (h : j < k) (h' : j < l.length),l[j].name.size ≤ 60)) (fun x=>l.length - (intOf x).toNat)
  case atStart=>exact ⟨0,by omega,rfl,fun j hj=>absurd hj (by omega)⟩
  case round =>
   obtain ⟨k,hk,rfl,hg⟩:=hrel
   by_cases hlt : k < l.length
   ·obtain ⟨ad,rfl,_,c0,_,_,_,_⟩:=tint_at hl hlt
    have hsz:=hs _ (List.getElem_mem hlt)
    clear hs hl
    by_cases h60 : l[k].name.size ≤ 60
    ·have H : Hid (∀ j (h : j < k + 1) (h' : j < l.length),l[j].name.size ≤ 60):=fun j h h'=>by
      by_cases e : j = k
      ·subst e; exact h60
      ·exact hg.out j (by omega) h'
     go_wp2
     go_round
     case rel=>exact ⟨k + 1,by omega,by go_num,H⟩
     case measure=>simp [intOf]; omega
    ·have H : Hid (¬ fineB l n = true):=fun h=>by
      unfold fineB at h
      simp only [Bool.and_eq_true,decide_eq_true_eq,List.all_eq_true] at h
      exact h60 (h.2 _ (List.getElem_mem hlt))
     go_wp2
     go_ret
     exact bool_ret (by simpa using H.out)
   ·obtain rfl : k = l.length:=by omega
    have H : Hid (fineB l n = true):=by
     show _ = _
     unfold fineB
     simp only [Bool.and_eq_true,decide_eq_true_eq,List.all_eq_true]
     refine ⟨h0,fun x hx=>?_⟩
     obtain ⟨j,hj,rfl⟩:=List.getElem_of_mem hx
     exact hg.out j hj hj
    go_wp2
    go_ret
    exact bool_ret (by simpa using H.out)
 ·have H : Hid (¬ fineB l n = true):=fun h=>by
   unfold fineB at h
   simp only [Bool.and_eq_true,decide_eq_true_eq,List.all_eq_true] at h
   exact h0 h.1
  go_enter Try.func9,Try.ntmps9
  go_wp2
  go_ret
  exact bool_ret (by simpa using H.out)

def ShEnd (b : Bool) (w : World) (e : Ending) (w' : World) : Prop:=e = .returned (.bool b) ∧ Below w.heap.size w w'
theorem sh_ret {b c : Bool} {w w' : World} (h : c = b) (hb : Below w.heap.size w w') : ShEnd b w (.returned (.bool c)) w':=⟨by rw [h],hb⟩
def inShade (n : Int) : Bool:=decide (0 ≤ n) && decide (n ≤ 1000)
def shadeB (a b c : Int) : Bool:=inShade a && inShade b && inShade c
set_option maxHeartbeats 400000 in
theorem isShade_any (a b c : Int) (w : World) :
  Calls Try.prog 59 #[.agg #[.int .i64 a, .int .i64 b, .int .i64 c]] w (ShEnd (shadeB a b c) w):=by
 have HL:=Lib.hid (Lies.fresh (w:=w.alloc (.cells #[.int .i64 a, .int .i64 b, .int .i64 c] 37)) (X:=w) (B:=w.heap.size + 1) (l:=ints [a,b,c]) rfl rfl (by omega) rfl)
 have HE : Hid ((!offShade a && (!offShade b && !offShade c)) = shadeB a b c):=by
  show _ = _
  simp [shadeB,inShade,offShade,Bool.and_assoc]
 go_enter Try.func59,Try.ntmps59
 go_wp2_with (go_at_call 83; refine (any84 [a,b,c] _ _ _ (by simpa using HL.out) (by simp)).mono ?_; rintro e w' ⟨rfl,rfl⟩)
 go_ret
 exact sh_ret HE.out (by repeat (first | with_reducible exact Below.refl _ _ | with_reducible assumption | with_reducible refine Below.drew ?_ | with_reducible refine below_drewN ?_ _ | (with_reducible refine Below.alloc ?_ ?_ _; rotate_left; (try simp) <;> omega) | (with_reducible refine Below.setCell ?_ ?_ _; rotate_left; (try simp) <;> omega)))

set_option maxHeartbeats 400000 in
theorem rshade_any (a b c : Int) (w : World) :
  Calls Try.prog 65 #[.agg #[.int .i64 a, .int .i64 b, .int .i64 c]] w (ShEnd (shadeB a b c) w):=by
 have h0 : ∀ n : Int,inShade n = true ↔ 0 ≤ n ∧ n ≤ 1000:=fun n=>by simp [inShade]
 have HS : Hid (∀ n : Int,inShade n = true ↔ 0 ≤ n ∧ n ≤ 1000):=h0
 clear h0
 obtain ⟨f,hf⟩ : ∃ f : Nat → Int,f 0 = a ∧ f 1 = b ∧ f 2 = c:=⟨fun k=>if k = 0 then a else if k = 1 then b else c,rfl,rfl,rfl⟩
 have HF:=Lib.hid hf; clear hf
 go_enter Try.func65,Try.ntmps65
 go_wp2
 go_loop [3] (fun x=>∃ k : Nat,k ≤ 3 ∧ x = .int .i64 k ∧ Hid (∀ j (h : j < k),inShade (f j) = true)) (fun x=>3 - (intOf x).toNat)
 case atStart=>exact ⟨0,by omega,rfl,fun j hj=>absurd hj (by omega)⟩
 case round =>
  obtain ⟨k,hk,rfl,hg⟩:=hrel
  by_cases hlt : k < 3
  ·have hcell : ((w.alloc (.cells #[.int .i64 a, .int .i64 b, .int .i64 c] 37))).cell? ⟨w.heap.size,k,none⟩ = some (.int .i64 (f k)):=by
    refine (Bk.new w 37 _).cell k ?_
    obtain ⟨h1,h2,h3⟩:=HF.out
    match k,hlt with
    | 0,_=>simp [h1]
    | 1,_=>simp [h2]
    | 2,_=>simp [h3]
   by_cases hin : 0 ≤ f k ∧ f k ≤ 1000
   ·have H : Hid (∀ j (h : j < k + 1),inShade (f j) = true):=fun j h=>by
     by_cases e : j = k
     ·subst e; exact (HS.out _).2 hin
     ·exact hg.out j (by omega)
    obtain ⟨hi1,hi2⟩:=hin
    go_wp2
    go_round
    case rel=>exact ⟨k + 1,by omega,by go_num,H⟩
    case measure=>simp [intOf]; omega
   ·have H : Hid (¬ shadeB a b c = true):=fun h=>by
     obtain ⟨h1,h2,h3⟩:=HF.out
     simp only [shadeB,Bool.and_eq_true] at h
     match k,hlt with
     | 0,_=>exact hin ((HS.out _).1 (by rw [h1]; exact h.1.1))
     | 1,_=>exact hin ((HS.out _).1 (by rw [h2]; exact h.1.2))
     | 2,_=>exact hin ((HS.out _).1 (by rw [h3]; exact h.2))
    by_cases hi : 0 ≤ f k
    all_goals
     go_wp2
     go_ret
     exact sh_ret (by simpa using H.out) (by repeat (first | with_reducible exact Below.refl _ _ | with_reducible assumption | with_reducible refine Below.drew ?_ | with_reducible refine below_drewN ?_ _ | (with_reducible refine Below.alloc ?_ ?_ _; rotate_left; (try simp) <;> omega) | (with_reducible refine Below.setCell ?_ ?_ _; rotate_left; (try simp) <;> omega)))
  ·obtain rfl : k = 3:=by omega
   have H : Hid (shadeB a b c = true):=by
    show _ = _
    obtain ⟨h1,h2,h3⟩:=HF.out
    simp only [shadeB,Bool.and_eq_true]
    exact ⟨⟨by rw [← h1]; exact hg.out 0 (by omega),by rw [← h2]; exact hg.out 1 (by omega)⟩,by rw [← h3]; exact hg.out 2 (by omega)⟩
   go_wp2
   go_ret
   exact sh_ret H.out.symm (by repeat (first | with_reducible exact Below.refl _ _ | with_reducible assumption | with_reducible refine Below.drew ?_ | with_reducible refine below_drewN ?_ _ | (with_reducible refine Below.alloc ?_ ?_ _; rotate_left; (try simp) <;> omega) | (with_reducible refine Below.setCell ?_ ?_ _; rotate_left; (try simp) <;> omega)))
end Go.Proofs.Ytkjceegmmhnajaa

namespace Go.Proofs.Ytkjceegmmhnajaa
open Go.RowKit

theorem str_eq (s v : ByteArray) : (s.toList == v.toList) = decide (s = v):=by
 rw [Bool.eq_iff_iff,beq_iff_eq,decide_eq_true_iff,ByteArray.toList_eq,ByteArray.toList_eq]
 constructor
 ·intro h
  have h':=Array.toList_inj.1 h
  cases s; cases v; simpa using h'
 ·rintro rfl; rfl
def strsC (l : List ByteArray) : List Value:=l.map Value.string
set_option maxHeartbeats 400000 in
theorem indexS_any (l : List ByteArray) (s : ByteArray) (A : Option Addr) (c : Nat) (w : World) (hl : Lies w w.heap.size A (strsC l)) (hm : l.length ≤ 1000) :
  Calls Try.prog 93 #[.slice A l.length c, .string s] w fun e w'=>e = .returned (.int .i64 (idxL (fun x=>decide (s = x)) l)) ∧ w = w':=by
 go_enter Try.func93,Try.ntmps93
 go_wp2
 go_loop [8] (fun y=>∃ k : Nat,k ≤ l.length ∧ y = .int .i64 k ∧ Hid (∀ j (hj : j < k) (h' : j < l.length),decide (s = l[j]) = false)) (fun y=>l.length - (intOf y).toNat)
 case atStart=>exact ⟨0,by omega,rfl,fun j hj=>absurd hj (by omega)⟩
 case round =>
  obtain ⟨k,hk,rfl,hg⟩:=hrel
  by_cases hlt : k < l.length
  ·obtain ⟨ad,u,rfl,_,hu,hcell⟩:=hl.at_ (k:=k) (by simpa [strsC] using hlt)
   obtain ⟨v,hv⟩ : ∃ v,v = l[k]:=⟨_,rfl⟩
   obtain rfl : u = .string v:=by simp [strsC,List.getElem?_eq_getElem hlt] at hu; rw [hv]; exact hu.symm
   have HV:=Lib.hid hv; clear hu hl hv
   by_cases h0 : s = v
   ·have H : Hid (idxL (fun x=>decide (s = x)) l = (k : Int)):=by
     have:=idxL_drop (fun x=>decide (s = x)) l k hk hg.out (.inr ⟨hlt,by rw [← HV.out]; exact decide_eq_true h0⟩)
     rw [if_pos hlt] at this; exact this
    have hb : (s.toList == v.toList) = true:=by rw [str_eq]; simpa using h0
    have H0:=Lib.hid h0; clear h0
    go_wp2
    go_ret
    exact ⟨ret_int H.out.symm,rfl⟩
   ·have H : Hid (∀ j (hj : j < k + 1) (h' : j < l.length),decide (s = l[j]) = false):=fun j hj h'=>by
     by_cases e : j = k
     ·subst e; rw [← HV.out]; exact decide_eq_false h0
     ·exact hg.out j (by omega) h'
    have hb : (s.toList == v.toList) = false:=by rw [str_eq]; simpa using h0
    have H0:=Lib.hid h0; clear h0
    go_wp2
    go_round
    case rel=>exact ⟨k + 1,by omega,by go_num,H⟩
    case measure=>simp [intOf]; omega
  ·obtain rfl : k = l.length:=by omega
   have H : Hid (idxL (fun x=>decide (s = x)) l = -1):=by
    have:=idxL_drop (fun x=>decide (s = x)) l _ hk hg.out (.inl rfl)
    rw [if_neg (by omega)] at this; exact this
   go_wp2
   go_ret
   exact ⟨ret_int H.out.symm,rfl⟩
set_option maxHeartbeats 400000 in
theorem contains_any (l : List ByteArray) (s : ByteArray) (A : Option Addr) (c : Nat) (w : World) (hl : Lies w w.heap.size A (strsC l)) (hm : l.length ≤ 1000) :
  Calls Try.prog 85 #[.slice A l.length c, .string s] w fun e w'=>e = .returned (.bool (l.any (fun x=>decide (s = x)))) ∧ w = w':=by
 go_enter Try.func85,Try.ntmps85
 go_wp2_with (go_at_call 93; refine (indexS_any l _ _ _ _ hl hm).mono ?_; rintro e w' ⟨rfl,rfl⟩)
 go_ret
 exact ⟨congrArg (fun b=>Ending.returned (.bool b)) (idxL_dec _ _),rfl⟩

def twiceB : List ByteArray → Bool:=fun l=>(List.range l.length).any fun k=>match l[k]? with | some s=>(l.take k).any (fun x=>decide (s = x)) | none=>false
theorem twiceB_no {l : List ByteArray} (h : ∀ j (_ : j < l.length),(l.take j).any (fun x=>decide (l[j]'‹_› = x)) = false) : twiceB l = false:=by
 unfold twiceB
 rw [List.any_eq_false]
 intro k hk
 have hk' : k < l.length:=by simpa using hk
 simp only [List.getElem?_eq_getElem hk']
 rw [h k hk']; exact Bool.false_ne_true
theorem twiceB_yes {l : List ByteArray} {j : Nat} (hj : j < l.length) (h : (l.take j).any (fun x=>decide (l[j] = x)) = true) : twiceB l = true:=by
 unfold twiceB
 rw [List.any_eq_true]
 exact ⟨j,by simpa using hj,by simp only [List.getElem?_eq_getElem hj]; exact h⟩

theorem Lies.take {w : World} {B : Nat} {A : Option Addr} {cs : List Value} (h : Lies w B A cs) (k : Nat) : Lies w B A (cs.take k):=fun hn=>by
 obtain ⟨ad,e,hb,hc⟩:=h (by rintro rfl; simp at hn)
 refine ⟨ad,e,hb,fun j u hu=>hc j u ?_⟩
 rw [List.getElem?_take] at hu
 split at hu
 ·exact hu
 ·cases hu

set_option maxHeartbeats 400000 in
theorem twice_any (l : List ByteArray) (A : Option Addr) (c : Nat) (w : World) (hl : Lies w w.heap.size A (strsC l)) (hm : l.length ≤ 1000) (hc : l.length ≤ c) (hc2 : c ≤ maxLen) :
  Calls Try.prog 60 #[.slice A l.length c] w (BoolEnd (twiceB l) w):=by
 unfold maxLen at hc2
 go_enter Try.func60,Try.ntmps60
 go_wp2
 go_loop [7] (fun y=>∃ k : Nat,k ≤ l.length ∧ y = .int .i64 k ∧ Hid (∀ j (hj : j < k) (h' : j < l.length),(l.take j).any (fun x=>decide (l[j] = x)) = false)) (fun y=>l.length - (intOf y).toNat)
 case atStart=>exact ⟨0,by omega,rfl,fun j hj=>absurd hj (by omega)⟩
 case round =>
  obtain ⟨k,hk,rfl,hg⟩:=hrel
  by_cases hlt : k < l.length
  ·obtain ⟨ad,u,rfl,_,hu,hcell⟩:=hl.at_ (k:=k) (by simpa [strsC] using hlt)
   obtain ⟨v,hv⟩ : ∃ v,v = l[k]:=⟨_,rfl⟩
   obtain rfl : u = .string v:=by simp [strsC,List.getElem?_eq_getElem hlt] at hu; rw [hv]; exact hu.symm
   have HV:=Lib.hid hv
   have hC:=contains_any (l.take k) v (some ad) c w (by have:=hl.take k; rwa [← show strsC (l.take k) = (strsC l).take k from List.map_take] at this) (by simp; omega)
   rw [List.length_take,Nat.min_eq_left hk] at hC
   have HC:=Lib.hid hC; clear hu hl hv hC
   by_cases h0 : (l.take k).any (fun x=>decide (v = x)) = true
   ·have H : Hid (twiceB l = true):=twiceB_yes hlt (by rw [← HV.out]; exact h0)
    have H0:=Lib.hid h0; clear h0
    go_wp2_with (go_at_call 85; refine HC.out.mono ?_; rintro e w' ⟨rfl,rfl⟩; rw [H0.out])
    go_ret
    exact bool_ret (by simpa using H.out)
   ·have h0' : (l.take k).any (fun x=>decide (v = x)) = false:=by rw [← Bool.not_eq_true]; exact h0
    have H : Hid (∀ j (hj : j < k + 1) (h' : j < l.length),(l.take j).any (fun x=>decide (l[j] = x)) = false):=fun j hj h'=>by
     by_cases e : j = k
     ·subst e; rw [← HV.out]; exact h0'
     ·exact hg.out j (by omega) h'
    have H0:=Lib.hid h0'; clear h0 h0'
    go_wp2_with (go_at_call 85; refine HC.out.mono ?_; rintro e w' ⟨rfl,rfl⟩; rw [H0.out])
    go_round
    case rel=>exact ⟨k + 1,by omega,by go_num,H⟩
    case measure=>simp [intOf]; omega
  ·obtain rfl : k = l.length:=by omega
   have H : Hid (twiceB l = false):=twiceB_no (fun j hj=>hg.out j hj hj)
   go_wp2
   go_ret
   exact bool_ret (by rw [H.out])
end Go.Proofs.Ytkjceegmmhnajaa
