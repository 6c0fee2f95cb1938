/- A drawn region of quiet operations (each has one answer,where those that it waits for have theirs),and at its end,or not,one that writes: what it leaves,in any order. -/
import Derived.LoopN
import Derived.Test.YtkjceegmmhnajaaG62
import Derived.Test.YtkjceegmmhnajaaG63
import Derived.Test.YtkjceegmmhnajaaG64
import Derived.Test.YtkjceegmmhnajaaG89

set_option linter.unusedVariables false
set_option linter.unusedSimpArgs false

namespace Go.Proofs.Ytkjceegmmhnajaa
open Go.RowKit

structure Qj where
 c : Nat
 k : Nat
 r : Value
 deps : List Nat
section
variable {P : Program} {ops : Array Oper} {Q : Exit → Act → World → Prop} {S : World → Prop}
theorem wpAnyH_inv2 (hac : ∀ (i : Nat) (o : Oper),ops[i]? = some o → ∀ e ∈ o.after,Region.binds .any e = true → e.on < i) (Inv : (Nat → Bool) → Act → World → Prop)
  (hstep : ∀ (done : Nat → Bool) (a : Act) (w : World) (i : Nat) (o : Oper),ops[i]? = some o → done i = false → (∀ e ∈ o.after,Region.binds .any e = true → done e.on = true) → Inv done a w →
   wpOp P ops Q i (fun a' w'=>S w' ∧ Inv (fun j=>done j || j == i) a' w') a w)
  (hend : ∀ (done : Nat → Bool) (a : Act) (w : World),(∀ i < ops.size,done i = true) → Inv done a w → Q .normal a w) :
  ∀ (fuel : Nat) (listed : Array Bool) (a : Act) (w : World),listed.size = ops.size → left listed ≤ fuel → Inv (fun j=>listed.getD j false) a w → wpAnyH P .any ops Q S fuel listed a w:=by
 have hall : ∀ listed : Array Bool,listed.size = ops.size → Region.ready .any ops listed = [] → ∀ i,i < ops.size → listed.getD i false = true:=by
  intro listed hsz hr i
  induction i using Nat.strongRecOn with
  | _ i ih =>
   intro hi
   cases hd : listed.getD i false
   ·have hmem : i ∈ Region.ready .any ops listed:=by
     refine mem_ready.2 ⟨?_,ops[i],Array.getElem?_eq_getElem hi,fun e he hbe=>?_⟩
     ·simp [hsz,hi] at hd ⊢; exact hd
     ·have:=hac i _ (Array.getElem?_eq_getElem hi) e he hbe
      exact ih e.on this (by omega)
    rw [hr] at hmem; cases hmem
   ·rfl
 have hstepL : ∀ (listed : Array Bool) (a : Act) (w : World) (i : Nat),listed.size = ops.size → i ∈ Region.ready .any ops listed → Inv (fun j=>listed.getD j false) a w →
   wpOp P ops Q i (fun a' w'=>S w' ∧ Inv (fun j=>(listed.setIfInBounds i true).getD j false) a' w') a w ∧ left (listed.setIfInBounds i true) + 1 = left listed:=by
  intro listed a w i hsz hi hinv
  obtain ⟨h1,o,ho,h2⟩:=mem_ready.1 hi
  have hlt : i < ops.size:=(Array.getElem?_eq_some_iff.1 ho).1
  have hd : listed.getD i false = false:=by simp [hsz,hlt] at h1 ⊢; exact h1
  have hfun : (fun j=>(listed.setIfInBounds i true).getD j false) = (fun j=>listed.getD j false || j == i):=by
   funext j
   by_cases hj : i = j
   ·subst hj; simp [hsz,hlt]
   ·rw [getD_set_ne false hj]; have : (j == i) = false:=by rw [beq_eq_false_iff_ne]; exact fun e=>hj e.symm
    simp [this]
  rw [hfun]
  refine ⟨hstep _ a w i o ho hd h2 hinv,?_⟩
  have hl : listed.toList[i]? = some false:=by
   have hi' : i < listed.size:=by omega
   simp [hi'] at hd ⊢; exact hd
  have:=left_set listed.toList i hl
  unfold left
  rw [Array.toList_setIfInBounds]; exact this
 intro fuel
 induction fuel with
 | zero =>
  intro listed a w hsz hl hinv
  have hr : Region.ready .any ops listed = []:=by
   rcases hrd : Region.ready .any ops listed with _ | ⟨i,r⟩
   ·rfl
   ·have:=(hstepL listed a w i hsz (by rw [hrd]; simp) hinv).2
    omega
  exact ⟨hr,hend _ a w (hall listed hsz hr) hinv⟩
 | succ fuel ih =>
  intro listed a w hsz hl hinv
  refine ⟨fun hr=>hend _ a w (hall listed hsz hr) hinv,fun i hi=>?_⟩
  obtain ⟨h1,h2⟩:=hstepL listed a w i hsz hi hinv
  exact wpOp_mono (fun a' w' h=>⟨h.1,ih _ a' w' (by simp [hsz]) (by omega) h.2⟩) h1

def ac2B (ops : Array Oper) : Bool:=(List.range ops.size).all fun i=>match ops[i]? with | some o=>o.after.all (fun e=>!(Region.binds .any e) || decide (e.on < i)) | none=>true
theorem ac2B_spec {ops : Array Oper} (h : ac2B ops = true) (i : Nat) (o : Oper) (ho : ops[i]? = some o) : ∀ e ∈ o.after,Region.binds .any e = true → e.on < i:=by
 have hi : i < ops.size:=(Array.getElem?_eq_some_iff.1 ho).1
 have:=List.all_eq_true.1 h i (by simpa using hi)
 rw [ho] at this
 intro e he hb
 have:=Array.all_eq_true'.1 this e he
 rw [hb] at this
 simpa using this
def depsB (o : Oper) (l : List Nat) : Bool:=l.all fun d=>o.after.any fun e=>e.on == d && Region.binds .any e
structure QjOk (P : Program) (ops : Array Oper) (T : Array Value) (ds : List Nat) (cs : List Qj) (B : Nat) (w0 : World) (q : Qj) : Prop where
 k : q.k ∈ ds
 step : ∃ o,ops[q.c]? = some o ∧ o.guard = none ∧ o.dst = some q.k ∧ depsB o q.deps = true ∧ ∀ V w,Below B w0 w → (∀ d ∈ cs,d.c ∈ q.deps → V d.k = d.r) →
  ((execOp (Act.eval { tmps:=canon T ds V,defers:=[] }) o).run P w = .ok (.value q.r) w ∨ ∃ f args,(execOp (Act.eval { tmps:=canon T ds V,defers:=[] }) o).run P w = .ok (.enter f args) w ∧ Calls P f args w fun e w'=>e = .returned q.r ∧ Below w.heap.size w w')
theorem depsB_at {o : Oper} {l : List Nat} (h : depsB o l = true) {d : Nat} (hd : d ∈ l) : ∃ e ∈ o.after,e.on = d ∧ Region.binds .any e = true:=dep_of (List.all_eq_true.1 h d hd)
def qlB (n : Nat) (listed : Array Bool) (cs : List Qj) (s : Nat) : Bool:=(List.range n).all fun i=>listed.getD i false || (i == s || cs.any fun q=>i == q.c)
theorem qlB_spec {n : Nat} {listed : Array Bool} {cs : List Qj} {s : Nat} (h : qlB n listed cs s = true) (i : Nat) (hi : i < n) (hf : listed.getD i false = false) : i = s ∨ ∃ q ∈ cs,i = q.c:=by
 have:=List.all_eq_true.1 h i (by simpa using hi)
 rw [hf,Bool.false_or,Bool.or_eq_true,List.any_eq_true] at this
 rcases this with h | ⟨q,hq,h⟩
 ·exact .inl (by simpa using h)
 ·exact .inr ⟨q,hq,by simpa using h⟩
def placesB (ops : Array Oper) (listed : Array Bool) (cs : List Qj) (s : Nat) : Bool :=
 ac2B ops && (listed.size == ops.size) && qlB ops.size listed cs s && cs.all (fun q=>!(listed.getD q.c false) && (decide (q.c < ops.size) && !(q.c == s))) && !(listed.getD s false)
 && decide ((cs.map Qj.c).Nodup) && decide ((cs.map Qj.k).Nodup)

theorem nodup_inj {α : Type} {f : α → Nat} {l : List α} (h : (l.map f).Nodup) {a b : α} (ha : a ∈ l) (hb : b ∈ l) (e : f a = f b) : a = b:=by
 obtain ⟨i,hi,rfl⟩:=List.mem_iff_getElem.1 ha
 obtain ⟨j,hj,rfl⟩:=List.mem_iff_getElem.1 hb
 have hi' : i < (l.map f).length:=by simpa using hi
 have hj' : j < (l.map f).length:=by simpa using hj
 have:=(List.getElem_inj (h₀:=hi') (h₁:=hj') h).1 (by simpa using e)
 subst this; rfl

theorem quiet_laid {T : Array Value} {ds : List Nat} {cs : List Qj} {s : Nat} {w0 : World} {B : Nat} {listed : Array Bool} {fuel : Nat} (hp : placesB ops listed cs s = true) (hfuel : left listed ≤ fuel) (hB : B ≤ w0.heap.size)
  (hq : ∀ q ∈ cs,QjOk P ops T ds cs B w0 q) (hS : ∀ W,Below B w0 W → S W) {Fin : World → Prop} (hF0 : ops.size ≤ s → ∀ W,Below B w0 W → Fin W)
  (hst : ∀ o,ops[s]? = some o → o.guard = none ∧ o.dst = none ∧ depsB o (cs.map Qj.c) = true ∧ ∀ V w,Below B w0 w → (∀ d ∈ cs,V d.k = d.r) → ∃ w' nx,(execOp (Act.eval { tmps:=canon T ds V,defers:=[] }) o).run P w = .ok nx w' ∧ (nx = .skip ∨ ∃ u,nx = .value u) ∧ S w' ∧ Fin w')
  (hQ : ∀ V W,(∀ d ∈ cs,V d.k = d.r) → (∀ k,(∀ q ∈ cs,k ≠ q.k) → V k = T.getD k undef) → Fin W → Q .normal { tmps:=canon T ds V,defers:=[] } W) : wpAnyH P .any ops Q S fuel listed { tmps:=T,defers:=[] } w0:=by
 unfold placesB at hp
 simp only [Bool.and_eq_true,decide_eq_true_iff,beq_iff_eq,Bool.not_eq_true'] at hp
 obtain ⟨⟨⟨⟨⟨⟨hac,hsz⟩,hl⟩,hcs⟩,hls⟩,hnc⟩,hnk⟩:=hp
 have hcs' : ∀ q ∈ cs,listed.getD q.c false = false ∧ q.c < ops.size ∧ q.c ≠ s:=fun q hq=>by
  have:=List.all_eq_true.1 hcs q hq
  simp only [Bool.and_eq_true,decide_eq_true_iff,Bool.not_eq_true',beq_eq_false_iff_ne] at this
  exact ⟨this.1,this.2.1,this.2.2⟩
 let Inv : (Nat → Bool) → Act → World → Prop:=fun D a w=>(∀ i,i < ops.size → listed.getD i false = true → D i = true) ∧ ∃ V : Nat → Value,a = { tmps:=canon T ds V,defers:=[] } ∧ (∀ q ∈ cs,D q.c = true → V q.k = q.r) ∧ (∀ k,(∀ q ∈ cs,k ≠ q.k) → V k = T.getD k undef) ∧ (D s = false → Below B w0 w) ∧ (D s = true → (∀ q ∈ cs,D q.c = true) ∧ Fin w)
 refine wpAnyH_inv2 (ac2B_spec hac) Inv ?_ ?_ fuel listed _ w0 hsz hfuel ?_
 ·intro D a w i o ho hDi hdep ⟨hold,V,ha,hv,hrest,hb,hfin⟩
  subst ha
  have hi : i < ops.size:=(Array.getElem?_eq_some_iff.1 ho).1
  have hnl : listed.getD i false = false:=by
   cases hx : listed.getD i false with
   | false=>rfl
   | true=>have:=hold i hi hx; rw [hDi] at this; cases this
  have hold' : ∀ i',∀ i,i < ops.size → listed.getD i false = true → (D i || i == i') = true:=fun i' i h1 h2=>by rw [hold i h1 h2]; rfl
  rcases qlB_spec hl i hi hnl with rfl | ⟨q,hqm,rfl⟩
  ·obtain ⟨g1,g2,g3,g4⟩:=hst o ho
   have hall : ∀ q ∈ cs,D q.c = true:=fun q hqm=>by
    obtain ⟨e,he,e1,e2⟩:=depsB_at g3 (List.mem_map.2 ⟨q,hqm,rfl⟩)
    rw [← e1]; exact hdep e he e2
   obtain ⟨w',nx,hr,hnx,h5,h6⟩:=g4 V w (hb hDi) (fun d hd=>hv d hd (hall d hd))
   have fin : S w' ∧ Inv (fun j=>D j || j == i) { tmps:=canon T ds V,defers:=[] } w':=by
    refine ⟨h5,hold' _,V,rfl,fun q hqm h=>hv q hqm (hall q hqm),hrest,fun h=>?_,fun _=>⟨fun q hqm=>by simp [hall q hqm],h6⟩⟩
    simp at h
   rcases hnx with rfl | ⟨x,rfl⟩
   ·refine held_plain ho g1 (oper_skip hr ?_)
    rw [g2]; exact fin
   ·refine held_plain ho g1 (oper_run hr ?_)
    rw [g2]; exact fin
  ·have ok:=hq q hqm
   obtain ⟨o',e1,e2,e3,e4,e5⟩:=ok.step
   rw [ho] at e1; cases e1
   have hDs : D s = false:=by
    cases hx : D s with
    | false=>rfl
    | true=>have:=(hfin hx).1 q hqm; rw [hDi] at this; cases this
   have hbw:=hb hDs
   have hsne : s ≠ q.c:=fun e=>(hcs' q hqm).2.2 e.symm
   have fin : ∀ w',Below B w0 w' → S w' ∧ Inv (fun j=>D j || j == q.c) { tmps:=canon T ds (updV V q.k q.r),defers:=[] } w':=fun w' hb'=>by
    refine ⟨hS _ hb',hold' _,updV V q.k q.r,rfl,fun u hu h=>?_,fun k hk=>?_,fun _=>hb',fun h=>?_⟩
    ·by_cases huq : u = q
     ·subst huq; exact updV_same _ _ _
     ·have hne : u.c ≠ q.c:=fun e=>huq (nodup_inj hnc hu hqm e)
      rw [updV_other _ _ (fun e=>huq (nodup_inj hnk hu hqm e))]
      exact hv u hu (by simpa [hne] using h)
    ·rw [updV_other _ _ (hk q hqm)]; exact hrest k hk
    ·simp [hDs,hsne] at h
   rcases e5 V w hbw (fun d hd hdd=>hv d hd (by
    obtain ⟨e,he,h1,h2⟩:=depsB_at e4 hdd
    rw [← h1]; exact hdep e he h2)) with hr | ⟨f,args,hr,hc⟩
   ·refine held_plain ho e2 (oper_run hr ?_)
    rw [e3]
    simp only [Act.put,canon_set _ ok.k]
    exact fin w hbw
   ·refine held_plain ho e2 (oper_call hr hc fun e w' ⟨he,hb'⟩=>⟨_,he,?_⟩)
    rw [e3]
    simp only [Act.put,canon_set _ ok.k]
    exact fin w' (hbw.trans (hb'.mono (Nat.le_trans hB hbw.size)))
 ·intro D a w hall ⟨_,V,ha,hv,hrest,hb,hfin⟩
  subst ha
  refine hQ V w (fun d hd=>hv d hd (hall _ (hcs' d hd).2.1)) hrest ?_
  by_cases hs : s < ops.size
  ·exact (hfin (hall s hs)).2
  ·cases hx : D s with
   | true=>exact (hfin hx).2
   | false =>
    exact hF0 (by omega) w (hb hx)
 ·refine ⟨fun i _ h=>h,fun k=>T.getD k undef,by rw [canon_start],fun q hqm h=>?_,fun _ _=>rfl,fun _=>Below.refl _ _,fun h=>?_⟩
  ·dsimp only at h; rw [(hcs' q hqm).1] at h; cases h
  ·dsimp only at h; rw [hls] at h; cases h
theorem new_laid {fuel : Nat} {listed : Array Bool} {T R Z : Array Value} {ty : TypeId} {w0 : World} (p s kp : Nat)
  (halloc : ∃ o,ops[p]? = some o ∧ o.guard = none ∧ o.dst = some kp ∧ ∀ (a : Act) w,(execOp a.eval o).run P w = .ok (.value (.pointer (some ⟨w.heap.size,0,none⟩))) (w.alloc (.cells Z ty)))
  (hstore : ∃ o,ops[s]? = some o ∧ o.guard = none ∧ o.dst = none ∧ ∀ w g,Bk w g ty Z → ∃ w',(execOp (Act.eval { tmps:=T.setIfInBounds kp (.pointer (some ⟨g,0,none⟩)),defers:=[] }) o).run P w = .ok .skip w' ∧ Bk w' g ty R ∧ ∀ (B : Nat) (v : World),B ≤ g → Below B v w → Below B v w')
  (hr0 : Region.ready .any ops listed = [p]) (hr1 : Region.ready .any ops (listed.setIfInBounds p true) = [s]) (hr2 : Region.ready .any ops ((listed.setIfInBounds p true).setIfInBounds s true) = [])
  (hS : ∀ W,Below w0.heap.size w0 W → S W) (hK : ∀ g W,Below w0.heap.size w0 W → w0.heap.size ≤ g → Bk W g ty R → Q .normal { tmps:=T.setIfInBounds kp (.pointer (some ⟨g,0,none⟩)),defers:=[] } W) : wpAnyH P .any ops Q S (fuel + 2) listed { tmps:=T,defers:=[] } w0:=by
 obtain ⟨op,p1,p2,p3,p4⟩:=halloc
 obtain ⟨os,s1,s2,s3,s4⟩:=hstore
 refine wpAnyH_all hr0 (by simp) fun j hj=>?_
 obtain rfl : j = p:=by simpa using hj
 refine held_plain p1 p2 (oper_run (p4 _ w0) ?_)
 have hb1 : Below w0.heap.size w0 (w0.alloc (.cells Z ty)):=(Below.refl _ _).alloc (Nat.le_refl _) _
 refine ⟨hS _ hb1,?_⟩
 rw [p3]
 refine wpAnyH_all hr1 (by simp) fun j hj=>?_
 obtain rfl : j = s:=by simpa using hj
 obtain ⟨w',q1,q2,q3⟩:=s4 _ _ (Bk.new w0 ty Z)
 refine held_plain s1 s2 (oper_skip q1 ?_)
 rw [s3]
 have hb':=q3 _ _ (Nat.le_refl _) hb1
 refine ⟨hS _ hb',?_⟩
 cases fuel with
 | zero=>exact ⟨hr2,hK _ _ hb' (Nat.le_refl _) q2⟩
 | succ n=>exact ⟨fun _=>hK _ _ hb' (Nat.le_refl _) q2,by rw [hr2]; simp⟩
end
end Go.Proofs.Ytkjceegmmhnajaa

namespace Go.Proofs.Ytkjceegmmhnajaa
open Go.RowKit LPX

theorem pmin {a b c x y z : Int} {N : Nat} (h : vb N (a - x) (b - y) (c - z)) (hN : N ≤ 3050000000000000000) : ∃ r s t : Int,Hid (r = a - x ∧ s = b - y ∧ t = c - z) ∧ vb N r s t ∧ Hid (∀ W,Calls Try.prog 75 #[.agg #[.int .i64 a, .int .i64 b, .int .i64 c], .agg #[.int .i64 x, .int .i64 y, .int .i64 z]] W fun e w'=>e = .returned (.agg #[.int .i64 r, .int .i64 s, .int .i64 t]) ∧ Below W.heap.size W w') :=
 ⟨_,_,_,⟨rfl,rfl,rfl⟩,h,fun W=>minus_any _ _ _ _ _ _ W (ab_big h.1 hN) (ab_big h.2.1 hN) (ab_big h.2.2 hN)⟩
theorem pcrs {A B : Nat} {a b c x y z : Int} (h : vb A a b c) (k : vb B x y z) (hAB : A * B + A * B ≤ 3050000000000000000) : ∃ r s t : Int,Hid (r = b * z - c * y ∧ s = c * x - a * z ∧ t = a * y - b * x) ∧ vb (A * B + A * B) r s t ∧ Hid (∀ W,Calls Try.prog 82 #[.agg #[.int .i64 a, .int .i64 b, .int .i64 c], .agg #[.int .i64 x, .int .i64 y, .int .i64 z]] W fun e w'=>e = .returned (.agg #[.int .i64 r, .int .i64 s, .int .i64 t]) ∧ Below W.heap.size W w') :=
 ⟨_,_,_,⟨rfl,rfl,rfl⟩,⟨ab_sub (ab_mul h.2.1 k.2.2) (ab_mul h.2.2 k.2.1),ab_sub (ab_mul h.2.2 k.1) (ab_mul h.1 k.2.2),ab_sub (ab_mul h.1 k.2.1) (ab_mul h.2.1 k.1)⟩,fun W=>(cross_b W h k hAB).mono (by
  rintro e w' ⟨r,s,t,rfl,HE,hv,hb,_⟩
  obtain ⟨rfl,rfl,rfl⟩:=HE.out
  exact ⟨rfl,hb⟩)⟩
theorem pdot {A B : Nat} {a b c x y z : Int} (h : vb A a b c) (k : vb B x y z) (hAB : A * B + A * B + A * B ≤ 3050000000000000000) : ∃ r : Int,Hid (r = a * x + b * y + c * z) ∧ ab (A * B + A * B + A * B) r ∧ Hid (∀ W,Calls Try.prog 46 #[.agg #[.int .i64 a, .int .i64 b, .int .i64 c], .agg #[.int .i64 x, .int .i64 y, .int .i64 z]] W fun e w'=>e = .returned (.int .i64 r) ∧ Below W.heap.size W w') :=
 ⟨_,rfl,ab_add (ab_add (ab_mul h.1 k.1) (ab_mul h.2.1 k.2.1)) (ab_mul h.2.2 k.2.2),fun W=>(times_b W h k hAB).mono (by
  rintro e w' ⟨r,rfl,HE,hv,hb,_⟩
  obtain rfl:=HE.out
  exact ⟨rfl,hb⟩)⟩
theorem pscl {A B : Nat} {a b c n : Int} (h : vb A a b c) (k : ab B n) (hAB : A * B ≤ 3050000000000000000) : ∃ r s t : Int,Hid (r = a * n ∧ s = b * n ∧ t = c * n) ∧ vb (A * B) r s t ∧ Hid (∀ W,Calls Try.prog 77 #[.agg #[.int .i64 a, .int .i64 b, .int .i64 c], .int .i64 n] W fun e w'=>e = .returned (.agg #[.int .i64 r, .int .i64 s, .int .i64 t]) ∧ Below W.heap.size W w') :=
 ⟨_,_,_,⟨rfl,rfl,rfl⟩,⟨ab_mul h.1 k,ab_mul h.2.1 k,ab_mul h.2.2 k⟩,fun W=>(scaled_b W h k hAB).mono (by
  rintro e w' ⟨r,s,t,rfl,HE,hv,hb,_⟩
  obtain ⟨rfl,rfl,rfl⟩:=HE.out
  exact ⟨rfl,hb⟩)⟩
theorem el_at {W : World} {e : El} (h : e.At W) {i : Nat} {L : List Nat} (hL : e.L = i :: L) : ∃ ad,e.A = some ad ∧ ad.block < W.heap.size ∧ W.cell? ad = some (.int .i64 (i : Int)) ∧ ∀ (j m : Nat),L[j]? = some m → W.cell? ⟨ad.block,ad.off + (j + 1),none⟩ = some (.int .i64 (m : Int)):=by
 have h1:=h.1
 rw [hL] at h1
 obtain ⟨ad,e1,hb,hc⟩:=h1 (by simp [nats])
 have h0:=hc 0 _ rfl
 have e0 : ad.add 0 = ad:=by unfold Addr.add; simp
 rw [e0] at h0
 refine ⟨ad,e1,hb,h0,fun j m hm=>?_⟩
 have h2:=hc (j + 1) (.int .i64 (m : Int)) (by simp [nats,hm])
 have e2 : ad.add (j + 1) = ⟨ad.block,ad.off + (j + 1),none⟩:=by unfold Addr.add; simp
 rw [e2] at h2; exact h2
end Go.Proofs.Ytkjceegmmhnajaa

namespace Go.Proofs.Ytkjceegmmhnajaa
open Go.RowKit LPX
attribute [local go_sem] Oper.semAt_some choEnc

def nEnc (v : Vc) : Array Value:=#[v.agg]
end Go.Proofs.Ytkjceegmmhnajaa

namespace Go.Proofs.Ytkjceegmmhnajaa
open Go.RowKit

end Go.Proofs.Ytkjceegmmhnajaa

namespace Go.Proofs.Ytkjceegmmhnajaa
open Go.RowKit LPX

def vV (v : Vc) : V:=⟨v.x,v.y,v.z⟩
theorem vV_inj {a b : Vc} : vV a = vV b ↔ a = b:=by
 cases a; cases b; unfold vV; simp
theorem vV_sub (a b : Vc) : vV (a.sub b) = (vV a).sub (vV b):=rfl
theorem dot_pos {d : Vc} : 0 < d.dot d ↔ d.dot d ≠ 0:=by
 have h1 : 0 ≤ d.x * d.x:=by rcases Int.le_total 0 d.x with h | h; exact Int.mul_nonneg h h; exact Int.mul_nonneg_of_nonpos_of_nonpos h h
 have h2 : 0 ≤ d.y * d.y:=by rcases Int.le_total 0 d.y with h | h; exact Int.mul_nonneg h h; exact Int.mul_nonneg_of_nonpos_of_nonpos h h
 have h3 : 0 ≤ d.z * d.z:=by rcases Int.le_total 0 d.z with h | h; exact Int.mul_nonneg h h; exact Int.mul_nonneg_of_nonpos_of_nonpos h h
 unfold Vc.dot
 omega
theorem dot_zero {n : Vc} : n.dot n = 0 ↔ n = ⟨0,0,0⟩:=by
 have sq : ∀ a : Int,0 ≤ a * a ∧ (a * a = 0 → a = 0):=fun a=>⟨by rcases Int.le_total 0 a with h | h; exact Int.mul_nonneg h h; exact Int.mul_nonneg_of_nonpos_of_nonpos h h,fun h=>by rcases Int.mul_eq_zero.1 h with h | h <;> exact h⟩
 constructor
 ·intro h
  obtain ⟨a1,a2⟩:=sq n.x
  obtain ⟨b1,b2⟩:=sq n.y
  obtain ⟨c1,c2⟩:=sq n.z
  unfold Vc.dot at h
  have e1:=a2 (by omega)
  have e2:=b2 (by omega)
  have e3:=c2 (by omega)
  cases n; simp only at e1 e2 e3; rw [e1,e2,e3]
 ·rintro rfl; rfl
theorem rpw_rwts : ∀ (ps : List Vc) (x : Vc),rpw ps x = rwts (ps.map vV) (vV x)
 | [],_=>rfl
 | [a],x=>by
  simp only [rpw,List.map,rwts,vV_inj]
 | [a,b],x=>by
  have e0 : ∀ u v : Vc,u.dot v = v.dot u:=fun u v=>by unfold Vc.dot; grind
  have e1 : (b.sub a).dot (x.sub a) = ((vV x).sub (vV a)).dot ((vV b).sub (vV a)):=e0 _ _
  have e2 : (b.sub a).dot (b.sub a) = ((vV b).sub (vV a)).dot ((vV b).sub (vV a)):=rfl
  simp only [rpw,List.map,rwts]
  split
  ·rename_i h
   split
   ·rw [e1,e2]
   ·rename_i k; exact absurd ⟨dot_pos.1 h.1,(vV_inj (b:=⟨0,0,0⟩)).2 h.2⟩ k
  ·rename_i h
   split
   ·rename_i k; exact absurd ⟨dot_pos.2 k.1,(vV_inj (b:=⟨0,0,0⟩)).1 k.2⟩ h
   ·rfl
 | [a,b,c],x=>by
  have e0 : ∀ u v : Vc,u.dot v = v.dot u:=fun u v=>by unfold Vc.dot; grind
  have e1 : ((b.sub a).crs (c.sub a)).dot ((x.sub a).crs (c.sub a)) = (((vV x).sub (vV a)).crs ((vV c).sub (vV a))).dot (((vV b).sub (vV a)).crs ((vV c).sub (vV a))):=e0 _ _
  have e2 : ((b.sub a).crs (c.sub a)).dot ((b.sub a).crs (x.sub a)) = (((vV b).sub (vV a)).crs ((vV x).sub (vV a))).dot (((vV b).sub (vV a)).crs ((vV c).sub (vV a))):=e0 _ _
  have e3 : ((b.sub a).crs (c.sub a)).dot ((b.sub a).crs (c.sub a)) = (((vV b).sub (vV a)).crs ((vV c).sub (vV a))).dot (((vV b).sub (vV a)).crs ((vV c).sub (vV a))):=rfl
  have e4 : ((b.sub a).crs (c.sub a)).dot (x.sub a) = ((vV x).sub (vV a)).dot (((vV b).sub (vV a)).crs ((vV c).sub (vV a))):=e0 _ _
  simp only [rpw,List.map,rwts]
  split
  ·rename_i h
   split
   ·rw [e1,e2,e3]
   ·rename_i k; exact absurd ⟨fun k2=>h.1 (dot_zero.1 k2),e4.symm.trans h.2⟩ k
  ·rename_i h
   split
   ·rename_i k; exact absurd ⟨fun k2=>k.1 (dot_zero.2 k2),e4.trans k.2⟩ h
   ·rfl
 | [a,b,c,e],x=>by
  have e1 : rwts (List.map vV [a,b,c,e]) (vV x) = (let u:=x.sub a; let d:=b.sub a; let f:=c.sub a; let g:=e.sub a; let y:=(d.crs f).dot g
   if y = 0 then none else if y < 0 then some [-(y - (u.crs f).dot g - (d.crs u).dot g - (d.crs f).dot u), -(u.crs f).dot g, -(d.crs u).dot g, -(d.crs f).dot u]
    else some [y - (u.crs f).dot g - (d.crs u).dot g - (d.crs f).dot u,(u.crs f).dot g,(d.crs u).dot g,(d.crs f).dot u]):=rfl
  rw [e1]
  simp only [rpw]
  generalize ((b.sub a).crs (c.sub a)).dot (e.sub a) = y
  generalize ((x.sub a).crs (c.sub a)).dot (e.sub a) = p
  generalize ((b.sub a).crs (x.sub a)).dot (e.sub a) = q
  generalize ((b.sub a).crs (c.sub a)).dot (x.sub a) = r
  by_cases h0 : y = 0
  ·subst h0; simp
  ·by_cases h1 : y < 0
   ·rw [if_pos h1,if_neg h0,if_pos h1]
    have : p + q + r - y = -(y - p - q - r):=by omega
    rw [this]
   ·rw [if_neg h1,if_neg h0,if_neg h1,if_pos (by omega)]
 | _ :: _ :: _ :: _ :: _ :: _,_=>rfl

theorem tdiv_pos {v : Int} {g : Nat} (hg : 0 < g) (hd : g ∣ v.natAbs) : (v.tdiv g ≤ 0 ↔ v ≤ 0):=by
 obtain ⟨k,hk⟩ : ((g : Int)) ∣ v:=Int.ofNat_dvd_left.2 hd
 have hg' : (0 : Int) < g:=by omega
 subst hk
 rw [Int.mul_tdiv_cancel_left _ (by omega)]
 constructor
 ·intro h
  exact Int.mul_nonpos_of_nonneg_of_nonpos (by omega) h
 ·intro h
  rcases Int.lt_or_le 0 k with h1 | h1
  ·have:=Int.mul_pos hg' h1; omega
  ·exact h1
theorem gcd_three {y x z : Int} : gcdL [y - x - z,x,z] = gcdL [x,y,z]:=by
 unfold gcdL
 simp only [List.foldl_cons,List.foldl_nil,Nat.gcd_zero_left]
 apply Nat.dvd_antisymm
 ·refine Nat.dvd_gcd (Nat.dvd_gcd ?_ ?_) ?_
  ·exact Nat.dvd_trans (Nat.gcd_dvd_left _ _) (Nat.gcd_dvd_right _ _)
  ·have h1 : (((Nat.gcd (Nat.gcd (y - x - z).natAbs x.natAbs) z.natAbs : Nat) : Int)) ∣ y - x - z:=Int.ofNat_dvd_left.2 (Nat.dvd_trans (Nat.gcd_dvd_left _ _) (Nat.gcd_dvd_left _ _))
   have h2 : (((Nat.gcd (Nat.gcd (y - x - z).natAbs x.natAbs) z.natAbs : Nat) : Int)) ∣ x:=Int.ofNat_dvd_left.2 (Nat.dvd_trans (Nat.gcd_dvd_left _ _) (Nat.gcd_dvd_right _ _))
   have h3 : (((Nat.gcd (Nat.gcd (y - x - z).natAbs x.natAbs) z.natAbs : Nat) : Int)) ∣ z:=Int.ofNat_dvd_left.2 (Nat.gcd_dvd_right _ _)
   refine Int.ofNat_dvd_left.1 ?_
   have:=Int.dvd_add (Int.dvd_add h1 h2) h3
   rw [show y - x - z + x + z = y by omega] at this
   exact this
  ·exact Nat.gcd_dvd_right _ _
 ·refine Nat.dvd_gcd (Nat.dvd_gcd ?_ ?_) ?_
  ·have h1 : (((Nat.gcd (Nat.gcd x.natAbs y.natAbs) z.natAbs : Nat) : Int)) ∣ y:=Int.ofNat_dvd_left.2 (Nat.dvd_trans (Nat.gcd_dvd_left _ _) (Nat.gcd_dvd_right _ _))
   have h2 : (((Nat.gcd (Nat.gcd x.natAbs y.natAbs) z.natAbs : Nat) : Int)) ∣ x:=Int.ofNat_dvd_left.2 (Nat.dvd_trans (Nat.gcd_dvd_left _ _) (Nat.gcd_dvd_left _ _))
   have h3 : (((Nat.gcd (Nat.gcd x.natAbs y.natAbs) z.natAbs : Nat) : Int)) ∣ z:=Int.ofNat_dvd_left.2 (Nat.gcd_dvd_right _ _)
   refine Int.ofNat_dvd_left.1 ?_
   exact Int.dvd_sub (Int.dvd_sub h1 h2) h3
  ·exact Nat.dvd_trans (Nat.gcd_dvd_left _ _) (Nat.gcd_dvd_left _ _)
  ·exact Nat.gcd_dvd_right _ _
theorem gcd_div {a b c : Int} {g : Nat} (hg : 0 < g) (h : gcdL [a,b,c] = g) : gcdL [a.tdiv g,b.tdiv g,c.tdiv g] = 1:=by
 unfold gcdL at *
 simp only [List.foldl_cons,List.foldl_nil,Nat.gcd_zero_left] at *
 have da : g ∣ a.natAbs:=by rw [← h]; exact Nat.dvd_trans (Nat.gcd_dvd_left _ _) (Nat.gcd_dvd_left _ _)
 have db : g ∣ b.natAbs:=by rw [← h]; exact Nat.dvd_trans (Nat.gcd_dvd_left _ _) (Nat.gcd_dvd_right _ _)
 have dc : g ∣ c.natAbs:=by rw [← h]; exact Nat.gcd_dvd_right _ _
 have e : ∀ v : Int,(v.tdiv g).natAbs = v.natAbs / g:=fun v=>by rw [Int.natAbs_tdiv]; simp; rfl
 rw [e,e,e]
 rw [Nat.gcd_div da db,Nat.gcd_div (Nat.dvd_gcd da db) dc,h,Nat.div_self hg]
theorem recipes_same (L : List Int) : ∀ (ps : List Vc) (x : Vc),resOf L (pwts ps x) = resOf L (rpw ps x)
 | [],_=>rfl
 | [a],x=>by simp only [pwts,rpw]
 | [a,b],x=>by
  simp only [pwts,rpw]
  generalize hu : x.sub a = u
  generalize hd : b.sub a = d
  have e1 : u.dot d = d.dot u:=by unfold Vc.dot; grind
  by_cases h0 : d.dot d = 0
  ·rw [if_neg (fun h=>h.1 h0),if_neg (fun h=>by have:=h.1; omega)]
  ·have hiff : u.mul (d.dot d) = d.mul (u.dot d) ↔ d.crs u = ⟨0,0,0⟩:=by
    constructor
    ·intro h
     have c1 : u.x * d.dot d = d.x * u.dot d:=congrArg Vc.x h
     have c2 : u.y * d.dot d = d.y * u.dot d:=congrArg Vc.y h
     have c3 : u.z * d.dot d = d.z * u.dot d:=congrArg Vc.z h
     have f1 : d.dot d * (d.y * u.z - d.z * u.y) = 0:=by
      have : d.dot d * (d.y * u.z - d.z * u.y) = d.y * (u.z * d.dot d) - d.z * (u.y * d.dot d):=by grind
      rw [this,c3,c2]; grind
     have f2 : d.dot d * (d.z * u.x - d.x * u.z) = 0:=by
      have : d.dot d * (d.z * u.x - d.x * u.z) = d.z * (u.x * d.dot d) - d.x * (u.z * d.dot d):=by grind
      rw [this,c1,c3]; grind
     have f3 : d.dot d * (d.x * u.y - d.y * u.x) = 0:=by
      have : d.dot d * (d.x * u.y - d.y * u.x) = d.x * (u.y * d.dot d) - d.y * (u.x * d.dot d):=by grind
      rw [this,c2,c1]; grind
     have g1:=(Int.mul_eq_zero.1 f1).resolve_left h0
     have g2:=(Int.mul_eq_zero.1 f2).resolve_left h0
     have g3:=(Int.mul_eq_zero.1 f3).resolve_left h0
     unfold Vc.crs
     rw [g1,g2,g3]
    ·intro h
     have g1 : d.y * u.z - d.z * u.y = 0:=congrArg Vc.x h
     have g2 : d.z * u.x - d.x * u.z = 0:=congrArg Vc.y h
     have g3 : d.x * u.y - d.y * u.x = 0:=congrArg Vc.z h
     have i1 : u.x * d.dot d = d.x * u.dot d + d.z * (d.z * u.x - d.x * u.z) - d.y * (d.x * u.y - d.y * u.x):=by unfold Vc.dot; grind
     have i2 : u.y * d.dot d = d.y * u.dot d + d.x * (d.x * u.y - d.y * u.x) - d.z * (d.y * u.z - d.z * u.y):=by unfold Vc.dot; grind
     have i3 : u.z * d.dot d = d.z * u.dot d + d.y * (d.y * u.z - d.z * u.y) - d.x * (d.z * u.x - d.x * u.z):=by unfold Vc.dot; grind
     unfold Vc.mul
     rw [i1,i2,i3,g1,g2,g3]
     simp
   by_cases hc : d.crs u = ⟨0,0,0⟩
   ·rw [if_pos ⟨h0,hiff.2 hc⟩,if_pos ⟨dot_pos.2 h0,hc⟩,e1]
   ·rw [if_neg (fun h=>hc (hiff.1 h.2)),if_neg (fun h=>hc h.2)]
 | [a,b,c],x=>by
  simp only [pwts,rpw]
  generalize hu : x.sub a = u
  generalize hd : b.sub a = d
  generalize hf : c.sub a = f
  have e1 : ∀ u v : Vc,u.dot v = v.dot u:=fun u v=>by unfold Vc.dot; grind
  rw [e1 u (d.crs f),e1 (d.crs f) (u.crs f),e1 (d.crs f) (d.crs u)]
  by_cases h0 : (d.crs f).dot (d.crs f) = 0
  ·rw [if_pos (.inl h0),if_neg (fun h=>h.1 (dot_zero.1 h0))]
  ·have hn : d.crs f ≠ ⟨0,0,0⟩:=fun h=>h0 (dot_zero.2 h)
   by_cases h1 : (d.crs f).dot u = 0
   ·rw [if_neg (fun h=>h.elim h0 (fun k=>k h1)),if_pos ⟨hn,h1⟩]
    generalize hy : (d.crs f).dot (d.crs f) = y at *
    generalize (u.crs f).dot (d.crs f) = p
    generalize (d.crs u).dot (d.crs f) = q
    have hg : 0 < gcdL [p,y,q]:=by have:=(gcd3_pos p y q h0).1; omega
    have hG:=gcd_three (y:=y) (x:=p) (z:=q)
    have hD:=gcd_div hg hG
    have dv : ∀ v ∈ [y - p - q,p,q],gcdL [p,y,q] ∣ v.natAbs:=fun v hv=>by rw [← hG]; exact gcdL_dvd _ v hv
    have c1:=tdiv_pos hg (dv (y - p - q) (by simp))
    have c2:=tdiv_pos hg (dv p (by simp))
    have c3:=tdiv_pos hg (dv q (by simp))
    have hany : List.any [(y - p - q).tdiv (gcdL [p,y,q] : Nat),p.tdiv (gcdL [p,y,q] : Nat),q.tdiv (gcdL [p,y,q] : Nat)] notPos = List.any [y - p - q,p,q] notPos:=by
     simp only [List.any_cons,List.any_nil,notPos,c1,c2,c3]
    simp only [resOf,hany]
    split
    ·rfl
    ·congr 1
     unfold mkParts
     rw [hD,hG]
     match L with
     | []=>rfl
     | [_]=>simp
     | [_,_]=>simp
     | _ :: _ :: _ :: _=>simp
   ·rw [if_pos (.inr h1),if_neg (fun h=>h1 h.2)]
 | [a,b,c,e],x=>by
  simp only [pwts,rpw]
  generalize x.sub a = u
  generalize b.sub a = d
  generalize c.sub a = f
  generalize e.sub a = g
  generalize (d.crs f).dot g = y
  generalize (u.crs f).dot g = p
  generalize (d.crs u).dot g = q
  generalize (d.crs f).dot u = r
  by_cases h0 : y = 0
  ·subst h0; simp
  ·by_cases h1 : y < 0
   ·rw [if_neg h0,if_pos h1,if_pos h1]
    have : -y - -p - -q - -r = p + q + r - y:=by omega
    rw [this]
   ·rw [if_neg h0,if_neg h1,if_neg h1,if_pos (by omega)]
 | _ :: _ :: _ :: _ :: _ :: _,_=>rfl
theorem rcp_same (l : List Tn) (x : Vc) (L : List Nat) : rcpF l x L = rrcpF l x L:=recipes_same (natI L) (ptsOf l (natI L)) x
theorem all_same (l : List Tn) (x : Vc) : allR l x = rallR l x:=by
 unfold allR rallR
 have : rcpF l x = rrcpF l x:=funext fun L=>rcp_same l x L
 rw [this]
def ptV (l : List Tn) (i : Nat) : V:=match l[i]? with | some t=>⟨t.a,t.b,t.c⟩ | none=>⟨0,0,0⟩
theorem pts_map (l : List Tn) (L : List Nat) : (ptsOf l (natI L)).map vV = L.map (ptV l):=by
 unfold ptsOf natI
 rw [List.map_map,List.map_map]
 refine List.map_congr_left fun i _=>?_
 simp only [Function.comp,Int.toNat_natCast]
 unfold ptV
 cases l[i]? <;> rfl
end Go.Proofs.Ytkjceegmmhnajaa

namespace Go.Proofs.Ytkjceegmmhnajaa

theorem lowest_parts (a b : Int) (hb : 1 ≤ b) : ∃ g : Int,1 ≤ g ∧ a = (lowest a b).1 * g ∧ b = (lowest a b).2 * g:=by
 have hg1 : ((Int.gcd a b : Nat) : Int) ∣ a:=Int.gcd_dvd_left ..
 have hg2 : ((Int.gcd a b : Nat) : Int) ∣ b:=Int.gcd_dvd_right ..
 exact ⟨_,gcd_pos_right a b hb,(Int.tdiv_mul_cancel hg1).symm,(Int.tdiv_mul_cancel hg2).symm⟩

end Go.Proofs.Ytkjceegmmhnajaa

namespace Go.Proofs.Ytkjceegmmhnajaa
open Go.RowKit LPX

theorem par_crs {n x v : Vc} (hx : n.dot x = 0) (hv : n.dot v = 0) : n.dot n * (x.crs v).x = n.dot (x.crs v) * n.x ∧ n.dot n * (x.crs v).y = n.dot (x.crs v) * n.y ∧ n.dot n * (x.crs v).z = n.dot (x.crs v) * n.z:=by
 obtain ⟨n1,n2,n3⟩:=n
 obtain ⟨x1,x2,x3⟩:=x
 obtain ⟨v1,v2,v3⟩:=v
 unfold Vc.dot at hx hv
 unfold Vc.dot Vc.crs
 dsimp only at *
 have k : ∀ a b c : Int,n1 * (n1 * x1 + n2 * x2 + n3 * x3) = 0:=fun _ _ _=>by rw [hx]; simp
 have e1 : (n1 * n1 + n2 * n2 + n3 * n3) * (x2 * v3 - x3 * v2) - (n1 * (x2 * v3 - x3 * v2) + n2 * (x3 * v1 - x1 * v3) + n3 * (x1 * v2 - x2 * v1)) * n1 = n2 * (v3 * (n1 * x1 + n2 * x2 + n3 * x3) - x3 * (n1 * v1 + n2 * v2 + n3 * v3)) - n3 * (v2 * (n1 * x1 + n2 * x2 + n3 * x3) - x2 * (n1 * v1 + n2 * v2 + n3 * v3)):=by grind
 have e2 : (n1 * n1 + n2 * n2 + n3 * n3) * (x3 * v1 - x1 * v3) - (n1 * (x2 * v3 - x3 * v2) + n2 * (x3 * v1 - x1 * v3) + n3 * (x1 * v2 - x2 * v1)) * n2 = n3 * (v1 * (n1 * x1 + n2 * x2 + n3 * x3) - x1 * (n1 * v1 + n2 * v2 + n3 * v3)) - n1 * (v3 * (n1 * x1 + n2 * x2 + n3 * x3) - x3 * (n1 * v1 + n2 * v2 + n3 * v3)):=by grind
 have e3 : (n1 * n1 + n2 * n2 + n3 * n3) * (x1 * v2 - x2 * v1) - (n1 * (x2 * v3 - x3 * v2) + n2 * (x3 * v1 - x1 * v3) + n3 * (x1 * v2 - x2 * v1)) * n3 = n1 * (v2 * (n1 * x1 + n2 * x2 + n3 * x3) - x2 * (n1 * v1 + n2 * v2 + n3 * v3)) - n2 * (v1 * (n1 * x1 + n2 * x2 + n3 * x3) - x1 * (n1 * v1 + n2 * v2 + n3 * v3)):=by grind
 rw [hx,hv] at e1 e2 e3
 simp only [Int.mul_zero,Int.sub_zero,Int.sub_self] at e1 e2 e3
 exact ⟨by omega,by omega,by omega⟩
theorem dvd_of_gcd {N k a b c : Int} (ha : N ∣ k * a) (hb : N ∣ k * b) (hc : N ∣ k * c) (hg : gcdL [a,b,c] = 1) : N ∣ k:=by
 unfold gcdL at hg
 simp only [List.foldl_cons,List.foldl_nil,Nat.gcd_zero_left] at hg
 have h1 : N.natAbs ∣ k.natAbs * a.natAbs:=by rw [← Int.natAbs_mul]; exact Int.natAbs_dvd_natAbs.2 ha
 have h2 : N.natAbs ∣ k.natAbs * b.natAbs:=by rw [← Int.natAbs_mul]; exact Int.natAbs_dvd_natAbs.2 hb
 have h3 : N.natAbs ∣ k.natAbs * c.natAbs:=by rw [← Int.natAbs_mul]; exact Int.natAbs_dvd_natAbs.2 hc
 have h4:=Nat.dvd_gcd (Nat.dvd_gcd h1 h2) h3
 rw [Nat.gcd_mul_left,Nat.gcd_mul_left,hg,Nat.mul_one] at h4
 exact Int.natAbs_dvd_natAbs.1 h4
theorem small_three {N s a b p q : Int} (hN : 0 < N) (hs : s ≠ 0) (h1 : N * a = p * s) (h2 : N * b = q * s) (hp : 0 < p) (hsm : ab 10000000 s ∧ ab 10000000 a ∧ ab 10000000 b) :
  ∀ v ∈ [N - p - q,p,q],v.tdiv (gcdL [N - p - q,p,q] : Nat) ≤ 1000000000000:=by
 have hd:=gcdL_dvd [N - p - q,p,q]
 have hgp : 0 < gcdL [N - p - q,p,q]:=Nat.pos_of_dvd_of_pos (hd p (by simp)) (by omega)
 have hone:=gcd_div hgp rfl
 generalize gcdL [N - p - q,p,q] = g at *
 have hg0 : (0 : Int) < (g : Int):=by omega
 have hq : ∀ v,g ∣ v.natAbs → v = (g : Int) * v.tdiv g:=fun v h=>(Int.mul_tdiv_cancel' (Int.ofNat_dvd_left.2 h)).symm
 have e0:=hq (N - p - q) (hd _ (by simp))
 have e1:=hq p (hd _ (by simp))
 have e2:=hq q (hd _ (by simp))
 generalize (N - p - q).tdiv g = v0 at *
 generalize p.tdiv g = v1 at *
 generalize q.tdiv g = v2 at *
 have k0 : N * (s - a - b) = (s * g) * v0:=by
  have : N * (s - a - b) = N * s - N * a - N * b:=by grind
  rw [this,h1,h2,show N * s - p * s - q * s = (N - p - q) * s by grind,e0]; grind
 have k1 : N * a = (s * g) * v1:=by rw [h1,e1]; grind
 have k2 : N * b = (s * g) * v2:=by rw [h2,e2]; grind
 obtain ⟨t,ht⟩:=dvd_of_gcd (N:=N) (k:=s * g) ⟨_,k0.symm⟩ ⟨_,k1.symm⟩ ⟨_,k2.symm⟩ hone
 have ht0 : t ≠ 0:=fun h=>by
  rw [h,Int.mul_zero] at ht
  rcases Int.mul_eq_zero.1 ht with h | h
  ·exact hs h
  ·omega
 have c0 : s - a - b = t * v0:=Int.eq_of_mul_eq_mul_left (by omega : N ≠ 0) (by rw [k0,ht]; grind)
 have c1 : a = t * v1:=Int.eq_of_mul_eq_mul_left (by omega : N ≠ 0) (by rw [k1,ht]; grind)
 have c2 : b = t * v2:=Int.eq_of_mul_eq_mul_left (by omega : N ≠ 0) (by rw [k2,ht]; grind)
 have le : ∀ v c : Int,c = t * v → v.natAbs ≤ c.natAbs:=fun v c h=>by
  rw [h,Int.natAbs_mul]
  exact Nat.le_mul_of_pos_left _ (by omega)
 have l0:=le v0 _ c0
 have l1:=le v1 _ c1
 have l2:=le v2 _ c2
 obtain ⟨⟨s1,s2⟩,⟨a1,a2⟩,b1,b2⟩:=hsm
 have r0 : v0 ≤ 1000000000000:=by omega
 have r1 : v1 ≤ 1000000000000:=by omega
 have r2 : v2 ≤ 1000000000000:=by omega
 intro v hv
 simp only [List.mem_cons,List.not_mem_nil,or_false] at hv
 have f : ∀ u r : Int,u = (g : Int) * r → u.tdiv g = r:=fun u r h=>by rw [h]; exact Int.mul_tdiv_cancel_left _ (by omega)
 rcases hv with rfl | rfl | rfl
 ·rw [f _ _ e0]; exact r0
 ·rw [f _ _ e1]; exact r1
 ·rw [f _ _ e2]; exact r2
theorem tdiv_le_of {v : Int} {g : Nat} {C : Int} (h : v ≤ C) (hC : 0 ≤ C) (hv : 0 < v) (hg : 0 < g) : v.tdiv g ≤ C:=by
 have h1 : (v.tdiv g).natAbs ≤ v.natAbs:=by rw [Int.natAbs_tdiv]; exact Nat.div_le_self _ _
 omega
theorem rpw_red : ∀ {pts : List Vc} {x : Vc} {ws : List Int},rpw pts x = some ws → (∀ p ∈ pts,shadeV p) → shadeV x → (∀ v ∈ ws,0 < v) → ∀ v ∈ ws,v.tdiv (gcdL ws : Nat) ≤ 1000000000000
 | [],_,_,h,_,_,_=>by cases h
 | [a],x,ws,h,_,_,hp=>by
  simp only [rpw] at h
  split at h <;> cases h
  intro v hv
  have h0:=hp v hv
  simp at hv; subst hv
  exact tdiv_le_of (by omega) (by omega) (by omega) (by decide)
 | [a,b],x,ws,h,hs,hx,hp=>by
  simp only [rpw] at h
  split at h <;> cases h
  intro v hv
  have h0:=hp v hv
  have hg:=Nat.pos_of_dvd_of_pos (gcdL_dvd _ v hv) (by omega)
  obtain ⟨u1,u2,u3⟩:=vb_sub (hs b (by simp)) (hs a (by simp))
  obtain ⟨x1,x2,x3⟩:=vb_sub hx (hs a (by simp))
  have b1:=ab_add (ab_add (ab_mul u1 u1) (ab_mul u2 u2)) (ab_mul u3 u3)
  have b2:=ab_add (ab_add (ab_mul u1 x1) (ab_mul u2 x2)) (ab_mul u3 x3)
  refine tdiv_le_of ?_ (by omega) h0 hg
  simp only [List.mem_cons,List.not_mem_nil,or_false] at hv
  unfold Vc.dot Vc.sub at hv
  dsimp only at hv
  unfold ab at b1 b2
  rcases hv with rfl | rfl <;> omega
 | [a,b,c],x,ws,h,hs,hx,hp=>by
  simp only [rpw] at h
  split at h
  ·rename_i hc
   cases h
   have hn:=hc.1
   have hxn : ((b.sub a).crs (c.sub a)).dot (x.sub a) = 0:=hc.2
   have hnv : ((b.sub a).crs (c.sub a)).dot (c.sub a) = 0:=by unfold Vc.dot Vc.crs; grind
   have hnu : ((b.sub a).crs (c.sub a)).dot (b.sub a) = 0:=by unfold Vc.dot Vc.crs; grind
   obtain ⟨p1,p2,p3⟩:=par_crs hxn hnv
   obtain ⟨q1,q2,q3⟩:=par_crs hnu hxn
   have hN : 0 < ((b.sub a).crs (c.sub a)).dot ((b.sub a).crs (c.sub a)):=dot_pos.2 (fun k=>hn (dot_zero.1 k))
   have hp0:=hp _ (show ((b.sub a).crs (c.sub a)).dot ((x.sub a).crs (c.sub a)) ∈ _ by simp)
   obtain ⟨u1,u2,u3⟩:=vb_sub (hs b (by simp)) (hs a (by simp))
   obtain ⟨v1,v2,v3⟩:=vb_sub (hs c (by simp)) (hs a (by simp))
   obtain ⟨x1,x2,x3⟩:=vb_sub hx (hs a (by simp))
   have cb : ∀ {a1 a2 b1 b2 : Int},ab 1000 a1 → ab 1000 a2 → ab 1000 b1 → ab 1000 b2 → ab 10000000 (a1 * b2 - a2 * b1):=fun h1 h2 h3 h4=>ab_mono (ab_sub (ab_mul h1 h4) (ab_mul h2 h3)) (by omega)
   by_cases n1 : ((b.sub a).crs (c.sub a)).x = 0
   ·by_cases n2 : ((b.sub a).crs (c.sub a)).y = 0
    ·by_cases n3 : ((b.sub a).crs (c.sub a)).z = 0
     ·exfalso
      apply hn
      generalize (b.sub a).crs (c.sub a) = n at *
      cases n; simp only at n1 n2 n3; rw [n1,n2,n3]
     ·exact small_three hN n3 p3 q3 hp0 ⟨cb u1 u2 v1 v2,cb x1 x2 v1 v2,cb u1 u2 x1 x2⟩
    ·exact small_three hN n2 p2 q2 hp0 ⟨cb u3 u1 v3 v1,cb x3 x1 v3 v1,cb u3 u1 x3 x1⟩
   ·exact small_three hN n1 p1 q1 hp0 ⟨cb u2 u3 v2 v3,cb x2 x3 v2 v3,cb u2 u3 x2 x3⟩
  ·cases h
 | [a,b,c,e],x,ws,h,hs,hx,hp=>by
  have det : ∀ {a1 a2 a3 x1 x2 x3 y1 y2 y3 : Int},ab 1000 a1 → ab 1000 a2 → ab 1000 a3 → ab 1000 x1 → ab 1000 x2 → ab 1000 x3 → ab 1000 y1 → ab 1000 y2 → ab 1000 y3 → ab 6000000000 (((⟨a1,a2,a3⟩ : Vc).crs ⟨x1,x2,x3⟩).dot ⟨y1,y2,y3⟩):=fun h1 h2 h3 h4 h5 h6 h7 h8 h9 =>
   ab_mono (ab_add (ab_add (ab_mul (ab_sub (ab_mul h2 h6) (ab_mul h3 h5)) h7) (ab_mul (ab_sub (ab_mul h3 h4) (ab_mul h1 h6)) h8)) (ab_mul (ab_sub (ab_mul h1 h5) (ab_mul h2 h4)) h9)) (by omega)
  obtain ⟨u1,u2,u3⟩:=vb_sub (hs b (by simp)) (hs a (by simp))
  obtain ⟨v1,v2,v3⟩:=vb_sub (hs c (by simp)) (hs a (by simp))
  obtain ⟨g1,g2,g3⟩:=vb_sub (hs e (by simp)) (hs a (by simp))
  obtain ⟨x1,x2,x3⟩:=vb_sub hx (hs a (by simp))
  have b0 : ab 6000000000 (((b.sub a).crs (c.sub a)).dot (e.sub a)):=det u1 u2 u3 v1 v2 v3 g1 g2 g3
  have b1 : ab 6000000000 (((x.sub a).crs (c.sub a)).dot (e.sub a)):=det x1 x2 x3 v1 v2 v3 g1 g2 g3
  have b2 : ab 6000000000 (((b.sub a).crs (x.sub a)).dot (e.sub a)):=det u1 u2 u3 x1 x2 x3 g1 g2 g3
  have b3 : ab 6000000000 (((b.sub a).crs (c.sub a)).dot (x.sub a)):=det u1 u2 u3 v1 v2 v3 x1 x2 x3
  simp only [rpw] at h
  generalize ((b.sub a).crs (c.sub a)).dot (e.sub a) = y at *
  generalize ((x.sub a).crs (c.sub a)).dot (e.sub a) = p at *
  generalize ((b.sub a).crs (x.sub a)).dot (e.sub a) = q at *
  generalize ((b.sub a).crs (c.sub a)).dot (x.sub a) = r at *
  unfold ab at b0 b1 b2 b3
  intro v hv
  have h0:=hp v hv
  have hg:=Nat.pos_of_dvd_of_pos (gcdL_dvd _ v hv) (by omega)
  refine tdiv_le_of ?_ (by omega) h0 hg
  split at h
  ·cases h
   simp only [List.mem_cons,List.not_mem_nil,or_false] at hv
   rcases hv with rfl | rfl | rfl | rfl <;> omega
  ·split at h
   ·cases h
    simp only [List.mem_cons,List.not_mem_nil,or_false] at hv
    rcases hv with rfl | rfl | rfl | rfl <;> omega
   ·cases h
 | _ :: _ :: _ :: _ :: _ :: _,_,_,h,_,_,_=>by cases h
end Go.Proofs.Ytkjceegmmhnajaa

namespace Go.Proofs.Ytkjceegmmhnajaa
open Go.RowKit

def slpC : List Vc → List Int → Option (Vc × Int)
 | [],[]=>some (⟨0,0,0⟩,1)
 | [d],[p]=>if d.x ≠ 0 then some (⟨p,0,0⟩,d.x) else if d.y ≠ 0 then some (⟨0,p,0⟩,d.y) else if d.z ≠ 0 then some (⟨0,0,p⟩,d.z) else none
 | [d,f],[p,q] =>
  if d.x * f.y - d.y * f.x ≠ 0 then some (⟨p * f.y - d.y * q,d.x * q - p * f.x,0⟩,d.x * f.y - d.y * f.x)
  else if d.x * f.z - d.z * f.x ≠ 0 then some (⟨p * f.z - d.z * q,0,d.x * q - p * f.x⟩,d.x * f.z - d.z * f.x)
  else if d.y * f.z - d.z * f.y ≠ 0 then some (⟨0,p * f.z - d.z * q,d.y * q - p * f.y⟩,d.y * f.z - d.z * f.y)
  else none
 | [d,f,g],[p,q,r]=>if (d.crs f).dot g ≠ 0 then some (⟨((⟨p,d.y,d.z⟩ : Vc).crs ⟨q,f.y,f.z⟩).dot ⟨r,g.y,g.z⟩,((⟨d.x,p,d.z⟩ : Vc).crs ⟨f.x,q,f.z⟩).dot ⟨g.x,r,g.z⟩,((⟨d.x,d.y,p⟩ : Vc).crs ⟨f.x,f.y,q⟩).dot ⟨g.x,g.y,r⟩⟩,(d.crs f).dot g) else none
 | _,_=>none
def SlE (r : Option (Vc × Int)) (w : World) (e : Ending) (w' : World) : Prop:=Below w.heap.size w w' ∧ ∃ (a b c d : Int) (ok : Bool),e = .returned (.tuple #[.agg #[.int .i64 a, .int .i64 b, .int .i64 c], .int .i64 d, .bool ok]) ∧ r = if ok = true then some (⟨a,b,c⟩,d) else none
abbrev vcA (a b c : Int) : Array Value:=#[.int .i64 a, .int .i64 b, .int .i64 c]

set_option maxRecDepth 100000 in
set_option maxHeartbeats 1000000 in
theorem slopes0 (A B : Option Addr) (c d : Nat) (w : World) : Calls Try.prog 76 #[.slice A 0 c, .slice B 0 d] w (SlE (slpC [] []) w):=by
 have k1 : Bk ((w.alloc (.cells (vcA 0 0 0) 84)).alloc (.cells (vcA 0 0 0) 84)) w.heap.size 84 (vcA 0 0 0):=(Bk.new _ _ _).alloc _
 have k2 : Bk ((w.alloc (.cells (vcA 0 0 0) 84)).alloc (.cells (vcA 0 0 0) 84)) (w.heap.size + 1) 84 (vcA 0 0 0):=by simpa using Bk.new (w.alloc (.cells (vcA 0 0 0) 84)) 84 (vcA 0 0 0)
 have hb : Below w.heap.size w ((w.alloc (.cells (vcA 0 0 0) 84)).alloc (.cells (vcA 0 0 0) 84)):=by exact (by repeat (first | with_reducible exact Below.refl _ _ | with_reducible assumption | with_reducible refine Below.drew ?_ | with_reducible refine below_drewN ?_ _ | (with_reducible refine Below.alloc ?_ ?_ _; rotate_left; (try simp) <;> omega) | (with_reducible refine Below.setCell ?_ ?_ _; rotate_left; (try simp) <;> omega)))
 obtain ⟨w2,hw2⟩ : ∃ v,v = (w.alloc (.cells (vcA 0 0 0) 84)).alloc (.cells (vcA 0 0 0) 84):=⟨_,rfl⟩
 rw [← hw2] at k1 k2 hb
 go_enter Try.func76,Try.ntmps76
 go_upto_region 2 with fail
 rw [← hw2]
 clear hw2
 have y0:=k2.cell 0 rfl
 have y1:=k2.cell 1 rfl
 have y2:=k2.cell 2 rfl
 have z0:=k1.cell 0 rfl
 have z1:=k1.cell 1 rfl
 have z2:=k1.cell 2 rfl
 have f0:=k1.fro 0
 have f1:=k1.fro 1
 have f2:=k1.fro 2
 go_wp2
 have g1:=((k1.set 0 (.int .i64 (0))).set 1 (.int .i64 (0))).set 2 (.int .i64 (0))
 have gb:=((hb.setCell (p:=⟨w.heap.size,0,none⟩) (Nat.le_refl _) (.int .i64 (0))).setCell (p:=⟨w.heap.size,1,none⟩) (Nat.le_refl _) (.int .i64 (0))).setCell (p:=⟨w.heap.size,2,none⟩) (Nat.le_refl _) (.int .i64 (0))
 have x0:=g1.cell 0 rfl
 have x1:=g1.cell 1 rfl
 have x2:=g1.cell 2 rfl
 generalize World.setCell _ _ _ = w9 at *
 refine bodyPost_ret (v:=.tuple #[.agg #[.int .i64 (0), .int .i64 (0), .int .i64 (0)], .int .i64 (1), .bool true]) (by simp [results,Try.results76,go_sem,x0,x1,x2]) rfl ⟨gb,_,_,_,_,true,rfl,rfl⟩

theorem idx_three (a b c : Int) : idxL notZero [a,b,c] = if a ≠ 0 then 0 else if b ≠ 0 then 1 else if c ≠ 0 then 2 else -1:=by
 unfold idxL notZero
 by_cases h1 : a = 0 <;> by_cases h2 : b = 0 <;> by_cases h3 : c = 0 <;> simp [List.findIdx?,List.findIdx?.go,h1,h2,h3]

set_option maxRecDepth 100000 in
set_option maxHeartbeats 2000000 in
theorem slopes1 (dv : Vc) (p : Int) (ad bp : Addr) (c d : Nat) (w : World) (h0 : vecAt w ad dv) (hb : ad.block < w.heap.size) (hp : w.cell? bp = some (.int .i64 p)) (hbp : bp.block < w.heap.size) : Calls Try.prog 76 #[.slice (some ad) 1 c, .slice (some bp) 1 d] w (SlE (slpC [dv] [p]) w):=by
 obtain ⟨d1,d2,d3⟩:=dv
 obtain ⟨q0,q1,q2⟩:=h0
 dsimp only at q0 q1 q2
 have k1 : Bk ((w.alloc (.cells (vcA 0 0 0) 84)).alloc (.cells (vcA 0 0 0) 84)) w.heap.size 84 (vcA 0 0 0):=(Bk.new _ _ _).alloc _
 have k2 : Bk ((w.alloc (.cells (vcA 0 0 0) 84)).alloc (.cells (vcA 0 0 0) 84)) (w.heap.size + 1) 84 (vcA 0 0 0):=by simpa using Bk.new (w.alloc (.cells (vcA 0 0 0) 84)) 84 (vcA 0 0 0)
 have hb2 : Below w.heap.size w ((w.alloc (.cells (vcA 0 0 0) 84)).alloc (.cells (vcA 0 0 0) 84)):=by exact (by repeat (first | with_reducible exact Below.refl _ _ | with_reducible assumption | with_reducible refine Below.drew ?_ | with_reducible refine below_drewN ?_ _ | (with_reducible refine Below.alloc ?_ ?_ _; rotate_left; (try simp) <;> omega) | (with_reducible refine Below.setCell ?_ ?_ _; rotate_left; (try simp) <;> omega)))
 obtain ⟨w2,hw2⟩ : ∃ v,v = (w.alloc (.cells (vcA 0 0 0) 84)).alloc (.cells (vcA 0 0 0) 84):=⟨_,rfl⟩
 rw [← hw2] at k1 k2 hb2
 have r0:=(hb2.cell hb).trans q0
 have r1:=(hb2.cell (p:=⟨ad.block,ad.off + 1,none⟩) hb).trans q1
 have r2:=(hb2.cell (p:=⟨ad.block,ad.off + 2,none⟩) hb).trans q2
 have rp:=(hb2.cell hbp).trans hp
 have hL : Lies w2 w2.heap.size (some ad) (ints [d1,d2,d3]):=fun _=>⟨ad,rfl,Nat.lt_of_lt_of_le hb hb2.size,fun j u hu=>by
  match j,hu with
  | 0,hu=>cases hu; have e0 : ad.add 0 = ad:=(by unfold Addr.add; simp); rw [e0]; exact r0
  | 1,hu=>cases hu; exact r1
  | 2,hu=>cases hu; exact r2⟩
 have HI:=Lib.hid (idx90 [d1,d2,d3] (some ad) 3 w2 hL (by simp))
 rw [idx_three] at HI
 have lad : ad.block ≠ w.heap.size ∧ ad.block ≠ w.heap.size + 1:=by omega
 have lbp : bp.block ≠ w.heap.size ∧ bp.block ≠ w.heap.size + 1:=by omega
 have HQ:=Lib.hid (And.intro q0 (And.intro q1 q2))
 clear q0 q1 q2 hp
 by_cases c1 : d1 ≠ 0
 ·rw [if_pos c1] at HI
  have HE : Hid (slpC [⟨d1,d2,d3⟩] [p] = some (⟨p,0,0⟩,d1)):=by show _ = _; simp only [slpC]; rw [if_pos c1]
  clear c1
  go_enter Try.func76,Try.ntmps76
  go_upto_region 3 with fail
  rw [← hw2]
  clear hw2
  have z0:=k2.cell 0 rfl
  have z1:=k2.cell 1 rfl
  have z2:=k2.cell 2 rfl
  have y0:=k2.fro 0
  have y1:=k2.fro 1
  have y2:=k2.fro 2
  go_wp2_with (go_at_call 89; refine HI.out.mono ?_; rintro e w3 ⟨rfl,rfl⟩)
  have m2:=k2.set 0 (.int .i64 p)
  have m1:=k1.far (p:=⟨w.heap.size + 1,0,none⟩) (by simp) (.int .i64 p)
  have mb:=hb2.setCell (p:=⟨w.heap.size + 1,0,none⟩) (by simp) (.int .i64 p)
  have mr:=(mb.cell (p:=ad) hb).trans HQ.out.1
  generalize w2.setCell ⟨w.heap.size + 1,0,none⟩ (.int .i64 p) = w4 at *
  clear z0 z1 z2 y0 y1 y2 k1 k2 r0 r1 r2 rp hL hb2
  refine wp_region_held_drew (S:=fun V=>(V.cell? ⟨w.heap.size + 1,0,none⟩ = some (.int .i64 p) ∧ V.cell? ⟨w.heap.size + 1,1,none⟩ = some (.int .i64 0) ∧ V.cell? ⟨w.heap.size + 1,2,none⟩ = some (.int .i64 0)) ∧ V.cell? ad = some (.int .i64 d1)) (by kernel_rfl) ⟨⟨m2.cell 0 rfl,m2.cell 1 rfl,m2.cell 2 rfl⟩,mr⟩ (fun hHeld=>?_)
  replace m1:=m1.drew
  replace m2:=m2.drew
  replace mb:=mb.drew
  clear mr
  generalize w4.drew = w5 at *
  refine tk 0 37 ?_
  refine tk 1 38 ?_
  refine tk 2 39 ?_
  refine tk 3 40 ?_
  refine tk 4 41 ?_
  refine tk 5 42 ?_
  have y0:=m1.cell 0 rfl
  have y1:=m1.cell 1 rfl
  have y2:=m1.cell 2 rfl
  have f0:=m1.fro 0
  have f1:=m1.fro 1
  have f2:=m1.fro 2
  refine held_one 6 ⟨none, .store 84 (.tmp 4) (.tmp 37),_,_,_,none⟩ rfl (by kernel_rfl) (by rfl) ?_
  unfold Oper.wp
  go_simp
  have g1:=((m1.set 0 (.int .i64 p)).set 1 (.int .i64 0)).set 2 (.int .i64 0)
  have gb:=((mb.setCell (p:=⟨w.heap.size,0,none⟩) (Nat.le_refl _) (.int .i64 p)).setCell (p:=⟨w.heap.size,1,none⟩) (Nat.le_refl _) (.int .i64 0)).setCell (p:=⟨w.heap.size,2,none⟩) (Nat.le_refl _) (.int .i64 0)
  have g2:=((m2.far (p:=⟨w.heap.size,0,none⟩) (by simp) (.int .i64 p)).far (p:=⟨w.heap.size,1,none⟩) (by simp) (.int .i64 0)).far (p:=⟨w.heap.size,2,none⟩) (by simp) (.int .i64 0)
  generalize World.setCell _ _ _ = w9 at *
  clear hHeld
  have hHeld:=And.intro (And.intro (g2.cell 0 rfl) (And.intro (g2.cell 1 rfl) (g2.cell 2 rfl))) ((gb.cell (p:=ad) hb).trans HQ.out.1)
  refine ⟨hHeld.2,?_⟩
  (try simp only [Act.put,List.setIfInBounds_toArray,List.set_cons_zero,List.set_cons_succ])
  refine tk 7 5 ?_
  refine tk 8 6 ?_
  refine wpAnyH_done (by kernel_rfl) ?_ _
  clear hHeld y0 y1 y2 f0 f1 f2
  go_wp2
  have x0:=g1.cell 0 rfl
  have x1:=g1.cell 1 rfl
  have x2:=g1.cell 2 rfl
  refine bodyPost_ret (v:=.tuple #[.agg #[.int .i64 p, .int .i64 0, .int .i64 0], .int .i64 d1, .bool true]) (by simp [results,Try.results76,go_sem,x0,x1,x2]) rfl ⟨gb,_,_,_,_,true,rfl,HE.out⟩
 ·rw [if_neg c1] at HI
  by_cases c2 : d2 ≠ 0
  ·rw [if_pos c2] at HI
   have HE : Hid (slpC [⟨d1,d2,d3⟩] [p] = some (⟨0,p,0⟩,d2)):=by show _ = _; simp only [slpC]; rw [if_neg c1,if_pos c2]
   clear c1 c2
   go_enter Try.func76,Try.ntmps76
   go_upto_region 3 with fail
   rw [← hw2]
   clear hw2
   have z0:=k2.cell 0 rfl
   have z1:=k2.cell 1 rfl
   have z2:=k2.cell 2 rfl
   have y0:=k2.fro 0
   have y1:=k2.fro 1
   have y2:=k2.fro 2
   go_wp2_with (go_at_call 89; refine HI.out.mono ?_; rintro e w3 ⟨rfl,rfl⟩)
   have m2:=k2.set 1 (.int .i64 p)
   have m1:=k1.far (p:=⟨w.heap.size + 1,1,none⟩) (by simp) (.int .i64 p)
   have mb:=hb2.setCell (p:=⟨w.heap.size + 1,1,none⟩) (by simp) (.int .i64 p)
   have mr:=(mb.cell (p:=⟨ad.block,ad.off + 1,none⟩) hb).trans HQ.out.2.1
   generalize w2.setCell ⟨w.heap.size + 1,1,none⟩ (.int .i64 p) = w4 at *
   clear z0 z1 z2 y0 y1 y2 k1 k2 r0 r1 r2 rp hL hb2
   refine wp_region_held_drew (S:=fun V=>(V.cell? ⟨w.heap.size + 1,0,none⟩ = some (.int .i64 0) ∧ V.cell? ⟨w.heap.size + 1,1,none⟩ = some (.int .i64 p) ∧ V.cell? ⟨w.heap.size + 1,2,none⟩ = some (.int .i64 0)) ∧ V.cell? ⟨ad.block,ad.off + 1,none⟩ = some (.int .i64 d2)) (by kernel_rfl) ⟨⟨m2.cell 0 rfl,m2.cell 1 rfl,m2.cell 2 rfl⟩,mr⟩ (fun hHeld=>?_)
   replace m1:=m1.drew
   replace m2:=m2.drew
   replace mb:=mb.drew
   clear mr
   generalize w4.drew = w5 at *
   refine tk 0 37 ?_
   refine tk 1 38 ?_
   refine tk 2 39 ?_
   refine tk 3 40 ?_
   refine tk 4 41 ?_
   refine tk 5 42 ?_
   have y0:=m1.cell 0 rfl
   have y1:=m1.cell 1 rfl
   have y2:=m1.cell 2 rfl
   have f0:=m1.fro 0
   have f1:=m1.fro 1
   have f2:=m1.fro 2
   refine held_one 6 ⟨none, .store 84 (.tmp 4) (.tmp 37),_,_,_,none⟩ rfl (by kernel_rfl) (by rfl) ?_
   unfold Oper.wp
   go_simp
   have g1:=((m1.set 0 (.int .i64 0)).set 1 (.int .i64 p)).set 2 (.int .i64 0)
   have gb:=((mb.setCell (p:=⟨w.heap.size,0,none⟩) (Nat.le_refl _) (.int .i64 0)).setCell (p:=⟨w.heap.size,1,none⟩) (Nat.le_refl _) (.int .i64 p)).setCell (p:=⟨w.heap.size,2,none⟩) (Nat.le_refl _) (.int .i64 0)
   have g2:=((m2.far (p:=⟨w.heap.size,0,none⟩) (by simp) (.int .i64 0)).far (p:=⟨w.heap.size,1,none⟩) (by simp) (.int .i64 p)).far (p:=⟨w.heap.size,2,none⟩) (by simp) (.int .i64 0)
   generalize World.setCell _ _ _ = w9 at *
   clear hHeld
   have hHeld:=And.intro (And.intro (g2.cell 0 rfl) (And.intro (g2.cell 1 rfl) (g2.cell 2 rfl))) ((gb.cell (p:=⟨ad.block,ad.off + 1,none⟩) hb).trans HQ.out.2.1)
   (try simp only [Act.put,List.setIfInBounds_toArray,List.set_cons_zero,List.set_cons_succ])
   refine tk 7 5 ?_
   refine tk 8 6 ?_
   refine wpAnyH_done (by kernel_rfl) ?_ _
   clear hHeld y0 y1 y2 f0 f1 f2
   go_wp2
   have x0:=g1.cell 0 rfl
   have x1:=g1.cell 1 rfl
   have x2:=g1.cell 2 rfl
   refine bodyPost_ret (v:=.tuple #[.agg #[.int .i64 0, .int .i64 p, .int .i64 0], .int .i64 d2, .bool true]) (by simp [results,Try.results76,go_sem,x0,x1,x2]) rfl ⟨gb,_,_,_,_,true,rfl,HE.out⟩
  ·rw [if_neg c2] at HI
   by_cases c3 : d3 ≠ 0
   ·rw [if_pos c3] at HI
    have HE : Hid (slpC [⟨d1,d2,d3⟩] [p] = some (⟨0,0,p⟩,d3)):=by show _ = _; simp only [slpC]; rw [if_neg c1,if_neg c2,if_pos c3]
    clear c1 c2 c3
    go_enter Try.func76,Try.ntmps76
    go_upto_region 3 with fail
    rw [← hw2]
    clear hw2
    have z0:=k2.cell 0 rfl
    have z1:=k2.cell 1 rfl
    have z2:=k2.cell 2 rfl
    have y0:=k2.fro 0
    have y1:=k2.fro 1
    have y2:=k2.fro 2
    go_wp2_with (go_at_call 89; refine HI.out.mono ?_; rintro e w3 ⟨rfl,rfl⟩)
    have m2:=k2.set 2 (.int .i64 p)
    have m1:=k1.far (p:=⟨w.heap.size + 1,2,none⟩) (by simp) (.int .i64 p)
    have mb:=hb2.setCell (p:=⟨w.heap.size + 1,2,none⟩) (by simp) (.int .i64 p)
    have mr:=(mb.cell (p:=⟨ad.block,ad.off + 2,none⟩) hb).trans HQ.out.2.2
    generalize w2.setCell ⟨w.heap.size + 1,2,none⟩ (.int .i64 p) = w4 at *
    clear z0 z1 z2 y0 y1 y2 k1 k2 r0 r1 r2 rp hL hb2
    refine wp_region_held_drew (S:=fun V=>(V.cell? ⟨w.heap.size + 1,0,none⟩ = some (.int .i64 0) ∧ V.cell? ⟨w.heap.size + 1,1,none⟩ = some (.int .i64 0) ∧ V.cell? ⟨w.heap.size + 1,2,none⟩ = some (.int .i64 p)) ∧ V.cell? ⟨ad.block,ad.off + 2,none⟩ = some (.int .i64 d3)) (by kernel_rfl) ⟨⟨m2.cell 0 rfl,m2.cell 1 rfl,m2.cell 2 rfl⟩,mr⟩ (fun hHeld=>?_)
    replace m1:=m1.drew
    replace m2:=m2.drew
    replace mb:=mb.drew
    clear mr
    generalize w4.drew = w5 at *
    refine tk 0 37 ?_
    refine tk 1 38 ?_
    refine tk 2 39 ?_
    refine tk 3 40 ?_
    refine tk 4 41 ?_
    refine tk 5 42 ?_
    have y0:=m1.cell 0 rfl
    have y1:=m1.cell 1 rfl
    have y2:=m1.cell 2 rfl
    have f0:=m1.fro 0
    have f1:=m1.fro 1
    have f2:=m1.fro 2
    refine held_one 6 ⟨none, .store 84 (.tmp 4) (.tmp 37),_,_,_,none⟩ rfl (by kernel_rfl) (by rfl) ?_
    unfold Oper.wp
    go_simp
    have g1:=((m1.set 0 (.int .i64 0)).set 1 (.int .i64 0)).set 2 (.int .i64 p)
    have gb:=((mb.setCell (p:=⟨w.heap.size,0,none⟩) (Nat.le_refl _) (.int .i64 0)).setCell (p:=⟨w.heap.size,1,none⟩) (Nat.le_refl _) (.int .i64 0)).setCell (p:=⟨w.heap.size,2,none⟩) (Nat.le_refl _) (.int .i64 p)
    have g2:=((m2.far (p:=⟨w.heap.size,0,none⟩) (by simp) (.int .i64 0)).far (p:=⟨w.heap.size,1,none⟩) (by simp) (.int .i64 0)).far (p:=⟨w.heap.size,2,none⟩) (by simp) (.int .i64 p)
    generalize World.setCell _ _ _ = w9 at *
    clear hHeld
    have hHeld:=And.intro (And.intro (g2.cell 0 rfl) (And.intro (g2.cell 1 rfl) (g2.cell 2 rfl))) ((gb.cell (p:=⟨ad.block,ad.off + 2,none⟩) hb).trans HQ.out.2.2)
    (try simp only [Act.put,List.setIfInBounds_toArray,List.set_cons_zero,List.set_cons_succ])
    refine tk 7 5 ?_
    refine tk 8 6 ?_
    refine wpAnyH_done (by kernel_rfl) ?_ _
    clear hHeld y0 y1 y2 f0 f1 f2
    go_wp2
    have x0:=g1.cell 0 rfl
    have x1:=g1.cell 1 rfl
    have x2:=g1.cell 2 rfl
    refine bodyPost_ret (v:=.tuple #[.agg #[.int .i64 0, .int .i64 0, .int .i64 p], .int .i64 d3, .bool true]) (by simp [results,Try.results76,go_sem,x0,x1,x2]) rfl ⟨gb,_,_,_,_,true,rfl,HE.out⟩
   ·rw [if_neg c3] at HI
    have HE : Hid (slpC [⟨d1,d2,d3⟩] [p] = none):=by show _ = _; simp only [slpC]; rw [if_neg c1,if_neg c2,if_neg c3]
    clear c1 c2 c3
    go_enter Try.func76,Try.ntmps76
    go_upto_region 3 with fail
    rw [← hw2]
    clear hw2
    have z0:=k2.cell 0 rfl
    have z1:=k2.cell 1 rfl
    have z2:=k2.cell 2 rfl
    have y0:=k1.cell 0 rfl
    have y1:=k1.cell 1 rfl
    have y2:=k1.cell 2 rfl
    have f0:=k1.fro 0
    have f1:=k1.fro 1
    have f2:=k1.fro 2
    go_wp2_with (go_at_call 89; refine HI.out.mono ?_; rintro e w3 ⟨rfl,rfl⟩)
    have g1:=((k1.set 0 (.int .i64 0)).set 1 (.int .i64 0)).set 2 (.int .i64 0)
    have gb:=((hb2.setCell (p:=⟨w.heap.size,0,none⟩) (Nat.le_refl _) (.int .i64 0)).setCell (p:=⟨w.heap.size,1,none⟩) (Nat.le_refl _) (.int .i64 0)).setCell (p:=⟨w.heap.size,2,none⟩) (Nat.le_refl _) (.int .i64 0)
    have x0:=g1.cell 0 rfl
    have x1:=g1.cell 1 rfl
    have x2:=g1.cell 2 rfl
    generalize World.setCell _ _ _ = w9 at *
    refine bodyPost_ret (v:=.tuple #[.agg #[.int .i64 0, .int .i64 0, .int .i64 0], .int .i64 0, .bool false]) (by simp [results,Try.results76,go_sem,x0,x1,x2]) rfl ⟨gb,_,_,_,_,false,rfl,HE.out⟩
end Go.Proofs.Ytkjceegmmhnajaa
