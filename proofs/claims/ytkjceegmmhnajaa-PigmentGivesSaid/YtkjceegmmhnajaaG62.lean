/- PigmentMixes: for every input the law returns true and changes no argument. No condition. -/
import Derived.IntWalk
import Derived.Deep.RegionHeld
import Derived.Deep.MidRow
import Derived.Test.YtkjceegmmhnajaaG54
import Derived.Test.YtkjceegmmhnajaaG61

set_option linter.unusedVariables false
set_option linter.unusedSimpArgs false

namespace Go.Proofs.Ytkjceegmmhnajaa
open Go.ChangeShapes Go.WideShapes Go.ChangeAt Go.RowKit Go.Deep

theorem Try.own : ownKnob Try.prog.godebug = none:=by kernel_rfl
theorem Try.laidOut : laidOutB Try.prog = true:=by kernel_rfl

section
variable {H : Type} {enc : TypeId × Value → H} {P : Program}
theorem post_of_below {f : Func} {s : ChangeSpec} {apart fresh handsOn again : Bool} {W W' : World} {args : Array Value} {v : Value} {ds gs : List (DataW H)} {before pa pv : List MemPlace}
  (hW : DataW.Whole enc P f.params.toList s.vars apart W args.toList ds gs before)
  (hres : ∀ (b : Nat) (sp : Nat → Bool) (hd : Bool),DataW.TrodAll enc P W' b sp hd f.resultTypes.toList (v.resultList f.resultTypes.size) (s.fn H (ds ++ gs)).results [])
  (hargs : ∀ sp : Nat → Bool,(∀ p ∈ before,sp p.block = true) → DataW.TrodAll enc P W' 0 sp true f.params.toList args.toList (s.fn H (ds ++ gs)).args pa)
  (hvars : ∀ sp : Nat → Bool,(∀ p ∈ before,sp p.block = true) → DataW.TrodVars enc P W' sp s.vars (s.fn H (ds ++ gs)).vars pv)
  (hps : before = pa ++ pv) (hb : Below W.heap.size W W')
  (hok : ∀ (j : Nat) (t : TypeId) (r : Value),f.resultTypes[j]? = some t → (v.resultList f.resultTypes.size)[j]? = some r → Value.okWide P W' .any 0 t r) :
  s.post enc P f apart fresh handsOn again W args v W':=by
 have hlt : ∀ p ∈ before,p.block < W.heap.size:=fun p hp=>hW.lt p hp
 have hold : ∀ p ∈ before,(fun b=>decide (b < W.heap.size)) p.block = true:=fun p hp=>by simpa using hlt p hp
 refine ⟨ds,gs,before,[],pa,pv,hW,hres _ _ _,hargs _ hold,hvars _ hold,World.keptBut_mono (fun p hp=>⟨hp,?_⟩) (hb.frame (· ∈ before)),fun _=>?_⟩
 ·rw [hps,List.mem_append] at hp
  exact Or.inr hp
 ·obtain ⟨_,_,_,_,_,hz,hn⟩:=hW
  refine ⟨hok,_,_,([] ++ pa) ++ pv,⟨[] ++ pa,pv,trodAll_append (hargs _ (fun _ _=>rfl)) (hres _ _ _),hvars _ (fun _ _=>rfl),rfl,?_,?_⟩,?_⟩
  ·intro b off hp
   have hin : MemPlace.cell b off ∈ before:=by rw [hps]; simpa using hp
   rw [hb.frozen (hlt _ hin)]
   exact hz b off hin
  ·intro ha
   have:=hn ha
   rw [hps] at this
   simpa using this
  ·intro p hp _
   rw [hps]
   simpa using hp
end

end Go.Proofs.Ytkjceegmmhnajaa

namespace Go.Proofs.Ytkjceegmmhnajaa
open Go.ChangeShapes Go.WideShapes Go.ChangeAt Go.RowKit Go.Deep

section
variable {H : Type} {enc : TypeId × Value → H} {W : World} {sp : Nat → Bool} {hd : Bool}
set_option maxRecDepth 100000 in
theorem open_want {v : Value} {r : Reach} {b0 : Nat} {d : DataW H} {p : List MemPlace} (hv : Value.okWide Try.prog W r b0 37 v) (h : DataW.Trod enc Try.prog W 0 sp hd 37 v d p) :
  ∃ x y z : Int,v = .agg #[.int .i64 x, .int .i64 y, .int .i64 z]:=by
 simp only [Value.okWide,Try.underlying37] at hv
 obtain ⟨cs,rfl,hsz,_⟩:=hv
 rw [cells37] at hsz
 obtain ⟨fuel,hf⟩:=h
 obtain ⟨cl⟩:=cs
 match cl,hsz with
 | [c0,c1,c2],_ =>
  simp only [Value.cells] at hf
  obtain ⟨z0,z1,z2,m,_,g0,g1,g2⟩:=trod_array3 Try.underlying37 cellsI3 hf
  obtain ⟨a,ha,_⟩:=DataW.trod_int Try.underlying3 g0
  obtain ⟨b,hb,_⟩:=DataW.trod_int Try.underlying3 g1
  obtain ⟨c,hc,_⟩:=DataW.trod_int Try.underlying3 g2
  cases ha; cases hb; cases hc
  exact ⟨a,b,c,rfl⟩

end
end Go.Proofs.Ytkjceegmmhnajaa

namespace Go.Proofs.Ytkjceegmmhnajaa
open Go.RowKit

structure Du where
 n0 : Int
 n1 : Int
 n2 : Int
 n3 : Int
 den : Int
abbrev Du.arr (d : Du) : Array Value:=#[.int .i64 d.n0, .int .i64 d.n1, .int .i64 d.n2, .int .i64 d.n3, .int .i64 d.den]
abbrev Du.agg (d : Du) : Value:=.agg d.arr
def atD (d : Du) (a b c : Int) : Int:=d.n0 + (d.n1 * a + d.n2 * b + d.n3 * c)
def numOk (n : Int) : Prop:=-1000000000000000 ≤ n ∧ n ≤ 1000000000000000
def okDu (d : Du) : Prop:=numOk d.n0 ∧ numOk d.n1 ∧ numOk d.n2 ∧ numOk d.n3 ∧ 1 ≤ d.den ∧ d.den ≤ 1000000000000
def shIn (a b c : Int) : Prop:=(0 ≤ a ∧ a ≤ 1000) ∧ (0 ≤ b ∧ b ≤ 1000) ∧ 0 ≤ c ∧ c ≤ 1000
theorem num_mul {n a : Int} (h : numOk n) (k : 0 ≤ a ∧ a ≤ 1000) : -1000000000000000000 ≤ n * a ∧ n * a ≤ 1000000000000000000:=by
 have h1 : ab 1000000000000000 n:=⟨by have:=h.1; omega,by have:=h.2; omega⟩
 have h2 : ab 1000 a:=⟨by omega,by omega⟩
 have:=ab_mul h1 h2
 unfold ab at this
 omega
theorem atD_bound {d : Du} {a b c : Int} (h : okDu d) (k : shIn a b c) : -3001000000000000000 ≤ atD d a b c ∧ atD d a b c ≤ 3001000000000000000:=by
 have h1:=num_mul h.2.1 k.1
 have h2:=num_mul h.2.2.1 k.2.1
 have h3:=num_mul h.2.2.2.1 k.2.2
 have h0:=h.1
 unfold numOk at h0
 unfold atD
 omega
theorem den_mul {d : Du} {p : Int} (h : okDu d) (k : 0 ≤ p ∧ p ≤ 10000) : 0 ≤ d.den * p ∧ d.den * p ≤ 10000000000000000:=mul_bound _ _ h.2.2.2.2.1 h.2.2.2.2.2 k.1 k.2

set_option maxHeartbeats 1000000 in
theorem at_any (d : Du) (a b c : Int) (w : World) (h : okDu d) (k : shIn a b c) :
  Calls Try.prog 43 #[d.agg, .agg #[.int .i64 a, .int .i64 b, .int .i64 c]] w (IntEnd (atD d a b c) w):=by
 have h1:=num_mul h.2.1 k.1
 have h2:=num_mul h.2.2.1 k.2.1
 have h3:=num_mul h.2.2.2.1 k.2.2
 have h0:=h.1
 unfold numOk at h0
 obtain ⟨n0,n1,n2,n3,den⟩:=d
 dsimp only at *
 have HT:=Lib.hid (fun W=>times_any n1 n2 n3 a b c W (by unfold bigP; omega) (by unfold bigP; omega) (by unfold bigP; omega))
 have HV : Hid (n0 + (n1 * a + n2 * b + n3 * c) = atD ⟨n0,n1,n2,n3,den⟩ a b c):=rfl
 obtain ⟨v,hv⟩ : ∃ v,v = n1 * a + n2 * b + n3 * c:=⟨_,rfl⟩
 have hvb : -3000000000000000000 ≤ v ∧ v ≤ 3000000000000000000:=by omega
 rw [← hv] at HT HV
 have HK : Hid (∀ W,Below (w.heap.size + 1 + 1) ((w.alloc (.cells #[.int .i64 n0, .int .i64 n1, .int .i64 n2, .int .i64 n3, .int .i64 den] 44)).alloc (.cells #[.int .i64 a, .int .i64 b, .int .i64 c] 84)) W → W.cell? ⟨w.heap.size,0,none⟩ = some (.int .i64 n0) ∧ W.cell? ⟨w.heap.size,1,none⟩ = some (.int .i64 n1) ∧ W.cell? ⟨w.heap.size,2,none⟩ = some (.int .i64 n2) ∧ W.cell? ⟨w.heap.size,3,none⟩ = some (.int .i64 n3) ∧ W.cell? ⟨w.heap.size + 1,0,none⟩ = some (.int .i64 a) ∧ W.cell? ⟨w.heap.size + 1,1,none⟩ = some (.int .i64 b) ∧ W.cell? ⟨w.heap.size + 1,2,none⟩ = some (.int .i64 c)):=fun W hW=>by
  have k0:=((Bk.new w 44 #[.int .i64 n0, .int .i64 n1, .int .i64 n2, .int .i64 n3, .int .i64 den]).alloc (.cells #[.int .i64 a, .int .i64 b, .int .i64 c] 84)).below hW (by omega)
  have k1:=(Bk.new (w.alloc (.cells #[.int .i64 n0, .int .i64 n1, .int .i64 n2, .int .i64 n3, .int .i64 den] 44)) 84 #[.int .i64 a, .int .i64 b, .int .i64 c]).below hW (by simp)
  rw [World.size_alloc] at k1
  exact ⟨k0.cell 0 rfl,k0.cell 1 rfl,k0.cell 2 rfl,k0.cell 3 rfl,k1.cell 0 rfl,k1.cell 1 rfl,k1.cell 2 rfl⟩
 have W1 : Hid (IntKind.i64.wrap (n0 + v) = n0 + v):=IntWalk.i64_in _ (by omega)
 clear h k h1 h2 h3 hv
 go_enter Try.func43,Try.ntmps43
 go_wp2
 go_region_held3 (fun w'=>w'.cell? ⟨w.heap.size,0,none⟩ = some (.int .i64 n0) ∧ w'.cell? ⟨w.heap.size,1,none⟩ = some (.int .i64 n1) ∧ w'.cell? ⟨w.heap.size,2,none⟩ = some (.int .i64 n2) ∧ w'.cell? ⟨w.heap.size,3,none⟩ = some (.int .i64 n3) ∧ w'.cell? ⟨w.heap.size + 1,0,none⟩ = some (.int .i64 a) ∧ w'.cell? ⟨w.heap.size + 1,1,none⟩ = some (.int .i64 b) ∧ w'.cell? ⟨w.heap.size + 1,2,none⟩ = some (.int .i64 c))
  (first | go_keep | (refine ⟨?_,?_,?_,?_,?_,?_,?_⟩ <;> first | assumption | go_keep))
  (first | (go_at_call 46; refine (HT.out _).mono ?_; rintro e w1 ⟨rfl,hb⟩; obtain ⟨q0,q1,q2,q3,q4,q5,q6⟩:=HK.out w1 (Below.trans bw (hb.mono (by first | omega | (simp; omega) | simp)))))
 all_goals
  (try rw [W1.out])
  go_wp2
  go_ret
  exact int_end HV.out (Below.trans bw (hb.mono (by first | omega | (simp; omega) | simp)))

def over (d : Du) (t : Tn) : Bool:=decide (d.den * t.price < atD d t.a t.b t.c)
set_option maxHeartbeats 1000000 in
theorem below1_any (t : Tn) (d : Du) (g : Nat) (w : World) (hg : Bk w g 44 d.arr) (h : okDu d) (ht : shIn t.a t.b t.c) (hp : 0 ≤ t.price ∧ t.price ≤ 10000) :
  Calls Try.prog 78 #[t.agg, .pointer (some ⟨g,0,none⟩)] w (ShEnd (over d t) w):=by
 have HA:=Lib.hid (fun W=>at_any d t.a t.b t.c W h ht)
 have hm:=den_mul h hp
 have HO : Hid (over d t = decide (d.den * t.price < atD d t.a t.b t.c)):=rfl
 have hv:=atD_bound h ht
 generalize atD d t.a t.b t.c = v at *
 obtain ⟨n0,n1,n2,n3,den⟩:=d
 obtain ⟨nm,a,b,c,p⟩:=t
 dsimp only at *
 have l0:=hg.lt
 have c0:=hg.cell 0 rfl
 have c1:=hg.cell 1 rfl
 have c2:=hg.cell 2 rfl
 have c3:=hg.cell 3 rfl
 have c4:=hg.cell 4 rfl
 generalize over ⟨n0,n1,n2,n3,den⟩ ⟨nm,a,b,c,p⟩ = r at *
 have HK : Hid (∀ W,Below (w.heap.size + 1) (w.alloc (.cells #[.string nm, .int .i64 a, .int .i64 b, .int .i64 c, .int .i64 p] 39)) W → W.cell? ⟨g,0,none⟩ = some (.int .i64 n0) ∧ W.cell? ⟨g,1,none⟩ = some (.int .i64 n1) ∧ W.cell? ⟨g,2,none⟩ = some (.int .i64 n2) ∧ W.cell? ⟨g,3,none⟩ = some (.int .i64 n3) ∧ W.cell? ⟨g,4,none⟩ = some (.int .i64 den) ∧ W.cell? ⟨w.heap.size,1,none⟩ = some (.int .i64 a) ∧ W.cell? ⟨w.heap.size,2,none⟩ = some (.int .i64 b) ∧ W.cell? ⟨w.heap.size,3,none⟩ = some (.int .i64 c) ∧ W.cell? ⟨w.heap.size,4,none⟩ = some (.int .i64 p)):=fun W hW=>by
  have k0:=(hg.alloc (.cells #[.string nm, .int .i64 a, .int .i64 b, .int .i64 c, .int .i64 p] 39)).below hW (by omega)
  have k1:=(Bk.new w 39 #[.string nm, .int .i64 a, .int .i64 b, .int .i64 c, .int .i64 p]).below hW (by omega)
  exact ⟨k0.cell 0 rfl,k0.cell 1 rfl,k0.cell 2 rfl,k0.cell 3 rfl,k0.cell 4 rfl,k1.cell 1 rfl,k1.cell 2 rfl,k1.cell 3 rfl,k1.cell 4 rfl⟩
 have W1 : Hid (IntKind.i64.wrap (den * p) = den * p):=IntWalk.i64_in _ (by omega)
 clear hg h ht
 go_enter Try.func78,Try.ntmps78
 go_wp2
 go_region_held3 (fun w'=>w'.cell? ⟨g,0,none⟩ = some (.int .i64 n0) ∧ w'.cell? ⟨g,1,none⟩ = some (.int .i64 n1) ∧ w'.cell? ⟨g,2,none⟩ = some (.int .i64 n2) ∧ w'.cell? ⟨g,3,none⟩ = some (.int .i64 n3) ∧ w'.cell? ⟨g,4,none⟩ = some (.int .i64 den) ∧ w'.cell? ⟨w.heap.size,1,none⟩ = some (.int .i64 a) ∧ w'.cell? ⟨w.heap.size,2,none⟩ = some (.int .i64 b) ∧ w'.cell? ⟨w.heap.size,3,none⟩ = some (.int .i64 c) ∧ w'.cell? ⟨w.heap.size,4,none⟩ = some (.int .i64 p))
  (first | go_keep | (refine ⟨?_,?_,?_,?_,?_,?_,?_,?_,?_⟩ <;> first | assumption | go_keep))
  (first | (go_at_call 43; refine (HA.out _).mono ?_; rintro e w1 ⟨rfl,hb⟩; obtain ⟨q0,q1,q2,q3,q4,q5,q6,q7,q8⟩:=HK.out w1 (Below.trans bw (hb.mono (by first | omega | (simp; omega) | simp)))))
 all_goals
  (try rw [W1.out])
  go_wp2
  go_ret
  exact sh_ret (by rw [HO.out]) (Below.trans bw (hb.mono (by first | omega | (simp; omega) | simp)))

set_option maxHeartbeats 400000 in
theorem idxT78 (p : Tn → Bool) (l : List Tn) (A : Option Addr) (c : Nat) (w : World) (g : Nat) (hl : Lies w w.heap.size A (tintsC l)) (hm : l.length ≤ 1000)
  (hp : Hid (∀ t ∈ l,∀ W : World,Below w.heap.size w W → Calls Try.prog 78 (#[t.agg] ++ #[.pointer (some ⟨g,0,none⟩)]) W (ShEnd (p t) W))) :
  Calls Try.prog 79 #[.slice A l.length c, .func (.func 78) #[] #[.pointer (some ⟨g,0,none⟩)]] w fun e w'=>e = .returned (.int .i64 (idxL p l)) ∧ Below w.heap.size w w':=by
 go_enter Try.func79,Try.ntmps79
 go_wp2
 go_loopw [8] (fun y wr=>∃ k : Nat,k ≤ l.length ∧ y = .int .i64 k ∧ Hid (∀ j (hj : j < k) (h' : j < l.length),p l[j] = false) ∧ Below w.heap.size w wr) (fun y _=>l.length - (intOf y).toNat)
 case atStart=>exact ⟨0,by omega,rfl,fun j hj=>absurd hj (by omega),Below.refl _ _⟩
 case round =>
  obtain ⟨k,hk,rfl,hg,hbw⟩:=hrel
  have hbs:=hbw.size
  by_cases hlt : k < l.length
  ·obtain ⟨ad,rfl,_,c0,c1,c2,c3,c4⟩:=tint_at (hl.below hbw (Nat.le_refl _)) hlt
   have HC:=Lib.hid (hp.out l[k] (List.getElem_mem hlt))
   clear hl
   by_cases h0 : p l[k] = true
   ·have H : Hid (idxL p l = (k : Int)):=by
     have:=idxL_drop p l k hk hg.out (.inr ⟨hlt,h0⟩)
     rw [if_pos hlt] at this; exact this
    have H0:=Lib.hid h0; clear h0
    go_wp2_with (go_at_call 78; refine (HC.out _ (by exact bw)).mono ?_; rintro e w1 ⟨rfl,hb⟩; rw [H0.out])
    go_ret
    exact ⟨ret_int H.out.symm,hbw.trans (hb.mono (by omega))⟩
   ·have h0' : p l[k] = false:=by simpa using h0
    have H : Hid (∀ j (hj : j < k + 1) (h' : j < l.length),p l[j] = false):=fun j hj h'=>by
     by_cases e : j = k
     ·subst e; exact h0'
     ·exact hg.out j (by omega) h'
    have H0:=Lib.hid h0'; clear h0 h0'
    go_wp2_with (go_at_call 78; refine (HC.out _ (by exact bw)).mono ?_; rintro e w1 ⟨rfl,hb⟩; rw [H0.out])
    go_roundw
    case rel=>exact ⟨k + 1,by omega,by go_num,H,hbw.trans (hb.mono (by omega))⟩
    case measure=>simp [intOf]; omega
  ·obtain rfl : k = l.length:=by omega
   have H : Hid (idxL p l = -1):=by
    have:=idxL_drop p l _ hk hg.out (.inl rfl)
    rw [if_neg (by omega)] at this; exact this
   go_wp2
   go_ret
   exact ⟨ret_int H.out.symm,hbw⟩
set_option maxHeartbeats 400000 in
theorem anyT78 (p : Tn → Bool) (l : List Tn) (A : Option Addr) (c : Nat) (w : World) (g : Nat) (hl : Lies w w.heap.size A (tintsC l)) (hm : l.length ≤ 1000)
  (hp : Hid (∀ t ∈ l,∀ W : World,Below w.heap.size w W → Calls Try.prog 78 (#[t.agg] ++ #[.pointer (some ⟨g,0,none⟩)]) W (ShEnd (p t) W))) :
  Calls Try.prog 47 #[.slice A l.length c, .func (.func 78) #[] #[.pointer (some ⟨g,0,none⟩)]] w (ShEnd (l.any p) w):=by
 have HE:=Lib.hid (idxL_dec p l)
 go_enter Try.func47,Try.ntmps47
 go_wp2_with (go_at_call 79; refine (idxT78 p l _ _ _ g  hl hm hp).mono ?_; rintro e w1 ⟨rfl,hb⟩)
 go_ret
 exact sh_ret HE.out hb


def belowB (d : Du) (l : List Tn) : Bool:=!(l.any (over d))
set_option maxHeartbeats 400000 in
theorem below_any (d : Du) (l : List Tn) (A : Option Addr) (c : Nat) (w : World) (hl : Lies w w.heap.size A (tintsC l)) (hm : l.length ≤ 1000) (h : okDu d) (ht : ∀ t ∈ l,offTint t = false) :
  Calls Try.prog 41 #[.slice A l.length c,d.agg] w (ShEnd (belowB d l) w):=by
 have HX:=Lib.hid (fun (W : World) (hb : Below w.heap.size w W) (hk : Bk W w.heap.size 44 d.arr)=>anyT78 (over d) l A c W w.heap.size ((hl.below hb (Nat.le_refl _)).more hb.size) hm (show Hid _ from fun t hmem W' hb'=>by
  obtain ⟨_,ha,hb2,hc,hp⟩:=offTint_no (ht t hmem)
  exact below1_any t d w.heap.size W' (hk.below hb' hk.lt) h ⟨ha,hb2,hc⟩ hp))
 have HB : Hid (belowB d l = !(l.any (over d))):=rfl
 generalize belowB d l = r at *
 generalize l.any (over d) = q at *
 obtain ⟨n0,n1,n2,n3,den⟩:=d
 clear hl h ht
 go_enter Try.func41,Try.ntmps41
 go_wp2_with (go_at_call 47; refine (HX.out _ bw (Bk.new _ _ _)).mono ?_; rintro e w1 ⟨rfl,hb⟩)
 go_ret
 exact sh_ret HB.out.symm (Below.trans bw (hb.mono (by simp)))

/-! the shade of a recipe is a wanted one -/
def giveB (l : List Tn) (ps : List Pt) (x y z : Int) : Bool:=((shF l ps 0).1 == x && (shF l ps 0).2 == 1) && (((shF l ps 1).1 == y && (shF l ps 1).2 == 1) && ((shF l ps 2).1 == z && (shF l ps 2).2 == 1))
set_option maxHeartbeats 1000000 in
theorem gives_any (l : List Tn) (ps : List Pt) (x y z : Int) (At A : Option Addr) (ct c : Nat) (w : World) (hlt : Lies w w.heap.size At (tintsC l)) (hl : Lies w w.heap.size A (partsC ps)) (hm : ps.length ≤ 4) (hm2 : l.length ≤ 1000) (hn : 1 ≤ ps.length)
  (hps : goodP l.length ps) (hf : ∀ j,∀ t ∈ l,0 ≤ sel j t ∧ sel j t ≤ 10000) :
  Calls Try.prog 53 #[.slice At l.length ct, .agg #[.slice A ps.length c], .agg #[.int .i64 x, .int .i64 y, .int .i64 z]] w (ShEnd (giveB l ps x y z) w):=by
 have HS:=Lib.hid (fun W (hb : Below w.heap.size w W)=>shade_any l ps At A ct c W ((hlt.below hb (Nat.le_refl _)).more hb.size) ((hl.below hb (Nat.le_refl _)).more hb.size) hm hm2 hn hps hf)
 have HG : Hid (giveB l ps x y z = (((shF l ps 0).1 == x && (shF l ps 0).2 == 1) && (((shF l ps 1).1 == y && (shF l ps 1).2 == 1) && ((shF l ps 2).1 == z && (shF l ps 2).2 == 1)))):=rfl
 generalize giveB l ps x y z = r at *
 generalize shF l ps = F at *
 clear hlt hl hps hf
 have HK : Hid (∀ W,Below (w.heap.size + 1 + 1) ((w.alloc (.cells #[.slice A ps.length c] 25)).alloc (.cells #[.int .i64 x, .int .i64 y, .int .i64 z] 37)) W → W.cell? ⟨w.heap.size,0,none⟩ = some (.slice A ps.length c) ∧ W.cell? ⟨w.heap.size + 1,0,none⟩ = some (.int .i64 x) ∧ W.cell? ⟨w.heap.size + 1,1,none⟩ = some (.int .i64 y) ∧ W.cell? ⟨w.heap.size + 1,2,none⟩ = some (.int .i64 z)):=fun W hW=>by
  have k0:=((Bk.new w 25 #[.slice A ps.length c]).alloc (.cells #[.int .i64 x, .int .i64 y, .int .i64 z] 37)).below hW (by omega)
  have k1:=(Bk.new (w.alloc (.cells #[.slice A ps.length c] 25)) 37 #[.int .i64 x, .int .i64 y, .int .i64 z]).below hW (by simp)
  rw [World.size_alloc] at k1
  exact ⟨k0.cell 0 rfl,k1.cell 0 rfl,k1.cell 1 rfl,k1.cell 2 rfl⟩
 have E30:=fun w=>eq30 (F 0).1 (F 0).2 (F 1).1 (F 1).2 (F 2).1 (F 2).2 x 1 y 1 z 1 w
 go_enter Try.func53,Try.ntmps53
 go_wp2
 go_region_held3 (fun w'=>w'.cell? ⟨w.heap.size,0,none⟩ = some (.slice A ps.length c) ∧ w'.cell? ⟨w.heap.size + 1,0,none⟩ = some (.int .i64 x) ∧ w'.cell? ⟨w.heap.size + 1,1,none⟩ = some (.int .i64 y) ∧ w'.cell? ⟨w.heap.size + 1,2,none⟩ = some (.int .i64 z))
  (first | go_keep | (refine ⟨?_,?_,?_,?_⟩ <;> first | assumption | go_keep))
  (first | (go_at_call 30; refine (HS.out _ bw).mono ?_; rintro e w1 ⟨rfl,hb⟩; obtain ⟨q0,q1,q2,q3⟩:=HK.out w1 (Below.trans bw (hb.mono (by first | omega | (simp; omega) | simp)))))
 all_goals
  go_wp2
  go_ret
  exact sh_ret HG.out.symm (Below.trans bw (hb.mono (by first | omega | (simp; omega) | simp)))

/-! the reference's test -/
def rgiveB (l : List Tn) (ps : List Pt) (x y z : Int) : Bool:=decide (wsum (sel 0) l ps = x * wall ps) && (decide (wsum (sel 1) l ps = y * wall ps) && decide (wsum (sel 2) l ps = z * wall ps))
theorem lowest_one (s n x : Int) (hn : 1 ≤ n) : ((lowest s n).1 == x && (lowest s n).2 == 1) = decide (s = x * n):=by
 rw [Bool.eq_iff_iff,Bool.and_eq_true,beq_iff_eq,beq_iff_eq,decide_eq_true_iff]
 unfold lowest
 dsimp only
 have hg1 : ((Int.gcd s n : Nat) : Int) ∣ s:=Int.gcd_dvd_left ..
 have hg2 : ((Int.gcd s n : Nat) : Int) ∣ n:=Int.gcd_dvd_right ..
 have hgp : 1 ≤ ((Int.gcd s n : Nat) : Int):=gcd_pos_right s n hn
 have hrev : s = x * n → ((Int.gcd s n : Nat) : Int) = n:=fun h =>
  Int.le_antisymm (Int.le_of_dvd (by omega) hg2) (Int.le_of_dvd (by omega) (Int.dvd_coe_gcd ⟨x,by rw [h,Int.mul_comm]⟩ (Int.dvd_refl n)))
 generalize ((Int.gcd s n : Nat) : Int) = g at *
 constructor
 ·rintro ⟨h1,h2⟩
  obtain ⟨u,hu⟩:=hg1
  obtain ⟨v,hv⟩:=hg2
  rw [hu,Int.mul_tdiv_cancel_left _ (by omega)] at h1
  rw [hv,Int.mul_tdiv_cancel_left _ (by omega)] at h2
  rw [hu,hv,h1,h2,Int.mul_one,Int.mul_comm]
 ·intro h
  rw [hrev h,h,Int.mul_tdiv_cancel _ (by omega),Int.tdiv_self (by omega)]
  exact ⟨rfl,rfl⟩
theorem give_same {l : List Tn} {ps : List Pt} {x y z : Int} (hn : 1 ≤ wall ps) : giveB l ps x y z = rgiveB l ps x y z:=by
 unfold giveB rgiveB shF
 rw [lowest_one _ _ _ hn,lowest_one _ _ _ hn,lowest_one _ _ _ hn]
theorem shIn_of {x y z : Int} (h : shadeB x y z = true) : shIn x y z:=by
 unfold shadeB inShade at h
 simp only [Bool.and_eq_true,decide_eq_true_iff] at h
 exact ⟨h.1.1,h.1.2,h.2⟩
end Go.Proofs.Ytkjceegmmhnajaa

namespace Go.Proofs.Ytkjceegmmhnajaa
open Go.RowKit

structure Pl where
 n1 : Int
 n2 : Int
 n3 : Int
 c : Int
abbrev Pl.arr (p : Pl) : Array Value:=#[.int .i64 p.n1, .int .i64 p.n2, .int .i64 p.n3, .int .i64 p.c]
abbrev Pl.agg (p : Pl) : Value:=.agg p.arr
def B2 (w : World) (b : Nat) (x y z : Int) (p : Pl) : Prop:=Bk w b 37 #[.int .i64 x, .int .i64 y, .int .i64 z] ∧ Bk w (b + 1) 51 p.arr
section
variable {w w' : World} {b : Nat} {x y z : Int} {p : Pl}
theorem B2.new (w : World) : B2 ((w.alloc (.cells #[.int .i64 x, .int .i64 y, .int .i64 z] 37)).alloc (.cells p.arr 51)) w.heap.size x y z p:=by
 have h2:=Bk.new (w.alloc (.cells #[.int .i64 x, .int .i64 y, .int .i64 z] 37)) 51 p.arr
 rw [World.size_alloc] at h2
 exact ⟨(Bk.new w 37 _).alloc _,h2⟩
theorem B2.lt (h : B2 w b x y z p) : b + 1 < w.heap.size:=h.2.lt
theorem B2.below {B : Nat} (h : B2 w b x y z p) (hb : Below B w w') (hB : b + 1 < B) : B2 w' b x y z p:=⟨h.1.below hb (by omega),h.2.below hb hB⟩
theorem B2.alloc (h : B2 w b x y z p) (o : Obj) : B2 (w.alloc o) b x y z p:=⟨h.1.alloc o,h.2.alloc o⟩
theorem B2.facts (h : B2 w b x y z p) : (b < w.heap.size ∧ b + 1 < w.heap.size) ∧ (w.cell? ⟨b,0,none⟩ = some (.int .i64 x) ∧ w.cell? ⟨b,1,none⟩ = some (.int .i64 y) ∧ w.cell? ⟨b,2,none⟩ = some (.int .i64 z)) ∧
  w.cell? ⟨b + 1,0,none⟩ = some (.int .i64 p.n1) ∧ w.cell? ⟨b + 1,1,none⟩ = some (.int .i64 p.n2) ∧ w.cell? ⟨b + 1,2,none⟩ = some (.int .i64 p.n3) ∧ w.cell? ⟨b + 1,3,none⟩ = some (.int .i64 p.c):=by
 have:=h.lt
 exact ⟨⟨by omega,by omega⟩,⟨h.1.cell 0 rfl,h.1.cell 1 rfl,h.1.cell 2 rfl⟩,h.2.cell 0 rfl,h.2.cell 1 rfl,h.2.cell 2 rfl,h.2.cell 3 rfl⟩
end
end Go.Proofs.Ytkjceegmmhnajaa

namespace Go.Proofs.Ytkjceegmmhnajaa

section
variable {P : Program} {ops : Array Oper} {Q : Exit → Act → World → Prop} {S : World → Prop} {fuel : Nat} {listed : Array Bool} {a : Act} {w : World}
theorem held_skip (i : Nat) (d : Option Tmp) (hd : (ops[i]?).map (fun o=>o.dst) = some d) (hs : Region.noSelect ops = true) (hf : Region.free .any ops listed i = true) (hr : (Region.ready .any ops listed).contains i = true)
  (hw : (ops[i]?).map (fun o=>Region.wanted o (yielded ops a.tmps)) = some false) (hQ : ∀ c a w,Q (.panic c) (a.put d undef) w → Q (.panic c) a w) (hS : S w)
  (h : wpAnyH P .any ops Q S fuel (listed.setIfInBounds i true) (a.put d undef) w) : wpAnyH P .any ops Q S (fuel + 1) listed a w:=by
 obtain ⟨o,ho⟩ : ∃ o,ops[i]? = some o:=by
  cases hx : ops[i]? with
  | none=>rw [hx] at hd; cases hd
  | some o=>exact ⟨o,rfl⟩
 rw [ho] at hd hw
 obtain rfl : o.dst = d:=Option.some.inj hd
 exact wpAnyH_take ho hs hf hr hQ (.inr ⟨Option.some.inj hw,rfl⟩) hS h
theorem held_take (i : Nat) (d : Option Tmp) (v : Value) (hd : (ops[i]?).map (fun o=>o.dst) = some d) (hs : Region.noSelect ops = true) (hf : Region.free .any ops listed i = true) (hr : (Region.ready .any ops listed).contains i = true)
  (hw : (ops[i]?).map (fun o=>Region.wanted o (yielded ops a.tmps)) = some true) (hQ : ∀ c a w,Q (.panic c) (a.put d v) w → Q (.panic c) a w) (hS : S w)
  (hy : ∀ w,S w → (ops[i]?).map (fun o=>(execOp a.eval o).run P w) = some (.ok (.value v) w))
  (h : wpAnyH P .any ops Q S fuel (listed.setIfInBounds i true) (a.put d v) w) : wpAnyH P .any ops Q S (fuel + 1) listed a w:=by
 obtain ⟨o,ho⟩ : ∃ o,ops[i]? = some o:=by
  cases hx : ops[i]? with
  | none=>rw [hx] at hd; cases hd
  | some o=>exact ⟨o,rfl⟩
 rw [ho] at hd hw hy
 obtain rfl : o.dst = d:=Option.some.inj hd
 exact wpAnyH_take ho hs hf hr hQ (.inl ⟨Option.some.inj hw,fun w hSw=>Option.some.inj (hy w hSw)⟩) hS h
theorem held_call (i : Nat) (d : Option Tmp) (f : FuncId) (args : Array Value) {R : Ending → World → Prop} (hd : (ops[i]?).map (fun o=>o.dst) = some d) (hr : Region.ready .any ops listed = [i])
  (hw : (ops[i]?).map (fun o=>Region.wanted o (yielded ops a.tmps)) = some true) (he : (ops[i]?).map (fun o=>(execOp a.eval o).run P w) = some (.ok (.enter f args) w))
  (hc : Calls P f args w R) (h : ∀ e w',R e w' → ∃ v,e = .returned v ∧ S w' ∧ (S w' → wpAnyH P .any ops Q S fuel (listed.setIfInBounds i true) (a.put d v) w')) : wpAnyH P .any ops Q S (fuel + 1) listed a w:=by
 obtain ⟨o,ho⟩ : ∃ o,ops[i]? = some o:=by
  cases hx : ops[i]? with
  | none=>rw [hx] at hd; cases hd
  | some o=>exact ⟨o,rfl⟩
 rw [ho] at hd hw he
 obtain rfl : o.dst = d:=Option.some.inj hd
 refine wpAnyH_all hr (by simp) fun j hj=>?_
 obtain rfl : j = i:=by simpa using hj
 unfold wpOp
 rw [ho]
 dsimp only
 rw [if_pos (Option.some.inj hw)]
 refine .inl ?_
 unfold Oper.wp
 have he':=Option.some.inj he
 dsimp only at he'
 rw [he']
 refine hc.mono fun e w' hR=>?_
 obtain ⟨v,rfl,hS,hk⟩:=h e w' hR
 exact ⟨hS,hk hS⟩
end
end Go.Proofs.Ytkjceegmmhnajaa

namespace Go.Proofs.Ytkjceegmmhnajaa
open Go.RowKit

end Go.Proofs.Ytkjceegmmhnajaa

namespace Go.Proofs.Ytkjceegmmhnajaa
open Go.RowKit

end Go.Proofs.Ytkjceegmmhnajaa

namespace Go.Proofs.Ytkjceegmmhnajaa
open Go.RowKit

def numB (n : Int) : Bool:=decide (-1000000000000000 ≤ n) && decide (n ≤ 1000000000000000)
def denB (n : Int) : Bool:=decide (1 ≤ n) && decide (n ≤ 1000000000000)
def dualB (d : Du) : Bool:=denB d.den && (numB d.n0 && (numB d.n1 && (numB d.n2 && numB d.n3)))
theorem numB_iff {n : Int} : numB n = true ↔ numOk n:=by unfold numB numOk; rw [Bool.and_eq_true,decide_eq_true_iff,decide_eq_true_iff]
theorem dualB_ok {d : Du} (h : dualB d = true) : okDu d:=by
 unfold dualB denB at h
 simp only [Bool.and_eq_true,numB_iff,decide_eq_true_iff] at h
 exact ⟨h.2.1,h.2.2.1,h.2.2.2.1,h.2.2.2.2,h.1.1,h.1.2⟩
def sameF (f g : Int × Int) : Bool:=f.1 == g.1 && f.2 == g.2
def ccB (l : List Tn) (x y z : Int) (ps : List Pt) (d : Du) : Bool :=
 decide (chkW l x y z = 0) && (recB l.length ps && (rgiveB l ps x y z && (dualB d && (belowB d l && sameF (lowest (atD d x y z) d.den) (lowest (wsum Tn.price l ps) (wall ps))))))
def CcEnd (b : Bool) (n : Int) (w : World) (e : Ending) (w' : World) : Prop:=e = .returned (.tuple #[.bool b, .int .i64 n]) ∧ Below w.heap.size w w'
theorem cc_ret {b c : Bool} {m n : Int} {w w' : World} (h : c = b) (h2 : m = n) (hb : Below w.heap.size w w') : CcEnd b n w (.returned (.tuple #[.bool c, .int .i64 m])) w':=⟨by rw [h,h2],hb⟩

def Bx (w : World) (b : Nat) (x y z : Int) (A : Option Addr) (n c : Nat) (d : Du) : Prop:=Bk w b 37 #[.int .i64 x, .int .i64 y, .int .i64 z] ∧ Bk w (b + 1) 25 #[.slice A n c] ∧ Bk w (b + 1 + 1) 44 d.arr
section
variable {w w' : World} {b : Nat} {x y z : Int} {A : Option Addr} {n c : Nat} {d : Du}
theorem Bx.new (w : World) : Bx (((w.alloc (.cells #[.int .i64 x, .int .i64 y, .int .i64 z] 37)).alloc (.cells #[.slice A n c] 25)).alloc (.cells d.arr 44)) w.heap.size x y z A n c d:=by
 have h2:=(Bk.new (w.alloc (.cells #[.int .i64 x, .int .i64 y, .int .i64 z] 37)) 25 #[.slice A n c]).alloc (.cells d.arr 44)
 have h3:=Bk.new ((w.alloc (.cells #[.int .i64 x, .int .i64 y, .int .i64 z] 37)).alloc (.cells #[.slice A n c] 25)) 44 d.arr
 rw [World.size_alloc] at h2
 rw [World.size_alloc,World.size_alloc] at h3
 exact ⟨((Bk.new w 37 _).alloc _).alloc _,h2,h3⟩
theorem Bx.lt (h : Bx w b x y z A n c d) : b + 1 + 1 < w.heap.size:=h.2.2.lt
theorem Bx.below {B : Nat} (h : Bx w b x y z A n c d) (hb : Below B w w') (hB : b + 1 + 1 < B) : Bx w' b x y z A n c d:=⟨h.1.below hb (by omega),h.2.1.below hb (by omega),h.2.2.below hb hB⟩
theorem Bx.drewN (h : Bx w b x y z A n c d) (k : Nat) : Bx (w.drewN k) b x y z A n c d:=h
theorem Bx.drew (h : Bx w b x y z A n c d) : Bx w.drew b x y z A n c d:=h
theorem Bx.facts (h : Bx w b x y z A n c d) : (b < w.heap.size ∧ b + 1 < w.heap.size ∧ b + 1 + 1 < w.heap.size) ∧ (w.cell? ⟨b,0,none⟩ = some (.int .i64 x) ∧ w.cell? ⟨b,1,none⟩ = some (.int .i64 y) ∧ w.cell? ⟨b,2,none⟩ = some (.int .i64 z)) ∧ w.cell? ⟨b + 1,0,none⟩ = some (.slice A n c) ∧
  w.cell? ⟨b + 1 + 1,0,none⟩ = some (.int .i64 d.n0) ∧ w.cell? ⟨b + 1 + 1,1,none⟩ = some (.int .i64 d.n1) ∧ w.cell? ⟨b + 1 + 1,2,none⟩ = some (.int .i64 d.n2) ∧ w.cell? ⟨b + 1 + 1,3,none⟩ = some (.int .i64 d.n3) ∧ w.cell? ⟨b + 1 + 1,4,none⟩ = some (.int .i64 d.den):=by
 have:=h.lt
 exact ⟨⟨by omega,by omega,by omega⟩,⟨h.1.cell 0 rfl,h.1.cell 1 rfl,h.1.cell 2 rfl⟩,h.2.1.cell 0 rfl,h.2.2.cell 0 rfl,h.2.2.cell 1 rfl,h.2.2.cell 2 rfl,h.2.2.cell 3 rfl,h.2.2.cell 4 rfl⟩
end

theorem Bx.alloc {w : World} {b : Nat} {x y z : Int} {A : Option Addr} {n c : Nat} {d : Du} (h : Bx w b x y z A n c d) (o : Obj) : Bx (w.alloc o) b x y z A n c d:=⟨h.1.alloc o,h.2.1.alloc o,h.2.2.alloc o⟩
end Go.Proofs.Ytkjceegmmhnajaa

namespace Go.Proofs.Ytkjceegmmhnajaa
open Go.RowKit

theorem size3 (h : 3 < Try.prog.types.size) : (Try.prog.types[3]'h).size = 1:=by kernel_rfl
theorem idx42_0 (a b c d : Int) (w : World) : (Instr.index 42 (.agg #[.int .i64 a, .int .i64 b, .int .i64 c, .int .i64 d]) (.int .i64 0)).run Try.prog w = .ok (.int .i64 a) w:=by
 simp [Instr.index,go_sem,Try.underlying42,size3]
theorem idx42_1 (a b c d : Int) (w : World) : (Instr.index 42 (.agg #[.int .i64 a, .int .i64 b, .int .i64 c, .int .i64 d]) (.int .i64 1)).run Try.prog w = .ok (.int .i64 b) w:=by
 simp [Instr.index,go_sem,Try.underlying42,size3]
theorem idx42_2 (a b c d : Int) (w : World) : (Instr.index 42 (.agg #[.int .i64 a, .int .i64 b, .int .i64 c, .int .i64 d]) (.int .i64 2)).run Try.prog w = .ok (.int .i64 c) w:=by
 simp [Instr.index,go_sem,Try.underlying42,size3]
theorem idx42_3 (a b c d : Int) (w : World) : (Instr.index 42 (.agg #[.int .i64 a, .int .i64 b, .int .i64 c, .int .i64 d]) (.int .i64 3)).run Try.prog w = .ok (.int .i64 d) w:=by
 simp [Instr.index,go_sem,Try.underlying42,size3]
set_option maxRecDepth 100000 in
set_option maxHeartbeats 4000000 in
theorem checkCheapest_any (l : List Tn) (ps : List Pt) (d : Du) (x y z : Int) (At A : Option Addr) (ct c : Nat) (w : World) (hlt : Lies w w.heap.size At (tintsC l)) (hl : Lies w w.heap.size A (partsC ps)) (hm : ps.length ≤ 1000) (hm2 : l.length ≤ 1000)
  (hs : ∀ t ∈ l,t.name.size ≤ 100) :
  Calls Try.prog 23 #[.slice At l.length ct, .agg #[.int .i64 x, .int .i64 y, .int .i64 z], .agg #[.slice A ps.length c],d.agg] w (CcEnd (ccB l x y z ps d) (chkW l x y z) w):=by
 have HW:=Lib.hid (fun W (hb : Below w.heap.size w W)=>checkWant_any l At ct x y z W ((hlt.below hb (Nat.le_refl _)).more hb.size) hm2 hs)
 have HR:=Lib.hid (fun W (hb : Below w.heap.size w W)=>isRecipe_any l.length ps At A ct c W ((hl.below hb (Nat.le_refl _)).more hb.size) hm hm2)
 have HC : Hid (ccB l x y z ps d = (decide (chkW l x y z = 0) && (recB l.length ps && (rgiveB l ps x y z && (dualB d && (belowB d l && sameF (lowest (atD d x y z) d.den) (lowest (wsum Tn.price l ps) (wall ps)))))))):=rfl
 obtain ⟨⟨n0,n1,n2,n3,den⟩,hd⟩ : ∃ d',d' = d:=⟨d,rfl⟩
 subst hd
 by_cases h0 : chkW l x y z = 0
 ·by_cases h1 : recB l.length ps = true
  ·have hr:=of_decide_eq_true h1
   have hoff : ∀ t ∈ l,offTint t = false:=by
    unfold chkW at h0
    split at h0
    ·rename_i hc; exact (chkT_ok hc).2.2.1
    ·rename_i hc; exact absurd h0 hc
   have hsh : shadeB x y z = true:=by
    unfold chkW at h0
    split at h0
    ·split at h0
     ·assumption
     ·cases h0
    ·rename_i hc; exact absurd h0 hc
   have hbw:=wall_bound ps l.length (goodP_of hr)
   have hn1:=hr.1.1
   have HG:=Lib.hid (fun W (hb : Below w.heap.size w W)=>gives_any l ps x y z At A ct c W ((hlt.below hb (Nat.le_refl _)).more hb.size) ((hl.below hb (Nat.le_refl _)).more hb.size) hr.1.2 hm2 hr.1.1 (goodP_of hr) (fun j t ht=>sel_in' (hoff t ht) j))
   rw [give_same (by omega)] at HG
   have HC2 : Hid (ccB l x y z ps ⟨n0,n1,n2,n3,den⟩ = (rgiveB l ps x y z && (dualB ⟨n0,n1,n2,n3,den⟩ && (belowB ⟨n0,n1,n2,n3,den⟩ l && sameF (lowest (atD ⟨n0,n1,n2,n3,den⟩ x y z) den) (lowest (wsum Tn.price l ps) (wall ps)))))):=by
    show _ = _
    rw [HC.out,h0,h1]; rfl
   rw [h0]
   by_cases h2 : rgiveB l ps x y z = true
   ·by_cases h3 : denB den = true
    ·have E2:=h2
     have HC3 : Hid (ccB l x y z ps ⟨n0,n1,n2,n3,den⟩ = (dualB ⟨n0,n1,n2,n3,den⟩ && (belowB ⟨n0,n1,n2,n3,den⟩ l && sameF (lowest (atD ⟨n0,n1,n2,n3,den⟩ x y z) den) (lowest (wsum Tn.price l ps) (wall ps))))):=by
      show _ = _
      rw [HC2.out,h2]; rfl
     obtain ⟨N,hN⟩ : ∃ N : Nat → Int,N 0 = n0 ∧ N 1 = n1 ∧ N 2 = n2 ∧ N 3 = n3:=⟨fun k=>if k = 0 then n0 else if k = 1 then n1 else if k = 2 then n2 else n3,rfl,rfl,rfl,rfl⟩
     have HNN:=Lib.hid hN; clear hN
     have HBl:=Lib.hid (fun (ho : okDu ⟨n0,n1,n2,n3,den⟩) W (hb : Below w.heap.size w W)=>below_any ⟨n0,n1,n2,n3,den⟩ l At ct W ((hlt.below hb (Nat.le_refl _)).more hb.size) hm2 ho hoff)
     have HPr:=Lib.hid (fun W (hb : Below w.heap.size w W)=>price_any l ps At A ct c W ((hlt.below hb (Nat.le_refl _)).more hb.size) ((hl.below hb (Nat.le_refl _)).more hb.size) hr.1.2 hm2 hr.1.1 (goodP_of hr) (fun t ht=>price_in (hoff t ht)))
     have HAt:=Lib.hid (fun (ho : okDu ⟨n0,n1,n2,n3,den⟩) W=>at_any ⟨n0,n1,n2,n3,den⟩ x y z W ho (shIn_of hsh))
     have HFr:=Lib.hid (fun (ho : okDu ⟨n0,n1,n2,n3,den⟩) W=>fraction_any (atD ⟨n0,n1,n2,n3,den⟩ x y z) den W (by have:=atD_bound ho (shIn_of hsh); unfold bigP; omega) (by have:=ho.2.2.2.2; unfold bigP; dsimp only at this; omega) ho.2.2.2.2.1)
     have H0:=Lib.hid h0
     have H1:=Lib.hid h1
     have H2:=Lib.hid h2
     have HD:=Lib.hid h3
     have H3 : Hid ((decide (1 ≤ den) && decide (den ≤ 1000000000000)) = true):=h3
     clear h0 h1 h2 h3 E2 hr hoff hsh hbw hn1 hlt hl hs HC HC2
     generalize lowest (wsum Tn.price l ps) (wall ps) = gp at *
     generalize atD ⟨n0,n1,n2,n3,den⟩ x y z = av at *
     generalize lowest av den = ga at *
     obtain ⟨ga1,ga2⟩:=ga
     obtain ⟨gp1,gp2⟩:=gp
     go_enter Try.func23,Try.ntmps23
     go_wp2_with (first | (go_at_call 36; refine (HW.out _ bw).mono ?_; rintro e w1 ⟨rfl,hb1⟩; rw [H0.out]; have X1:=(Bx.new w).below hb1 (by simp); obtain ⟨⟨g0,g1,g2⟩,⟨x0,x1,x2⟩,r0,y0,y1,y2,y3,y4⟩:=X1.facts; have hB1 : Below w.heap.size w w1:=(Below.trans bw (hb1.mono (by first | omega | (simp; omega) | simp)))) | (go_at_call 29; refine (HR.out _ bw).mono ?_; rintro e w2 ⟨rfl,hb2⟩; rw [H1.out]; have X2:=X1.below hb2 X1.lt; obtain ⟨⟨g0,g1,g2⟩,⟨x0,x1,x2⟩,r0,y0,y1,y2,y3,y4⟩:=X2.facts; have hB2 : Below w.heap.size w w2:=(Below.trans bw (hb2.mono (by first | omega | (simp; omega) | simp)))) | (go_at_call 53; refine (HG.out _ bw).mono ?_; rintro e w3 ⟨rfl,hb3⟩; rw [H2.out]; have X3:=X2.below hb3 X2.lt; obtain ⟨⟨g0,g1,g2⟩,⟨x0,x1,x2⟩,r0,y0,y1,y2,y3,y4⟩:=X3.facts; have hB3 : Below w.heap.size w w3:=(Below.trans bw (hb3.mono (by first | omega | (simp; omega) | simp)))) | (go_at_call 45; refine (among_is _ _ _ true _ H3.out).mono ?_; rintro e w4 ⟨rfl,rfl⟩))
     go_loopw [38] (fun s wr=>∃ k : Nat,k ≤ 4 ∧ s = .int .i64 k ∧ Hid (∀ j,j < k → numB (N j) = true) ∧ Below w.heap.size w wr ∧ Bx wr w.heap.size x y z A ps.length c ⟨n0,n1,n2,n3,den⟩) (fun s _=>4 - (intOf s).toNat)
     case atStart=>exact ⟨0,by omega,rfl,fun j hj=>absurd hj (by omega),bw,X3⟩
     case round =>
      clear X1 X2 X3 hb1 hb2 hb3 hB1 hB2 hB3
      obtain ⟨k,hk,rfl,hg,hbw,hX⟩:=hrel
      by_cases hk4 : k < 4
      ·match k,hk4 with
       | 0,_ =>
        by_cases hn : numB n0 = true
        ·have HN : Hid ((decide (-1000000000000000 ≤ n0) && decide (n0 ≤ 1000000000000000)) = true):=hn
         have H : Hid (∀ j,j < 0 + 1 → numB (N j) = true):=fun j hj=>by
          by_cases e : j = 0
          ·subst e; rw [HNN.out.1]; exact hn
          ·exact hg.out j (by omega)
         clear hn hg
         go_wp2
         rw [idx42_0]
         go_wp2_with (go_at_call 45; refine (among_is _ _ _ true _ HN.out).mono ?_; rintro e w4 ⟨rfl,rfl⟩)
         go_roundw
         case rel=>exact ⟨0 + 1,by omega,by go_num,H,bw,hX⟩
         case measure=>simp [intOf]
        ·have hn' : numB n0 = false:=by simpa using hn
         have HN : Hid ((decide (-1000000000000000 ≤ n0) && decide (n0 ≤ 1000000000000000)) = false):=hn'
         have E : Hid (ccB l x y z ps ⟨n0,n1,n2,n3,den⟩ = false):=by show _ = _; rw [HC3.out]; unfold dualB; dsimp only; rw [hn']; simp
         clear hn hn' hg
         go_wp2
         rw [idx42_0]
         go_wp2_with (go_at_call 45; refine (among_is _ _ _ false _ HN.out).mono ?_; rintro e w4 ⟨rfl,rfl⟩)
         refine bodyPost_ret (v:=.tuple #[.bool false, .int .i64 0]) (by simp [results,Try.results23,go_sem]) rfl (cc_ret E.out.symm rfl bw)
       | 1,_ =>
        by_cases hn : numB n1 = true
        ·have HN : Hid ((decide (-1000000000000000 ≤ n1) && decide (n1 ≤ 1000000000000000)) = true):=hn
         have H : Hid (∀ j,j < 1 + 1 → numB (N j) = true):=fun j hj=>by
          by_cases e : j = 1
          ·subst e; rw [HNN.out.2.1]; exact hn
          ·exact hg.out j (by omega)
         clear hn hg
         go_wp2
         rw [idx42_1]
         go_wp2_with (go_at_call 45; refine (among_is _ _ _ true _ HN.out).mono ?_; rintro e w4 ⟨rfl,rfl⟩)
         go_roundw
         case rel=>exact ⟨1 + 1,by omega,by go_num,H,bw,hX⟩
         case measure=>simp [intOf]
        ·have hn' : numB n1 = false:=by simpa using hn
         have HN : Hid ((decide (-1000000000000000 ≤ n1) && decide (n1 ≤ 1000000000000000)) = false):=hn'
         have E : Hid (ccB l x y z ps ⟨n0,n1,n2,n3,den⟩ = false):=by show _ = _; rw [HC3.out]; unfold dualB; dsimp only; rw [hn']; simp
         clear hn hn' hg
         go_wp2
         rw [idx42_1]
         go_wp2_with (go_at_call 45; refine (among_is _ _ _ false _ HN.out).mono ?_; rintro e w4 ⟨rfl,rfl⟩)
         refine bodyPost_ret (v:=.tuple #[.bool false, .int .i64 0]) (by simp [results,Try.results23,go_sem]) rfl (cc_ret E.out.symm rfl bw)
       | 2,_ =>
        by_cases hn : numB n2 = true
        ·have HN : Hid ((decide (-1000000000000000 ≤ n2) && decide (n2 ≤ 1000000000000000)) = true):=hn
         have H : Hid (∀ j,j < 2 + 1 → numB (N j) = true):=fun j hj=>by
          by_cases e : j = 2
          ·subst e; rw [HNN.out.2.2.1]; exact hn
          ·exact hg.out j (by omega)
         clear hn hg
         go_wp2
         rw [idx42_2]
         go_wp2_with (go_at_call 45; refine (among_is _ _ _ true _ HN.out).mono ?_; rintro e w4 ⟨rfl,rfl⟩)
         go_roundw
         case rel=>exact ⟨2 + 1,by omega,by go_num,H,bw,hX⟩
         case measure=>simp [intOf]
        ·have hn' : numB n2 = false:=by simpa using hn
         have HN : Hid ((decide (-1000000000000000 ≤ n2) && decide (n2 ≤ 1000000000000000)) = false):=hn'
         have E : Hid (ccB l x y z ps ⟨n0,n1,n2,n3,den⟩ = false):=by show _ = _; rw [HC3.out]; unfold dualB; dsimp only; rw [hn']; simp
         clear hn hn' hg
         go_wp2
         rw [idx42_2]
         go_wp2_with (go_at_call 45; refine (among_is _ _ _ false _ HN.out).mono ?_; rintro e w4 ⟨rfl,rfl⟩)
         refine bodyPost_ret (v:=.tuple #[.bool false, .int .i64 0]) (by simp [results,Try.results23,go_sem]) rfl (cc_ret E.out.symm rfl bw)
       | 3,_ =>
        by_cases hn : numB n3 = true
        ·have HN : Hid ((decide (-1000000000000000 ≤ n3) && decide (n3 ≤ 1000000000000000)) = true):=hn
         have H : Hid (∀ j,j < 3 + 1 → numB (N j) = true):=fun j hj=>by
          by_cases e : j = 3
          ·subst e; rw [HNN.out.2.2.2]; exact hn
          ·exact hg.out j (by omega)
         clear hn hg
         go_wp2
         rw [idx42_3]
         go_wp2_with (go_at_call 45; refine (among_is _ _ _ true _ HN.out).mono ?_; rintro e w4 ⟨rfl,rfl⟩)
         go_roundw
         case rel=>exact ⟨3 + 1,by omega,by go_num,H,bw,hX⟩
         case measure=>simp [intOf]
        ·have hn' : numB n3 = false:=by simpa using hn
         have HN : Hid ((decide (-1000000000000000 ≤ n3) && decide (n3 ≤ 1000000000000000)) = false):=hn'
         have E : Hid (ccB l x y z ps ⟨n0,n1,n2,n3,den⟩ = false):=by show _ = _; rw [HC3.out]; unfold dualB; dsimp only; rw [hn']; simp
         clear hn hn' hg
         go_wp2
         rw [idx42_3]
         go_wp2_with (go_at_call 45; refine (among_is _ _ _ false _ HN.out).mono ?_; rintro e w4 ⟨rfl,rfl⟩)
         refine bodyPost_ret (v:=.tuple #[.bool false, .int .i64 0]) (by simp [results,Try.results23,go_sem]) rfl (cc_ret E.out.symm rfl bw)
      ·obtain rfl : k = 4:=by omega
       have hnn:=HNN.out
       have hd4 : dualB ⟨n0,n1,n2,n3,den⟩ = true:=by
        unfold dualB
        dsimp only
        rw [HD.out,← hnn.1,← hnn.2.1,← hnn.2.2.1,← hnn.2.2.2,hg.out 0 (by omega),hg.out 1 (by omega),hg.out 2 (by omega),hg.out 3 (by omega)]; rfl
       have HBl':=Lib.hid (HBl.out (dualB_ok hd4))
       have HAt':=Lib.hid (HAt.out (dualB_ok hd4))
       have HFr':=Lib.hid (HFr.out (dualB_ok hd4))
       have HC4 : Hid (ccB l x y z ps ⟨n0,n1,n2,n3,den⟩ = (belowB ⟨n0,n1,n2,n3,den⟩ l && (ga1 == gp1 && ga2 == gp2))):=by
        show _ = _
        rw [HC3.out,hd4]; rfl
       have E29:=fun w=>eq29 9998 ga1 ga2 gp1 gp2 w
       have HK : Hid (∀ W,Below wr.heap.size wr W → Bx W w.heap.size x y z A ps.length c ⟨n0,n1,n2,n3,den⟩):=fun W hW=>hX.below hW hX.lt
       obtain ⟨⟨g0,g1,g2⟩,⟨x0,x1,x2⟩,r0,y0,y1,y2,y3,y4⟩:=hX.facts
       clear hnn hd4 hg HNN HBl HAt HFr HC3 HD
       by_cases hbl : belowB ⟨n0,n1,n2,n3,den⟩ l = true
       ·have HB4:=Lib.hid hbl
        have E : Hid (ccB l x y z ps ⟨n0,n1,n2,n3,den⟩ = (ga1 == gp1 && ga2 == gp2)):=by show _ = _; rw [HC4.out,hbl]; rfl
        clear hbl HC4
        go_wp2
        go_region_held3 (fun w'=>w'.cell? ⟨w.heap.size,0,none⟩ = some (.int .i64 x) ∧ w'.cell? ⟨w.heap.size,1,none⟩ = some (.int .i64 y) ∧ w'.cell? ⟨w.heap.size,2,none⟩ = some (.int .i64 z) ∧ w'.cell? ⟨w.heap.size + 1,0,none⟩ = some (.slice A ps.length c) ∧ w'.cell? ⟨w.heap.size + 1 + 1,0,none⟩ = some (.int .i64 n0) ∧ w'.cell? ⟨w.heap.size + 1 + 1,1,none⟩ = some (.int .i64 n1) ∧ w'.cell? ⟨w.heap.size + 1 + 1,2,none⟩ = some (.int .i64 n2) ∧ w'.cell? ⟨w.heap.size + 1 + 1,3,none⟩ = some (.int .i64 n3) ∧ w'.cell? ⟨w.heap.size + 1 + 1,4,none⟩ = some (.int .i64 den))
         (first | go_keep | (refine ⟨?_,?_,?_,?_,?_,?_,?_,?_,?_⟩ <;> first | assumption | go_keep))
         (first | (go_at_call 41; refine (HBl'.out _ bw).mono ?_; rintro e w5 ⟨rfl,hb5⟩; rw [HB4.out]; have hR5 : Below wr.heap.size wr w5:=(Below.trans bw (hb5.mono (by first | omega | (simp; omega) | simp))); have hB5 : Below w.heap.size w w5:=(Below.trans bw (hb5.mono (by first | omega | (simp; omega) | simp))); have hz5:=hR5.size; have hy5:=hB5.size; obtain ⟨⟨g0,g1,g2⟩,⟨x0,x1,x2⟩,r0,y0,y1,y2,y3,y4⟩:=(HK.out w5 hR5).facts) | (go_at_call 43; refine (HAt'.out _).mono ?_; rintro e w6 ⟨rfl,hb6⟩; have hR6 : Below wr.heap.size wr w6:=(Below.trans bw (hb6.mono (by first | omega | (simp; omega) | simp))); have hB6 : Below w.heap.size w w6:=(Below.trans bw (hb6.mono (by first | omega | (simp; omega) | simp))); have hz6:=hR6.size; have hy6:=hB6.size; obtain ⟨⟨g0,g1,g2⟩,⟨x0,x1,x2⟩,r0,y0,y1,y2,y3,y4⟩:=(HK.out w6 hR6).facts) | (go_at_call 42; refine (HFr'.out _).mono ?_; rintro e w7 ⟨rfl,hb7⟩; have hR7 : Below wr.heap.size wr w7:=(Below.trans bw (hb7.mono (by first | omega | (simp; omega) | simp))); have hB7 : Below w.heap.size w w7:=(Below.trans bw (hb7.mono (by first | omega | (simp; omega) | simp))); have hz7:=hR7.size; have hy7:=hB7.size; obtain ⟨⟨g0,g1,g2⟩,⟨x0,x1,x2⟩,r0,y0,y1,y2,y3,y4⟩:=(HK.out w7 hR7).facts) | (go_at_call 35; refine (HPr.out _ bw).mono ?_; rintro e w8 ⟨rfl,hb8⟩; have hR8 : Below wr.heap.size wr w8:=(Below.trans bw (hb8.mono (by first | omega | (simp; omega) | simp))); have hB8 : Below w.heap.size w w8:=(Below.trans bw (hb8.mono (by first | omega | (simp; omega) | simp))); have hz8:=hR8.size; have hy8:=hB8.size; obtain ⟨⟨g0,g1,g2⟩,⟨x0,x1,x2⟩,r0,y0,y1,y2,y3,y4⟩:=(HK.out w8 hR8).facts))
        all_goals
         go_wp2
         refine bodyPost_ret (v:=.tuple #[.bool (ga1 == gp1 && ga2 == gp2), .int .i64 0]) (by simp [results,Try.results23,go_sem]) rfl (cc_ret E.out.symm rfl bw)
       ·have hbl' : belowB ⟨n0,n1,n2,n3,den⟩ l = false:=by simpa using hbl
        have HB4:=Lib.hid hbl'
        have E : Hid (ccB l x y z ps ⟨n0,n1,n2,n3,den⟩ = false):=by show _ = _; rw [HC4.out,hbl']; rfl
        clear hbl hbl' HC4 E29
        go_wp2
        refine wp_region_held_drew (S:=(fun w'=>w'.cell? ⟨w.heap.size,0,none⟩ = some (.int .i64 x) ∧ w'.cell? ⟨w.heap.size,1,none⟩ = some (.int .i64 y) ∧ w'.cell? ⟨w.heap.size,2,none⟩ = some (.int .i64 z) ∧ w'.cell? ⟨w.heap.size + 1,0,none⟩ = some (.slice A ps.length c) ∧ w'.cell? ⟨w.heap.size + 1 + 1,0,none⟩ = some (.int .i64 n0) ∧ w'.cell? ⟨w.heap.size + 1 + 1,1,none⟩ = some (.int .i64 n1) ∧ w'.cell? ⟨w.heap.size + 1 + 1,2,none⟩ = some (.int .i64 n2) ∧ w'.cell? ⟨w.heap.size + 1 + 1,3,none⟩ = some (.int .i64 n3) ∧ w'.cell? ⟨w.heap.size + 1 + 1,4,none⟩ = some (.int .i64 den))) (by kernel_rfl) ?_ (fun hHeld=>?_)
        ·(refine ⟨?_,?_,?_,?_,?_,?_,?_,?_,?_⟩ <;> first | assumption | go_keep)
        (refine held_take 0 (some 45) ?_ rfl (by kernel_rfl) (by kernel_rfl) (by kernel_rfl) (by rfl) (fun _ _ _ h=>h) (by assumption) (fun w hSw=>?_) ?_; rotate_left; ((try dsimp only at hSw); simp only [List.getElem?_toArray,List.getElem?_cons_zero,List.getElem?_cons_succ,Option.map_some]; refine congrArg some ?_; go_simp; (try with_reducible rfl)); (try simp only [Act.put,List.setIfInBounds_toArray,List.set_cons_zero,List.set_cons_succ]))
        (refine held_take 1 (some 46) ?_ rfl (by kernel_rfl) (by kernel_rfl) (by kernel_rfl) (by rfl) (fun _ _ _ h=>h) (by assumption) (fun w hSw=>?_) ?_; rotate_left; ((try dsimp only at hSw); simp only [List.getElem?_toArray,List.getElem?_cons_zero,List.getElem?_cons_succ,Option.map_some]; refine congrArg some ?_; go_simp; (try with_reducible rfl)); (try simp only [Act.put,List.setIfInBounds_toArray,List.set_cons_zero,List.set_cons_succ]))
        refine held_call 2 (some 47) 41 _ rfl (by kernel_rfl) (by rfl) ?_ (HBl'.out _ bw) ?_
        ·simp only [List.getElem?_toArray,List.getElem?_cons_zero,List.getElem?_cons_succ,Option.map_some]
         refine congrArg some ?_
         go_simp
        rintro e w5 ⟨rfl,hb5⟩
        rw [HB4.out]
        have hR5 : Below wr.heap.size wr w5:=(Below.trans bw (hb5.mono (by first | omega | (simp; omega) | simp)))
        have hB5 : Below w.heap.size w w5:=(Below.trans bw (hb5.mono (by first | omega | (simp; omega) | simp)))
        have hz5:=hR5.size
        have hy5:=hB5.size
        obtain ⟨⟨g0,g1,g2⟩,⟨x0,x1,x2⟩,r0,y0,y1,y2,y3,y4⟩:=(HK.out w5 hR5).facts
        refine ⟨_,rfl,⟨x0,x1,x2,r0,y0,y1,y2,y3,y4⟩,fun hHeld=>?_⟩
        (try simp only [Act.put,List.setIfInBounds_toArray,List.set_cons_zero,List.set_cons_succ])
        (refine held_take 3 (some 48) ?_ rfl (by kernel_rfl) (by kernel_rfl) (by kernel_rfl) (by rfl) (fun _ _ _ h=>h) (by assumption) (fun w hSw=>?_) ?_; rotate_left; ((try dsimp only at hSw); simp only [List.getElem?_toArray,List.getElem?_cons_zero,List.getElem?_cons_succ,Option.map_some]; refine congrArg some ?_; go_simp; (try with_reducible rfl)); (try simp only [Act.put,List.setIfInBounds_toArray,List.set_cons_zero,List.set_cons_succ]))
        (refine held_skip 4 (some 49) rfl (by kernel_rfl) (by kernel_rfl) (by kernel_rfl) (by rfl) (fun _ _ _ h=>h) (by assumption) ?_; (try simp only [Act.put,List.setIfInBounds_toArray,List.set_cons_zero,List.set_cons_succ]))
        (refine held_skip 5 (some 50) rfl (by kernel_rfl) (by kernel_rfl) (by kernel_rfl) (by rfl) (fun _ _ _ h=>h) (by assumption) ?_; (try simp only [Act.put,List.setIfInBounds_toArray,List.set_cons_zero,List.set_cons_succ]))
        (refine held_skip 6 (some 51) rfl (by kernel_rfl) (by kernel_rfl) (by kernel_rfl) (by rfl) (fun _ _ _ h=>h) (by assumption) ?_; (try simp only [Act.put,List.setIfInBounds_toArray,List.set_cons_zero,List.set_cons_succ]))
        (refine held_skip 7 (some 52) rfl (by kernel_rfl) (by kernel_rfl) (by kernel_rfl) (by rfl) (fun _ _ _ h=>h) (by assumption) ?_; (try simp only [Act.put,List.setIfInBounds_toArray,List.set_cons_zero,List.set_cons_succ]))
        (refine held_skip 8 (some 53) rfl (by kernel_rfl) (by kernel_rfl) (by kernel_rfl) (by rfl) (fun _ _ _ h=>h) (by assumption) ?_; (try simp only [Act.put,List.setIfInBounds_toArray,List.set_cons_zero,List.set_cons_succ]))
        (refine held_skip 9 (some 54) rfl (by kernel_rfl) (by kernel_rfl) (by kernel_rfl) (by rfl) (fun _ _ _ h=>h) (by assumption) ?_; (try simp only [Act.put,List.setIfInBounds_toArray,List.set_cons_zero,List.set_cons_succ]))
        (refine held_skip 10 (some 55) rfl (by kernel_rfl) (by kernel_rfl) (by kernel_rfl) (by rfl) (fun _ _ _ h=>h) (by assumption) ?_; (try simp only [Act.put,List.setIfInBounds_toArray,List.set_cons_zero,List.set_cons_succ]))
        (refine held_skip 11 (some 56) rfl (by kernel_rfl) (by kernel_rfl) (by kernel_rfl) (by rfl) (fun _ _ _ h=>h) (by assumption) ?_; (try simp only [Act.put,List.setIfInBounds_toArray,List.set_cons_zero,List.set_cons_succ]))
        (refine held_skip 12 (some 57) rfl (by kernel_rfl) (by kernel_rfl) (by kernel_rfl) (by rfl) (fun _ _ _ h=>h) (by assumption) ?_; (try simp only [Act.put,List.setIfInBounds_toArray,List.set_cons_zero,List.set_cons_succ]))
        (refine held_skip 13 (some 58) rfl (by kernel_rfl) (by kernel_rfl) (by kernel_rfl) (by rfl) (fun _ _ _ h=>h) (by assumption) ?_; (try simp only [Act.put,List.setIfInBounds_toArray,List.set_cons_zero,List.set_cons_succ]))
        (refine held_take 14 (some 59) ?_ rfl (by kernel_rfl) (by kernel_rfl) (by kernel_rfl) (by rfl) (fun _ _ _ h=>h) (by assumption) (fun w hSw=>?_) ?_; rotate_left; ((try dsimp only at hSw); simp only [List.getElem?_toArray,List.getElem?_cons_zero,List.getElem?_cons_succ,Option.map_some]; refine congrArg some ?_; go_simp; (try with_reducible rfl)); (try simp only [Act.put,List.setIfInBounds_toArray,List.set_cons_zero,List.set_cons_succ]))
        (refine held_take 15 (some 8) ?_ rfl (by kernel_rfl) (by kernel_rfl) (by kernel_rfl) (by rfl) (fun _ _ _ h=>h) (by assumption) (fun w hSw=>?_) ?_; rotate_left; ((try dsimp only at hSw); simp only [List.getElem?_toArray,List.getElem?_cons_zero,List.getElem?_cons_succ,Option.map_some]; refine congrArg some ?_; go_simp; (try with_reducible rfl)); (try simp only [Act.put,List.setIfInBounds_toArray,List.set_cons_zero,List.set_cons_succ]))
        (refine held_take 16 (some 9) ?_ rfl (by kernel_rfl) (by kernel_rfl) (by kernel_rfl) (by rfl) (fun _ _ _ h=>h) (by assumption) (fun w hSw=>?_) ?_; rotate_left; ((try dsimp only at hSw); simp only [List.getElem?_toArray,List.getElem?_cons_zero,List.getElem?_cons_succ,Option.map_some]; refine congrArg some ?_; go_simp; (try with_reducible rfl)); (try simp only [Act.put,List.setIfInBounds_toArray,List.set_cons_zero,List.set_cons_succ]))
        refine wpAnyH_done (by kernel_rfl) ?_ _
        all_goals
         go_wp2
         refine bodyPost_ret (v:=.tuple #[.bool false, .int .i64 0]) (by simp [results,Try.results23,go_sem]) rfl (cc_ret E.out.symm rfl bw)
    ·have h3' : denB den = false:=by simpa using h3
     have E : Hid (ccB l x y z ps ⟨n0,n1,n2,n3,den⟩ = false):=by show _ = _; rw [HC2.out,h2]; unfold dualB; dsimp only; rw [h3']; rfl
     have H0:=Lib.hid h0
     have H1:=Lib.hid h1
     have H2:=Lib.hid h2
     have H3 : Hid ((decide (1 ≤ den) && decide (den ≤ 1000000000000)) = false):=h3'
     clear h0 h1 h2 h3 h3' hr hoff hsh hbw hn1 hlt hl hs HC HC2
     go_enter Try.func23,Try.ntmps23
     go_wp2_with (first | (go_at_call 36; refine (HW.out _ bw).mono ?_; rintro e w1 ⟨rfl,hb1⟩; rw [H0.out]; have X1:=(Bx.new w).below hb1 (by simp); obtain ⟨⟨g0,g1,g2⟩,⟨x0,x1,x2⟩,r0,y0,y1,y2,y3,y4⟩:=X1.facts; have hB1 : Below w.heap.size w w1:=(Below.trans bw (hb1.mono (by first | omega | (simp; omega) | simp)))) | (go_at_call 29; refine (HR.out _ bw).mono ?_; rintro e w2 ⟨rfl,hb2⟩; rw [H1.out]; have X2:=X1.below hb2 X1.lt; obtain ⟨⟨g0,g1,g2⟩,⟨x0,x1,x2⟩,r0,y0,y1,y2,y3,y4⟩:=X2.facts; have hB2 : Below w.heap.size w w2:=(Below.trans bw (hb2.mono (by first | omega | (simp; omega) | simp)))) | (go_at_call 53; refine (HG.out _ bw).mono ?_; rintro e w3 ⟨rfl,hb3⟩; rw [H2.out]; have X3:=X2.below hb3 X2.lt; obtain ⟨⟨g0,g1,g2⟩,⟨x0,x1,x2⟩,r0,y0,y1,y2,y3,y4⟩:=X3.facts; have hB3 : Below w.heap.size w w3:=(Below.trans bw (hb3.mono (by first | omega | (simp; omega) | simp)))) | (go_at_call 45; refine (among_is _ _ _ false _ H3.out).mono ?_; rintro e w4 ⟨rfl,rfl⟩))
     refine bodyPost_ret (v:=.tuple #[.bool false, .int .i64 0]) (by simp [results,Try.results23,go_sem]) rfl (cc_ret E.out.symm rfl bw)
   ·have h2' : rgiveB l ps x y z = false:=by simpa using h2
    have E : Hid (ccB l x y z ps ⟨n0,n1,n2,n3,den⟩ = false):=by show _ = _; rw [HC2.out,h2']; rfl
    have H0:=Lib.hid h0
    have H1:=Lib.hid h1
    have H2:=Lib.hid h2'
    clear h0 h1 h2 h2' hr hoff hsh hbw hn1 hlt hl hs HC HC2
    go_enter Try.func23,Try.ntmps23
    go_wp2_with (first | (go_at_call 36; refine (HW.out _ bw).mono ?_; rintro e w1 ⟨rfl,hb1⟩; rw [H0.out]; have X1:=(Bx.new w).below hb1 (by simp); obtain ⟨⟨g0,g1,g2⟩,⟨x0,x1,x2⟩,r0,y0,y1,y2,y3,y4⟩:=X1.facts; have hB1 : Below w.heap.size w w1:=(Below.trans bw (hb1.mono (by first | omega | (simp; omega) | simp)))) | (go_at_call 29; refine (HR.out _ bw).mono ?_; rintro e w2 ⟨rfl,hb2⟩; rw [H1.out]; have X2:=X1.below hb2 X1.lt; obtain ⟨⟨g0,g1,g2⟩,⟨x0,x1,x2⟩,r0,y0,y1,y2,y3,y4⟩:=X2.facts; have hB2 : Below w.heap.size w w2:=(Below.trans bw (hb2.mono (by first | omega | (simp; omega) | simp)))) | (go_at_call 53; refine (HG.out _ bw).mono ?_; rintro e w3 ⟨rfl,hb3⟩; rw [H2.out]; have X3:=X2.below hb3 X2.lt; obtain ⟨⟨g0,g1,g2⟩,⟨x0,x1,x2⟩,r0,y0,y1,y2,y3,y4⟩:=X3.facts; have hB3 : Below w.heap.size w w3:=(Below.trans bw (hb3.mono (by first | omega | (simp; omega) | simp)))))
    refine bodyPost_ret (v:=.tuple #[.bool false, .int .i64 0]) (by simp [results,Try.results23,go_sem]) rfl (cc_ret E.out.symm rfl bw)
  ·have h1' : recB l.length ps = false:=by simpa using h1
   have E : Hid (ccB l x y z ps ⟨n0,n1,n2,n3,den⟩ = false):=by show _ = _; rw [HC.out,h1']; simp
   have H0:=Lib.hid h0
   have H1:=Lib.hid h1'
   rw [h0]
   clear h0 h1 h1' hlt hl hs HC
   go_enter Try.func23,Try.ntmps23
   go_wp2_with (first | (go_at_call 36; refine (HW.out _ bw).mono ?_; rintro e w1 ⟨rfl,hb1⟩; rw [H0.out]; have X1:=(Bx.new w).below hb1 (by simp); obtain ⟨⟨g0,g1,g2⟩,⟨x0,x1,x2⟩,r0,y0,y1,y2,y3,y4⟩:=X1.facts; have hB1 : Below w.heap.size w w1:=(Below.trans bw (hb1.mono (by first | omega | (simp; omega) | simp)))) | (go_at_call 29; refine (HR.out _ bw).mono ?_; rintro e w2 ⟨rfl,hb2⟩; rw [H1.out]; have X2:=X1.below hb2 X1.lt; obtain ⟨⟨g0,g1,g2⟩,⟨x0,x1,x2⟩,r0,y0,y1,y2,y3,y4⟩:=X2.facts; have hB2 : Below w.heap.size w w2:=(Below.trans bw (hb2.mono (by first | omega | (simp; omega) | simp)))))
   refine bodyPost_ret (v:=.tuple #[.bool false, .int .i64 0]) (by simp [results,Try.results23,go_sem]) rfl (cc_ret E.out.symm rfl bw)
 ·have E : Hid (ccB l x y z ps ⟨n0,n1,n2,n3,den⟩ = false):=by show _ = _; rw [HC.out,decide_eq_false h0]; rfl
  generalize chkW l x y z = q at *
  have hq1 : (q != 0) = true:=by rw [bne_iff_ne]; exact h0
  clear h0 hlt hl hs HC
  go_enter Try.func23,Try.ntmps23
  go_wp2_with (go_at_call 36; refine (HW.out _ bw).mono ?_; rintro e w1 ⟨rfl,hb1⟩)
  refine bodyPost_ret (v:=.tuple #[.bool false, .int .i64 q]) (by simp [results,Try.results23,go_sem]) rfl (cc_ret E.out.symm rfl (Below.trans bw (hb1.mono (by first | omega | (simp; omega) | simp))))
end Go.Proofs.Ytkjceegmmhnajaa

namespace Go.Proofs.Ytkjceegmmhnajaa
open Go.RowKit

section
variable {P : Program} {ops : Array Oper} {Q : Exit → Act → World → Prop} {S : World → Prop} {fuel fuel' : Nat} {listed l' : Array Bool} {a a' : Act} {w : World}
theorem sk (i d : Nat) (h : wpAnyH P .any ops Q S fuel l' a' w) (hfu : fuel' = fuel + 1:=by exact rfl) (hd : (ops[i]?).map (fun o=>o.dst) = some (some d):=by rfl) (hs : Region.noSelect ops = true:=by kernel_rfl) (hf : Region.free .any ops listed i = true:=by kernel_rfl) (hr : (Region.ready .any ops listed).contains i = true:=by kernel_rfl)
  (hw : (ops[i]?).map (fun o=>Region.wanted o (yielded ops a.tmps)) = some false:=by rfl) (hQ : ∀ c a w,Q (.panic c) (a.put (some d) undef) w → Q (.panic c) a w:=by exact fun _ _ _ h=>h) (hS : S w:=by assumption)
  (hl : listed.setIfInBounds i true = l':=by ((try simp only [List.setIfInBounds_toArray,List.set_cons_zero,List.set_cons_succ]); exact rfl)) (ha : a.put (some d) undef = a':=by ((try simp only [Act.put,List.setIfInBounds_toArray,List.set_cons_zero,List.set_cons_succ]); exact rfl)) : wpAnyH P .any ops Q S fuel' listed a w:=by
 subst hl; subst ha; subst hfu
 exact held_skip i (some d) hd hs hf hr hw hQ hS h
theorem tk (i d : Nat) {v : Value} (h : wpAnyH P .any ops Q S fuel l' a' w) (hfu : fuel' = fuel + 1:=by exact rfl) (hd : (ops[i]?).map (fun o=>o.dst) = some (some d):=by rfl) (hs : Region.noSelect ops = true:=by kernel_rfl) (hf : Region.free .any ops listed i = true:=by kernel_rfl) (hr : (Region.ready .any ops listed).contains i = true:=by kernel_rfl)
  (hw : (ops[i]?).map (fun o=>Region.wanted o (yielded ops a.tmps)) = some true:=by rfl) (hQ : ∀ c v a w,Q (.panic c) (a.put (some d) v) w → Q (.panic c) a w:=by exact fun _ _ _ _ h=>h) (hS : S w:=by assumption)
  (hy : ∀ w,S w → (ops[i]?).map (fun o=>(execOp a.eval o).run P w) = some (.ok (.value v) w):=by (intro w hSw; (try dsimp only at hSw); simp only [List.getElem?_toArray,List.getElem?_cons_zero,List.getElem?_cons_succ,Option.map_some]; refine congrArg some ?_; go_simp; (try with_reducible rfl)))
  (hl : listed.setIfInBounds i true = l':=by ((try simp only [List.setIfInBounds_toArray,List.set_cons_zero,List.set_cons_succ]); exact rfl)) (ha : a.put (some d) v = a':=by ((try simp only [Act.put,List.setIfInBounds_toArray,List.set_cons_zero,List.set_cons_succ]); exact rfl)) : wpAnyH P .any ops Q S fuel' listed a w:=by
 subst hl; subst ha; subst hfu
 exact held_take i (some d) v hd hs hf hr hw (fun c a w=>hQ c v a w) hS hy h
end
end Go.Proofs.Ytkjceegmmhnajaa
