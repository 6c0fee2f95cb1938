/- pigment.Cheapest. Printed by wip/gen_ch1.py. -/
import Derived.Test.YtkjceegmmhnajaaG62
import Derived.Test.YtkjceegmmhnajaaG89
import Derived.Test.YtkjceegmmhnajaaG94

set_option linter.unusedVariables false
set_option linter.unusedSimpArgs false

namespace Go.Proofs.Ytkjceegmmhnajaa
open Go.RowKit LPX
attribute [local go_sem] Oper.semAt_some choEnc erEnc Er.v El.v eqNl eqSl

set_option maxRecDepth 100000 in
set_option maxHeartbeats 20000000 in
theorem cheapest_any (l : List Tn) (A : Option Addr) (c : Nat) (x y z : Int) (w : World) (hl : Lies w w.heap.size A (tintsC l)) (hm : l.length ≤ 1000) (hs : ∀ t ∈ l,t.name.size ≤ 100) :
  Calls Try.prog 16 #[.slice A l.length c, .agg #[.int .i64 x, .int .i64 y, .int .i64 z]] w (CheE l x y z w):=by
 have HW:=Lib.hid (fun W (hb : Below w.heap.size w W)=>checkWant_any l A c x y z W ((hl.below hb (Nat.le_refl _)).more hb.size) hm hs)
 have k0 : Bk (((((w.alloc (.cells #[.slice A l.length c] 22)).alloc (.cells #[.int .i64 x, .int .i64 y, .int .i64 z] 37)).alloc (.cells #[.slice none 0 0] 25)).alloc (.cells #[.int .i64 0, .int .i64 0, .int .i64 0, .int .i64 0, .int .i64 0] 44)).alloc (.cells #[.int .i64 0] 31)) w.heap.size 22 #[.slice A l.length c]:=by simpa using ((((Bk.new w 22 #[.slice A l.length c]).alloc (.cells #[.int .i64 x, .int .i64 y, .int .i64 z] 37)).alloc (.cells #[.slice none 0 0] 25)).alloc (.cells #[.int .i64 0, .int .i64 0, .int .i64 0, .int .i64 0, .int .i64 0] 44)).alloc (.cells #[.int .i64 0] 31)
 have k1 : Bk (((((w.alloc (.cells #[.slice A l.length c] 22)).alloc (.cells #[.int .i64 x, .int .i64 y, .int .i64 z] 37)).alloc (.cells #[.slice none 0 0] 25)).alloc (.cells #[.int .i64 0, .int .i64 0, .int .i64 0, .int .i64 0, .int .i64 0] 44)).alloc (.cells #[.int .i64 0] 31)) (w.heap.size + 1) 37 #[.int .i64 x, .int .i64 y, .int .i64 z]:=by simpa using (((Bk.new (w.alloc (.cells #[.slice A l.length c] 22)) 37 #[.int .i64 x, .int .i64 y, .int .i64 z]).alloc (.cells #[.slice none 0 0] 25)).alloc (.cells #[.int .i64 0, .int .i64 0, .int .i64 0, .int .i64 0, .int .i64 0] 44)).alloc (.cells #[.int .i64 0] 31)
 have k2 : Bk (((((w.alloc (.cells #[.slice A l.length c] 22)).alloc (.cells #[.int .i64 x, .int .i64 y, .int .i64 z] 37)).alloc (.cells #[.slice none 0 0] 25)).alloc (.cells #[.int .i64 0, .int .i64 0, .int .i64 0, .int .i64 0, .int .i64 0] 44)).alloc (.cells #[.int .i64 0] 31)) (w.heap.size + 2) 25 #[.slice none 0 0]:=by simpa using ((Bk.new ((w.alloc (.cells #[.slice A l.length c] 22)).alloc (.cells #[.int .i64 x, .int .i64 y, .int .i64 z] 37)) 25 #[.slice none 0 0]).alloc (.cells #[.int .i64 0, .int .i64 0, .int .i64 0, .int .i64 0, .int .i64 0] 44)).alloc (.cells #[.int .i64 0] 31)
 have k3 : Bk (((((w.alloc (.cells #[.slice A l.length c] 22)).alloc (.cells #[.int .i64 x, .int .i64 y, .int .i64 z] 37)).alloc (.cells #[.slice none 0 0] 25)).alloc (.cells #[.int .i64 0, .int .i64 0, .int .i64 0, .int .i64 0, .int .i64 0] 44)).alloc (.cells #[.int .i64 0] 31)) (w.heap.size + 3) 44 #[.int .i64 0, .int .i64 0, .int .i64 0, .int .i64 0, .int .i64 0]:=by simpa using (Bk.new (((w.alloc (.cells #[.slice A l.length c] 22)).alloc (.cells #[.int .i64 x, .int .i64 y, .int .i64 z] 37)).alloc (.cells #[.slice none 0 0] 25)) 44 #[.int .i64 0, .int .i64 0, .int .i64 0, .int .i64 0, .int .i64 0]).alloc (.cells #[.int .i64 0] 31)
 have k4 : Bk (((((w.alloc (.cells #[.slice A l.length c] 22)).alloc (.cells #[.int .i64 x, .int .i64 y, .int .i64 z] 37)).alloc (.cells #[.slice none 0 0] 25)).alloc (.cells #[.int .i64 0, .int .i64 0, .int .i64 0, .int .i64 0, .int .i64 0] 44)).alloc (.cells #[.int .i64 0] 31)) (w.heap.size + 4) 31 #[.int .i64 0]:=by simpa using Bk.new ((((w.alloc (.cells #[.slice A l.length c] 22)).alloc (.cells #[.int .i64 x, .int .i64 y, .int .i64 z] 37)).alloc (.cells #[.slice none 0 0] 25)).alloc (.cells #[.int .i64 0, .int .i64 0, .int .i64 0, .int .i64 0, .int .i64 0] 44)) 31 #[.int .i64 0]
 have hb4 : Below w.heap.size w (((((w.alloc (.cells #[.slice A l.length c] 22)).alloc (.cells #[.int .i64 x, .int .i64 y, .int .i64 z] 37)).alloc (.cells #[.slice none 0 0] 25)).alloc (.cells #[.int .i64 0, .int .i64 0, .int .i64 0, .int .i64 0, .int .i64 0] 44)).alloc (.cells #[.int .i64 0] 31)):=by exact (by repeat (first | with_reducible exact Below.refl _ _ | with_reducible assumption | with_reducible refine Below.drew ?_ | with_reducible refine below_drewN ?_ _ | (with_reducible refine Below.alloc ?_ ?_ _; rotate_left; (try simp) <;> omega) | (with_reducible refine Below.setCell ?_ ?_ _; rotate_left; (try simp) <;> omega)))
 have hlW:=Lib.hid hl
 have hCK:=Lib.hid (fun h=>chkW_ok (l:=l) (x:=x) (y:=y) (z:=z) h)
 have hKE : ∃ q,q = chkW l x y z:=⟨_,rfl⟩
 obtain ⟨q,hq⟩:=hKE
 have HQ:=Lib.hid hq
 rw [← hq] at HW
 have hAB : Hid (q = 0 → ∀ ad,A = some ad → ad.block < w.heap.size):=fun h0 ad e=>by
  have h1:=(chkW_ok (hq.symm.trans h0)).1.2
  obtain ⟨ad',e',hb',_⟩:=hl (by
   intro e
   have h5 : 0 = l.length * 5:=by rw [← tintsC_length l,e]; rfl
   omega)
  rw [e] at e'; cases e'; exact hb'
 clear hl hq hs
 refine (callsIn_wide (n:=3)).1 ?_
 refine callsIn_of_wp_marks Try.func16 rfl trivial ?_ rfl
 simp only [Try.ntmps16,List.size_toArray,List.length_cons,List.length_nil,Nat.reduceAdd,Nat.reduceSub,Array.replicate_succ,Array.replicate_zero,List.push_toArray,List.append_toArray,List.nil_append,List.cons_append]
 refine wpIn_wide.2 ?_
 go_wp2_with fail
 refine (HW.out _ hb4).mono ?_
 rintro e w5 ⟨rfl,hb5⟩
 have hB5:=hb4.trans (hb5.mono hb4.size)
 have p0:=k0.below hb5 k0.lt
 have p1:=k1.below hb5 k1.lt
 have p2:=k2.below hb5 k2.lt
 have p3:=k3.below hb5 k3.lt
 have p4:=k4.below hb5 k4.lt
 have l5:=p4.lt
 clear hb5 k0 k1 k2 k3 k4 hb4
 by_cases h0 : q = 0
 ·subst h0
  have hck:=hCK.out HQ.out.symm
  have hn1 : 1 ≤ l.length:=by omega
  have hn12 : l.length ≤ 12:=by omega
  have HOF:=Lib.hid hck.2.1
  have HXS:=Lib.hid hck.2.2
  have HTS:=Lib.hid (fun t ht=>offTint_sh (hck.2.1 t ht))
  clear hck
  have HRK : Hid (∀ ps ∈ allR l ⟨x,y,z⟩,RcpK l ps):=fun ps hp=>rcpK (x:=⟨x,y,z⟩) HOF.out (show shadeV ⟨x,y,z⟩ from HXS.out) hp
  have HPR : Hid (∀ (f : Er) (B0 : Nat) (W : World),Below w.heap.size w W → f.At B0 W → f.ps ∈ allR l ⟨x,y,z⟩ → Calls Try.prog 35 #[.slice A l.length c, .agg #[.slice f.A f.ps.length f.c]] W (FracEnd (priL l f.ps) W)):=fun f B0 W hb hf hp=>price_at (HRK.out _ hp) HOF.out A f.A c f.c W ((hlW.out.below hb (Nat.le_refl _)).more hb.size) hf.1 hm
  have HNN : Hid (∀ ps ∈ allR l ⟨x,y,z⟩,∀ (e : Er) (B0 : Nat) (W : World),e.ps = ps → e.At B0 W → ∃ ad,e.A = some ad):=fun ps hp e B0 W he hat=>by
   obtain ⟨ad,h1,_⟩:=hat.1 (by
    intro h
    have h3:=(HRK.out ps hp).len.1
    rw [← he] at h3
    have h4:=partsC_length e.ps
    rw [h] at h4
    simp at h4
    omega)
   exact ⟨ad,h1⟩
  obtain ⟨w6,hw6⟩ : ∃ v,v = w5.alloc (.cells #[.slice none 0 0] 25):=⟨_,rfl⟩
  have hB6 : Below w.heap.size w w6:=by rw [hw6]; exact hB5.alloc hB5.size _
  have q0 : Bk w6 w.heap.size 22 #[.slice A l.length c]:=by rw [hw6]; exact p0.alloc _
  have q1 : Bk w6 (w.heap.size + 1) 37 #[.int .i64 x, .int .i64 y, .int .i64 z]:=by rw [hw6]; exact p1.alloc _
  have q2 : Bk w6 (w.heap.size + 2) 25 #[.slice none 0 0]:=by rw [hw6]; exact p2.alloc _
  have q3 : Bk w6 (w.heap.size + 3) 44 #[.int .i64 0, .int .i64 0, .int .i64 0, .int .i64 0, .int .i64 0]:=by rw [hw6]; exact p3.alloc _
  have q4 : Bk w6 (w.heap.size + 4) 31 #[.int .i64 0]:=by rw [hw6]; exact p4.alloc _
  have qb : Bk w6 w5.heap.size 25 #[.slice none 0 0]:=by rw [hw6]; exact Bk.new _ _ _
  have L6 : Hid (w6.heap.size = w5.heap.size + 1):=by show _ = _; rw [hw6]; simp
  clear p0 p1 p2 p3 p4 hB5
  go_upto_region 5 with fail
  rw [← hw6]
  clear hw6
  generalize w5.heap.size = gb at *
  have y0:=q0.cell 0 rfl
  have y10:=q1.cell 0 rfl
  have y11:=q1.cell 1 rfl
  have y12:=q1.cell 2 rfl
  have lq:=q4.lt
  go_wp2_with (go_at_call 37; refine (recipes_any A l.length c x y z w6).mono ?_; rintro e w7 ⟨rfl,rt,rwt,hb7,hz7⟩)
  have s0:=q0.below hb7 q0.lt
  have s1:=q1.below hb7 q1.lt
  have s2:=q2.below hb7 q2.lt
  have s3:=q3.below hb7 q3.lt
  have s4:=q4.below hb7 q4.lt
  have sb:=qb.below hb7 qb.lt
  have lgb:=qb.lt
  have hB7:=hB6.trans (hb7.mono hB6.size)
  have HCP:=Lib.hid (And.intro rt rwt)
  clear y0 y10 y11 y12 hb7 q0 q1 q2 q3 q4 qb rt rwt
  have hl7 : w7.heap.size = gb + 3:=by have:=L6.out; omega
  refine (wpIn_wide (n:=3)).1 ?_
  refine rangeFunc_box (n:=3) rfl (by omega) (gf:=68) (lb:=#[.pointer (some ⟨w6.heap.size,0,none⟩), .pointer (some ⟨w6.heap.size + 1,0,none⟩)]) rfl trivial (enters_of Try.func68 (by kernel_rfl) rfl)
   (encs:=erEnc) (Pre:=fun e W=>Er.At w7.heap.size e W ∧ e.ps ∈ allR l ⟨x,y,z⟩) (Kp:=KpC (fun g=>g = gb)) (S:=fun xs=>xs.map Er.ps = allR l ⟨x,y,z⟩) (Sp:=fun pre=>pre.map Er.ps <+: allR l ⟨x,y,z⟩) (N:=(allc l.length).length) (w0:=w7) ?seq (fun h k=>h.trans k) (fun W l o o' _ h1 h2 _=>KpC.putObj o' h1 h2) (Below.refl _ _) (fun _=>rfl)
   (fun pre W=>BestAt l ⟨x,y,z⟩ w7.heap.size gb (pre.map Er.ps) W ∧ (Below w.heap.size w W ∧ ((Bk W w.heap.size 22 #[.slice A l.length c] ∧ (Bk W (w.heap.size + 1) 37 #[.int .i64 x, .int .i64 y, .int .i64 z] ∧ (Bk W (w.heap.size + 2) 25 #[.slice none 0 0] ∧ (Bk W (w.heap.size + 3) 44 #[.int .i64 0, .int .i64 0, .int .i64 0, .int .i64 0, .int .i64 0] ∧ Bk W (w.heap.size + 4) 31 #[.int .i64 0])))))))
   (fun cc pre W=>False) ?own ?ownx ?pre ⟨.inl ⟨rfl,sb⟩,hB7,s0,s1,s2,s3,s4⟩
   (fun e=>.cells #[.slice e.A e.ps.length e.c] 25) (fun W o=>KpC.of_below ((Below.refl _ W).alloc (Nat.le_refl _) o))
   (fun e k=>{ tmps:=#[.slice A l.length c, .agg #[.int .i64 x, .int .i64 y, .int .i64 z], .pointer (some ⟨w.heap.size,0,none⟩), .pointer (some ⟨w.heap.size + 1,0,none⟩), .pointer (some ⟨w.heap.size + 1 + 1,0,none⟩), .pointer (some ⟨w.heap.size + 1 + 1 + 1,0,none⟩), .pointer (some ⟨w.heap.size + 1 + 1 + 1 + 1,0,none⟩), .int .i64 0, .pointer (some ⟨gb,0,none⟩), .pointer (some ⟨k,0,none⟩),undef,undef,undef,undef, .slice A l.length c, .agg #[.int .i64 x, .int .i64 y, .int .i64 z], .int .i64 0, .int .i64 0, .bool false,undef,undef,undef, .slice A l.length c, .agg #[.int .i64 x, .int .i64 y, .int .i64 z], .func (.func 68) #[] #[.pointer (some ⟨w6.heap.size,0,none⟩), .pointer (some ⟨w6.heap.size + 1,0,none⟩)], .agg #[.slice e.A e.ps.length e.c],undef,undef,undef,undef,undef,undef,undef,undef,undef,undef,undef,undef,undef,undef,undef,undef,undef,undef,undef,undef,undef,undef,undef,undef,undef,undef,undef,undef,undef,undef,undef,undef,undef,undef,undef,undef,undef,undef,undef,undef,undef,undef,undef,undef,undef,undef,undef,undef,undef,undef,undef,undef,undef,undef,undef,undef],defers:=[] }) ?assign ?body ?done ?stop
  case seq=>exact recipes_seqM 2 (fun g=>g = gb) w6.heap.size (w6.heap.size + 1) l A c x y z w7 (fun g h=>by omega) (by omega) (by omega) (fun ad e=>by have:=hAB.out (by first | trivial | rfl) ad e; omega) (HCP.out.1.cell 0 rfl) HCP.out.2 ((hlW.out.below hB7 (Nat.le_refl _)).more hB7.size) hm HTS.out HXS.out
  case own =>
   rintro pre W W' row ⟨h1,h2,h3,h4,h5,h6,h7⟩ hg hr
   refine ⟨?_,h2.grown hg h2.size (fun k e=>by have:=(hr k e).1; omega),h3.grown hg (fun e=>by have:=(hr _ e.symm).1; omega),h4.grown hg (fun e=>by have:=(hr _ e.symm).1; omega),h5.grown hg (fun e=>by have:=(hr _ e.symm).1; omega),h6.grown hg (fun e=>by have:=(hr _ e.symm).1; omega),h7.grown hg (fun e=>by have:=(hr _ e.symm).1; omega)⟩
   rcases h1 with ⟨h1,hk⟩ | ⟨f,hf,hfm,hfa,hk⟩
   ·exact .inl ⟨h1,hk.grown hg (fun e=>by have:=(hr _ e.symm).1; omega)⟩
   ·exact .inr ⟨f,hf,hfm,hfa.kp (KpC.of_grown hg (fun r e=>(hr r e).2)),hk.grown hg (fun e=>by have:=(hr _ e.symm).1; omega)⟩
  case ownx =>
   rintro cc pre W W' row h hg hr
   exact h
  case pre =>
   rintro e W W' row ⟨h1,h2⟩ hg hr
   exact ⟨h1.kp (KpC.of_grown hg (fun r e=>(hr r e).2)),h2⟩
  case assign =>
   intro lb e W K hK
   gi_wp2
   exact hK
  case body =>
   rintro lb pre e W k hk1 hk2 ⟨hbest,hB,h3,h4,h5,h6,h7⟩ ⟨hat,hmem⟩ _
   have kb : Bk W k 25 #[.slice e.A e.ps.length e.c]:=hk2
   have lk:=kb.lt
   have l7:=h7.lt
   have hkgb : gb < W.heap.size:=by omega
   rcases hbest with ⟨hn,hg⟩ | ⟨f,hf,hfm,hfa,hg⟩
   ·have HST : Hid (bestF l (pre.map Er.ps ++ [e.ps]) = some e.ps):=by show _ = _; rw [bestF_snoc,hn]; rfl
    have yg:=hg.cell 0 rfl
    gi_wp2
    refine wpIn_region_round (S:=fun V=>V.cell? ⟨gb,0,none⟩ = some (.slice none 0 0)) (by kernel_rfl) (by kernel_rfl) (fun ⟨_,_,h⟩=>h) ?_ (fun hHeld=>?_)
    ·exact yg
    refine tk 0 26 ?_
    refine tk 1 27 ?_
    refine tk 2 28 ?_
    refine tk 3 29 ?_
    refine sk 4 30 ?_
    refine sk 5 31 ?_
    refine sk 6 32 ?_
    refine sk 7 33 ?_
    refine sk 8 34 ?_
    refine sk 9 35 ?_
    refine sk 10 36 ?_
    refine sk 11 37 ?_
    refine tk 12 38 ?_
    refine wpAnyH_done (by kernel_rfl) ?_ _
    have hbW : Below W.heap.size W W.drew:=(Below.refl _ _).drew
    have hBD:=hB.drew
    have kD:=kb.drew
    have kbD:=hg.drew
    have h3D:=h3.drew
    have h4D:=h4.drew
    have h5D:=h5.drew
    have h6D:=h6.drew
    have h7D:=h7.drew
    clear hHeld yg hg h3 h4 h5 h6 h7 hn
    generalize W.drew = w8 at *
    have yk:=kD.cell 0 rfl
    have fg:=kbD.fro 0
    have yb:=kbD.cell 0 rfl
    have lb':=kbD.lt
    gi_wp2
    have hBS:=hBD.setCell (p:=⟨gb,0,none⟩) (show w.heap.size ≤ gb by omega) (.slice e.A e.ps.length e.c)
    have hKP:=(KpC.of_below (own:=(fun g=>g = gb)) hbW).trans (kpc_set2 (own:=(fun g=>g = gb)) w8 (b:=gb) rfl 0 (.slice e.A e.ps.length e.c))
    have hKF:=(keeps_below (B:=w7.heap.size) hbW).trans ((KeepsOthers.setCell w8 ⟨gb,0,none⟩ (.slice e.A e.ps.length e.c)).from _)
    have hAT : Er.At w7.heap.size e (w8.setCell ⟨gb,0,none⟩ (.slice e.A e.ps.length e.c)):=⟨(hKP.lies hat.1 (fun ad e=>by have:=hat.2 ad e; omega)).more hKP.size,hat.2⟩
    refine ⟨hKF,hKP, .inr ⟨e,by rw [List.map_append]; exact HST.out,hmem,hAT,kbD.set 0 _⟩,hBS,(h3D.far (by show _ ≠ gb; omega) _),(h4D.far (by show _ ≠ gb; omega) _),(h5D.far (by show _ ≠ gb; omega) _),(h6D.far (by show _ ≠ gb; omega) _),(h7D.far (by show _ ≠ gb; omega) _)⟩
   ·obtain ⟨af,haf⟩:=HNN.out _ hfm f _ _ rfl hfa
    obtain ⟨r,hr⟩ : ∃ r,lessQ l e.ps f.ps = r:=⟨_,rfl⟩
    have HRR:=Lib.hid hr
    have yg:=hg.cell 0 rfl
    have HS : Hid (∀ V,Below W.heap.size W V → V.cell? ⟨w.heap.size,0,none⟩ = some (.slice A l.length c) ∧ (V.cell? ⟨gb,0,none⟩ = some (.slice f.A f.ps.length f.c) ∧ V.cell? ⟨k,0,none⟩ = some (.slice e.A e.ps.length e.c))):=fun V hV=>⟨(h3.below hV h3.lt).cell 0 rfl,(hg.below hV hg.lt).cell 0 rfl,(kb.below hV kb.lt).cell 0 rfl⟩
    have HP1 : Hid (∀ V,Below W.heap.size W V → Calls Try.prog 35 #[.slice A l.length c, .agg #[.slice e.A e.ps.length e.c]] V (FracEnd (priL l e.ps) V)):=fun V hV=>HPR.out e _ V (hB.trans (hV.mono hB.size)) (hat.kp (KpC.of_below hV)) hmem
    have HP2 : Hid (∀ V,Below W.heap.size W V → Calls Try.prog 35 #[.slice A l.length c, .agg #[.slice f.A f.ps.length f.c]] V (FracEnd (priL l f.ps) V)):=fun V hV=>HPR.out f _ V (hB.trans (hV.mono hB.size)) (hfa.kp (KpC.of_below hV)) hfm
    have HCM:=Lib.hid (fun V=>cmp_at (HRK.out _ hmem) (HRK.out _ hfm) V)
    clear hr
    gi_wp2
    refine wpIn_region_round (S:=fun V=>V.cell? ⟨w.heap.size,0,none⟩ = some (.slice A l.length c) ∧ (V.cell? ⟨gb,0,none⟩ = some (.slice (some af) f.ps.length f.c) ∧ V.cell? ⟨k,0,none⟩ = some (.slice e.A e.ps.length e.c))) (by kernel_rfl) (by kernel_rfl) (fun ⟨_,_,h⟩=>h) ?_ (fun hHeld=>?_)
    ·rw [← haf]; exact HS.out _ (Below.refl _ _).drew
    have hb8 : Below W.heap.size W W.drew:=(Below.refl _ _).drew
    generalize W.drew = w8 at *
    refine tk 0 26 ?_
    refine tk 1 27 ?_
    refine tk 2 28 ?_
    refine tk 3 29 ?_
    refine tk 4 30 ?_
    refine tk 5 31 ?_
    refine tk 7 33 ?_
    refine tk 8 34 ?_
    refine held_call 6 (some 32) 35 #[.slice A l.length c, .agg #[.slice e.A e.ps.length e.c]] rfl (by kernel_rfl) (by rfl) ?_ (HP1.out _ hb8) ?_
    ·simp only [List.getElem?_toArray,List.getElem?_cons_zero,List.getElem?_cons_succ,Option.map_some]
     refine congrArg some ?_
     go_simp
    rintro ee w9 ⟨rfl,hb9⟩
    replace hb9:=hb8.trans (hb9.mono hb8.size)
    refine ⟨_,rfl,by rw [← haf]; exact HS.out _ hb9,fun hHeld=>?_⟩
    (try simp only [Act.put,List.setIfInBounds_toArray,List.set_cons_zero,List.set_cons_succ])
    refine held_call 9 (some 35) 35 #[.slice A l.length c, .agg #[.slice (some af) f.ps.length f.c]] rfl (by kernel_rfl) (by rfl) ?_ (by rw [← haf]; exact HP2.out _ hb9) ?_
    ·simp only [List.getElem?_toArray,List.getElem?_cons_zero,List.getElem?_cons_succ,Option.map_some]
     refine congrArg some ?_
     go_simp
    rintro ee wA ⟨rfl,hbA⟩
    replace hbA:=hb9.trans (hbA.mono hb9.size)
    refine ⟨_,rfl,by rw [← haf]; exact HS.out _ hbA,fun hHeld=>?_⟩
    (try simp only [Act.put,List.setIfInBounds_toArray,List.set_cons_zero,List.set_cons_succ])
    refine held_call 10 (some 36) 38 #[.agg #[.int .i64 (priL l e.ps).1, .int .i64 (priL l e.ps).2], .agg #[.int .i64 (priL l f.ps).1, .int .i64 (priL l f.ps).2]] rfl (by kernel_rfl) (by rfl) ?_ (HCM.out _) ?_
    ·simp only [List.getElem?_toArray,List.getElem?_cons_zero,List.getElem?_cons_succ,Option.map_some]
     refine congrArg some ?_
     go_simp
    rintro ee wB ⟨cc,rfl,hcc,hbB⟩
    replace hbB:=hbA.trans (hbB.mono hbA.size)
    refine ⟨_,rfl,by rw [← haf]; exact HS.out _ hbB,fun hHeld=>?_⟩
    (try simp only [Act.put,List.setIfInBounds_toArray,List.set_cons_zero,List.set_cons_succ])
    rw [HRR.out] at hcc
    refine tk 11 37 ?_
    refine tk 12 38 ?_
    refine wpAnyH_done (by kernel_rfl) ?_ _
    have hbW:=hbB
    have hBD:=hB.trans (hbW.mono hB.size)
    have kD:=kb.below hbW kb.lt
    have kbD:=hg.below hbW hg.lt
    have h3D:=h3.below hbW h3.lt
    have h4D:=h4.below hbW h4.lt
    have h5D:=h5.below hbW h5.lt
    have h6D:=h6.below hbW h6.lt
    have h7D:=h7.below hbW h7.lt
    clear hHeld yg hg h3 h4 h5 h6 h7 hb8 hb9 hbA hbB
    try rw [hcc]
    cases r with
    | true =>
     have HST : Hid (bestF l (pre.map Er.ps ++ [e.ps]) = some e.ps):=by show _ = _; rw [bestF_snoc,hf]; simp [stepB,HRR.out]
     have yk:=kD.cell 0 rfl
     have fg:=kbD.fro 0
     have yb:=kbD.cell 0 rfl
     have lb':=kbD.lt
     gi_wp2
     have hBS:=hBD.setCell (p:=⟨gb,0,none⟩) (show w.heap.size ≤ gb by omega) (.slice e.A e.ps.length e.c)
     have hKP:=(KpC.of_below (own:=(fun g=>g = gb)) hbW).trans (kpc_set2 (own:=(fun g=>g = gb)) wB (b:=gb) rfl 0 (.slice e.A e.ps.length e.c))
     have hKF:=(keeps_below (B:=w7.heap.size) hbW).trans ((KeepsOthers.setCell wB ⟨gb,0,none⟩ (.slice e.A e.ps.length e.c)).from _)
     have hAT : Er.At w7.heap.size e (wB.setCell ⟨gb,0,none⟩ (.slice e.A e.ps.length e.c)):=⟨(hKP.lies hat.1 (fun ad e=>by have:=hat.2 ad e; omega)).more hKP.size,hat.2⟩
     refine ⟨hKF,hKP, .inr ⟨e,by rw [List.map_append]; exact HST.out,hmem,hAT,kbD.set 0 _⟩,hBS,(h3D.far (by show _ ≠ gb; omega) _),(h4D.far (by show _ ≠ gb; omega) _),(h5D.far (by show _ ≠ gb; omega) _),(h6D.far (by show _ ≠ gb; omega) _),(h7D.far (by show _ ≠ gb; omega) _)⟩
    | false =>
     have HST : Hid (bestF l (pre.map Er.ps ++ [e.ps]) = some f.ps):=by show _ = _; rw [bestF_snoc,hf]; simp [stepB,HRR.out]
     gi_wp2
     exact ⟨keeps_below hbW,KpC.of_below hbW, .inr ⟨f,by rw [List.map_append]; exact HST.out,hfm,hfa.kp (KpC.of_below hbW),kbD⟩,hBD,h3D,h4D,h5D,h6D,h7D⟩

  case stop =>
   rintro D cc pre W hwD hp hF hK
   exact hF.elim
  case done =>
   rintro D xs W hwD hS ⟨hbest,hB,r0,r1,r2,r3,r4⟩ hK
   have hM1:=Marks.cons (Marks.nil (w.heap.size + 5) W) (by omega : w.heap.size + 5 ≤ D) (by simp) hK
   rw [hS] at hbest
   have l9:=r4.lt
   rcases hbest with ⟨hn,hg⟩ | ⟨f,hf,hfm,hfa,hg⟩
   ·have HE1 : Hid (∀ W',Below w.heap.size w W' → CheE l x y z w (.returned (.tuple #[.agg #[.slice none 0 0], .agg #[.int .i64 0, .int .i64 0, .int .i64 0, .int .i64 0, .int .i64 0], .int .i64 61])) W'):=fun W' hb=>⟨hb, .inr (.inl ⟨HQ.out.symm,bestF_nil _ hn,rfl⟩)⟩
    have yg:=hg.cell 0 rfl
    have z20:=r2.fro 0
    have y20:=r2.cell 0 rfl
    have z30:=r3.fro 0
    have y30:=r3.cell 0 rfl
    have z31:=r3.fro 1
    have y31:=r3.cell 1 rfl
    have z32:=r3.fro 2
    have y32:=r3.cell 2 rfl
    have z33:=r3.fro 3
    have y33:=r3.cell 3 rfl
    have z34:=r3.fro 4
    have y34:=r3.cell 4 rfl
    have z40:=r4.fro 0
    have y40:=r4.cell 0 rfl
    go_wp2
    have g2:=(((((((r2.set 0 (.slice none 0 0)).far (p:=⟨w.heap.size + 3,0,none⟩) (by simp) (.int .i64 0)).far (p:=⟨w.heap.size + 3,1,none⟩) (by simp) (.int .i64 0)).far (p:=⟨w.heap.size + 3,2,none⟩) (by simp) (.int .i64 0)).far (p:=⟨w.heap.size + 3,3,none⟩) (by simp) (.int .i64 0)).far (p:=⟨w.heap.size + 3,4,none⟩) (by simp) (.int .i64 0)).far (p:=⟨w.heap.size + 4,0,none⟩) (by simp) (.int .i64 61))
    have g3:=(((((((r3.far (p:=⟨w.heap.size + 2,0,none⟩) (by simp) (.slice none 0 0)).set 0 (.int .i64 0)).set 1 (.int .i64 0)).set 2 (.int .i64 0)).set 3 (.int .i64 0)).set 4 (.int .i64 0)).far (p:=⟨w.heap.size + 4,0,none⟩) (by simp) (.int .i64 61))
    have g4:=(((((((r4.far (p:=⟨w.heap.size + 2,0,none⟩) (by simp) (.slice none 0 0)).far (p:=⟨w.heap.size + 3,0,none⟩) (by simp) (.int .i64 0)).far (p:=⟨w.heap.size + 3,1,none⟩) (by simp) (.int .i64 0)).far (p:=⟨w.heap.size + 3,2,none⟩) (by simp) (.int .i64 0)).far (p:=⟨w.heap.size + 3,3,none⟩) (by simp) (.int .i64 0)).far (p:=⟨w.heap.size + 3,4,none⟩) (by simp) (.int .i64 0)).set 0 (.int .i64 61))
    have gb:=(((((((hB.setCell (p:=⟨w.heap.size + 2,0,none⟩) (by simp) (.slice none 0 0)).setCell (p:=⟨w.heap.size + 3,0,none⟩) (by simp) (.int .i64 0)).setCell (p:=⟨w.heap.size + 3,1,none⟩) (by simp) (.int .i64 0)).setCell (p:=⟨w.heap.size + 3,2,none⟩) (by simp) (.int .i64 0)).setCell (p:=⟨w.heap.size + 3,3,none⟩) (by simp) (.int .i64 0)).setCell (p:=⟨w.heap.size + 3,4,none⟩) (by simp) (.int .i64 0)).setCell (p:=⟨w.heap.size + 4,0,none⟩) (by simp) (.int .i64 61))
    have gM:=hM1.keep (w':=(((((((W.setCell ⟨w.heap.size + 2,0,none⟩ (.slice none 0 0)).setCell ⟨w.heap.size + 3,0,none⟩ (.int .i64 0)).setCell ⟨w.heap.size + 3,1,none⟩ (.int .i64 0)).setCell ⟨w.heap.size + 3,2,none⟩ (.int .i64 0)).setCell ⟨w.heap.size + 3,3,none⟩ (.int .i64 0)).setCell ⟨w.heap.size + 3,4,none⟩ (.int .i64 0)).setCell ⟨w.heap.size + 4,0,none⟩ (.int .i64 61))) fun E hE h=>((Below.heap_setCell _ _ _ _ (by show E ≠ w.heap.size + 4; omega)).trans ((Below.heap_setCell _ _ _ _ (by show E ≠ w.heap.size + 3; omega)).trans ((Below.heap_setCell _ _ _ _ (by show E ≠ w.heap.size + 3; omega)).trans ((Below.heap_setCell _ _ _ _ (by show E ≠ w.heap.size + 3; omega)).trans ((Below.heap_setCell _ _ _ _ (by show E ≠ w.heap.size + 3; omega)).trans ((Below.heap_setCell _ _ _ _ (by show E ≠ w.heap.size + 3; omega)).trans ((Below.heap_setCell _ _ _ _ (by show E ≠ w.heap.size + 2; omega)).trans h)))))))
    have x20:=(gM.bk g2).cell 0 rfl
    have x30:=(gM.bk g3).cell 0 rfl
    have x31:=(gM.bk g3).cell 1 rfl
    have x32:=(gM.bk g3).cell 2 rfl
    have x33:=(gM.bk g3).cell 3 rfl
    have x34:=(gM.bk g3).cell 4 rfl
    have x40:=(gM.bk g4).cell 0 rfl
    have gB:=Marks.below (by omega) gM gb
    refine leaves_marks (v:=.tuple #[.agg #[.slice none 0 0], .agg #[.int .i64 0, .int .i64 0, .int .i64 0, .int .i64 0, .int .i64 0], .int .i64 61]) (.inl rfl) gM rfl ?_ (HE1.out _ gB)
    simp only [Nat.add_assoc,Nat.reduceAdd] at x20 x30 x31 x32 x33 x34 x40 ⊢
    generalize shut [D] _ = w9 at *
    simp [results,Try.results16,go_sem,x20,x30,x31,x32,x33,x34,x40]
   ·have HDX:=Lib.hid (dual_ex (x:=⟨x,y,z⟩) HOF.out (show shadeV ⟨x,y,z⟩ from HXS.out) hn1 hf)
    obtain ⟨af,haf⟩:=HNN.out _ hfm f _ _ rfl hfa
    have HBF:=Lib.hid hf
    have HFM:=Lib.hid hfm
    have HAF:=Lib.hid haf
    have yg:=hg.cell 0 rfl
    rw [haf] at yg
    clear hf hfm haf
    go_wp2
    clear yg
    rw [← HAF.out]
    have HIN : Hid (Below w.heap.size w W ∧ (Bk W w.heap.size 22 #[.slice A l.length c] ∧ (Bk W (w.heap.size + 1) 37 #[.int .i64 x, .int .i64 y, .int .i64 z] ∧ (Bk W (w.heap.size + 2) 25 #[.slice none 0 0] ∧ (Bk W (w.heap.size + 3) 44 #[.int .i64 0, .int .i64 0, .int .i64 0, .int .i64 0, .int .i64 0] ∧ (Bk W (w.heap.size + 4) 31 #[.int .i64 0] ∧ (f.At w7.heap.size W ∧ Bk W gb 25 #[.slice f.A f.ps.length f.c]))))))):=⟨hB,r0,r1,r2,r3,r4,hfa,hg⟩
    clear hB r0 r1 r2 r3 r4 hfa hg hK
    refine wp_loop (fun a' wr=>∃ (k : Nat) (m : Int) (Ds : List Nat) (u45 u46 u47 u48 u49 u50 u51 u52 : Value),(m = (k : Int) ∧ k ≤ 4 ∧ Hid (∀ j,k < j → j ≤ 4 → ∀ L ∈ chs l.length j 0,¬ dualGood l ⟨x,y,z⟩ f.ps L) ∧ Hid (Below w.heap.size w wr ∧ (Bk wr w.heap.size 22 #[.slice A l.length c] ∧ (Bk wr (w.heap.size + 1) 37 #[.int .i64 x, .int .i64 y, .int .i64 z] ∧ (Bk wr (w.heap.size + 2) 25 #[.slice none 0 0] ∧ (Bk wr (w.heap.size + 3) 44 #[.int .i64 0, .int .i64 0, .int .i64 0, .int .i64 0, .int .i64 0] ∧ (Bk wr (w.heap.size + 4) 31 #[.int .i64 0] ∧ (f.At w7.heap.size wr ∧ Bk wr gb 25 #[.slice f.A f.ps.length f.c]))))))) ∧ Marks (w.heap.size + 5) Ds wr) ∧ a' = { tmps:=#[.slice A l.length c, .agg #[.int .i64 x, .int .i64 y, .int .i64 z], .pointer (some ⟨w.heap.size,0,none⟩), .pointer (some ⟨w.heap.size + 1,0,none⟩), .pointer (some ⟨w.heap.size + 1 + 1,0,none⟩), .pointer (some ⟨w.heap.size + 1 + 1 + 1,0,none⟩), .pointer (some ⟨w.heap.size + 1 + 1 + 1 + 1,0,none⟩), .int .i64 0, .pointer (some ⟨gb,0,none⟩),undef, .int .i64 m,undef,undef,undef, .slice A l.length c, .agg #[.int .i64 x, .int .i64 y, .int .i64 z], .int .i64 0, .int .i64 0, .bool false,undef,undef,undef, .slice A l.length c, .agg #[.int .i64 x, .int .i64 y, .int .i64 z], .func (.func 68) #[] #[.pointer (some ⟨w6.heap.size,0,none⟩), .pointer (some ⟨w6.heap.size + 1,0,none⟩)],undef,undef,undef,undef,undef,undef,undef,undef,undef,undef,undef,undef,undef,undef,undef, .pointer (some ⟨gb,0,none⟩), .slice f.A f.ps.length f.c, .bool false,undef,undef,u45,u46,u47,u48,u49,u50,u51,u52,undef,undef,undef,undef,undef,undef,undef,undef,undef,undef,undef,undef,undef,undef,undef,undef,undef,undef,undef,undef,undef,undef,undef,undef,undef,undef,undef,undef,undef],defers:=marks Ds }) (fun a' _=>(intOf (a'.tmps.getD 10 undef)).toNat) ?_ ?_
    ·exact ⟨4,4,[D],undef,undef,undef,undef,undef,undef,undef,undef,⟨rfl,by omega,(show Hid _ from fun j h1 h2=>by omega),HIN,hM1⟩,rfl⟩
    clear HIN hM1 hwD
    rintro _ wr ⟨k,m,Ds,u45,u46,u47,u48,u49,u50,u51,u52,⟨rfl,hk4,HNG,HIN,hM⟩,rfl⟩
    by_cases hk : 1 ≤ k
    ·have hkI : (1 : Int) ≤ (k : Int):=by omega
     have hwk : IntKind.i64.wrap ((k : Int) - 1) = (k : Int) - 1:=IntWalk.i64_in _ (by omega)
     obtain ⟨hB,r0,r1,r2,r3,r4,hfa,hg⟩:=HIN.out
     have y0:=r0.cell 0 rfl
     have l0:=r4.lt
     clear HIN
     go_wp2_with (go_at_call 39; refine (choices_any l.length k wr).mono ?_; rintro e w2 ⟨rfl,hm_,hn_,hb2,hz2⟩)
     have hB2:=hB.trans (hb2.mono hB.size)
     have HI2 : Hid (Below w.heap.size w w2 ∧ (Bk w2 w.heap.size 22 #[.slice A l.length c] ∧ (Bk w2 (w.heap.size + 1) 37 #[.int .i64 x, .int .i64 y, .int .i64 z] ∧ (Bk w2 (w.heap.size + 2) 25 #[.slice none 0 0] ∧ (Bk w2 (w.heap.size + 3) 44 #[.int .i64 0, .int .i64 0, .int .i64 0, .int .i64 0, .int .i64 0] ∧ (Bk w2 (w.heap.size + 4) 31 #[.int .i64 0] ∧ (f.At w7.heap.size w2 ∧ Bk w2 gb 25 #[.slice f.A f.ps.length f.c]))))))):=⟨hB2,r0.below hb2 r0.lt,r1.below hb2 r1.lt,r2.below hb2 r2.lt,r3.below hb2 r3.lt,r4.below hb2 r4.lt,hfa.kp (KpC.of_below hb2),hg.below hb2 hg.lt⟩
     have l2 : w.heap.size + 4 < w2.heap.size:=by have:=hb2.size; omega
     have lg2 : gb < w2.heap.size:=HI2.out.2.2.2.2.2.2.2.lt
     have hM2:=hM.below_ hb2
     have hM2l : ∀ E ∈ Ds,E < w2.heap.size:=fun E hE=>hM2.lt hE
     clear y0 r0 hB hb2 hM
     refine (wpIn_wide (n:=3)).1 ?_
     refine rangeFunc_pre (n:=3) rfl (by omega) (gf:=72) (lb:=#[.pointer (some ⟨wr.heap.size + 1,0,none⟩), .pointer (some ⟨wr.heap.size,0,none⟩)]) rfl trivial (enters_of Try.func72 (by kernel_rfl) rfl)
      (encs:=choEnc) (Pre:=fun x W=>x.At W ∧ x.L ∈ chs l.length k 0) (Kp:=KpC (fun g=>g = w.heap.size + 2 ∨ g = w.heap.size + 3 ∨ g = w.heap.size + 4)) (S:=fun xs=>xs.map El.L = chs l.length k 0) (Sp:=fun pre=>pre.map El.L <+: chs l.length k 0) (N:=(chs l.length k 0).length) (w0:=w2) ?seq2 (fun h k=>h.trans k) (fun W l o o' _ h1 h2 _=>KpC.putObj o' h1 h2) (Below.refl _ _) (fun _=>rfl)
      (fun pre W=>(∀ L ∈ pre.map El.L,¬ dualGood l ⟨x,y,z⟩ f.ps L) ∧ (Marks (w.heap.size + 5) Ds W ∧ (Below w.heap.size w W ∧ (Bk W w.heap.size 22 #[.slice A l.length c] ∧ (Bk W (w.heap.size + 1) 37 #[.int .i64 x, .int .i64 y, .int .i64 z] ∧ (Bk W (w.heap.size + 2) 25 #[.slice none 0 0] ∧ (Bk W (w.heap.size + 3) 44 #[.int .i64 0, .int .i64 0, .int .i64 0, .int .i64 0, .int .i64 0] ∧ (Bk W (w.heap.size + 4) 31 #[.int .i64 0] ∧ (f.At w7.heap.size W ∧ Bk W gb 25 #[.slice f.A f.ps.length f.c])))))))))
      (fun cc pre W=>cc = .ret ∧ ∃ d : Du,okDu d ∧ belowB d l = true ∧ sameF (lowest (atD d x y z) d.den) (priL l f.ps) = true ∧ (Below w.heap.size w W ∧ (f.At w7.heap.size W ∧ (Bk W (w.heap.size + 2) 25 #[.slice f.A f.ps.length f.c] ∧ (Bk W (w.heap.size + 3) 44 d.arr ∧ (Bk W (w.heap.size + 4) 31 #[.int .i64 0] ∧ Marks (w.heap.size + 5) Ds W)))))) ?own2 ?ownx2 ?pre2 ⟨fun L hL=>by simp at hL,hM2,HI2.out⟩
      (fun e=>{ tmps:=#[.slice A l.length c, .agg #[.int .i64 x, .int .i64 y, .int .i64 z], .pointer (some ⟨w.heap.size,0,none⟩), .pointer (some ⟨w.heap.size + 1,0,none⟩), .pointer (some ⟨w.heap.size + 1 + 1,0,none⟩), .pointer (some ⟨w.heap.size + 1 + 1 + 1,0,none⟩), .pointer (some ⟨w.heap.size + 1 + 1 + 1 + 1,0,none⟩), .int .i64 0, .pointer (some ⟨gb,0,none⟩),undef, .int .i64 k,e.v,undef,undef, .slice A l.length c, .agg #[.int .i64 x, .int .i64 y, .int .i64 z], .int .i64 0, .int .i64 0, .bool false,undef,undef,undef, .slice A l.length c, .agg #[.int .i64 x, .int .i64 y, .int .i64 z], .func (.func 68) #[] #[.pointer (some ⟨w6.heap.size,0,none⟩), .pointer (some ⟨w6.heap.size + 1,0,none⟩)],undef,undef,undef,undef,undef,undef,undef,undef,undef,undef,undef,undef,undef,undef,undef, .pointer (some ⟨gb,0,none⟩), .slice f.A f.ps.length f.c, .bool false,undef,undef, .int .i64 k, .bool true,u47,u48, .slice A l.length c, .int .i64 l.length, .int .i64 k,choFn (wr.heap.size + 1) wr.heap.size,e.v,undef,undef,undef,undef,undef,undef,undef,undef,undef,undef,undef,undef,undef,undef,undef,undef,undef,undef,undef,undef,undef,undef,undef,undef,undef,undef,undef,undef],defers:=[] }) ?assign2 ?body2 ?done2 ?stop2
     case seq2=>exact choices_seq 2 (fun g=>g = w.heap.size + 2 ∨ g = w.heap.size + 3 ∨ g = w.heap.size + 4) (wr.heap.size + 1) wr.heap.size k l.length hm (by omega) w2 (fun g h=>by omega) (by omega) (by omega) hm_ hn_
     case own2 =>
      rintro pre W W' row ⟨h1,hMW,h2,h3,h4,h5,h6,h7,h8,h9⟩ hg hr
      exact ⟨h1,hMW.grown hg (fun r e hm=>by have:=(hr r e).1; have:=hM2l r hm; omega),h2.grown hg h2.size (fun k e=>by have:=(hr k e).1; omega),h3.grown hg (fun e=>by have:=(hr _ e.symm).1; omega),h4.grown hg (fun e=>by have:=(hr _ e.symm).1; omega),h5.grown hg (fun e=>by have:=(hr _ e.symm).1; omega),h6.grown hg (fun e=>by have:=(hr _ e.symm).1; omega),h7.grown hg (fun e=>by have:=(hr _ e.symm).1; omega),h8.kp (KpC.of_grown hg (fun r e=>(hr r e).2)),h9.grown hg (fun e=>by have:=(hr _ e.symm).1; omega)⟩
     case ownx2 =>
      rintro cc pre W W' row ⟨h0,d,d1,d2,d3,h2,h8,h5,h6,h7,hMW⟩ hg hr
      exact ⟨h0,d,d1,d2,d3,h2.grown hg h2.size (fun k e=>by have:=(hr k e).1; omega),h8.kp (KpC.of_grown hg (fun r e=>(hr r e).2)),h5.grown hg (fun e=>by have:=(hr _ e.symm).1; omega),h6.grown hg (fun e=>by have:=(hr _ e.symm).1; omega),h7.grown hg (fun e=>by have:=(hr _ e.symm).1; omega),hMW.grown hg (fun r e hm=>by have:=(hr r e).1; have:=hM2l r hm; omega)⟩
     case pre2 =>
      rintro e W W' row ⟨h1,h2⟩ hg hr
      exact ⟨h1.kp (KpC.of_grown hg (fun r e=>(hr r e).2)),h2⟩
     case assign2 =>
      intro lb e W K hK
      gi_wp2
      exact hK
     case done2 =>
      rintro D xs W' hwD hS ⟨hng,hMW,hinf⟩ hK
      have hM3:=Marks.cons hMW (by omega : w.heap.size + 5 ≤ D) (fun hm=>by have:=hM2l D hm; omega) hK
      have HIN3:=Lib.hid hinf
      have HNG3 : Hid (∀ j,k - 1 < j → j ≤ 4 → ∀ L ∈ chs l.length j 0,¬ dualGood l ⟨x,y,z⟩ f.ps L):=fun j h1 h2 L hL=>by
       by_cases hj : j = k
       ·subst hj; rw [← hS] at hL; exact hng L hL
       ·exact HNG.out j (by omega) h2 L hL
      clear hinf hng hK hS hMW
      go_wp2
      refine ⟨⟨k - 1,(k : Int) - 1,D :: Ds,_,_,_,_,_,_,_,_,⟨by omega,by omega,HNG3,HIN3,hM3⟩,rfl⟩,?_⟩
      simp [intOf]
      omega
     case stop2 =>
      rintro D cc pre W' hwD hp ⟨rfl,d,d1,d2,d3,hB,hfa,g2,g3,g4,hMW⟩ hK
      have hM3:=Marks.cons hMW (by omega : w.heap.size + 5 ≤ D) (fun hm=>by have:=hM2l D hm; omega) hK
      gi_wp2
      have x20:=(hM3.bk g2).cell 0 rfl
      have x30:=(hM3.bk g3).cell 0 rfl
      have x31:=(hM3.bk g3).cell 1 rfl
      have x32:=(hM3.bk g3).cell 2 rfl
      have x33:=(hM3.bk g3).cell 3 rfl
      have x34:=(hM3.bk g3).cell 4 rfl
      have x40:=(hM3.bk g4).cell 0 rfl
      have gB:=Marks.below (by omega) hM3 hB
      have hf0 : f.At w7.heap.size (shut (D :: Ds) W'):=Marks.own (B:=w.heap.size + 5) (base:=w.heap.size + 5) (J:=fun (_ : Unit) W=>f.At w7.heap.size W) (s:=()) (fun s A B row h hg hr=>h.kp (KpC.of_grown hg (fun r e=>(hr r e).2))) (Nat.le_refl _) hM3 hfa
      have hfS : f.At w.heap.size (shut (D :: Ds) W'):=⟨hf0.1,fun ad e=>by have:=hf0.2 ad e; omega⟩
      obtain ⟨n0,n1,n2,n3,dn⟩:=d
      refine leaves_marks (v:=.tuple #[.agg #[.slice f.A f.ps.length f.c], .agg #[.int .i64 n0, .int .i64 n1, .int .i64 n2, .int .i64 n3, .int .i64 dn], .int .i64 0]) (.inl rfl) hM3 rfl ?_ ⟨gB, .inr (.inr ⟨HQ.out.symm,f,⟨n0,n1,n2,n3,dn⟩,HBF.out,HFM.out,d1,d2,d3,rfl,hfS⟩)⟩
      generalize shut (D :: Ds) W' = w9 at *
      simp [results,Try.results16,go_sem,x20,x30,x31,x32,x33,x34,x40]
     case body2 =>
      rintro lb' pre e W' ⟨hng,hMW,hB,h3,h4,h5,h6,h7,hfa,hg⟩ ⟨hat,hmem⟩ hlen
      have y0:=h3.cell 0 rfl
      have lh7:=h7.lt
      obtain ⟨m1,_,m3⟩:=(mem_chs _ _ _ _).1 hmem
      have HCI : Hid (∀ i ∈ e.L,i < l.length):=fun i hi=>(m3 i hi).2
      have HSO : Hid (∀ V,Below W'.heap.size W' V → Calls Try.prog 40 #[.slice A l.length c, .slice e.A e.L.length e.c] V (SvE (solC l e.L) V)):=fun V hV=>solved_any l e.L A e.A c e.c V ((hlW.out.below (hB.trans (hV.mono hB.size)) (Nat.le_refl _)).more (hB.trans (hV.mono hB.size)).size) (hat.below hV).1 (by omega) hat.2.2 HCI.out hm HOF.out
      have HNX0 : Hid (¬ dualGood l ⟨x,y,z⟩ f.ps e.L → ∀ L ∈ (pre ++ [e]).map El.L,¬ dualGood l ⟨x,y,z⟩ f.ps L):=fun hne L hL=>by
       rw [List.map_append] at hL
       rcases List.mem_append.1 hL with h | h
       ·exact hng L h
       ·obtain rfl:=List.mem_singleton.1 h
        exact hne
      clear hmem hlen m1 m3
      gi_wp2
      refine ⟨trivial,?_⟩
      refine CallsIn.mono (callsIn_round (HSO.out _ (Below.refl _ _))) ?_
      rintro ee w9 ⟨hb9,⟨n0,n1,n2,n3,dn⟩,ok,rfl,hsol⟩
      have hgW:=hb9.size
      obtain ⟨W3,hW3⟩ : ∃ v,v = w9.alloc (.cells #[.int .i64 n0, .int .i64 n1, .int .i64 n2, .int .i64 n3, .int .i64 dn] 44):=⟨_,rfl⟩
      have hb3 : Below W'.heap.size W' W3:=by rw [hW3]; exact hb9.alloc hgW _
      have kg : Bk W3 w9.heap.size 44 #[.int .i64 n0, .int .i64 n1, .int .i64 n2, .int .i64 n3, .int .i64 dn]:=by rw [hW3]; exact Bk.new _ _ _
      clear HSO y0
      have k3:=h3.below hb3 h3.lt
      have k4:=h4.below hb3 h4.lt
      have kgb:=hg.below hb3 hg.lt
      have hgg : gb < w9.heap.size:=by have:=hg.lt; omega
      have hg4 : w.heap.size + 4 < w9.heap.size:=by omega
      cases ok with
      | false =>
       have HNX : Hid (∀ L ∈ (pre ++ [e]).map El.L,¬ dualGood l ⟨x,y,z⟩ f.ps L):=HNX0.out (by
        rintro ⟨d',h1,_⟩
        rw [hsol] at h1
        cases h1)
       clear hsol
       gi_wp2
       rw [← hW3]
       clear hW3
       generalize w9.heap.size = g at *
       refine wpIn_region_round (S:=fun V=>True) (by kernel_rfl) (by kernel_rfl) (fun ⟨_,_,h⟩=>h) trivial (fun hHeld=>?_)
       have hbw4 : Below W3.heap.size W3 W3.drew:=(Below.refl _ _).drew
       generalize W3.drew = w4 at *
       refine tk 0 60 ?_
       refine tk 1 61 ?_
       refine sk 2 62 ?_
       refine sk 3 63 ?_
       refine sk 4 64 ?_
       refine tk 5 65 ?_
       refine tk 6 66 ?_
       refine sk 7 67 ?_
       refine sk 8 68 ?_
       refine sk 9 69 ?_
       refine sk 10 70 ?_
       refine sk 11 71 ?_
       refine sk 12 72 ?_
       refine sk 13 73 ?_
       refine sk 14 74 ?_
       refine sk 15 75 ?_
       refine sk 16 76 ?_
       refine tk 17 77 ?_
       refine wpAnyH_done (by kernel_rfl) ?_ _
       gi_wp2
       have hbT : Below W'.heap.size W' w4:=hb3.trans (hbw4.mono hb3.size)
       exact ⟨keeps_below hbT,KpC.of_below hbT,HNX.out,hMW.below_ hbT,hB.trans (hbT.mono hB.size),h3.below hbT h3.lt,h4.below hbT h4.lt,h5.below hbT h5.lt,h6.below hbT h6.lt,h7.below hbT h7.lt,hfa.kp (KpC.of_below hbT),hg.below hbT hg.lt⟩
      | true =>
       have hokd:=solC_ok HOF.out HCI.out hsol
       have HSL : Hid (solC l e.L = some ⟨n0,n1,n2,n3,dn⟩):=hsol
       have HOK:=Lib.hid hokd
       have hBW3 : Below w.heap.size w W3:=hB.trans (hb3.mono hB.size)
       have HBL : Hid (∀ V,Below W3.heap.size W3 V → Calls Try.prog 41 #[.slice A l.length c, .agg #[.int .i64 n0, .int .i64 n1, .int .i64 n2, .int .i64 n3, .int .i64 dn]] V (ShEnd (belowB ⟨n0,n1,n2,n3,dn⟩ l) V)):=fun V hV=>below_any ⟨n0,n1,n2,n3,dn⟩ l A c V ((hlW.out.below (hBW3.trans (hV.mono hBW3.size)) (Nat.le_refl _)).more (hBW3.trans (hV.mono hBW3.size)).size) hm hokd HOF.out
       have HAT : Hid (∀ V,Calls Try.prog 43 #[.agg #[.int .i64 n0, .int .i64 n1, .int .i64 n2, .int .i64 n3, .int .i64 dn], .agg #[.int .i64 x, .int .i64 y, .int .i64 z]] V (IntEnd (atD ⟨n0,n1,n2,n3,dn⟩ x y z) V)):=fun V=>at_any ⟨n0,n1,n2,n3,dn⟩ x y z V hokd HXS.out
       have HFR : Hid (∀ V,Calls Try.prog 42 #[.int .i64 (atD ⟨n0,n1,n2,n3,dn⟩ x y z), .int .i64 dn] V (FracEnd (lowest (atD ⟨n0,n1,n2,n3,dn⟩ x y z) dn) V)):=fun V=>fraction_any (atD ⟨n0,n1,n2,n3,dn⟩ x y z) dn V (by have:=atD_bound hokd HXS.out; unfold bigP; omega) (by have:=hokd.2.2.2.2; unfold bigP; dsimp only at this; omega) hokd.2.2.2.2.1
       have HPF : Hid (∀ V,Below W3.heap.size W3 V → Calls Try.prog 35 #[.slice A l.length c, .agg #[.slice f.A f.ps.length f.c]] V (FracEnd (priL l f.ps) V)):=fun V hV=>HPR.out f _ V (hBW3.trans (hV.mono hBW3.size)) (hfa.kp (KpC.of_below (hb3.trans (hV.mono hb3.size)))) HFM.out
       have HGD : Hid (belowB ⟨n0,n1,n2,n3,dn⟩ l = true → sameF (lowest (atD ⟨n0,n1,n2,n3,dn⟩ x y z) dn) (priL l f.ps) = true → dualGood l ⟨x,y,z⟩ f.ps e.L):=fun h1 h2=>⟨_,hsol,h1,h2⟩
       have HNG2 : Hid ((belowB ⟨n0,n1,n2,n3,dn⟩ l = false ∨ sameF (lowest (atD ⟨n0,n1,n2,n3,dn⟩ x y z) dn) (priL l f.ps) = false) → ∀ L ∈ (pre ++ [e]).map El.L,¬ dualGood l ⟨x,y,z⟩ f.ps L):=fun h=>HNX0.out (by
        rintro ⟨d',h1,h2,h3⟩
        rw [hsol] at h1
        cases h1
        rcases h with h | h
        ·rw [h] at h2; cases h2
        ·rw [h] at h3; cases h3)
       obtain ⟨av,hav⟩ : ∃ v,v = atD ⟨n0,n1,n2,n3,dn⟩ x y z:=⟨_,rfl⟩
       obtain ⟨F1,F2,hFF⟩ : ∃ a b,lowest (atD ⟨n0,n1,n2,n3,dn⟩ x y z) dn = (a,b):=⟨_,_,rfl⟩
       obtain ⟨P1,P2,hPP⟩ : ∃ a b,priL l f.ps = (a,b):=⟨_,_,rfl⟩
       have HFF:=Lib.hid hFF
       have HPP:=Lib.hid hPP
       rw [hFF] at HFR HNG2
       rw [hPP] at HPF HNG2
       rw [← hav] at HFR HAT
       clear hsol hokd hav hFF hPP
       gi_wp2
       rw [← hW3]
       clear hW3
       generalize w9.heap.size = g at *
       have HS17 : Hid (∀ V,Below W3.heap.size W3 V → V.cell? ⟨w.heap.size,0,none⟩ = some (.slice A l.length c) ∧ ((V.cell? ⟨w.heap.size + 1,0,none⟩ = some (.int .i64 x) ∧ V.cell? ⟨w.heap.size + 1,1,none⟩ = some (.int .i64 y) ∧ V.cell? ⟨w.heap.size + 1,2,none⟩ = some (.int .i64 z)) ∧ ((V.cell? ⟨g,0,none⟩ = some (.int .i64 n0) ∧ V.cell? ⟨g,1,none⟩ = some (.int .i64 n1) ∧ V.cell? ⟨g,2,none⟩ = some (.int .i64 n2) ∧ V.cell? ⟨g,3,none⟩ = some (.int .i64 n3) ∧ V.cell? ⟨g,4,none⟩ = some (.int .i64 dn)) ∧ V.cell? ⟨gb,0,none⟩ = some (.slice f.A f.ps.length f.c)))):=fun V hV=>by
        have q0:=k3.below hV k3.lt
        have q1:=k4.below hV k4.lt
        have q2:=kg.below hV kg.lt
        have q3:=kgb.below hV kgb.lt
        exact ⟨q0.cell 0 rfl,⟨q1.cell 0 rfl,q1.cell 1 rfl,q1.cell 2 rfl⟩,⟨q2.cell 0 rfl,q2.cell 1 rfl,q2.cell 2 rfl,q2.cell 3 rfl,q2.cell 4 rfl⟩,q3.cell 0 rfl⟩
       refine wpIn_region_round (S:=fun V=>V.cell? ⟨w.heap.size,0,none⟩ = some (.slice A l.length c) ∧ ((V.cell? ⟨w.heap.size + 1,0,none⟩ = some (.int .i64 x) ∧ V.cell? ⟨w.heap.size + 1,1,none⟩ = some (.int .i64 y) ∧ V.cell? ⟨w.heap.size + 1,2,none⟩ = some (.int .i64 z)) ∧ ((V.cell? ⟨g,0,none⟩ = some (.int .i64 n0) ∧ V.cell? ⟨g,1,none⟩ = some (.int .i64 n1) ∧ V.cell? ⟨g,2,none⟩ = some (.int .i64 n2) ∧ V.cell? ⟨g,3,none⟩ = some (.int .i64 n3) ∧ V.cell? ⟨g,4,none⟩ = some (.int .i64 dn)) ∧ V.cell? ⟨gb,0,none⟩ = some (.slice f.A f.ps.length f.c)))) (by kernel_rfl) (by kernel_rfl) (fun ⟨_,_,h⟩=>h) ?_ (fun hHeld=>?_)
       ·exact HS17.out _ (Below.refl _ _).drew
       have hbw4 : Below W3.heap.size W3 W3.drew:=(Below.refl _ _).drew
       generalize W3.drew = w4 at *
       refine tk 0 60 ?_
       refine tk 1 61 ?_
       refine tk 2 62 ?_
       refine tk 3 63 ?_
       obtain ⟨bl,hbl⟩ : ∃ b,belowB ⟨n0,n1,n2,n3,dn⟩ l = b:=⟨_,rfl⟩
       have HBB:=Lib.hid hbl
       rw [hbl] at HBL
       clear hbl
       refine held_call 4 (some 64) 41 #[.slice A l.length c, .agg #[.int .i64 n0, .int .i64 n1, .int .i64 n2, .int .i64 n3, .int .i64 dn]] rfl (by kernel_rfl) (by rfl) ?_ (HBL.out _ hbw4) ?_
       ·simp only [List.getElem?_toArray,List.getElem?_cons_zero,List.getElem?_cons_succ,Option.map_some]
        refine congrArg some ?_
        go_simp
       rintro ee w5 ⟨rfl,hbw5⟩
       replace hbw5:=hbw4.trans (hbw5.mono hbw4.size)
       refine ⟨_,rfl,HS17.out _ hbw5,fun hHeld=>?_⟩
       (try simp only [Act.put,List.setIfInBounds_toArray,List.set_cons_zero,List.set_cons_succ])
       cases bl with
       | false =>
        have HNX:=Lib.hid (HNG2.out (.inl HBB.out))
        refine tk 5 65 ?_
        refine tk 6 66 ?_
        refine sk 7 67 ?_
        refine sk 8 68 ?_
        refine sk 9 69 ?_
        refine sk 10 70 ?_
        refine sk 11 71 ?_
        refine sk 12 72 ?_
        refine sk 13 73 ?_
        refine sk 14 74 ?_
        refine sk 15 75 ?_
        refine sk 16 76 ?_
        refine tk 17 77 ?_
        refine wpAnyH_done (by kernel_rfl) ?_ _
        gi_wp2
        have hbT : Below W'.heap.size W' w5:=hb3.trans (hbw5.mono hb3.size)
        exact ⟨keeps_below hbT,KpC.of_below hbT,HNX.out,hMW.below_ hbT,hB.trans (hbT.mono hB.size),h3.below hbT h3.lt,h4.below hbT h4.lt,h5.below hbT h5.lt,h6.below hbT h6.lt,h7.below hbT h7.lt,hfa.kp (KpC.of_below hbT),hg.below hbT hg.lt⟩
       | true =>
        refine tk 5 65 ?_
        refine tk 6 66 ?_
        refine tk 7 67 ?_
        refine tk 8 68 ?_
        refine tk 10 70 ?_
        refine tk 11 71 ?_
        refine tk 13 73 ?_
        refine tk 14 74 ?_
        refine held_call 9 (some 69) 43 #[.agg #[.int .i64 n0, .int .i64 n1, .int .i64 n2, .int .i64 n3, .int .i64 dn], .agg #[.int .i64 x, .int .i64 y, .int .i64 z]] rfl (by kernel_rfl) (by rfl) ?_ (HAT.out _) ?_
        ·simp only [List.getElem?_toArray,List.getElem?_cons_zero,List.getElem?_cons_succ,Option.map_some]
         refine congrArg some ?_
         go_simp
        rintro ee w6 ⟨rfl,hbw6⟩
        replace hbw6:=hbw5.trans (hbw6.mono hbw5.size)
        refine ⟨_,rfl,HS17.out _ hbw6,fun hHeld=>?_⟩
        (try simp only [Act.put,List.setIfInBounds_toArray,List.set_cons_zero,List.set_cons_succ])
        refine held_call 12 (some 72) 42 #[.int .i64 av, .int .i64 dn] rfl (by kernel_rfl) (by rfl) ?_ (HFR.out _) ?_
        ·simp only [List.getElem?_toArray,List.getElem?_cons_zero,List.getElem?_cons_succ,Option.map_some]
         refine congrArg some ?_
         go_simp
        rintro ee wA ⟨rfl,hbwA⟩
        replace hbwA:=hbw6.trans (hbwA.mono hbw6.size)
        refine ⟨_,rfl,HS17.out _ hbwA,fun hHeld=>?_⟩
        (try simp only [Act.put,List.setIfInBounds_toArray,List.set_cons_zero,List.set_cons_succ])
        refine held_call 15 (some 75) 35 #[.slice A l.length c, .agg #[.slice f.A f.ps.length f.c]] rfl (by kernel_rfl) (by rfl) ?_ (HPF.out _ hbwA) ?_
        ·simp only [List.getElem?_toArray,List.getElem?_cons_zero,List.getElem?_cons_succ,Option.map_some]
         refine congrArg some ?_
         go_simp
        rintro ee wB ⟨rfl,hbwB⟩
        replace hbwB:=hbwA.trans (hbwB.mono hbwA.size)
        refine ⟨_,rfl,HS17.out _ hbwB,fun hHeld=>?_⟩
        (try simp only [Act.put,List.setIfInBounds_toArray,List.set_cons_zero,List.set_cons_succ])

        have hBB : Below W'.heap.size W' wB:=hb3.trans (hbwB.mono hb3.size)
        obtain ⟨sm,hsm⟩ : ∃ b,sameF (F1,F2) (P1,P2) = b:=⟨_,rfl⟩
        have HSM:=Lib.hid hsm
        have E29 : ∀ v : World,(Op.equalIn 10000 29 (.agg #[.int .i64 F1, .int .i64 F2]) (.agg #[.int .i64 P1, .int .i64 P2])).run Try.prog v = .ok sm v:=fun v=>by rw [eq29 9998]; exact congrArg (fun b=>Result.ok b v) hsm
        clear hsm
        refine tk 16 76 ?_
        refine tk 17 77 ?_
        refine wpAnyH_done (by kernel_rfl) ?_ _
        clear E29
        cases sm with
        | false =>
         have HNX:=Lib.hid (HNG2.out (.inr HSM.out))
         gi_wp2
         have hbT : Below W'.heap.size W' wB:=hBB
         exact ⟨keeps_below hbT,KpC.of_below hbT,HNX.out,hMW.below_ hbT,hB.trans (hbT.mono hB.size),h3.below hbT h3.lt,h4.below hbT h4.lt,h5.below hbT h5.lt,h6.below hbT h6.lt,h7.below hbT h7.lt,hfa.kp (KpC.of_below hbT),hg.below hbT hg.lt⟩
        | true =>
         have hBw : Below w.heap.size w wB:=hB.trans (hBB.mono hB.size)
         have c2:=h5.below hBB h5.lt
         have c3:=h6.below hBB h6.lt
         have c4:=h7.below hBB h7.lt
         have cg:=kg.below hbwB kg.lt
         have cb:=kgb.below hbwB kgb.lt
         have hfB : f.At w7.heap.size wB:=hfa.kp (KpC.of_below hBB)
         have hMB:=hMW.below_ hBB
         have hgl : W'.heap.size ≤ g:=hgW
         have hl2:=c4.lt
         clear hHeld HS17
         gi_wp2
         have HS18 : Hid (∀ V,Bk V g 44 #[.int .i64 n0, .int .i64 n1, .int .i64 n2, .int .i64 n3, .int .i64 dn] → Bk V gb 25 #[.slice f.A f.ps.length f.c] → (V.cell? ⟨g,0,none⟩ = some (.int .i64 n0) ∧ V.cell? ⟨g,1,none⟩ = some (.int .i64 n1) ∧ V.cell? ⟨g,2,none⟩ = some (.int .i64 n2) ∧ V.cell? ⟨g,3,none⟩ = some (.int .i64 n3) ∧ V.cell? ⟨g,4,none⟩ = some (.int .i64 dn)) ∧ V.cell? ⟨gb,0,none⟩ = some (.slice f.A f.ps.length f.c)):=fun V q2 q3=>⟨⟨q2.cell 0 rfl,q2.cell 1 rfl,q2.cell 2 rfl,q2.cell 3 rfl,q2.cell 4 rfl⟩,q3.cell 0 rfl⟩
         refine wpIn_region_round (S:=fun V=>(V.cell? ⟨g,0,none⟩ = some (.int .i64 n0) ∧ V.cell? ⟨g,1,none⟩ = some (.int .i64 n1) ∧ V.cell? ⟨g,2,none⟩ = some (.int .i64 n2) ∧ V.cell? ⟨g,3,none⟩ = some (.int .i64 n3) ∧ V.cell? ⟨g,4,none⟩ = some (.int .i64 dn)) ∧ V.cell? ⟨gb,0,none⟩ = some (.slice f.A f.ps.length f.c)) (by kernel_rfl) (by kernel_rfl) (fun ⟨_,_,h⟩=>h) ?_ (fun hHeld=>?_)
         ·exact HS18.out _ cg.drew cb.drew
         have hBD : Below W'.heap.size W' wB.drew:=hBB.drew
         replace hBw:=hBw.drew
         have b2:=c2.drew
         have b3:=c3.drew
         have b4:=c4.drew
         replace cg:=cg.drew
         replace cb:=cb.drew
         replace hfB : f.At w7.heap.size wB.drew:=hfB
         replace hMB:=hMB.below_ (Below.refl _ wB).drew
         clear c2 c3 c4
         generalize wB.drew = v0 at *
         refine tk 0 78 ?_
         refine tk 1 79 ?_
         have m2 : w.heap.size + 1 + 1 < v0.heap.size:=by have:=b4.lt; omega
         have m3 : w.heap.size + 1 + 1 + 1 < v0.heap.size:=by have:=b4.lt; omega
         have m4 : w.heap.size + 1 + 1 + 1 + 1 < v0.heap.size:=by have:=b4.lt; omega
         have z20:=b2.fro 0
         have y20:=b2.cell 0 rfl
         have z30:=b3.fro 0
         have y30:=b3.cell 0 rfl
         have z31:=b3.fro 1
         have y31:=b3.cell 1 rfl
         have z32:=b3.fro 2
         have y32:=b3.cell 2 rfl
         have z33:=b3.fro 3
         have y33:=b3.cell 3 rfl
         have z34:=b3.fro 4
         have y34:=b3.cell 4 rfl
         have z40:=b4.fro 0
         have y40:=b4.cell 0 rfl
         clear hHeld
         refine held_one 2 ⟨none, .store 25 (.tmp 4) (.tmp 78),_,_,_,none⟩ rfl (by kernel_rfl) (by rfl) ?_
         unfold Oper.wp
         go_simp
         refine ⟨HS18.out _ cg cb,?_⟩
         (try simp only [Act.put,List.setIfInBounds_toArray,List.set_cons_zero,List.set_cons_succ])
         refine held_one 3 ⟨none, .store 44 (.tmp 5) (.tmp 79),_,_,_,none⟩ rfl (by kernel_rfl) (by rfl) ?_
         unfold Oper.wp
         go_simp
         refine ⟨HS18.out _ cg cb,?_⟩
         (try simp only [Act.put,List.setIfInBounds_toArray,List.set_cons_zero,List.set_cons_succ])
         refine held_one 4 ⟨none, .store 31 (.tmp 6) (.const (.int .i64 0)),_,_,_,none⟩ rfl (by kernel_rfl) (by rfl) ?_
         unfold Oper.wp
         go_simp
         refine ⟨HS18.out _ cg cb,?_⟩
         (try simp only [Act.put,List.setIfInBounds_toArray,List.set_cons_zero,List.set_cons_succ])
         refine wpAnyH_done (by kernel_rfl) ?_ _
         have g2:=(((((((b2.set 0 (.slice f.A f.ps.length f.c)).far (p:=⟨w.heap.size + 3,0,none⟩) (by simp) (.int .i64 n0)).far (p:=⟨w.heap.size + 3,1,none⟩) (by simp) (.int .i64 n1)).far (p:=⟨w.heap.size + 3,2,none⟩) (by simp) (.int .i64 n2)).far (p:=⟨w.heap.size + 3,3,none⟩) (by simp) (.int .i64 n3)).far (p:=⟨w.heap.size + 3,4,none⟩) (by simp) (.int .i64 dn)).far (p:=⟨w.heap.size + 4,0,none⟩) (by simp) (.int .i64 0))
         have g3:=(((((((b3.far (p:=⟨w.heap.size + 2,0,none⟩) (by simp) (.slice f.A f.ps.length f.c)).set 0 (.int .i64 n0)).set 1 (.int .i64 n1)).set 2 (.int .i64 n2)).set 3 (.int .i64 n3)).set 4 (.int .i64 dn)).far (p:=⟨w.heap.size + 4,0,none⟩) (by simp) (.int .i64 0))
         have g4:=(((((((b4.far (p:=⟨w.heap.size + 2,0,none⟩) (by simp) (.slice f.A f.ps.length f.c)).far (p:=⟨w.heap.size + 3,0,none⟩) (by simp) (.int .i64 n0)).far (p:=⟨w.heap.size + 3,1,none⟩) (by simp) (.int .i64 n1)).far (p:=⟨w.heap.size + 3,2,none⟩) (by simp) (.int .i64 n2)).far (p:=⟨w.heap.size + 3,3,none⟩) (by simp) (.int .i64 n3)).far (p:=⟨w.heap.size + 3,4,none⟩) (by simp) (.int .i64 dn)).set 0 (.int .i64 0))
         have gbl:=(((((((hBw.setCell (p:=⟨w.heap.size + 2,0,none⟩) (by simp) (.slice f.A f.ps.length f.c)).setCell (p:=⟨w.heap.size + 3,0,none⟩) (by simp) (.int .i64 n0)).setCell (p:=⟨w.heap.size + 3,1,none⟩) (by simp) (.int .i64 n1)).setCell (p:=⟨w.heap.size + 3,2,none⟩) (by simp) (.int .i64 n2)).setCell (p:=⟨w.heap.size + 3,3,none⟩) (by simp) (.int .i64 n3)).setCell (p:=⟨w.heap.size + 3,4,none⟩) (by simp) (.int .i64 dn)).setCell (p:=⟨w.heap.size + 4,0,none⟩) (by simp) (.int .i64 0))
         have hkf:=((((((((keeps_below (B:=w2.heap.size) hBD).trans ((KeepsOthers.setCell _ ⟨w.heap.size + 2,0,none⟩ (.slice f.A f.ps.length f.c)).from _)).trans ((KeepsOthers.setCell _ ⟨w.heap.size + 3,0,none⟩ (.int .i64 n0)).from _)).trans ((KeepsOthers.setCell _ ⟨w.heap.size + 3,1,none⟩ (.int .i64 n1)).from _)).trans ((KeepsOthers.setCell _ ⟨w.heap.size + 3,2,none⟩ (.int .i64 n2)).from _)).trans ((KeepsOthers.setCell _ ⟨w.heap.size + 3,3,none⟩ (.int .i64 n3)).from _)).trans ((KeepsOthers.setCell _ ⟨w.heap.size + 3,4,none⟩ (.int .i64 dn)).from _)).trans ((KeepsOthers.setCell _ ⟨w.heap.size + 4,0,none⟩ (.int .i64 0)).from _))
         have hkp:=((((((((KpC.of_below (own:=(fun g=>g = w.heap.size + 2 ∨ g = w.heap.size + 3 ∨ g = w.heap.size + 4)) hBD).trans (kpc_set2 _ (b:=w.heap.size + 2) (by simp) 0 (.slice f.A f.ps.length f.c))).trans (kpc_set2 _ (b:=w.heap.size + 3) (by simp) 0 (.int .i64 n0))).trans (kpc_set2 _ (b:=w.heap.size + 3) (by simp) 1 (.int .i64 n1))).trans (kpc_set2 _ (b:=w.heap.size + 3) (by simp) 2 (.int .i64 n2))).trans (kpc_set2 _ (b:=w.heap.size + 3) (by simp) 3 (.int .i64 n3))).trans (kpc_set2 _ (b:=w.heap.size + 3) (by simp) 4 (.int .i64 dn))).trans (kpc_set2 _ (b:=w.heap.size + 4) (by simp) 0 (.int .i64 0)))
         have hkp0:=((((((((KpC.refl (own:=(fun g=>g = w.heap.size + 2 ∨ g = w.heap.size + 3 ∨ g = w.heap.size + 4)) v0).trans (kpc_set2 _ (b:=w.heap.size + 2) (by simp) 0 (.slice f.A f.ps.length f.c))).trans (kpc_set2 _ (b:=w.heap.size + 3) (by simp) 0 (.int .i64 n0))).trans (kpc_set2 _ (b:=w.heap.size + 3) (by simp) 1 (.int .i64 n1))).trans (kpc_set2 _ (b:=w.heap.size + 3) (by simp) 2 (.int .i64 n2))).trans (kpc_set2 _ (b:=w.heap.size + 3) (by simp) 3 (.int .i64 n3))).trans (kpc_set2 _ (b:=w.heap.size + 3) (by simp) 4 (.int .i64 dn))).trans (kpc_set2 _ (b:=w.heap.size + 4) (by simp) 0 (.int .i64 0)))
         simp only [Nat.add_assoc,Nat.reduceAdd] at g2 g3 g4 gbl hkf hkp hkp0 ⊢
         have gM:=hMB.keep (w':=(((((((v0.setCell ⟨w.heap.size + 2,0,none⟩ (.slice f.A f.ps.length f.c)).setCell ⟨w.heap.size + 3,0,none⟩ (.int .i64 n0)).setCell ⟨w.heap.size + 3,1,none⟩ (.int .i64 n1)).setCell ⟨w.heap.size + 3,2,none⟩ (.int .i64 n2)).setCell ⟨w.heap.size + 3,3,none⟩ (.int .i64 n3)).setCell ⟨w.heap.size + 3,4,none⟩ (.int .i64 dn)).setCell ⟨w.heap.size + 4,0,none⟩ (.int .i64 0))) fun E hE h=>((Below.heap_setCell _ _ _ _ (by show E ≠ w.heap.size + 4; omega)).trans ((Below.heap_setCell _ _ _ _ (by show E ≠ w.heap.size + 3; omega)).trans ((Below.heap_setCell _ _ _ _ (by show E ≠ w.heap.size + 3; omega)).trans ((Below.heap_setCell _ _ _ _ (by show E ≠ w.heap.size + 3; omega)).trans ((Below.heap_setCell _ _ _ _ (by show E ≠ w.heap.size + 3; omega)).trans ((Below.heap_setCell _ _ _ _ (by show E ≠ w.heap.size + 3; omega)).trans ((Below.heap_setCell _ _ _ _ (by show E ≠ w.heap.size + 2; omega)).trans h)))))))
         generalize World.setCell _ _ _ = wS at *
         clear z20 y20 z30 y30 z31 y31 z32 y32 z33 y33 z34 y34 z40 y40
         gi_wp2
         exact ⟨hkf,hkp,rfl,⟨n0,n1,n2,n3,dn⟩,HOK.out,HBB.out,by show sameF (lowest (atD ⟨n0,n1,n2,n3,dn⟩ x y z) dn) (priL l f.ps) = true; rw [HFF.out,HPP.out]; exact HSM.out,gbl,⟨(hkp0.lies hfB.1 (fun ad e=>by have:=hfB.2 ad e; have:=hl7; omega)).more hkp0.size,hfB.2⟩,g2,g3,g4,gM⟩
    ·obtain rfl : k = 0:=by omega
     exfalso
     obtain ⟨L,hL,d,h1,h2,h3⟩:=HDX.out
     obtain ⟨⟨a1,a2⟩,b1,b2⟩:=mem_allc.1 hL
     exact HNG.out L.length (by omega) a2 L ((mem_chs _ _ _ _).2 ⟨rfl,b1,fun i hi=>⟨by omega,b2 i hi⟩⟩) ⟨d,h1,h2,h3⟩
 ·have HE1 : Hid (∀ W',Below w.heap.size w W' → CheE l x y z w (.returned (.tuple #[.agg #[.slice none 0 0], .agg #[.int .i64 0, .int .i64 0, .int .i64 0, .int .i64 0, .int .i64 0], .int .i64 q])) W'):=fun W' hb=>⟨hb, .inl ⟨by rw [← HQ.out]; exact h0,by rw [← HQ.out]⟩⟩
  have z20:=p2.fro 0
  have y20:=p2.cell 0 rfl
  have z30:=p3.fro 0
  have y30:=p3.cell 0 rfl
  have z31:=p3.fro 1
  have y31:=p3.cell 1 rfl
  have z32:=p3.fro 2
  have y32:=p3.cell 2 rfl
  have z33:=p3.fro 3
  have y33:=p3.cell 3 rfl
  have z34:=p3.fro 4
  have y34:=p3.cell 4 rfl
  have z40:=p4.fro 0
  have y40:=p4.cell 0 rfl
  go_wp2
  have g2:=(((((((p2.set 0 (.slice none 0 0)).far (p:=⟨w.heap.size + 3,0,none⟩) (by simp) (.int .i64 0)).far (p:=⟨w.heap.size + 3,1,none⟩) (by simp) (.int .i64 0)).far (p:=⟨w.heap.size + 3,2,none⟩) (by simp) (.int .i64 0)).far (p:=⟨w.heap.size + 3,3,none⟩) (by simp) (.int .i64 0)).far (p:=⟨w.heap.size + 3,4,none⟩) (by simp) (.int .i64 0)).far (p:=⟨w.heap.size + 4,0,none⟩) (by simp) (.int .i64 q))
  have g3:=(((((((p3.far (p:=⟨w.heap.size + 2,0,none⟩) (by simp) (.slice none 0 0)).set 0 (.int .i64 0)).set 1 (.int .i64 0)).set 2 (.int .i64 0)).set 3 (.int .i64 0)).set 4 (.int .i64 0)).far (p:=⟨w.heap.size + 4,0,none⟩) (by simp) (.int .i64 q))
  have g4:=(((((((p4.far (p:=⟨w.heap.size + 2,0,none⟩) (by simp) (.slice none 0 0)).far (p:=⟨w.heap.size + 3,0,none⟩) (by simp) (.int .i64 0)).far (p:=⟨w.heap.size + 3,1,none⟩) (by simp) (.int .i64 0)).far (p:=⟨w.heap.size + 3,2,none⟩) (by simp) (.int .i64 0)).far (p:=⟨w.heap.size + 3,3,none⟩) (by simp) (.int .i64 0)).far (p:=⟨w.heap.size + 3,4,none⟩) (by simp) (.int .i64 0)).set 0 (.int .i64 q))
  have gb:=(((((((hB5.setCell (p:=⟨w.heap.size + 2,0,none⟩) (by simp) (.slice none 0 0)).setCell (p:=⟨w.heap.size + 3,0,none⟩) (by simp) (.int .i64 0)).setCell (p:=⟨w.heap.size + 3,1,none⟩) (by simp) (.int .i64 0)).setCell (p:=⟨w.heap.size + 3,2,none⟩) (by simp) (.int .i64 0)).setCell (p:=⟨w.heap.size + 3,3,none⟩) (by simp) (.int .i64 0)).setCell (p:=⟨w.heap.size + 3,4,none⟩) (by simp) (.int .i64 0)).setCell (p:=⟨w.heap.size + 4,0,none⟩) (by simp) (.int .i64 q))
  have x20:=g2.cell 0 rfl
  have x30:=g3.cell 0 rfl
  have x31:=g3.cell 1 rfl
  have x32:=g3.cell 2 rfl
  have x33:=g3.cell 3 rfl
  have x34:=g3.cell 4 rfl
  have x40:=g4.cell 0 rfl
  refine leaves_marks (Ds:=[]) (B:=0) (v:=.tuple #[.agg #[.slice none 0 0], .agg #[.int .i64 0, .int .i64 0, .int .i64 0, .int .i64 0, .int .i64 0], .int .i64 q]) (.inl rfl) (Marks.nil _ _) rfl ?_ (HE1.out _ gb)
  simp only [Nat.add_assoc,Nat.reduceAdd,shut] at x20 x30 x31 x32 x33 x34 x40 ⊢
  generalize World.setCell _ _ _ = w9 at *
  simp [results,Try.results16,go_sem,x20,x30,x31,x32,x33,x34,x40]
end Go.Proofs.Ytkjceegmmhnajaa
