/- The reference's weights (fn 80) of one to four points. Printed by wip/gen_rw.py. -/
import Derived.StillTailTactics
import Derived.Test.YtkjceegmmhnajaaG62
import Derived.Test.YtkjceegmmhnajaaG64
import Derived.Test.YtkjceegmmhnajaaG84
import Derived.Test.YtkjceegmmhnajaaG85

set_option linter.unusedVariables false
set_option linter.unusedSimpArgs false

namespace Go.Proofs.Ytkjceegmmhnajaa
open Go.RowKit
set_option maxRecDepth 100000 in
set_option maxHeartbeats 4000000 in
theorem rweights4 (a b c d z : Vc) (ad : Addr) (cp : Nat) (w : World) (hb : ad.block < w.heap.size) (hp0 : vecAt w ad a) (hp1 : vecAt w ⟨ad.block,ad.off + 3,none⟩ b) (hp2 : vecAt w ⟨ad.block,ad.off + 6,none⟩ c) (hp3 : vecAt w ⟨ad.block,ad.off + 9,none⟩ d) (s0 : shadeV a) (s1 : shadeV b) (s2 : shadeV c) (s3 : shadeV d) (hz : shadeV z) : Calls Try.prog 80 #[.slice (some ad) 4 cp,z.agg] w (WEnd (rpw [a,b,c,d] z) w):=by
 have bX:=vb_sub hz s0
 have bU:=vb_sub s1 s0
 have bF:=vb_sub s2 s0
 have bG:=vb_sub s3 s0
 obtain ⟨a1,a2,a3⟩:=a
 obtain ⟨b1,b2,b3⟩:=b
 obtain ⟨c1,c2,c3⟩:=c
 obtain ⟨d1,d2,d3⟩:=d
 obtain ⟨z1,z2,z3⟩:=z
 dsimp only at *
 obtain ⟨X1,X2,X3,EX,vX,CX⟩:=minus_pre bX
 clear bX
 obtain ⟨U1,U2,U3,EU,vU,CU⟩:=minus_pre bU
 clear bU
 obtain ⟨F1,F2,F3,EF,vF,CF⟩:=minus_pre bF
 clear bF
 obtain ⟨G1,G2,G3,EG,vG,CG⟩:=minus_pre bG
 clear bG
 obtain ⟨N1,N2,N3,EN,vN,CN⟩:=crs_pre (A:=1000) (B:=1000) vU vF (by omega)
 obtain ⟨E1,E2,E3,EE,vE,CE⟩:=crs_pre (A:=1000) (B:=1000) vX vF (by omega)
 obtain ⟨K1,K2,K3,EK,vK,CK⟩:=crs_pre (A:=1000) (B:=1000) vU vX (by omega)
 obtain ⟨dd,Edd,vdd,Cdd⟩:=dot_pre (A:=2000000) (B:=1000) vN vG (by omega)
 obtain ⟨ldd,udd⟩ : -6000000000 ≤ dd ∧ dd ≤ 6000000000:=by have:=vdd; unfold ab at this; omega
 obtain ⟨aa,Eaa,vaa,Caa⟩:=dot_pre (A:=2000000) (B:=1000) vE vG (by omega)
 obtain ⟨laa,uaa⟩ : -6000000000 ≤ aa ∧ aa ≤ 6000000000:=by have:=vaa; unfold ab at this; omega
 obtain ⟨bb,Ebb,vbb,Cbb⟩:=dot_pre (A:=2000000) (B:=1000) vK vG (by omega)
 obtain ⟨lbb,ubb⟩ : -6000000000 ≤ bb ∧ bb ≤ 6000000000:=by have:=vbb; unfold ab at this; omega
 obtain ⟨cc,Ecc,vcc,Ccc⟩:=dot_pre (A:=2000000) (B:=1000) vN vX (by omega)
 obtain ⟨lcc,ucc⟩ : -6000000000 ≤ cc ∧ cc ≤ 6000000000:=by have:=vcc; unfold ab at this; omega
 have HE : Hid (rpw [⟨a1,a2,a3⟩,⟨b1,b2,b3⟩,⟨c1,c2,c3⟩,⟨d1,d2,d3⟩] ⟨z1,z2,z3⟩ = if dd < 0 then some [aa + bb + cc - dd, -aa, -bb, -cc] else if 0 < dd then some [dd - aa - bb - cc,aa,bb,cc] else none):=by
  obtain ⟨rfl,rfl,rfl⟩:=EX.out
  obtain ⟨rfl,rfl,rfl⟩:=EU.out
  obtain ⟨rfl,rfl,rfl⟩:=EF.out
  obtain ⟨rfl,rfl,rfl⟩:=EG.out
  obtain ⟨rfl,rfl,rfl⟩:=EN.out
  obtain ⟨rfl,rfl,rfl⟩:=EE.out
  obtain ⟨rfl,rfl,rfl⟩:=EK.out
  obtain rfl:=Edd.out
  obtain rfl:=Eaa.out
  obtain rfl:=Ebb.out
  obtain rfl:=Ecc.out
  show _ = _
  simp only [rpw,Vc.sub,Vc.dot,Vc.crs,Vc.mk.injEq,ne_eq]; rfl
 clear EX EU EF EG EN EE EK Edd Eaa Ebb Ecc
 have Hp0:=Lib.hid hp0
 have Hp1:=Lib.hid hp1
 have Hp2:=Lib.hid hp2
 have Hp3:=Lib.hid hp3
 clear hp0 s0 hp1 s1 hp2 s2 hp3 s3 hz
 have q37:=eq37
 go_enter Try.func80,Try.ntmps80
 go_wp2
 have kw:=Bk.new w 37 #[.int .i64 z1, .int .i64 z2, .int .i64 z3]
 have hB : Below w.heap.size w (w.alloc (.cells #[.int .i64 z1, .int .i64 z2, .int .i64 z3] 37)):=(Below.refl _ _).alloc (Nat.le_refl _) _
 have la : ad.block < (w.alloc (.cells #[.int .i64 z1, .int .i64 z2, .int .i64 z3] 37)).heap.size:=by simp; omega
 generalize w.alloc (.cells #[.int .i64 z1, .int .i64 z2, .int .i64 z3] 37) = W0 at *
 have qw0:=kw.cell 0 rfl
 have qw1:=kw.cell 1 rfl
 have qw2:=kw.cell 2 rfl
 have qp00 : W0.cell? ad = some (.int .i64 a1):=(Hp0.out.below hB hb).1
 have qp01 : W0.cell? ⟨ad.block,ad.off + 1,none⟩ = some (.int .i64 a2):=(Hp0.out.below hB hb).2.1
 have qp02 : W0.cell? ⟨ad.block,ad.off + 2,none⟩ = some (.int .i64 a3):=(Hp0.out.below hB hb).2.2
 refine wp_region_held_drew (S:=fun w'=>(w'.cell? ⟨w.heap.size,0,none⟩ = some (.int .i64 z1) ∧ w'.cell? ⟨w.heap.size,1,none⟩ = some (.int .i64 z2) ∧ w'.cell? ⟨w.heap.size,2,none⟩ = some (.int .i64 z3)) ∧ (w'.cell? ad = some (.int .i64 a1) ∧ w'.cell? ⟨ad.block,ad.off + 1,none⟩ = some (.int .i64 a2) ∧ w'.cell? ⟨ad.block,ad.off + 2,none⟩ = some (.int .i64 a3))) (by kernel_rfl) ?_ (fun hHeld=>?_)
 ·exact ⟨⟨qw0,qw1,qw2⟩,⟨qp00,qp01,qp02⟩⟩
 refine tk 0 19 ?_
 refine tk 1 20 ?_
 refine tk 2 21 ?_
 refine tk 3 22 ?_
 refine box_laid (f:=91) (args:=#[.agg #[.int .i64 z1, .int .i64 z2, .int .i64 z3], .agg #[.int .i64 a1, .int .i64 a2, .int .i64 a3]]) (ty:=37) (Z:=zero3) (R:=#[.int .i64 X1, .int .i64 X2, .int .i64 X3]) 4 5 6 23 6 (by decide) ⟨_,rfl,rfl,rfl,?c1,?c2⟩ ⟨_,rfl,rfl,rfl,?al⟩ ⟨_,rfl,rfl,rfl,?st⟩ (by kernel_rfl) (by kernel_rfl) (by kernel_rfl) (by kernel_rfl) (by kernel_rfl) (by kernel_rfl) (by kernel_rfl) ?hS ?hC ?hK
 case c1=>exact fun w=>by go_simp
 case c2=>exact fun u w=>by go_simp
 case al=>exact fun a w=>by go_simp; rfl
 case st =>
  intro w g hg
  have t0:=hg.cell 0 rfl
  have t1:=hg.cell 1 rfl
  have t2:=hg.cell 2 rfl
  have r0:=hg.fro 0
  have r1:=hg.fro 1
  have r2:=hg.fro 2
  refine ⟨_,?_,(((hg.set 0 _).set 1 _).set 2 _),fun B v hB hb=>((hb.setCell (p:=⟨g,0,none⟩) hB _).setCell (p:=⟨g,1,none⟩) hB _).setCell (p:=⟨g,2,none⟩) hB _⟩
  simp only [putCP,List.setIfInBounds_toArray,List.set_cons_zero,List.set_cons_succ]
  go_simp
 case hS =>
  intro w9 hw9
  have hw8:=(Below.drew (Below.refl _ _)).trans hw9
  exact ⟨⟨(hw8.cell (p:=⟨w.heap.size,0,none⟩) kw.lt).trans qw0,(hw8.cell (p:=⟨w.heap.size,1,none⟩) kw.lt).trans qw1,(hw8.cell (p:=⟨w.heap.size,2,none⟩) kw.lt).trans qw2⟩,⟨(hw8.cell (p:=ad) la).trans qp00,(hw8.cell (p:=⟨ad.block,ad.off + 1,none⟩) la).trans qp01,(hw8.cell (p:=⟨ad.block,ad.off + 2,none⟩) la).trans qp02⟩⟩
 case hC=>exact fun W _=>CX.out W
 case hK =>
  intro gX W1 hW hg kn
  simp only [putCP,List.setIfInBounds_toArray,List.set_cons_zero,List.set_cons_succ]
  replace hW : Below W0.heap.size W0 W1:=(Below.drew (Below.refl _ _)).trans hW
  clear hHeld qw0 qw1 qw2 qp00 qp01 qp02
  replace kw:=kw.below hW kw.lt
  replace la : ad.block < W1.heap.size:=Nat.lt_of_lt_of_le la hW.size
  replace hB:=hB.trans (hW.mono hB.size)
  have kX:=kn
  clear kn hW hg
  go_wp2
  have qp10 : W1.cell? ⟨ad.block,ad.off + 3,none⟩ = some (.int .i64 b1):=(Hp1.out.below hB hb).1
  have qp11 : W1.cell? ⟨ad.block,ad.off + 3 + 1,none⟩ = some (.int .i64 b2):=(Hp1.out.below hB hb).2.1
  have qp12 : W1.cell? ⟨ad.block,ad.off + 3 + 2,none⟩ = some (.int .i64 b3):=(Hp1.out.below hB hb).2.2
  have qp00 : W1.cell? ad = some (.int .i64 a1):=(Hp0.out.below hB hb).1
  have qp01 : W1.cell? ⟨ad.block,ad.off + 1,none⟩ = some (.int .i64 a2):=(Hp0.out.below hB hb).2.1
  have qp02 : W1.cell? ⟨ad.block,ad.off + 2,none⟩ = some (.int .i64 a3):=(Hp0.out.below hB hb).2.2
  refine wp_region_held_drew (S:=fun w'=>(w'.cell? ⟨ad.block,ad.off + 3,none⟩ = some (.int .i64 b1) ∧ w'.cell? ⟨ad.block,ad.off + 3 + 1,none⟩ = some (.int .i64 b2) ∧ w'.cell? ⟨ad.block,ad.off + 3 + 2,none⟩ = some (.int .i64 b3)) ∧ (w'.cell? ad = some (.int .i64 a1) ∧ w'.cell? ⟨ad.block,ad.off + 1,none⟩ = some (.int .i64 a2) ∧ w'.cell? ⟨ad.block,ad.off + 2,none⟩ = some (.int .i64 a3))) (by kernel_rfl) ?_ (fun hHeld=>?_)
  ·exact ⟨⟨qp10,qp11,qp12⟩,⟨qp00,qp01,qp02⟩⟩
  refine tk 0 33 ?_
  refine tk 1 34 ?_
  refine tk 2 35 ?_
  refine tk 3 36 ?_
  refine tk 4 37 ?_
  refine tk 5 38 ?_
  refine box_laid (f:=91) (args:=#[.agg #[.int .i64 b1, .int .i64 b2, .int .i64 b3], .agg #[.int .i64 a1, .int .i64 a2, .int .i64 a3]]) (ty:=37) (Z:=zero3) (R:=#[.int .i64 U1, .int .i64 U2, .int .i64 U3]) 6 7 8 39 7 (by decide) ⟨_,rfl,rfl,rfl,?c1,?c2⟩ ⟨_,rfl,rfl,rfl,?al⟩ ⟨_,rfl,rfl,rfl,?st⟩ (by kernel_rfl) (by kernel_rfl) (by kernel_rfl) (by kernel_rfl) (by kernel_rfl) (by kernel_rfl) (by kernel_rfl) ?hS ?hC ?hK
  case c1=>exact fun w=>by go_simp
  case c2=>exact fun u w=>by go_simp
  case al=>exact fun a w=>by go_simp; rfl
  case st =>
   intro w g hg
   have t0:=hg.cell 0 rfl
   have t1:=hg.cell 1 rfl
   have t2:=hg.cell 2 rfl
   have r0:=hg.fro 0
   have r1:=hg.fro 1
   have r2:=hg.fro 2
   refine ⟨_,?_,(((hg.set 0 _).set 1 _).set 2 _),fun B v hB hb=>((hb.setCell (p:=⟨g,0,none⟩) hB _).setCell (p:=⟨g,1,none⟩) hB _).setCell (p:=⟨g,2,none⟩) hB _⟩
   simp only [putCP,List.setIfInBounds_toArray,List.set_cons_zero,List.set_cons_succ]
   go_simp
  case hS =>
   intro w9 hw9
   have hw8:=(Below.drew (Below.refl _ _)).trans hw9
   exact ⟨⟨(hw8.cell (p:=⟨ad.block,ad.off + 3,none⟩) la).trans qp10,(hw8.cell (p:=⟨ad.block,ad.off + 3 + 1,none⟩) la).trans qp11,(hw8.cell (p:=⟨ad.block,ad.off + 3 + 2,none⟩) la).trans qp12⟩,⟨(hw8.cell (p:=ad) la).trans qp00,(hw8.cell (p:=⟨ad.block,ad.off + 1,none⟩) la).trans qp01,(hw8.cell (p:=⟨ad.block,ad.off + 2,none⟩) la).trans qp02⟩⟩
  case hC=>exact fun W _=>CU.out W
  case hK =>
   intro gU W2 hW hg kn
   simp only [putCP,List.setIfInBounds_toArray,List.set_cons_zero,List.set_cons_succ]
   replace hW : Below W1.heap.size W1 W2:=(Below.drew (Below.refl _ _)).trans hW
   clear hHeld qp10 qp11 qp12 qp00 qp01 qp02
   replace kw:=kw.below hW kw.lt
   replace kX:=kX.below hW kX.lt
   replace la : ad.block < W2.heap.size:=Nat.lt_of_lt_of_le la hW.size
   replace hB:=hB.trans (hW.mono hB.size)
   have kU:=kn
   clear kn hW hg
   go_wp2
   have qp20 : W2.cell? ⟨ad.block,ad.off + 6,none⟩ = some (.int .i64 c1):=(Hp2.out.below hB hb).1
   have qp21 : W2.cell? ⟨ad.block,ad.off + 6 + 1,none⟩ = some (.int .i64 c2):=(Hp2.out.below hB hb).2.1
   have qp22 : W2.cell? ⟨ad.block,ad.off + 6 + 2,none⟩ = some (.int .i64 c3):=(Hp2.out.below hB hb).2.2
   have qp00 : W2.cell? ad = some (.int .i64 a1):=(Hp0.out.below hB hb).1
   have qp01 : W2.cell? ⟨ad.block,ad.off + 1,none⟩ = some (.int .i64 a2):=(Hp0.out.below hB hb).2.1
   have qp02 : W2.cell? ⟨ad.block,ad.off + 2,none⟩ = some (.int .i64 a3):=(Hp0.out.below hB hb).2.2
   refine wp_region_held_drew (S:=fun w'=>(w'.cell? ⟨ad.block,ad.off + 6,none⟩ = some (.int .i64 c1) ∧ w'.cell? ⟨ad.block,ad.off + 6 + 1,none⟩ = some (.int .i64 c2) ∧ w'.cell? ⟨ad.block,ad.off + 6 + 2,none⟩ = some (.int .i64 c3)) ∧ (w'.cell? ad = some (.int .i64 a1) ∧ w'.cell? ⟨ad.block,ad.off + 1,none⟩ = some (.int .i64 a2) ∧ w'.cell? ⟨ad.block,ad.off + 2,none⟩ = some (.int .i64 a3))) (by kernel_rfl) ?_ (fun hHeld=>?_)
   ·exact ⟨⟨qp20,qp21,qp22⟩,⟨qp00,qp01,qp02⟩⟩
   refine tk 0 65 ?_
   refine tk 1 66 ?_
   refine tk 2 67 ?_
   refine tk 3 68 ?_
   refine tk 4 69 ?_
   refine tk 5 70 ?_
   refine box_laid (f:=91) (args:=#[.agg #[.int .i64 c1, .int .i64 c2, .int .i64 c3], .agg #[.int .i64 a1, .int .i64 a2, .int .i64 a3]]) (ty:=37) (Z:=zero3) (R:=#[.int .i64 F1, .int .i64 F2, .int .i64 F3]) 6 7 8 71 10 (by decide) ⟨_,rfl,rfl,rfl,?c1,?c2⟩ ⟨_,rfl,rfl,rfl,?al⟩ ⟨_,rfl,rfl,rfl,?st⟩ (by kernel_rfl) (by kernel_rfl) (by kernel_rfl) (by kernel_rfl) (by kernel_rfl) (by kernel_rfl) (by kernel_rfl) ?hS ?hC ?hK
   case c1=>exact fun w=>by go_simp
   case c2=>exact fun u w=>by go_simp
   case al=>exact fun a w=>by go_simp; rfl
   case st =>
    intro w g hg
    have t0:=hg.cell 0 rfl
    have t1:=hg.cell 1 rfl
    have t2:=hg.cell 2 rfl
    have r0:=hg.fro 0
    have r1:=hg.fro 1
    have r2:=hg.fro 2
    refine ⟨_,?_,(((hg.set 0 _).set 1 _).set 2 _),fun B v hB hb=>((hb.setCell (p:=⟨g,0,none⟩) hB _).setCell (p:=⟨g,1,none⟩) hB _).setCell (p:=⟨g,2,none⟩) hB _⟩
    simp only [putCP,List.setIfInBounds_toArray,List.set_cons_zero,List.set_cons_succ]
    go_simp
   case hS =>
    intro w9 hw9
    have hw8:=(Below.drew (Below.refl _ _)).trans hw9
    exact ⟨⟨(hw8.cell (p:=⟨ad.block,ad.off + 6,none⟩) la).trans qp20,(hw8.cell (p:=⟨ad.block,ad.off + 6 + 1,none⟩) la).trans qp21,(hw8.cell (p:=⟨ad.block,ad.off + 6 + 2,none⟩) la).trans qp22⟩,⟨(hw8.cell (p:=ad) la).trans qp00,(hw8.cell (p:=⟨ad.block,ad.off + 1,none⟩) la).trans qp01,(hw8.cell (p:=⟨ad.block,ad.off + 2,none⟩) la).trans qp02⟩⟩
   case hC=>exact fun W _=>CF.out W
   case hK =>
    intro gF W3 hW hg kn
    simp only [putCP,List.setIfInBounds_toArray,List.set_cons_zero,List.set_cons_succ]
    replace hW : Below W2.heap.size W2 W3:=(Below.drew (Below.refl _ _)).trans hW
    clear hHeld qp20 qp21 qp22 qp00 qp01 qp02
    replace kw:=kw.below hW kw.lt
    replace kX:=kX.below hW kX.lt
    replace kU:=kU.below hW kU.lt
    replace la : ad.block < W3.heap.size:=Nat.lt_of_lt_of_le la hW.size
    replace hB:=hB.trans (hW.mono hB.size)
    have kF:=kn
    clear kn hW hg
    have qU0:=kU.cell 0 rfl
    have qU1:=kU.cell 1 rfl
    have qU2:=kU.cell 2 rfl
    have qF0:=kF.cell 0 rfl
    have qF1:=kF.cell 1 rfl
    have qF2:=kF.cell 2 rfl
    go_wp2_with (go_at_call 92; refine (CN.out _).mono ?_; rintro e V1 ⟨rfl,hV⟩)
    clear qU0 qU1 qU2 qF0 qF1 qF2
    replace kw:=(kw.below hV kw.lt).alloc (.cells #[.int .i64 N1, .int .i64 N2, .int .i64 N3] 37)
    replace kX:=(kX.below hV kX.lt).alloc (.cells #[.int .i64 N1, .int .i64 N2, .int .i64 N3] 37)
    replace kU:=(kU.below hV kU.lt).alloc (.cells #[.int .i64 N1, .int .i64 N2, .int .i64 N3] 37)
    replace kF:=(kF.below hV kF.lt).alloc (.cells #[.int .i64 N1, .int .i64 N2, .int .i64 N3] 37)
    have kN:=Bk.new V1 37 #[.int .i64 N1, .int .i64 N2, .int .i64 N3]
    replace hB:=hB.trans (hV.mono hB.size)
    replace hB:=hB.alloc hB.size (.cells #[.int .i64 N1, .int .i64 N2, .int .i64 N3] 37)
    replace la : ad.block < (V1.alloc (.cells #[.int .i64 N1, .int .i64 N2, .int .i64 N3] 37)).heap.size:=by have:=hV.size; simp; omega
    clear hV
    generalize V1.alloc (.cells #[.int .i64 N1, .int .i64 N2, .int .i64 N3] 37) = V2 at *
    generalize V1.heap.size = gN at *
    have qp30 : V2.cell? ⟨ad.block,ad.off + 9,none⟩ = some (.int .i64 d1):=(Hp3.out.below hB hb).1
    have qp31 : V2.cell? ⟨ad.block,ad.off + 9 + 1,none⟩ = some (.int .i64 d2):=(Hp3.out.below hB hb).2.1
    have qp32 : V2.cell? ⟨ad.block,ad.off + 9 + 2,none⟩ = some (.int .i64 d3):=(Hp3.out.below hB hb).2.2
    have qp00 : V2.cell? ad = some (.int .i64 a1):=(Hp0.out.below hB hb).1
    have qp01 : V2.cell? ⟨ad.block,ad.off + 1,none⟩ = some (.int .i64 a2):=(Hp0.out.below hB hb).2.1
    have qp02 : V2.cell? ⟨ad.block,ad.off + 2,none⟩ = some (.int .i64 a3):=(Hp0.out.below hB hb).2.2
    refine wp_region_held_drew (S:=fun w'=>(w'.cell? ⟨ad.block,ad.off + 9,none⟩ = some (.int .i64 d1) ∧ w'.cell? ⟨ad.block,ad.off + 9 + 1,none⟩ = some (.int .i64 d2) ∧ w'.cell? ⟨ad.block,ad.off + 9 + 2,none⟩ = some (.int .i64 d3)) ∧ (w'.cell? ad = some (.int .i64 a1) ∧ w'.cell? ⟨ad.block,ad.off + 1,none⟩ = some (.int .i64 a2) ∧ w'.cell? ⟨ad.block,ad.off + 2,none⟩ = some (.int .i64 a3))) (by kernel_rfl) ?_ (fun hHeld=>?_)
    ·exact ⟨⟨qp30,qp31,qp32⟩,⟨qp00,qp01,qp02⟩⟩
    refine tk 0 107 ?_
    refine tk 1 108 ?_
    refine tk 2 109 ?_
    refine tk 3 110 ?_
    refine tk 4 111 ?_
    refine tk 5 112 ?_
    refine box_laid (f:=91) (args:=#[.agg #[.int .i64 d1, .int .i64 d2, .int .i64 d3], .agg #[.int .i64 a1, .int .i64 a2, .int .i64 a3]]) (ty:=37) (Z:=zero3) (R:=#[.int .i64 G1, .int .i64 G2, .int .i64 G3]) 6 7 8 113 14 (by decide) ⟨_,rfl,rfl,rfl,?c1,?c2⟩ ⟨_,rfl,rfl,rfl,?al⟩ ⟨_,rfl,rfl,rfl,?st⟩ (by kernel_rfl) (by kernel_rfl) (by kernel_rfl) (by kernel_rfl) (by kernel_rfl) (by kernel_rfl) (by kernel_rfl) ?hS ?hC ?hK
    case c1=>exact fun w=>by go_simp
    case c2=>exact fun u w=>by go_simp
    case al=>exact fun a w=>by go_simp; rfl
    case st =>
     intro w g hg
     have t0:=hg.cell 0 rfl
     have t1:=hg.cell 1 rfl
     have t2:=hg.cell 2 rfl
     have r0:=hg.fro 0
     have r1:=hg.fro 1
     have r2:=hg.fro 2
     refine ⟨_,?_,(((hg.set 0 _).set 1 _).set 2 _),fun B v hB hb=>((hb.setCell (p:=⟨g,0,none⟩) hB _).setCell (p:=⟨g,1,none⟩) hB _).setCell (p:=⟨g,2,none⟩) hB _⟩
     simp only [putCP,List.setIfInBounds_toArray,List.set_cons_zero,List.set_cons_succ]
     go_simp
    case hS =>
     intro w9 hw9
     have hw8:=(Below.drew (Below.refl _ _)).trans hw9
     exact ⟨⟨(hw8.cell (p:=⟨ad.block,ad.off + 9,none⟩) la).trans qp30,(hw8.cell (p:=⟨ad.block,ad.off + 9 + 1,none⟩) la).trans qp31,(hw8.cell (p:=⟨ad.block,ad.off + 9 + 2,none⟩) la).trans qp32⟩,⟨(hw8.cell (p:=ad) la).trans qp00,(hw8.cell (p:=⟨ad.block,ad.off + 1,none⟩) la).trans qp01,(hw8.cell (p:=⟨ad.block,ad.off + 2,none⟩) la).trans qp02⟩⟩
    case hC=>exact fun W _=>CG.out W
    case hK =>
     intro gG W4 hW hg kn
     simp only [putCP,List.setIfInBounds_toArray,List.set_cons_zero,List.set_cons_succ]
     replace hW : Below V2.heap.size V2 W4:=(Below.drew (Below.refl _ _)).trans hW
     clear hHeld qp30 qp31 qp32 qp00 qp01 qp02
     replace kw:=kw.below hW kw.lt
     replace kX:=kX.below hW kX.lt
     replace kU:=kU.below hW kU.lt
     replace kF:=kF.below hW kF.lt
     replace kN:=kN.below hW kN.lt
     replace la : ad.block < W4.heap.size:=Nat.lt_of_lt_of_le la hW.size
     replace hB:=hB.trans (hW.mono hB.size)
     have kG:=kn
     clear kn hW hg
     have qN0:=kN.cell 0 rfl
     have qN1:=kN.cell 1 rfl
     have qN2:=kN.cell 2 rfl
     have qG0:=kG.cell 0 rfl
     have qG1:=kG.cell 1 rfl
     have qG2:=kG.cell 2 rfl
     go_wp2_with (go_at_call 50; refine (Cdd.out _).mono ?_; rintro e V3 ⟨rfl,hV⟩)
     clear qN0 qN1 qN2 qG0 qG1 qG2
     replace kw:=kw.below hV kw.lt
     replace kX:=kX.below hV kX.lt
     replace kU:=kU.below hV kU.lt
     replace kF:=kF.below hV kF.lt
     replace kN:=kN.below hV kN.lt
     replace kG:=kG.below hV kG.lt
     replace la : ad.block < V3.heap.size:=Nat.lt_of_lt_of_le la hV.size
     replace hB:=hB.trans (hV.mono hB.size)
     clear hV
     have qX0:=kX.cell 0 rfl
     have qX1:=kX.cell 1 rfl
     have qX2:=kX.cell 2 rfl
     have qF0:=kF.cell 0 rfl
     have qF1:=kF.cell 1 rfl
     have qF2:=kF.cell 2 rfl
     have qG0:=kG.cell 0 rfl
     have qG1:=kG.cell 1 rfl
     have qG2:=kG.cell 2 rfl
     refine wp_region_held_drew (S:=fun w'=>(w'.cell? ⟨gX,0,none⟩ = some (.int .i64 X1) ∧ w'.cell? ⟨gX,1,none⟩ = some (.int .i64 X2) ∧ w'.cell? ⟨gX,2,none⟩ = some (.int .i64 X3)) ∧ (w'.cell? ⟨gF,0,none⟩ = some (.int .i64 F1) ∧ w'.cell? ⟨gF,1,none⟩ = some (.int .i64 F2) ∧ w'.cell? ⟨gF,2,none⟩ = some (.int .i64 F3)) ∧ (w'.cell? ⟨gG,0,none⟩ = some (.int .i64 G1) ∧ w'.cell? ⟨gG,1,none⟩ = some (.int .i64 G2) ∧ w'.cell? ⟨gG,2,none⟩ = some (.int .i64 G3))) (by kernel_rfl) ?_ (fun hHeld=>?_)
     ·exact ⟨⟨qX0,qX1,qX2⟩,⟨qF0,qF1,qF2⟩,⟨qG0,qG1,qG2⟩⟩
     refine tk 0 117 ?_
     refine tk 1 118 ?_
     refine tk 3 120 ?_
     (refine held_call 2 (some 119) 92 _ rfl (by kernel_rfl) (by rfl) ?_ ((CE.out _)) ?_; rotate_left; rotate_left; (simp only [List.getElem?_toArray,List.getElem?_cons_zero,List.getElem?_cons_succ,Option.map_some]; refine congrArg some ?_; go_simp))
     rintro e W5 ⟨rfl,hW⟩
     replace hW : Below V3.heap.size V3 W5:=(Below.drew (Below.refl _ _)).trans hW
     clear hHeld qX0 qX1 qX2 qF0 qF1 qF2 qG0 qG1 qG2
     replace kw:=kw.below hW kw.lt
     replace kX:=kX.below hW kX.lt
     replace kU:=kU.below hW kU.lt
     replace kF:=kF.below hW kF.lt
     replace kN:=kN.below hW kN.lt
     replace kG:=kG.below hW kG.lt
     replace la : ad.block < W5.heap.size:=Nat.lt_of_lt_of_le la hW.size
     replace hB:=hB.trans (hW.mono hB.size)
     clear hW
     have qX0:=kX.cell 0 rfl
     have qX1:=kX.cell 1 rfl
     have qX2:=kX.cell 2 rfl
     have qF0:=kF.cell 0 rfl
     have qF1:=kF.cell 1 rfl
     have qF2:=kF.cell 2 rfl
     have qG0:=kG.cell 0 rfl
     have qG1:=kG.cell 1 rfl
     have qG2:=kG.cell 2 rfl
     refine ⟨_,rfl,⟨⟨qX0,qX1,qX2⟩,⟨qF0,qF1,qF2⟩,⟨qG0,qG1,qG2⟩⟩,fun hHeld=>?_⟩
     (try simp only [Act.put,List.setIfInBounds_toArray,List.set_cons_zero,List.set_cons_succ])
     (refine held_call 4 (some 121) 50 _ rfl (by kernel_rfl) (by rfl) ?_ ((Caa.out _)) ?_; rotate_left; rotate_left; (simp only [List.getElem?_toArray,List.getElem?_cons_zero,List.getElem?_cons_succ,Option.map_some]; refine congrArg some ?_; go_simp))
     rintro e W6 ⟨rfl,hW⟩
     clear hHeld qX0 qX1 qX2 qF0 qF1 qF2 qG0 qG1 qG2
     replace kw:=kw.below hW kw.lt
     replace kX:=kX.below hW kX.lt
     replace kU:=kU.below hW kU.lt
     replace kF:=kF.below hW kF.lt
     replace kN:=kN.below hW kN.lt
     replace kG:=kG.below hW kG.lt
     replace la : ad.block < W6.heap.size:=Nat.lt_of_lt_of_le la hW.size
     replace hB:=hB.trans (hW.mono hB.size)
     clear hW
     have qX0:=kX.cell 0 rfl
     have qX1:=kX.cell 1 rfl
     have qX2:=kX.cell 2 rfl
     have qF0:=kF.cell 0 rfl
     have qF1:=kF.cell 1 rfl
     have qF2:=kF.cell 2 rfl
     have qG0:=kG.cell 0 rfl
     have qG1:=kG.cell 1 rfl
     have qG2:=kG.cell 2 rfl
     refine ⟨_,rfl,⟨⟨qX0,qX1,qX2⟩,⟨qF0,qF1,qF2⟩,⟨qG0,qG1,qG2⟩⟩,fun hHeld=>?_⟩
     (try simp only [Act.put,List.setIfInBounds_toArray,List.set_cons_zero,List.set_cons_succ])
     refine tk 5 16 ?_
     refine wpAnyH_done (by kernel_rfl) ?_ _
     clear hHeld qX0 qX1 qX2 qF0 qF1 qF2 qG0 qG1 qG2
     go_wp2
     have qU0:=kU.cell 0 rfl
     have qU1:=kU.cell 1 rfl
     have qU2:=kU.cell 2 rfl
     have qX0:=kX.cell 0 rfl
     have qX1:=kX.cell 1 rfl
     have qX2:=kX.cell 2 rfl
     have qG0:=kG.cell 0 rfl
     have qG1:=kG.cell 1 rfl
     have qG2:=kG.cell 2 rfl
     refine wp_region_held_drew (S:=fun w'=>(w'.cell? ⟨gU,0,none⟩ = some (.int .i64 U1) ∧ w'.cell? ⟨gU,1,none⟩ = some (.int .i64 U2) ∧ w'.cell? ⟨gU,2,none⟩ = some (.int .i64 U3)) ∧ (w'.cell? ⟨gX,0,none⟩ = some (.int .i64 X1) ∧ w'.cell? ⟨gX,1,none⟩ = some (.int .i64 X2) ∧ w'.cell? ⟨gX,2,none⟩ = some (.int .i64 X3)) ∧ (w'.cell? ⟨gG,0,none⟩ = some (.int .i64 G1) ∧ w'.cell? ⟨gG,1,none⟩ = some (.int .i64 G2) ∧ w'.cell? ⟨gG,2,none⟩ = some (.int .i64 G3))) (by kernel_rfl) ?_ (fun hHeld=>?_)
     ·exact ⟨⟨qU0,qU1,qU2⟩,⟨qX0,qX1,qX2⟩,⟨qG0,qG1,qG2⟩⟩
     refine tk 0 122 ?_
     refine tk 1 123 ?_
     refine tk 3 125 ?_
     (refine held_call 2 (some 124) 92 _ rfl (by kernel_rfl) (by rfl) ?_ ((CK.out _)) ?_; rotate_left; rotate_left; (simp only [List.getElem?_toArray,List.getElem?_cons_zero,List.getElem?_cons_succ,Option.map_some]; refine congrArg some ?_; go_simp))
     rintro e W7 ⟨rfl,hW⟩
     replace hW : Below W6.heap.size W6 W7:=(Below.drew (Below.refl _ _)).trans hW
     clear hHeld qU0 qU1 qU2 qX0 qX1 qX2 qG0 qG1 qG2
     replace kw:=kw.below hW kw.lt
     replace kX:=kX.below hW kX.lt
     replace kU:=kU.below hW kU.lt
     replace kF:=kF.below hW kF.lt
     replace kN:=kN.below hW kN.lt
     replace kG:=kG.below hW kG.lt
     replace la : ad.block < W7.heap.size:=Nat.lt_of_lt_of_le la hW.size
     replace hB:=hB.trans (hW.mono hB.size)
     clear hW
     have qU0:=kU.cell 0 rfl
     have qU1:=kU.cell 1 rfl
     have qU2:=kU.cell 2 rfl
     have qX0:=kX.cell 0 rfl
     have qX1:=kX.cell 1 rfl
     have qX2:=kX.cell 2 rfl
     have qG0:=kG.cell 0 rfl
     have qG1:=kG.cell 1 rfl
     have qG2:=kG.cell 2 rfl
     refine ⟨_,rfl,⟨⟨qU0,qU1,qU2⟩,⟨qX0,qX1,qX2⟩,⟨qG0,qG1,qG2⟩⟩,fun hHeld=>?_⟩
     (try simp only [Act.put,List.setIfInBounds_toArray,List.set_cons_zero,List.set_cons_succ])
     (refine held_call 4 (some 126) 50 _ rfl (by kernel_rfl) (by rfl) ?_ ((Cbb.out _)) ?_; rotate_left; rotate_left; (simp only [List.getElem?_toArray,List.getElem?_cons_zero,List.getElem?_cons_succ,Option.map_some]; refine congrArg some ?_; go_simp))
     rintro e W8 ⟨rfl,hW⟩
     clear hHeld qU0 qU1 qU2 qX0 qX1 qX2 qG0 qG1 qG2
     replace kw:=kw.below hW kw.lt
     replace kX:=kX.below hW kX.lt
     replace kU:=kU.below hW kU.lt
     replace kF:=kF.below hW kF.lt
     replace kN:=kN.below hW kN.lt
     replace kG:=kG.below hW kG.lt
     replace la : ad.block < W8.heap.size:=Nat.lt_of_lt_of_le la hW.size
     replace hB:=hB.trans (hW.mono hB.size)
     clear hW
     have qU0:=kU.cell 0 rfl
     have qU1:=kU.cell 1 rfl
     have qU2:=kU.cell 2 rfl
     have qX0:=kX.cell 0 rfl
     have qX1:=kX.cell 1 rfl
     have qX2:=kX.cell 2 rfl
     have qG0:=kG.cell 0 rfl
     have qG1:=kG.cell 1 rfl
     have qG2:=kG.cell 2 rfl
     refine ⟨_,rfl,⟨⟨qU0,qU1,qU2⟩,⟨qX0,qX1,qX2⟩,⟨qG0,qG1,qG2⟩⟩,fun hHeld=>?_⟩
     (try simp only [Act.put,List.setIfInBounds_toArray,List.set_cons_zero,List.set_cons_succ])
     refine tk 5 17 ?_
     refine wpAnyH_done (by kernel_rfl) ?_ _
     clear hHeld qU0 qU1 qU2 qX0 qX1 qX2 qG0 qG1 qG2
     have hs1 : IntKind.i64.wrap (aa + bb) = aa + bb:=IntWalk.i64_in _ (by omega)
     have hs2 : IntKind.i64.wrap (aa + bb + cc) = aa + bb + cc:=IntWalk.i64_in _ (by omega)
     have hs3 : IntKind.i64.wrap (aa + bb + cc - dd) = aa + bb + cc - dd:=IntWalk.i64_in _ (by omega)
     have hs4 : IntKind.i64.wrap (-aa) = -aa:=IntWalk.i64_in _ (by omega)
     have hs5 : IntKind.i64.wrap (-bb) = -bb:=IntWalk.i64_in _ (by omega)
     have hs6 : IntKind.i64.wrap (-cc) = -cc:=IntWalk.i64_in _ (by omega)
     have hs7 : IntKind.i64.wrap (dd - aa) = dd - aa:=IntWalk.i64_in _ (by omega)
     have hs8 : IntKind.i64.wrap (dd - aa - bb) = dd - aa - bb:=IntWalk.i64_in _ (by omega)
     have hs9 : IntKind.i64.wrap (dd - aa - bb - cc) = dd - aa - bb - cc:=IntWalk.i64_in _ (by omega)
     have qN0:=kN.cell 0 rfl
     have qN1:=kN.cell 1 rfl
     have qN2:=kN.cell 2 rfl
     have qX0:=kX.cell 0 rfl
     have qX1:=kX.cell 1 rfl
     have qX2:=kX.cell 2 rfl
     by_cases hd : dd < 0
     ·go_wp2_with (go_at_call 50; refine (Ccc.out _).mono ?_; rintro e V4 ⟨rfl,hV⟩)
      go_ret2
      refine w_end (l:=[aa + bb + cc - dd, -aa, -bb, -cc]) ?_ rfl (Lies.fresh rfl (by simp) (by simp) rfl) (by omega) (by omega) ?_
      ·rw [HE.out,if_pos hd]; simp
      ·have hB9:=hB.trans (hV.mono hB.size)
       exact hB9.alloc hB9.size _
     ·go_wp2_with (go_at_call 50; refine (Ccc.out _).mono ?_; rintro e V4 ⟨rfl,hV⟩)
      go_ret2
      refine w_end (l:=[dd - aa - bb - cc,aa,bb,cc]) ?_ rfl (Lies.fresh rfl (by simp) (by simp) rfl) (by omega) (by omega) ?_
      ·rw [HE.out,if_neg (by omega)]; by_cases h0 : 0 < dd <;> simp [h0]
      ·have hB9:=hB.trans (hV.mono hB.size)
       exact hB9.alloc hB9.size _
end Go.Proofs.Ytkjceegmmhnajaa

namespace Go.Proofs.Ytkjceegmmhnajaa
open Go.RowKit

theorem add0 (a : Addr) : a.add 0 = a:=by unfold Addr.add; simp
theorem add_pos (a : Addr) (n : Nat) (h : 0 < n) : a.add n = ⟨a.block,a.off + n,none⟩:=by unfold Addr.add; rw [if_neg (by omega)]

theorem vec_at {w : World} {ad : Addr} {cs : List Value} (hc : ∀ j u,cs[j]? = some u → w.cell? (ad.add j) = some u) (k : Nat) (v : Vc) (hk : 0 < k) (e0 : cs[k]? = some (.int .i64 v.x)) (e1 : cs[k + 1]? = some (.int .i64 v.y)) (e2 : cs[k + 2]? = some (.int .i64 v.z)) : vecAt w ⟨ad.block,ad.off + k,none⟩ v:=by
 have g0:=hc k _ e0
 have g1:=hc (k + 1) _ e1
 have g2:=hc (k + 2) _ e2
 rw [add_pos _ _ (by omega)] at g0 g1 g2
 exact ⟨g0,g1,g2⟩
theorem vec_at0 {w : World} {ad : Addr} {cs : List Value} (hc : ∀ j u,cs[j]? = some u → w.cell? (ad.add j) = some u) (v : Vc) (e0 : cs[0]? = some (.int .i64 v.x)) (e1 : cs[1]? = some (.int .i64 v.y)) (e2 : cs[2]? = some (.int .i64 v.z)) : vecAt w ad v:=by
 have g0:=hc 0 _ e0
 have g1:=hc 1 _ e1
 have g2:=hc 2 _ e2
 rw [add0] at g0
 rw [add_pos _ _ (by omega)] at g1 g2
 exact ⟨g0,g1,g2⟩

theorem weights_any : ∀ (pts : List Vc) (x : Vc) (A : Option Addr) (c : Nat) (w : World) (_ : Lies w w.heap.size A (vecsC pts)) (_ : 1 ≤ pts.length ∧ pts.length ≤ 4) (_ : ∀ p ∈ pts,shadeV p) (_ : shadeV x),
  Calls Try.prog 86 #[.slice A pts.length c,x.agg] w (WEnd (pwts pts x) w)
 | [],_,_,_,_,_,h,_,_=>absurd h.1 (by simp)
 | [a],x,A,c,w,hl,_,hs,hx=>by
  obtain ⟨ad,rfl,hb,hc⟩:=hl (by simp [vecsC,Vc.cells])
  have v0:=vec_at0 hc a rfl rfl rfl
  exact weights1 a x ad c w hb v0.1 v0.2.1 v0.2.2 (hs a (by simp)) hx
 | [a,p],x,A,c,w,hl,_,hs,hx=>by
  obtain ⟨ad,rfl,hb,hc⟩:=hl (by simp [vecsC,Vc.cells])
  exact weights2 a p x ad c w hb (vec_at0 hc a rfl rfl rfl) (vec_at hc 3 p (by omega) rfl rfl rfl) (hs a (by simp)) (hs p (by simp)) hx
 | [a,p,q],x,A,c,w,hl,_,hs,hx=>by
  obtain ⟨ad,rfl,hb,hc⟩:=hl (by simp [vecsC,Vc.cells])
  exact weights3 a p q x ad c w hb (vec_at0 hc a rfl rfl rfl) (vec_at hc 3 p (by omega) rfl rfl rfl) (vec_at hc 6 q (by omega) rfl rfl rfl) (hs a (by simp)) (hs p (by simp)) (hs q (by simp)) hx
 | [a,p,q,s],x,A,c,w,hl,_,hs,hx=>by
  obtain ⟨ad,rfl,hb,hc⟩:=hl (by simp [vecsC,Vc.cells])
  exact weights4 a p q s x ad c w hb (vec_at0 hc a rfl rfl rfl) (vec_at hc 3 p (by omega) rfl rfl rfl) (vec_at hc 6 q (by omega) rfl rfl rfl) (vec_at hc 9 s (by omega) rfl rfl rfl) (hs a (by simp)) (hs p (by simp)) (hs q (by simp)) (hs s (by simp)) hx
 | _ :: _ :: _ :: _ :: _ :: _,_,_,_,_,_,h,_,_=>absurd h.2 (by simp)

def ptOf (t : Tn) : Vc:=⟨t.a,t.b,t.c⟩
def ptsOf (l : List Tn) (L : List Int) : List Vc:=L.map fun i=>match l[i.toNat]? with | some t=>ptOf t | none=>⟨0,0,0⟩
theorem ptsOf_take {l : List Tn} {L : List Int} {k : Nat} (hk : k < L.length) (hi : L[k].toNat < l.length) : vecsC (ptsOf l (L.take k)) ++ [.int .i64 l[L[k].toNat].a, .int .i64 l[L[k].toNat].b, .int .i64 l[L[k].toNat].c] = vecsC (ptsOf l (L.take (k + 1))):=by
 rw [List.take_succ_eq_append_getElem hk]
 simp only [ptsOf,vecsC,List.map_append,List.map_cons,List.map_nil,List.flatMap_append,List.flatMap_cons,List.flatMap_nil,List.append_nil]
 rw [List.getElem?_eq_getElem hi]
 rfl
theorem info84 : (Try.prog.info? 84).map (fun i=>(i.zero,i.size,i.bytes)) = some (some (.agg #[.int .i64 0, .int .i64 0, .int .i64 0]),3,24):=by kernel_rfl
theorem cell_three_new (w : World) (x y z : Value) (t : TypeId) : ∀ j u,[x,y,z][j]? = some u → (w.alloc (.cells #[x,y,z] t)).cell? ((⟨w.heap.size,0,none⟩ : Addr).add j) = some u:=by
 intro j u hj
 have e : (⟨w.heap.size,0,none⟩ : Addr).add j = ⟨w.heap.size,j,none⟩:=by unfold Addr.add; split <;> simp_all
 rw [e]
 exact (Bk.new w t #[x,y,z]).cell j (by simpa using hj)

set_option maxRecDepth 100000 in
set_option maxHeartbeats 2000000 in
theorem recipe_none (l : List Tn) (L : List Int) (x y z : Int) (At A : Option Addr) (ct c : Nat) (w : World) (hlt : Lies w w.heap.size At (tintsC l)) (hl : Lies w w.heap.size A (ints L)) (h4 : 1 ≤ L.length ∧ L.length ≤ 4) (hr : ∀ i ∈ L,0 ≤ i ∧ i < l.length) (hm2 : l.length ≤ 1000)
  (hsh : ∀ t ∈ l,shIn t.a t.b t.c) (hx : shIn x y z) (hno : ∀ ws,pwts (ptsOf l L) ⟨x,y,z⟩ = some ws → ws.any notPos = true) :
  Calls Try.prog 69 #[.slice At l.length ct, .slice A L.length c, .agg #[.int .i64 x, .int .i64 y, .int .i64 z]] w fun e w'=>e = .returned (.tuple #[.agg #[.slice none 0 0], .bool false]) ∧ Below w.heap.size w w':=by
 obtain ⟨i0,hi0,hz0,hz1,hz2⟩:=info_parts info84
 have I84:=Lib.hid (And.intro hi0 (And.intro hz0 (And.intro hz1 hz2))); clear hi0 hz0 hz1 hz2
 have hlen : (ptsOf l L).length = L.length:=by simp [ptsOf]
 have hpts : ∀ p ∈ ptsOf l L,shadeV p:=fun p hp=>by
  unfold ptsOf at hp
  obtain ⟨i,hi,rfl⟩:=List.mem_map.1 hp
  obtain ⟨h1,h2⟩:=hr i hi
  have h3 : i.toNat < l.length:=by omega
  rw [List.getElem?_eq_getElem h3]
  exact hsh _ (List.getElem_mem h3)
 have HWt : Hid (∀ W A' c',Lies W W.heap.size A' (vecsC (ptsOf l L)) → Calls Try.prog 86 #[.slice A' L.length c', .agg #[.int .i64 x, .int .i64 y, .int .i64 z]] W (WEnd (pwts (ptsOf l L) ⟨x,y,z⟩) W)):=fun W A' c' h=>by
  have:=weights_any (ptsOf l L) ⟨x,y,z⟩ A' c' W h (by omega) hpts hx
  rw [hlen] at this
  exact this
 have HNo:=Lib.hid hno
 have HR:=Lib.hid hr
 clear hno hr hsh hx hpts hlen
 generalize pwts (ptsOf l L) ⟨x,y,z⟩ = R at *
 go_enter Try.func69,Try.ntmps69
 go_wp2
 go_loopw [8,19] (fun v s wr=>∃ k : Nat,k ≤ L.length ∧ s = .int .i64 k ∧ wr.ownsRow (w.heap.size + 1 + 1) 84 3 v k (vecsC (ptsOf l (L.take k))) ∧ Below w.heap.size w wr ∧ (Bk wr w.heap.size 37 #[.int .i64 x, .int .i64 y, .int .i64 z] ∧ Bk wr (w.heap.size + 1) 25 #[.slice none 0 0])) (fun _ s _=>L.length - (intOf s).toNat)
 case atStart =>
  have h2:=Bk.new (w.alloc (.cells #[.int .i64 x, .int .i64 y, .int .i64 z] 37)) 25 #[.slice none 0 0]
  rw [World.size_alloc] at h2
  exact ⟨0,by omega,rfl,World.ownsRow_nil _ _ _ _,(by repeat (first | with_reducible exact Below.refl _ _ | with_reducible assumption | with_reducible refine Below.drew ?_ | with_reducible refine below_drewN ?_ _ | (with_reducible refine Below.alloc ?_ ?_ _; rotate_left; (try simp) <;> omega) | (with_reducible refine Below.setCell ?_ ?_ _; rotate_left; (try simp) <;> omega))),(Bk.new _ _ _).alloc _,h2⟩
 case round =>
  obtain ⟨k,hk,rfl,hown,hbw,hbx,hby⟩:=hrel
  have hbs:=hbw.size
  have lx:=hbx.lt
  have ly:=hby.lt
  by_cases hlk : k < L.length
  ·obtain ⟨aA,uA,rfl,_,huA,hcA⟩:=(hl.below hbw (Nat.le_refl _)).at_ (k:=k) (by simpa [ints] using hlk)
   obtain rfl : uA = .int .i64 L[k]:=by simp [ints,List.getElem?_eq_getElem hlk] at huA; exact huA.symm
   obtain ⟨hi1,hi2⟩:=HR.out _ (List.getElem_mem hlk)
   have hin : L[k].toNat < l.length:=by omega
   obtain ⟨ad,rfl,_,c0,c1,c2,c3,c4⟩:=tint_at (hlt.below hbw (Nat.le_refl _)) hin
   have HP:=Lib.hid (ptsOf_take hlk hin)
   have hkI : (k : Int) < (L.length : Int):=by omega
   have hkN : 0 ≤ (k : Int):=by omega
   clear hl hlt huA
   generalize l[L[k].toNat].a = ta at *
   generalize l[L[k].toNat].b = tb at *
   generalize l[L[k].toNat].c = tc at *
   go_wp2_with (at_builtin; refine wpList_append_own _ rfl (.tmp 23) (.tmp 29) 108 rfl (w.heap.size + 1 + 1) 84 i0 (.agg #[.int .i64 0, .int .i64 0, .int .i64 0]) 3 24 Try.underlying108 I84.out.1 I84.out.2.1 I84.out.2.2.1 I84.out.2.2.2 rfl (by decide) _ k (vecsC (ptsOf l (L.take k))) rfl (hown.alloc _) ⟨wr.heap.size,0,none⟩ 1 1 [.int .i64 ta, .int .i64 tb, .int .i64 tc] rfl rfl ?c1 ?c2 ?c3 ?c4 ?c5 ?_)
   case c1=>exact cell_three_new _ _ _ _ _
   case c2=>intro u hu; simp at hu; rcases hu with rfl | rfl | rfl <;> rfl
   case c3=>unfold maxLen; omega
   case c4=>omega
   case c5=>simp; omega
   intro v' w1 hown' hgrow _
   rw [HP.out] at hown'
   have hrow : ∀ g,Value.ownBlock u8 = some g → w.heap.size + 1 + 1 ≤ g:=fun g hg=>by
    rcases hown.2 with ⟨e,_⟩ | ⟨g',_,_,e,hge,_⟩
    ·rw [e] at hg; simp [Value.ownBlock] at hg
    ·rw [e] at hg; simp [Value.ownBlock] at hg; omega
   have hb1 : Below w.heap.size w w1:=Below.grown (w:=wr.alloc _) (by repeat (first | with_reducible exact Below.refl _ _ | with_reducible assumption | with_reducible refine Below.drew ?_ | with_reducible refine below_drewN ?_ _ | (with_reducible refine Below.alloc ?_ ?_ _; rotate_left; (try simp) <;> omega) | (with_reducible refine Below.setCell ?_ ?_ _; rotate_left; (try simp) <;> omega))) hgrow (by simp; omega) (fun g hg=>by have:=hrow g hg; omega)
   have nx:=(hbx.alloc (.cells #[.int .i64 ta, .int .i64 tb, .int .i64 tc] 84)).grown hgrow (fun e=>by have:=hrow _ e.symm; omega)
   have ny:=(hby.alloc (.cells #[.int .i64 ta, .int .i64 tb, .int .i64 tc] 84)).grown hgrow (fun e=>by have:=hrow _ e.symm; omega)
   clear hgrow hown hrow
   go_wp2
   go_roundw
   case rel=>exact ⟨k + 1,by omega,by go_num,hown',hb1,nx,ny⟩
   case measure=>simp [intOf]; omega
  ·obtain rfl : k = L.length:=by omega
   rw [List.take_length] at hown
   have hform : ∃ A2 c2,u8 = .slice A2 L.length c2:=by
    rcases hown.2 with h | ⟨g',c2,_,h,_⟩
    ·exact absurd h.2 (by omega)
    ·exact ⟨_,_,h⟩
   obtain ⟨A2,c2,rfl⟩:=hform
   have HL:=Lib.hid (ownsRow_lies hown)
   have x0:=hbx.cell 0 rfl
   have x1:=hbx.cell 1 rfl
   have x2:=hbx.cell 2 rfl
   clear hown hl hlt
   go_wp2_with fail
   refine (HWt.out _ _ _ HL.out).mono ?_
   rintro e w3 ⟨A3,n3,c3,b3,rfl,hm3,hn3,hc3,hb3⟩
   have hB3 : Below w.heap.size w w3:=hbw.trans (hb3.mono hbw.size)
   have ny:=hby.below hb3 hby.lt
   have hy0:=ny.cell 0 rfl
   have hyf:=ny.fro 0
   have hyl:=ny.lt
   cases R with
   | none =>
    obtain rfl : b3 = false:=hm3
    go_wp2
    refine bodyPost_ret (v:=.tuple #[.agg #[.slice none 0 0], .bool false]) ?_ rfl ⟨rfl,?_⟩
    ·simp [results,Try.results69,go_sem,hy0,hyl]
    ·exact (by repeat (first | with_reducible exact Below.refl _ _ | with_reducible assumption | with_reducible refine Below.drew ?_ | with_reducible refine below_drewN ?_ _ | (with_reducible refine Below.alloc ?_ ?_ _; rotate_left; (try simp) <;> omega) | (with_reducible refine Below.setCell ?_ ?_ _; rotate_left; (try simp) <;> omega)))
   | some ws =>
    obtain ⟨rfl,rfl,hL3⟩:=hm3
    have hany:=HNo.out ws rfl
    have HA:=Lib.hid (any87 ws A3 c3 w3 hL3 (by omega))
    have HAny:=Lib.hid hany
    clear hany hL3
    go_wp2_with fail
    refine HA.out.mono ?_
    rintro e w4 ⟨rfl,rfl⟩
    rw [HAny.out]
    go_wp2
    refine bodyPost_ret (v:=.tuple #[.agg #[.slice none 0 0], .bool false]) ?_ rfl ⟨rfl,?_⟩
    ·simp [results,Try.results69,go_sem,hy0,hyl]
    ·exact (by repeat (first | with_reducible exact Below.refl _ _ | with_reducible assumption | with_reducible refine Below.drew ?_ | with_reducible refine below_drewN ?_ _ | (with_reducible refine Below.alloc ?_ ?_ _; rotate_left; (try simp) <;> omega) | (with_reducible refine Below.setCell ?_ ?_ _; rotate_left; (try simp) <;> omega)))
end Go.Proofs.Ytkjceegmmhnajaa

namespace Go.Proofs.Ytkjceegmmhnajaa
open Go.RowKit

theorem info64 : (Try.prog.info? 64).map (fun i=>(i.zero,i.size,i.bytes)) = some (some (.agg #[.int .i64 0, .int .i64 0]),2,16):=by kernel_rfl
def mkParts (L ws : List Int) : List Pt:=List.zipWith (fun i v=>(⟨i,v.tdiv (gcdL ws)⟩ : Pt)) L ws
def RecE (ps : List Pt) (w : World) (e : Ending) (w' : World) : Prop:=∃ v : Value,e = .returned (.tuple #[.agg #[v], .bool true]) ∧ w'.ownsRow w.heap.size 64 2 v ps.length (partsC ps) ∧ Below w.heap.size w w'
theorem pos_of_any {ws : List Int} (h : ws.any notPos = false) : ∀ v ∈ ws,0 < v:=fun v hv=>by
 have:=List.any_eq_false.1 h v hv
 unfold notPos at this
 simp at this
 exact this
theorem own_ne {w : World} {base g : Nat} {e : TypeId} {size n : Nat} {v : Value} {xs : List Value} (ho : w.ownsRow base e size v n xs) (h : g < base) : some g ≠ v.ownBlock:=by
 rcases ho.2 with ⟨rfl,_⟩ | ⟨g',_,_,rfl,hge,_⟩
 ·simp [Value.ownBlock]
 ·simp [Value.ownBlock]; omega
theorem own_setCell {w : World} {base b o : Nat} {e : TypeId} {size n : Nat} {v u : Value} {xs : List Value} (ho : w.ownsRow base e size v n xs) (hb : b < base) : (w.setCell ⟨b,o,none⟩ u).ownsRow base e size v n xs:=by
 refine ⟨ho.1,?_⟩
 rcases ho.2 with h | ⟨g,cap,cur,h1,h2,h3,h4⟩
 ·exact .inl h
 ·exact .inr ⟨g,cap,cur,h1,h2,(Below.heap_setCell _ _ _ g (show g ≠ b by omega)).trans h3,h4⟩
theorem own_drew {w : World} {base : Nat} {e : TypeId} {size n : Nat} {v : Value} {xs : List Value} (ho : w.ownsRow base e size v n xs) : w.drew.ownsRow base e size v n xs:=ho
theorem own_more {w : World} {b b' : Nat} {e : TypeId} {size n : Nat} {v : Value} {xs : List Value} (ho : w.ownsRow b e size v n xs) (hb : b' ≤ b) : w.ownsRow b' e size v n xs:=by
 refine ⟨ho.1,?_⟩
 rcases ho.2 with h | ⟨g,cap,cur,h1,h2,h3⟩
 ·exact .inl h
 ·exact .inr ⟨g,cap,cur,h1,by omega,h3⟩
theorem below_row {a w w1 : World} {B base : Nat} {e : TypeId} {size n : Nat} {v : Value} {xs : List Value} (hb : Below B a w) (ho : w.ownsRow base e size v n xs) (hg : w.grownBy w1 v.ownBlock) (hB : B ≤ base) (hw : B ≤ w.heap.size) : Below B a w1 :=
 Below.grown hb hg hw (fun g hg=>by
  rcases ho.2 with ⟨rfl,_⟩ | ⟨g',_,_,rfl,hge,_⟩
  ·simp [Value.ownBlock] at hg
  ·simp [Value.ownBlock] at hg; omega)
theorem gcdL_dvd : ∀ (l : List Int) (v : Int),v ∈ l → (gcdL l) ∣ v.natAbs:=fun l=>by
 have key : ∀ (l : List Int) (g : Nat),(l.foldl (fun g n=>Nat.gcd g n.natAbs) g ∣ g) ∧ ∀ v ∈ l,l.foldl (fun g n=>Nat.gcd g n.natAbs) g ∣ v.natAbs:=fun l=>by
  induction l with
  | nil=>intro g; exact ⟨Nat.dvd_refl _,fun v hv=>by cases hv⟩
  | cons a r ih =>
   intro g
   obtain ⟨h1,h2⟩:=ih (Nat.gcd g a.natAbs)
   refine ⟨Nat.dvd_trans h1 (Nat.gcd_dvd_left ..),fun v hv=>?_⟩
   rcases List.mem_cons.1 hv with rfl | hv
   ·exact Nat.dvd_trans h1 (Nat.gcd_dvd_right ..)
   ·exact h2 v hv
 exact (key l 0).2
theorem gcd_pos {ws : List Int} (h : ws.any notPos = false) (hl : 1 ≤ ws.length) : (0 : Int) < (gcdL ws : Int):=by
 cases ws with
 | nil=>simp at hl
 | cons a r =>
  have h1:=pos_of_any h a (by simp)
  have h2:=gcdL_dvd (a :: r) a (by simp)
  have : gcdL (a :: r) ≠ 0:=fun e=>by rw [e] at h2; have:=Nat.eq_zero_of_zero_dvd h2; omega
  omega

set_option maxRecDepth 100000 in
set_option maxHeartbeats 2000000 in
theorem recipe_some (l : List Tn) (L : List Int) (x y z : Int) (At A : Option Addr) (ct c : Nat) (w : World) (hlt : Lies w w.heap.size At (tintsC l)) (hl : Lies w w.heap.size A (ints L)) (h4 : 1 ≤ L.length ∧ L.length ≤ 4) (hr : ∀ i ∈ L,0 ≤ i ∧ i < l.length) (hm2 : l.length ≤ 1000)
  (hsh : ∀ t ∈ l,shIn t.a t.b t.c) (hx : shIn x y z) (ws : List Int) (hws : pwts (ptsOf l L) ⟨x,y,z⟩ = some ws) (hpos : ws.any notPos = false) (hbd : ∀ v ∈ ws,v ≤ 3000000000000000000) (hwl : ws.length = L.length) :
  Calls Try.prog 69 #[.slice At l.length ct, .slice A L.length c, .agg #[.int .i64 x, .int .i64 y, .int .i64 z]] w (RecE (mkParts L ws) w):=by
 obtain ⟨i0,hi0,hz0,hz1,hz2⟩:=info_parts info84
 have I84:=Lib.hid (And.intro hi0 (And.intro hz0 (And.intro hz1 hz2))); clear hi0 hz0 hz1 hz2
 have hlen : (ptsOf l L).length = L.length:=by simp [ptsOf]
 have hpts : ∀ p ∈ ptsOf l L,shadeV p:=fun p hp=>by
  unfold ptsOf at hp
  obtain ⟨i,hi,rfl⟩:=List.mem_map.1 hp
  obtain ⟨h1,h2⟩:=hr i hi
  have h3 : i.toNat < l.length:=by omega
  rw [List.getElem?_eq_getElem h3]
  exact hsh _ (List.getElem_mem h3)
 have HWt : Hid (∀ W A' c',Lies W W.heap.size A' (vecsC (ptsOf l L)) → Calls Try.prog 86 #[.slice A' L.length c', .agg #[.int .i64 x, .int .i64 y, .int .i64 z]] W (WEnd (pwts (ptsOf l L) ⟨x,y,z⟩) W)):=fun W A' c' h=>by
  have:=weights_any (ptsOf l L) ⟨x,y,z⟩ A' c' W h (by omega) hpts hx
  rw [hlen] at this
  exact this
 have HLi : Hid (∀ W,Below w.heap.size w W → Lies W w.heap.size A (ints L)):=fun W hb=>hl.below hb (Nat.le_refl _)
 have HPO:=Lib.hid hpos
 have HBD:=Lib.hid hbd
 rw [hws] at HWt
 have HR:=Lib.hid hr
 clear hpos hws hbd hr hsh hx hpts hlen
 obtain ⟨j0,hj0,hy0,hy1,hy2⟩:=info_parts info64
 have I64:=Lib.hid (And.intro hj0 (And.intro hy0 (And.intro hy1 hy2))); clear hj0 hy0 hy1 hy2
 go_enter Try.func69,Try.ntmps69
 go_wp2
 go_loopw [8,19] (fun v s wr=>∃ k : Nat,k ≤ L.length ∧ s = .int .i64 k ∧ wr.ownsRow (w.heap.size + 1 + 1) 84 3 v k (vecsC (ptsOf l (L.take k))) ∧ Below w.heap.size w wr ∧ (Bk wr w.heap.size 37 #[.int .i64 x, .int .i64 y, .int .i64 z] ∧ Bk wr (w.heap.size + 1) 25 #[.slice none 0 0])) (fun _ s _=>L.length - (intOf s).toNat)
 case atStart =>
  have h2:=Bk.new (w.alloc (.cells #[.int .i64 x, .int .i64 y, .int .i64 z] 37)) 25 #[.slice none 0 0]
  rw [World.size_alloc] at h2
  exact ⟨0,by omega,rfl,World.ownsRow_nil _ _ _ _,(by repeat (first | with_reducible exact Below.refl _ _ | with_reducible assumption | with_reducible refine Below.drew ?_ | with_reducible refine below_drewN ?_ _ | (with_reducible refine Below.alloc ?_ ?_ _; rotate_left; (try simp) <;> omega) | (with_reducible refine Below.setCell ?_ ?_ _; rotate_left; (try simp) <;> omega))),(Bk.new _ _ _).alloc _,h2⟩
 case round =>
  obtain ⟨k,hk,rfl,hown,hbw,hbx,hby⟩:=hrel
  have hbs:=hbw.size
  have lx:=hbx.lt
  have ly:=hby.lt
  by_cases hlk : k < L.length
  ·obtain ⟨aA,uA,rfl,_,huA,hcA⟩:=(hl.below hbw (Nat.le_refl _)).at_ (k:=k) (by simpa [ints] using hlk)
   obtain rfl : uA = .int .i64 L[k]:=by simp [ints,List.getElem?_eq_getElem hlk] at huA; exact huA.symm
   obtain ⟨hi1,hi2⟩:=HR.out _ (List.getElem_mem hlk)
   have hin : L[k].toNat < l.length:=by omega
   obtain ⟨ad,rfl,_,c0,c1,c2,c3,c4⟩:=tint_at (hlt.below hbw (Nat.le_refl _)) hin
   have HP:=Lib.hid (ptsOf_take hlk hin)
   have hkI : (k : Int) < (L.length : Int):=by omega
   have hkN : 0 ≤ (k : Int):=by omega
   clear hl hlt huA
   generalize l[L[k].toNat].a = ta at *
   generalize l[L[k].toNat].b = tb at *
   generalize l[L[k].toNat].c = tc at *
   go_wp2_with (at_builtin; refine wpList_append_own _ rfl (.tmp 23) (.tmp 29) 108 rfl (w.heap.size + 1 + 1) 84 i0 (.agg #[.int .i64 0, .int .i64 0, .int .i64 0]) 3 24 Try.underlying108 I84.out.1 I84.out.2.1 I84.out.2.2.1 I84.out.2.2.2 rfl (by decide) _ k (vecsC (ptsOf l (L.take k))) rfl (hown.alloc _) ⟨wr.heap.size,0,none⟩ 1 1 [.int .i64 ta, .int .i64 tb, .int .i64 tc] rfl rfl ?c1 ?c2 ?c3 ?c4 ?c5 ?_)
   case c1=>exact cell_three_new _ _ _ _ _
   case c2=>intro u hu; simp at hu; rcases hu with rfl | rfl | rfl <;> rfl
   case c3=>unfold maxLen; omega
   case c4=>omega
   case c5=>simp; omega
   intro v' w1 hown' hgrow _
   rw [HP.out] at hown'
   have hrow : ∀ g,Value.ownBlock u8 = some g → w.heap.size + 1 + 1 ≤ g:=fun g hg=>by
    rcases hown.2 with ⟨e,_⟩ | ⟨g',_,_,e,hge,_⟩
    ·rw [e] at hg; simp [Value.ownBlock] at hg
    ·rw [e] at hg; simp [Value.ownBlock] at hg; omega
   have hb1 : Below w.heap.size w w1:=Below.grown (w:=wr.alloc _) (by repeat (first | with_reducible exact Below.refl _ _ | with_reducible assumption | with_reducible refine Below.drew ?_ | with_reducible refine below_drewN ?_ _ | (with_reducible refine Below.alloc ?_ ?_ _; rotate_left; (try simp) <;> omega) | (with_reducible refine Below.setCell ?_ ?_ _; rotate_left; (try simp) <;> omega))) hgrow (by simp; omega) (fun g hg=>by have:=hrow g hg; omega)
   have nx:=(hbx.alloc (.cells #[.int .i64 ta, .int .i64 tb, .int .i64 tc] 84)).grown hgrow (fun e=>by have:=hrow _ e.symm; omega)
   have ny:=(hby.alloc (.cells #[.int .i64 ta, .int .i64 tb, .int .i64 tc] 84)).grown hgrow (fun e=>by have:=hrow _ e.symm; omega)
   clear hgrow hown hrow
   go_wp2
   go_roundw
   case rel=>exact ⟨k + 1,by omega,by go_num,hown',hb1,nx,ny⟩
   case measure=>simp [intOf]; omega
  ·obtain rfl : k = L.length:=by omega
   rw [List.take_length] at hown
   have hform : ∃ A2 c2,u8 = .slice A2 L.length c2:=by
    rcases hown.2 with h | ⟨g',c2,_,h,_⟩
    ·exact absurd h.2 (by omega)
    ·exact ⟨_,_,h⟩
   obtain ⟨A2,c2,rfl⟩:=hform
   have HL:=Lib.hid (ownsRow_lies hown)
   have x0:=hbx.cell 0 rfl
   have x1:=hbx.cell 1 rfl
   have x2:=hbx.cell 2 rfl
   clear hown hl hlt
   go_wp2_with fail
   refine (HWt.out _ _ _ HL.out).mono ?_
   rintro e w3 ⟨A3,n3,c3,b3,rfl,⟨rfl,rfl,hL3⟩,hn3,hc3,hb3⟩
   have hB3 : Below w.heap.size w w3:=hbw.trans (hb3.mono hbw.size)
   have ny:=hby.below hb3 hby.lt
   have hany:=HPO.out
   have HA:=Lib.hid (any87 ws A3 c3 w3 hL3 (by omega))
   have HDV:=Lib.hid (divisor_aux ws A3 c3 w3 hL3 (fun v hv=>by
    have h1:=HBD.out v hv
    have h2:=pos_of_any HPO.out v hv
    unfold bigP; omega) (by omega))
   have HWL:=Lib.hid hwl
   have HAny:=Lib.hid hany
   have hnl:=ny.lt
   clear hany hwl
   generalize hg : (gcdL ws : Int) = g at *
   have HG:=Lib.hid hg
   clear hg
   have hgp : 0 < g:=by rw [← HG.out]; exact gcd_pos HPO.out (by rw [HWL.out]; omega)
   have hg0 : ¬ g = 0:=by omega
   have hgz : (g == 0) = false:=by rw [beq_eq_false_iff_ne]; omega
   have HML : Hid ((mkParts L ws).length = L.length):=by show _ = _; unfold mkParts; rw [List.length_zipWith,HWL.out]; exact Nat.min_self _
   have HMS : Hid (∀ k (h : k < L.length) (h2 : k < ws.length),partsC ((mkParts L ws).take k) ++ [.int .i64 L[k], .int .i64 (ws[k].tdiv g)] = partsC ((mkParts L ws).take (k + 1))):=fun k h h2=>by
    have h3 : k < (mkParts L ws).length:=by rw [HML.out]; exact h
    rw [List.take_succ_eq_append_getElem h3]
    have e1 : (mkParts L ws)[k]'h3 = ⟨L[k],ws[k].tdiv g⟩:=by rw [← HG.out]; simp only [mkParts,List.getElem_zipWith]
    rw [e1]
    simp [partsC,Pt.cells]
   have hwl1 : ws.length ≤ L.length:=by rw [HWL.out]; exact Nat.le_refl _
   have hwl2 : L.length ≤ ws.length:=by rw [HWL.out]; exact Nat.le_refl _
   have hb3s:=hB3.size
   clear HWt HR HL I84
   go_wp2_with fail
   refine HA.out.mono ?_
   rintro e w4 ⟨rfl,rfl⟩
   rw [HAny.out]
   go_wp2_with (first | (go_at_call 61; refine HDV.out.mono ?_; rintro e w5 ⟨rfl,n5,hw5⟩; have hb5 : Below w3.heap.size w3 w5:=(by rw [hw5]; exact below_drewN (Below.refl _ _) _); clear hw5; have hB5 : Below w.heap.size w w5:=hB3.trans (hb5.mono hb3s); have ny5:=ny.below hb5 hnl; have hl5:=ny5.lt; have L5:=(hL3.below hb5 (Nat.le_refl _)).more hb5.size; clear hb5 HA HDV hL3))
   have b14 : Bk (w5.alloc (.cells #[.slice none 0 0] 25)) w5.heap.size 25 #[.slice none 0 0]:=Bk.new _ _ _
   have hb0 : Below w5.heap.size w5 (w5.alloc (.cells #[.slice none 0 0] 25)):=(Below.refl _ _).alloc (Nat.le_refl _) _
   have HBW : Hid (∀ W,Below w5.heap.size w5 W → Below w.heap.size w W):=fun W hb=>hB5.trans (hb.mono hB5.size)
   have HKY : Hid (∀ W,Below w5.heap.size w5 W → Bk W (w.heap.size + 1) 25 #[.slice none 0 0]):=fun W hb=>ny5.below hb hl5
   have HL5 : Hid (∀ W,Below w5.heap.size w5 W → Lies W w5.heap.size A3 (ints ws)):=fun W hb=>L5.below hb (Nat.le_refl _)
   have hz5:=hB5.size
   clear ny hB3 hbw hbx hby x0 x1 x2 ny5 L5 hB5
   go_loopw [49] (fun y wr2=>∃ (k : Nat) (v : Value),k ≤ L.length ∧ y = .int .i64 (k : Int) ∧ Below w5.heap.size w5 wr2 ∧ Bk wr2 w5.heap.size 25 #[v] ∧ wr2.ownsRow (w5.heap.size + 1) 64 2 v k (partsC ((mkParts L ws).take k))) (fun y _=>L.length - (intOf y).toNat)
   case atStart=>exact ⟨0, .slice none 0 0,Nat.zero_le _,rfl,hb0,b14,World.ownsRow_nil _ _ _ _⟩
   case round =>
   clear hb0 b14
   obtain ⟨k,v,hk,rfl,hbw,h14,hown⟩:=hrel
   obtain ⟨Av,cv,rfl,_,_⟩:=ownsSlice hown
   have hbs:=hbw.size
   have l14:=h14.lt
   have x14:=h14.cell 0 rfl
   have f14:=h14.fro 0
   by_cases hlk : k < L.length
   ·have hkw : k < ws.length:=by omega
    obtain ⟨aA,uA,rfl,_,huA,hcA⟩:=(HLi.out wr (HBW.out wr hbw)).at_ (k:=k) (by simpa [ints] using hlk)
    obtain rfl : uA = .int .i64 L[k]:=by simp [ints,List.getElem?_eq_getElem hlk] at huA; exact huA.symm
    obtain ⟨aW,uW,rfl,hbW,huW,hcW⟩:=(HL5.out wr hbw).at_ (k:=k) (by simpa [ints] using hkw)
    obtain rfl : uW = .int .i64 ws[k]:=by simp [ints,List.getElem?_eq_getElem hkw] at huW; exact huW.symm
    have HSN:=Lib.hid (HMS.out k hlk hkw)
    have hv1:=HBD.out ws[k] (List.getElem_mem hkw)
    have hv2:=pos_of_any HPO.out ws[k] (List.getElem_mem hkw)
    have hkI : (k : Int) < (L.length : Int):=by omega
    have hkJ : (k : Int) < (ws.length : Int):=by omega
    have hk0 : 0 ≤ (k : Int):=by omega
    have HCW : Hid (∀ W,Below w5.heap.size w5 W → W.cell? (aW.add k) = some (.int .i64 ws[k])):=fun W hb=>by
     obtain ⟨a',u',e',_,hu',hc'⟩:=(HL5.out W hb).at_ (k:=k) (by simpa [ints] using hkw)
     cases e'
     simp [ints,List.getElem?_eq_getElem hkw] at hu'
     rw [hu']; exact hc'
    clear huA huW
    generalize L[k] = ti at *
    generalize ws[k] = wi at *
    have hquo0 : Hid (IntKind.i64.wrap (wi.tdiv g) = wi.tdiv g):=IntWalk.i64_in _ (by
     have h1 : 0 ≤ wi.tdiv g:=Int.tdiv_nonneg (by omega) (by omega)
     have h2 : wi.tdiv g ≤ wi:=by
      have:=Int.tdiv_le_self g (show 0 ≤ wi by omega)
      exact this
     omega)
    have hquo:=hquo0.out
    go_upto_region 15 with fail
    have h146:=h14.drew
    have hown6 : wr.drew.ownsRow (w5.heap.size + 1) 64 2 (.slice Av k cv) k (partsC ((mkParts L ws).take k)):=own_drew hown
    have hb6 : Below w5.heap.size w5 wr.drew:=hbw.drew
    have hc6:=HCW.out _ hb6
    have x146:=h146.cell 0 rfl
    have f146:=h146.fro 0
    have hz6:=hb6.size
    have hz66:=h146.lt
    clear x14 f14 h14 hcA hown
    refine wp_region_held_drew (S:=(fun w'=>w'.cell? (aW.add k) = some (.int .i64 wi))) (by kernel_rfl) ?_ (fun hHeld=>?_)
    ·exact hc6
    generalize wr.drew = w6 at *
    have hb_w6:=hb6
    have hz_w6:=hb6.size
    refine tk 0 54 ?_
    refine tk 2 56 ?_
    refine tk 3 57 ?_
    refine tk 4 58 ?_
    refine tk 5 59 ?_
    refine tk 6 60 ?_
    refine tk 7 61 ?_
    refine tk 8 62 ?_
    refine tk 9 63 ?_
    clear hquo hHeld hc6 hcW
    refine held_two 1 10 ⟨some 55, .load 23 (.tmp 54),23,_,_,none⟩ ⟨some 64, .buildSlice 23 1 #[(0, .tmp 63)],23,_,_,none⟩ rfl rfl (by kernel_rfl) (by rfl) (by rfl) ?_ ?_
    ·unfold Oper.wp
     go_simp
     refine ⟨HCW.out _ hb_w6,?_⟩
     (try simp only [Act.put,List.setIfInBounds_toArray,List.set_cons_zero,List.set_cons_succ])
     refine held_one 10 ⟨some 64, .buildSlice 23 1 #[(0, .tmp 63)],23,_,_,none⟩ rfl (by kernel_rfl) (by rfl) ?_
     unfold Oper.wp
     go_simp
     have hb6b : Below w5.heap.size w5 (w6.alloc (.cells #[.int .i64 ti, .int .i64 (wi.tdiv g)] 64)):=hb_w6.alloc hz_w6 _
     have bx:=Bk.new w6 64 #[.int .i64 ti, .int .i64 (wi.tdiv g)]
     have hown6b:=hown6.alloc (.cells #[.int .i64 ti, .int .i64 (wi.tdiv g)] 64)
     have h146b:=h146.alloc (.cells #[.int .i64 ti, .int .i64 (wi.tdiv g)] 64)
     have x146b:=h146b.cell 0 rfl
     refine ⟨HCW.out _ hb6b,?_⟩
     (try simp only [Act.put,List.setIfInBounds_toArray,List.set_cons_zero,List.set_cons_succ])
     generalize w6.alloc (.cells #[.int .i64 ti, .int .i64 (wi.tdiv g)] 64) = w6b at *
     have hb_w6b:=hb6b
     have hz_w6b:=hb6b.size
     refine held_one 11 ⟨some 65, .call { callee:=.builtin .append,args:=#[.tmp 55, .tmp 64],argTypes:=#[23,23] },23,_,_,none⟩ rfl (by kernel_rfl) (by rfl) ?_
     refine wp_append_own _ (.tmp 55) (.tmp 64) 23 rfl (w5.heap.size + 1) 64 j0 (.agg #[.int .i64 0, .int .i64 0]) 2 16 Try.underlying23 I64.out.1 I64.out.2.1 I64.out.2.2.1 I64.out.2.2.2 rfl (by decide) (.slice Av k cv) k (partsC ((mkParts L ws).take k)) rfl hown6b ⟨w6.heap.size,0,none⟩ 1 1 [.int .i64 ti, .int .i64 (wi.tdiv g)] rfl rfl (bk_cells bx) ?_ ?_ ?_ ?_ ?_
     ·intro u hu; simp at hu; rcases hu with rfl | rfl <;> rfl
     ·unfold maxLen; omega
     ·omega
     ·have:=h146b.lt; omega
     intro v7 w7 ow7 hg7 _
     obtain ⟨A7,c7,rfl,_,_⟩:=ownsSlice ow7
     have hb7 : Below w5.heap.size w5 w7:=below_row hb_w6b hown6b hg7 (by omega) hz_w6b
     have h147 : Bk w7 w5.heap.size 25 #[.slice Av k cv]:=h146b.grown hg7 (own_ne hown6b (by omega))
     have x147:=h147.cell 0 rfl
     have f147:=h147.fro 0
     refine ⟨HCW.out _ hb7,?_⟩
     (try simp only [Act.put,List.setIfInBounds_toArray,List.set_cons_zero,List.set_cons_succ])
     have hHeld:=HCW.out _ hb7
     refine tk 12 66 ?_
     clear hHeld
     rw [HSN.out] at ow7
     have h148:=h147.set 0 (.slice A7 (k + 1) c7)
     have ow8 : (w7.setCell ⟨w5.heap.size,0,none⟩ (.slice A7 (k + 1) c7)).ownsRow (w5.heap.size + 1) 64 2 (.slice A7 (k + 1) c7) (k + 1) (partsC ((mkParts L ws).take (k + 1))):=own_setCell ow7 (by omega)
     have hb8:=hb7.setCell (p:=⟨w5.heap.size,0,none⟩) (Nat.le_refl _) (.slice A7 (k + 1) c7)
     refine held_one 13 ⟨none, .store 23 (.tmp 66) (.tmp 65),0,_,_,none⟩ rfl (by kernel_rfl) (by rfl) ?_
     unfold Oper.wp
     go_simp
     refine ⟨HCW.out _ hb8,?_⟩
     (try simp only [Act.put,List.setIfInBounds_toArray,List.set_cons_zero,List.set_cons_succ])
     refine wpAnyH_done (by kernel_rfl) ?_ _
     clear hg7 x146 x147 f146 f147 h146 h146b h147 hown6 hown6b
     go_wp2
     go_roundw
     case rel=>exact ⟨k + 1, .slice A7 (k + 1) c7,by omega,by go_num,hb8,h148,ow8⟩
     case measure=>simp [intOf] <;> omega
    ·unfold Oper.wp
     go_simp
     have hb6b : Below w5.heap.size w5 (w6.alloc (.cells #[.int .i64 ti, .int .i64 (wi.tdiv g)] 64)):=hb_w6.alloc hz_w6 _
     have bx:=Bk.new w6 64 #[.int .i64 ti, .int .i64 (wi.tdiv g)]
     have hown6b:=hown6.alloc (.cells #[.int .i64 ti, .int .i64 (wi.tdiv g)] 64)
     have h146b:=h146.alloc (.cells #[.int .i64 ti, .int .i64 (wi.tdiv g)] 64)
     have x146b:=h146b.cell 0 rfl
     refine ⟨HCW.out _ hb6b,?_⟩
     (try simp only [Act.put,List.setIfInBounds_toArray,List.set_cons_zero,List.set_cons_succ])
     generalize w6.alloc (.cells #[.int .i64 ti, .int .i64 (wi.tdiv g)] 64) = w6b at *
     have hb_w6b:=hb6b
     have hz_w6b:=hb6b.size
     refine held_one 1 ⟨some 55, .load 23 (.tmp 54),23,_,_,none⟩ rfl (by kernel_rfl) (by rfl) ?_
     unfold Oper.wp
     go_simp
     refine ⟨HCW.out _ hb_w6b,?_⟩
     (try simp only [Act.put,List.setIfInBounds_toArray,List.set_cons_zero,List.set_cons_succ])
     refine held_one 11 ⟨some 65, .call { callee:=.builtin .append,args:=#[.tmp 55, .tmp 64],argTypes:=#[23,23] },23,_,_,none⟩ rfl (by kernel_rfl) (by rfl) ?_
     refine wp_append_own _ (.tmp 55) (.tmp 64) 23 rfl (w5.heap.size + 1) 64 j0 (.agg #[.int .i64 0, .int .i64 0]) 2 16 Try.underlying23 I64.out.1 I64.out.2.1 I64.out.2.2.1 I64.out.2.2.2 rfl (by decide) (.slice Av k cv) k (partsC ((mkParts L ws).take k)) rfl hown6b ⟨w6.heap.size,0,none⟩ 1 1 [.int .i64 ti, .int .i64 (wi.tdiv g)] rfl rfl (bk_cells bx) ?_ ?_ ?_ ?_ ?_
     ·intro u hu; simp at hu; rcases hu with rfl | rfl <;> rfl
     ·unfold maxLen; omega
     ·omega
     ·have:=h146b.lt; omega
     intro v7 w7 ow7 hg7 _
     obtain ⟨A7,c7,rfl,_,_⟩:=ownsSlice ow7
     have hb7 : Below w5.heap.size w5 w7:=below_row hb_w6b hown6b hg7 (by omega) hz_w6b
     have h147 : Bk w7 w5.heap.size 25 #[.slice Av k cv]:=h146b.grown hg7 (own_ne hown6b (by omega))
     have x147:=h147.cell 0 rfl
     have f147:=h147.fro 0
     refine ⟨HCW.out _ hb7,?_⟩
     (try simp only [Act.put,List.setIfInBounds_toArray,List.set_cons_zero,List.set_cons_succ])
     have hHeld:=HCW.out _ hb7
     refine tk 12 66 ?_
     clear hHeld
     rw [HSN.out] at ow7
     have h148:=h147.set 0 (.slice A7 (k + 1) c7)
     have ow8 : (w7.setCell ⟨w5.heap.size,0,none⟩ (.slice A7 (k + 1) c7)).ownsRow (w5.heap.size + 1) 64 2 (.slice A7 (k + 1) c7) (k + 1) (partsC ((mkParts L ws).take (k + 1))):=own_setCell ow7 (by omega)
     have hb8:=hb7.setCell (p:=⟨w5.heap.size,0,none⟩) (Nat.le_refl _) (.slice A7 (k + 1) c7)
     refine held_one 13 ⟨none, .store 23 (.tmp 66) (.tmp 65),0,_,_,none⟩ rfl (by kernel_rfl) (by rfl) ?_
     unfold Oper.wp
     go_simp
     refine ⟨HCW.out _ hb8,?_⟩
     (try simp only [Act.put,List.setIfInBounds_toArray,List.set_cons_zero,List.set_cons_succ])
     refine wpAnyH_done (by kernel_rfl) ?_ _
     clear hg7 x146 x147 f146 f147 h146 h146b h147 hown6 hown6b
     go_wp2
     go_roundw
     case rel=>exact ⟨k + 1, .slice A7 (k + 1) c7,by omega,by go_num,hb8,h148,ow8⟩
     case measure=>simp [intOf] <;> omega
   ·obtain rfl : k = L.length:=by omega
    have hirr : ¬ (L.length : Int) < (L.length : Int):=by omega
    have ny9:=HKY.out wr hbw
    have y9:=ny9.cell 0 rfl
    have fy9:=ny9.fro 0
    rw [show (mkParts L ws).take L.length = mkParts L ws by rw [← HML.out]; exact List.take_length] at hown
    go_wp2
    have s9:=ny9.set 0 (.slice Av L.length cv)
    have ow9 : (wr.setCell ⟨w.heap.size + 1,0,none⟩ (.slice Av L.length cv)).ownsRow (w5.heap.size + 1) 64 2 (.slice Av L.length cv) L.length (partsC (mkParts L ws)):=own_setCell hown (by have:=ny9.lt; omega)
    have hb9:=(HBW.out wr hbw).setCell (p:=⟨w.heap.size + 1,0,none⟩) (by simp) (.slice Av L.length cv)
    have xs9:=s9.cell 0 rfl
    generalize wr.setCell ⟨w.heap.size + 1,0,none⟩ (.slice Av L.length cv) = w9 at *
    refine bodyPost_ret (v:=.tuple #[.agg #[.slice Av L.length cv], .bool true]) (by simp [results,Try.results69,go_sem,xs9]) rfl ?_
    exact ⟨_,rfl,by rw [HML.out]; exact own_more ow9 (by omega),hb9⟩
end Go.Proofs.Ytkjceegmmhnajaa
