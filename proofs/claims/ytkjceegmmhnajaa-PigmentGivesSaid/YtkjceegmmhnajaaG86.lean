/- The reference's weights (fn 80) of one to four points. Printed by wip/gen_rw.py. -/
import Derived.Test.YtkjceegmmhnajaaG62
import Derived.Test.YtkjceegmmhnajaaG85

set_option linter.unusedVariables false
set_option linter.unusedSimpArgs false

namespace Go.Proofs.Ytkjceegmmhnajaa
open Go.RowKit
set_option maxRecDepth 100000 in
set_option maxHeartbeats 4000000 in
theorem rweights3 (a b c z : Vc) (ad : Addr) (cp : Nat) (w : World) (hb : ad.block < w.heap.size) (hp0 : vecAt w ad a) (hp1 : vecAt w ⟨ad.block,ad.off + 3,none⟩ b) (hp2 : vecAt w ⟨ad.block,ad.off + 6,none⟩ c) (s0 : shadeV a) (s1 : shadeV b) (s2 : shadeV c) (hz : shadeV z) : Calls Try.prog 80 #[.slice (some ad) 3 cp,z.agg] w (WEnd (rpw [a,b,c] z) w):=by
 have bX:=vb_sub hz s0
 have bU:=vb_sub s1 s0
 have bF:=vb_sub s2 s0
 obtain ⟨a1,a2,a3⟩:=a
 obtain ⟨b1,b2,b3⟩:=b
 obtain ⟨c1,c2,c3⟩:=c
 obtain ⟨z1,z2,z3⟩:=z
 dsimp only at *
 obtain ⟨X1,X2,X3,EX,vX,CX⟩:=minus_pre bX
 clear bX
 obtain ⟨U1,U2,U3,EU,vU,CU⟩:=minus_pre bU
 clear bU
 obtain ⟨F1,F2,F3,EF,vF,CF⟩:=minus_pre bF
 clear bF
 obtain ⟨N1,N2,N3,EN,vN,CN⟩:=crs_pre (A:=1000) (B:=1000) vU vF (by omega)
 obtain ⟨E1,E2,E3,EE,vE,CE⟩:=crs_pre (A:=1000) (B:=1000) vX vF (by omega)
 obtain ⟨K1,K2,K3,EK,vK,CK⟩:=crs_pre (A:=1000) (B:=1000) vU vX (by omega)
 obtain ⟨aa,Eaa,vaa,Caa⟩:=dot_pre (A:=2000000) (B:=2000000) vN vE (by omega)
 obtain ⟨laa,uaa⟩ : -12000000000000 ≤ aa ∧ aa ≤ 12000000000000:=by have:=vaa; unfold ab at this; omega
 obtain ⟨bb,Ebb,vbb,Cbb⟩:=dot_pre (A:=2000000) (B:=2000000) vN vK (by omega)
 obtain ⟨lbb,ubb⟩ : -12000000000000 ≤ bb ∧ bb ≤ 12000000000000:=by have:=vbb; unfold ab at this; omega
 obtain ⟨nn,Enn,vnn,Cnn⟩:=dot_pre (A:=2000000) (B:=2000000) vN vN (by omega)
 obtain ⟨lnn,unn⟩ : -12000000000000 ≤ nn ∧ nn ≤ 12000000000000:=by have:=vnn; unfold ab at this; omega
 obtain ⟨nx,Enx,vnx,Cnx⟩:=dot_pre (A:=2000000) (B:=1000) vN vX (by omega)
 obtain ⟨lnx,unx⟩ : -6000000000 ≤ nx ∧ nx ≤ 6000000000:=by have:=vnx; unfold ab at this; omega
 have HE : Hid (rpw [⟨a1,a2,a3⟩,⟨b1,b2,b3⟩,⟨c1,c2,c3⟩] ⟨z1,z2,z3⟩ = if ¬ (N1 = 0 ∧ N2 = 0 ∧ N3 = 0) ∧ nx = 0 then some [nn - aa - bb,aa,bb] else none):=by
  obtain ⟨rfl,rfl,rfl⟩:=EX.out
  obtain ⟨rfl,rfl,rfl⟩:=EU.out
  obtain ⟨rfl,rfl,rfl⟩:=EF.out
  obtain ⟨rfl,rfl,rfl⟩:=EN.out
  obtain ⟨rfl,rfl,rfl⟩:=EE.out
  obtain ⟨rfl,rfl,rfl⟩:=EK.out
  obtain rfl:=Eaa.out
  obtain rfl:=Ebb.out
  obtain rfl:=Enn.out
  obtain rfl:=Enx.out
  show _ = _
  simp only [rpw,Vc.sub,Vc.dot,Vc.crs,Vc.mk.injEq,ne_eq]
 clear EX EU EF EN EE EK Eaa Ebb Enn Enx
 have Hp0:=Lib.hid hp0
 have Hp1:=Lib.hid hp1
 have Hp2:=Lib.hid hp2
 clear hp0 s0 hp1 s1 hp2 s2 hz
 have q37:=eq37
 go_enter Try.func80,Try.ntmps80
 go_wp2
 have kw:=Bk.new w 37 #[.int .i64 z1, .int .i64 z2, .int .i64 z3]
 have hB : Below w.heap.size w (w.alloc (.cells #[.int .i64 z1, .int .i64 z2, .int .i64 z3] 37)):=(Below.refl _ _).alloc (Nat.le_refl _) _
 have la : ad.block < (w.alloc (.cells #[.int .i64 z1, .int .i64 z2, .int .i64 z3] 37)).heap.size:=by simp; omega
 generalize w.alloc (.cells #[.int .i64 z1, .int .i64 z2, .int .i64 z3] 37) = W0 at *
 have qw0:=kw.cell 0 rfl
 have qw1:=kw.cell 1 rfl
 have qw2:=kw.cell 2 rfl
 have qp00 : W0.cell? ad = some (.int .i64 a1):=(Hp0.out.below hB hb).1
 have qp01 : W0.cell? ⟨ad.block,ad.off + 1,none⟩ = some (.int .i64 a2):=(Hp0.out.below hB hb).2.1
 have qp02 : W0.cell? ⟨ad.block,ad.off + 2,none⟩ = some (.int .i64 a3):=(Hp0.out.below hB hb).2.2
 refine wp_region_held_drew (S:=fun w'=>(w'.cell? ⟨w.heap.size,0,none⟩ = some (.int .i64 z1) ∧ w'.cell? ⟨w.heap.size,1,none⟩ = some (.int .i64 z2) ∧ w'.cell? ⟨w.heap.size,2,none⟩ = some (.int .i64 z3)) ∧ (w'.cell? ad = some (.int .i64 a1) ∧ w'.cell? ⟨ad.block,ad.off + 1,none⟩ = some (.int .i64 a2) ∧ w'.cell? ⟨ad.block,ad.off + 2,none⟩ = some (.int .i64 a3))) (by kernel_rfl) ?_ (fun hHeld=>?_)
 ·exact ⟨⟨qw0,qw1,qw2⟩,⟨qp00,qp01,qp02⟩⟩
 refine tk 0 19 ?_
 refine tk 1 20 ?_
 refine tk 2 21 ?_
 refine tk 3 22 ?_
 refine box_laid (f:=91) (args:=#[.agg #[.int .i64 z1, .int .i64 z2, .int .i64 z3], .agg #[.int .i64 a1, .int .i64 a2, .int .i64 a3]]) (ty:=37) (Z:=zero3) (R:=#[.int .i64 X1, .int .i64 X2, .int .i64 X3]) 4 5 6 23 6 (by decide) ⟨_,rfl,rfl,rfl,?c1,?c2⟩ ⟨_,rfl,rfl,rfl,?al⟩ ⟨_,rfl,rfl,rfl,?st⟩ (by kernel_rfl) (by kernel_rfl) (by kernel_rfl) (by kernel_rfl) (by kernel_rfl) (by kernel_rfl) (by kernel_rfl) ?hS ?hC ?hK
 case c1=>exact fun w=>by go_simp
 case c2=>exact fun u w=>by go_simp
 case al=>exact fun a w=>by go_simp; rfl
 case st =>
  intro w g hg
  have t0:=hg.cell 0 rfl
  have t1:=hg.cell 1 rfl
  have t2:=hg.cell 2 rfl
  have r0:=hg.fro 0
  have r1:=hg.fro 1
  have r2:=hg.fro 2
  refine ⟨_,?_,(((hg.set 0 _).set 1 _).set 2 _),fun B v hB hb=>((hb.setCell (p:=⟨g,0,none⟩) hB _).setCell (p:=⟨g,1,none⟩) hB _).setCell (p:=⟨g,2,none⟩) hB _⟩
  simp only [putCP,List.setIfInBounds_toArray,List.set_cons_zero,List.set_cons_succ]
  go_simp
 case hS =>
  intro w9 hw9
  have hw8:=(Below.drew (Below.refl _ _)).trans hw9
  exact ⟨⟨(hw8.cell (p:=⟨w.heap.size,0,none⟩) kw.lt).trans qw0,(hw8.cell (p:=⟨w.heap.size,1,none⟩) kw.lt).trans qw1,(hw8.cell (p:=⟨w.heap.size,2,none⟩) kw.lt).trans qw2⟩,⟨(hw8.cell (p:=ad) la).trans qp00,(hw8.cell (p:=⟨ad.block,ad.off + 1,none⟩) la).trans qp01,(hw8.cell (p:=⟨ad.block,ad.off + 2,none⟩) la).trans qp02⟩⟩
 case hC=>exact fun W _=>CX.out W
 case hK =>
  intro gX W1 hW hg kn
  simp only [putCP,List.setIfInBounds_toArray,List.set_cons_zero,List.set_cons_succ]
  replace hW : Below W0.heap.size W0 W1:=(Below.drew (Below.refl _ _)).trans hW
  clear hHeld qw0 qw1 qw2 qp00 qp01 qp02
  replace kw:=kw.below hW kw.lt
  replace la : ad.block < W1.heap.size:=Nat.lt_of_lt_of_le la hW.size
  replace hB:=hB.trans (hW.mono hB.size)
  have kX:=kn
  clear kn hW hg
  go_wp2
  have qp10 : W1.cell? ⟨ad.block,ad.off + 3,none⟩ = some (.int .i64 b1):=(Hp1.out.below hB hb).1
  have qp11 : W1.cell? ⟨ad.block,ad.off + 3 + 1,none⟩ = some (.int .i64 b2):=(Hp1.out.below hB hb).2.1
  have qp12 : W1.cell? ⟨ad.block,ad.off + 3 + 2,none⟩ = some (.int .i64 b3):=(Hp1.out.below hB hb).2.2
  have qp00 : W1.cell? ad = some (.int .i64 a1):=(Hp0.out.below hB hb).1
  have qp01 : W1.cell? ⟨ad.block,ad.off + 1,none⟩ = some (.int .i64 a2):=(Hp0.out.below hB hb).2.1
  have qp02 : W1.cell? ⟨ad.block,ad.off + 2,none⟩ = some (.int .i64 a3):=(Hp0.out.below hB hb).2.2
  refine wp_region_held_drew (S:=fun w'=>(w'.cell? ⟨ad.block,ad.off + 3,none⟩ = some (.int .i64 b1) ∧ w'.cell? ⟨ad.block,ad.off + 3 + 1,none⟩ = some (.int .i64 b2) ∧ w'.cell? ⟨ad.block,ad.off + 3 + 2,none⟩ = some (.int .i64 b3)) ∧ (w'.cell? ad = some (.int .i64 a1) ∧ w'.cell? ⟨ad.block,ad.off + 1,none⟩ = some (.int .i64 a2) ∧ w'.cell? ⟨ad.block,ad.off + 2,none⟩ = some (.int .i64 a3))) (by kernel_rfl) ?_ (fun hHeld=>?_)
  ·exact ⟨⟨qp10,qp11,qp12⟩,⟨qp00,qp01,qp02⟩⟩
  refine tk 0 33 ?_
  refine tk 1 34 ?_
  refine tk 2 35 ?_
  refine tk 3 36 ?_
  refine tk 4 37 ?_
  refine tk 5 38 ?_
  refine box_laid (f:=91) (args:=#[.agg #[.int .i64 b1, .int .i64 b2, .int .i64 b3], .agg #[.int .i64 a1, .int .i64 a2, .int .i64 a3]]) (ty:=37) (Z:=zero3) (R:=#[.int .i64 U1, .int .i64 U2, .int .i64 U3]) 6 7 8 39 7 (by decide) ⟨_,rfl,rfl,rfl,?c1,?c2⟩ ⟨_,rfl,rfl,rfl,?al⟩ ⟨_,rfl,rfl,rfl,?st⟩ (by kernel_rfl) (by kernel_rfl) (by kernel_rfl) (by kernel_rfl) (by kernel_rfl) (by kernel_rfl) (by kernel_rfl) ?hS ?hC ?hK
  case c1=>exact fun w=>by go_simp
  case c2=>exact fun u w=>by go_simp
  case al=>exact fun a w=>by go_simp; rfl
  case st =>
   intro w g hg
   have t0:=hg.cell 0 rfl
   have t1:=hg.cell 1 rfl
   have t2:=hg.cell 2 rfl
   have r0:=hg.fro 0
   have r1:=hg.fro 1
   have r2:=hg.fro 2
   refine ⟨_,?_,(((hg.set 0 _).set 1 _).set 2 _),fun B v hB hb=>((hb.setCell (p:=⟨g,0,none⟩) hB _).setCell (p:=⟨g,1,none⟩) hB _).setCell (p:=⟨g,2,none⟩) hB _⟩
   simp only [putCP,List.setIfInBounds_toArray,List.set_cons_zero,List.set_cons_succ]
   go_simp
  case hS =>
   intro w9 hw9
   have hw8:=(Below.drew (Below.refl _ _)).trans hw9
   exact ⟨⟨(hw8.cell (p:=⟨ad.block,ad.off + 3,none⟩) la).trans qp10,(hw8.cell (p:=⟨ad.block,ad.off + 3 + 1,none⟩) la).trans qp11,(hw8.cell (p:=⟨ad.block,ad.off + 3 + 2,none⟩) la).trans qp12⟩,⟨(hw8.cell (p:=ad) la).trans qp00,(hw8.cell (p:=⟨ad.block,ad.off + 1,none⟩) la).trans qp01,(hw8.cell (p:=⟨ad.block,ad.off + 2,none⟩) la).trans qp02⟩⟩
  case hC=>exact fun W _=>CU.out W
  case hK =>
   intro gU W2 hW hg kn
   simp only [putCP,List.setIfInBounds_toArray,List.set_cons_zero,List.set_cons_succ]
   replace hW : Below W1.heap.size W1 W2:=(Below.drew (Below.refl _ _)).trans hW
   clear hHeld qp10 qp11 qp12 qp00 qp01 qp02
   replace kw:=kw.below hW kw.lt
   replace kX:=kX.below hW kX.lt
   replace la : ad.block < W2.heap.size:=Nat.lt_of_lt_of_le la hW.size
   replace hB:=hB.trans (hW.mono hB.size)
   have kU:=kn
   clear kn hW hg
   go_wp2
   have qp20 : W2.cell? ⟨ad.block,ad.off + 6,none⟩ = some (.int .i64 c1):=(Hp2.out.below hB hb).1
   have qp21 : W2.cell? ⟨ad.block,ad.off + 6 + 1,none⟩ = some (.int .i64 c2):=(Hp2.out.below hB hb).2.1
   have qp22 : W2.cell? ⟨ad.block,ad.off + 6 + 2,none⟩ = some (.int .i64 c3):=(Hp2.out.below hB hb).2.2
   have qp00 : W2.cell? ad = some (.int .i64 a1):=(Hp0.out.below hB hb).1
   have qp01 : W2.cell? ⟨ad.block,ad.off + 1,none⟩ = some (.int .i64 a2):=(Hp0.out.below hB hb).2.1
   have qp02 : W2.cell? ⟨ad.block,ad.off + 2,none⟩ = some (.int .i64 a3):=(Hp0.out.below hB hb).2.2
   refine wp_region_held_drew (S:=fun w'=>(w'.cell? ⟨ad.block,ad.off + 6,none⟩ = some (.int .i64 c1) ∧ w'.cell? ⟨ad.block,ad.off + 6 + 1,none⟩ = some (.int .i64 c2) ∧ w'.cell? ⟨ad.block,ad.off + 6 + 2,none⟩ = some (.int .i64 c3)) ∧ (w'.cell? ad = some (.int .i64 a1) ∧ w'.cell? ⟨ad.block,ad.off + 1,none⟩ = some (.int .i64 a2) ∧ w'.cell? ⟨ad.block,ad.off + 2,none⟩ = some (.int .i64 a3))) (by kernel_rfl) ?_ (fun hHeld=>?_)
   ·exact ⟨⟨qp20,qp21,qp22⟩,⟨qp00,qp01,qp02⟩⟩
   refine tk 0 65 ?_
   refine tk 1 66 ?_
   refine tk 2 67 ?_
   refine tk 3 68 ?_
   refine tk 4 69 ?_
   refine tk 5 70 ?_
   refine box_laid (f:=91) (args:=#[.agg #[.int .i64 c1, .int .i64 c2, .int .i64 c3], .agg #[.int .i64 a1, .int .i64 a2, .int .i64 a3]]) (ty:=37) (Z:=zero3) (R:=#[.int .i64 F1, .int .i64 F2, .int .i64 F3]) 6 7 8 71 10 (by decide) ⟨_,rfl,rfl,rfl,?c1,?c2⟩ ⟨_,rfl,rfl,rfl,?al⟩ ⟨_,rfl,rfl,rfl,?st⟩ (by kernel_rfl) (by kernel_rfl) (by kernel_rfl) (by kernel_rfl) (by kernel_rfl) (by kernel_rfl) (by kernel_rfl) ?hS ?hC ?hK
   case c1=>exact fun w=>by go_simp
   case c2=>exact fun u w=>by go_simp
   case al=>exact fun a w=>by go_simp; rfl
   case st =>
    intro w g hg
    have t0:=hg.cell 0 rfl
    have t1:=hg.cell 1 rfl
    have t2:=hg.cell 2 rfl
    have r0:=hg.fro 0
    have r1:=hg.fro 1
    have r2:=hg.fro 2
    refine ⟨_,?_,(((hg.set 0 _).set 1 _).set 2 _),fun B v hB hb=>((hb.setCell (p:=⟨g,0,none⟩) hB _).setCell (p:=⟨g,1,none⟩) hB _).setCell (p:=⟨g,2,none⟩) hB _⟩
    simp only [putCP,List.setIfInBounds_toArray,List.set_cons_zero,List.set_cons_succ]
    go_simp
   case hS =>
    intro w9 hw9
    have hw8:=(Below.drew (Below.refl _ _)).trans hw9
    exact ⟨⟨(hw8.cell (p:=⟨ad.block,ad.off + 6,none⟩) la).trans qp20,(hw8.cell (p:=⟨ad.block,ad.off + 6 + 1,none⟩) la).trans qp21,(hw8.cell (p:=⟨ad.block,ad.off + 6 + 2,none⟩) la).trans qp22⟩,⟨(hw8.cell (p:=ad) la).trans qp00,(hw8.cell (p:=⟨ad.block,ad.off + 1,none⟩) la).trans qp01,(hw8.cell (p:=⟨ad.block,ad.off + 2,none⟩) la).trans qp02⟩⟩
   case hC=>exact fun W _=>CF.out W
   case hK =>
    intro gF W3 hW hg kn
    simp only [putCP,List.setIfInBounds_toArray,List.set_cons_zero,List.set_cons_succ]
    replace hW : Below W2.heap.size W2 W3:=(Below.drew (Below.refl _ _)).trans hW
    clear hHeld qp20 qp21 qp22 qp00 qp01 qp02
    replace kw:=kw.below hW kw.lt
    replace kX:=kX.below hW kX.lt
    replace kU:=kU.below hW kU.lt
    replace la : ad.block < W3.heap.size:=Nat.lt_of_lt_of_le la hW.size
    replace hB:=hB.trans (hW.mono hB.size)
    have kF:=kn
    clear kn hW hg
    have qU0:=kU.cell 0 rfl
    have qU1:=kU.cell 1 rfl
    have qU2:=kU.cell 2 rfl
    have qF0:=kF.cell 0 rfl
    have qF1:=kF.cell 1 rfl
    have qF2:=kF.cell 2 rfl
    go_wp2_with (go_at_call 92; refine (CN.out _).mono ?_; rintro e V1 ⟨rfl,hV⟩)
    clear qU0 qU1 qU2 qF0 qF1 qF2
    replace kw:=(kw.below hV kw.lt).alloc (.cells #[.int .i64 N1, .int .i64 N2, .int .i64 N3] 37)
    replace kX:=(kX.below hV kX.lt).alloc (.cells #[.int .i64 N1, .int .i64 N2, .int .i64 N3] 37)
    replace kU:=(kU.below hV kU.lt).alloc (.cells #[.int .i64 N1, .int .i64 N2, .int .i64 N3] 37)
    replace kF:=(kF.below hV kF.lt).alloc (.cells #[.int .i64 N1, .int .i64 N2, .int .i64 N3] 37)
    have kN:=Bk.new V1 37 #[.int .i64 N1, .int .i64 N2, .int .i64 N3]
    replace hB:=hB.trans (hV.mono hB.size)
    replace hB:=hB.alloc hB.size (.cells #[.int .i64 N1, .int .i64 N2, .int .i64 N3] 37)
    replace la : ad.block < (V1.alloc (.cells #[.int .i64 N1, .int .i64 N2, .int .i64 N3] 37)).heap.size:=by have:=hV.size; simp; omega
    clear hV
    generalize V1.alloc (.cells #[.int .i64 N1, .int .i64 N2, .int .i64 N3] 37) = V2 at *
    generalize V1.heap.size = gN at *
    have qN0:=kN.cell 0 rfl
    have qN1:=kN.cell 1 rfl
    have qN2:=kN.cell 2 rfl
    have qX0:=kX.cell 0 rfl
    have qX1:=kX.cell 1 rfl
    have qX2:=kX.cell 2 rfl
    have qF0:=kF.cell 0 rfl
    have qF1:=kF.cell 1 rfl
    have qF2:=kF.cell 2 rfl
    refine wp_region_held_drew (S:=fun w'=>(w'.cell? ⟨gN,0,none⟩ = some (.int .i64 N1) ∧ w'.cell? ⟨gN,1,none⟩ = some (.int .i64 N2) ∧ w'.cell? ⟨gN,2,none⟩ = some (.int .i64 N3)) ∧ (w'.cell? ⟨gX,0,none⟩ = some (.int .i64 X1) ∧ w'.cell? ⟨gX,1,none⟩ = some (.int .i64 X2) ∧ w'.cell? ⟨gX,2,none⟩ = some (.int .i64 X3)) ∧ (w'.cell? ⟨gF,0,none⟩ = some (.int .i64 F1) ∧ w'.cell? ⟨gF,1,none⟩ = some (.int .i64 F2) ∧ w'.cell? ⟨gF,2,none⟩ = some (.int .i64 F3))) (by kernel_rfl) ?_ (fun hHeld=>?_)
    ·exact ⟨⟨qN0,qN1,qN2⟩,⟨qX0,qX1,qX2⟩,⟨qF0,qF1,qF2⟩⟩
    refine tk 0 78 ?_
    refine tk 1 79 ?_
    refine tk 2 80 ?_
    (refine held_call 3 (some 81) 92 _ rfl (by kernel_rfl) (by rfl) ?_ ((CE.out _)) ?_; rotate_left; rotate_left; (simp only [List.getElem?_toArray,List.getElem?_cons_zero,List.getElem?_cons_succ,Option.map_some]; refine congrArg some ?_; go_simp))
    rintro e W4 ⟨rfl,hW⟩
    replace hW : Below V2.heap.size V2 W4:=(Below.drew (Below.refl _ _)).trans hW
    clear hHeld qN0 qN1 qN2 qX0 qX1 qX2 qF0 qF1 qF2
    replace kw:=kw.below hW kw.lt
    replace kX:=kX.below hW kX.lt
    replace kU:=kU.below hW kU.lt
    replace kF:=kF.below hW kF.lt
    replace kN:=kN.below hW kN.lt
    replace la : ad.block < W4.heap.size:=Nat.lt_of_lt_of_le la hW.size
    replace hB:=hB.trans (hW.mono hB.size)
    clear hW
    have qN0:=kN.cell 0 rfl
    have qN1:=kN.cell 1 rfl
    have qN2:=kN.cell 2 rfl
    have qX0:=kX.cell 0 rfl
    have qX1:=kX.cell 1 rfl
    have qX2:=kX.cell 2 rfl
    have qF0:=kF.cell 0 rfl
    have qF1:=kF.cell 1 rfl
    have qF2:=kF.cell 2 rfl
    refine ⟨_,rfl,⟨⟨qN0,qN1,qN2⟩,⟨qX0,qX1,qX2⟩,⟨qF0,qF1,qF2⟩⟩,fun hHeld=>?_⟩
    (try simp only [Act.put,List.setIfInBounds_toArray,List.set_cons_zero,List.set_cons_succ])
    (refine held_call 4 (some 82) 50 _ rfl (by kernel_rfl) (by rfl) ?_ ((Caa.out _)) ?_; rotate_left; rotate_left; (simp only [List.getElem?_toArray,List.getElem?_cons_zero,List.getElem?_cons_succ,Option.map_some]; refine congrArg some ?_; go_simp))
    rintro e W5 ⟨rfl,hW⟩
    clear hHeld qN0 qN1 qN2 qX0 qX1 qX2 qF0 qF1 qF2
    replace kw:=kw.below hW kw.lt
    replace kX:=kX.below hW kX.lt
    replace kU:=kU.below hW kU.lt
    replace kF:=kF.below hW kF.lt
    replace kN:=kN.below hW kN.lt
    replace la : ad.block < W5.heap.size:=Nat.lt_of_lt_of_le la hW.size
    replace hB:=hB.trans (hW.mono hB.size)
    clear hW
    have qN0:=kN.cell 0 rfl
    have qN1:=kN.cell 1 rfl
    have qN2:=kN.cell 2 rfl
    have qX0:=kX.cell 0 rfl
    have qX1:=kX.cell 1 rfl
    have qX2:=kX.cell 2 rfl
    have qF0:=kF.cell 0 rfl
    have qF1:=kF.cell 1 rfl
    have qF2:=kF.cell 2 rfl
    refine ⟨_,rfl,⟨⟨qN0,qN1,qN2⟩,⟨qX0,qX1,qX2⟩,⟨qF0,qF1,qF2⟩⟩,fun hHeld=>?_⟩
    (try simp only [Act.put,List.setIfInBounds_toArray,List.set_cons_zero,List.set_cons_succ])
    refine tk 5 12 ?_
    refine wpAnyH_done (by kernel_rfl) ?_ _
    clear hHeld qN0 qN1 qN2 qX0 qX1 qX2 qF0 qF1 qF2
    go_wp2
    have qN0:=kN.cell 0 rfl
    have qN1:=kN.cell 1 rfl
    have qN2:=kN.cell 2 rfl
    have qU0:=kU.cell 0 rfl
    have qU1:=kU.cell 1 rfl
    have qU2:=kU.cell 2 rfl
    have qX0:=kX.cell 0 rfl
    have qX1:=kX.cell 1 rfl
    have qX2:=kX.cell 2 rfl
    refine wp_region_held_drew (S:=fun w'=>(w'.cell? ⟨gN,0,none⟩ = some (.int .i64 N1) ∧ w'.cell? ⟨gN,1,none⟩ = some (.int .i64 N2) ∧ w'.cell? ⟨gN,2,none⟩ = some (.int .i64 N3)) ∧ (w'.cell? ⟨gU,0,none⟩ = some (.int .i64 U1) ∧ w'.cell? ⟨gU,1,none⟩ = some (.int .i64 U2) ∧ w'.cell? ⟨gU,2,none⟩ = some (.int .i64 U3)) ∧ (w'.cell? ⟨gX,0,none⟩ = some (.int .i64 X1) ∧ w'.cell? ⟨gX,1,none⟩ = some (.int .i64 X2) ∧ w'.cell? ⟨gX,2,none⟩ = some (.int .i64 X3))) (by kernel_rfl) ?_ (fun hHeld=>?_)
    ·exact ⟨⟨qN0,qN1,qN2⟩,⟨qU0,qU1,qU2⟩,⟨qX0,qX1,qX2⟩⟩
    refine tk 0 83 ?_
    refine tk 1 84 ?_
    refine tk 2 85 ?_
    (refine held_call 3 (some 86) 92 _ rfl (by kernel_rfl) (by rfl) ?_ ((CK.out _)) ?_; rotate_left; rotate_left; (simp only [List.getElem?_toArray,List.getElem?_cons_zero,List.getElem?_cons_succ,Option.map_some]; refine congrArg some ?_; go_simp))
    rintro e W6 ⟨rfl,hW⟩
    replace hW : Below W5.heap.size W5 W6:=(Below.drew (Below.refl _ _)).trans hW
    clear hHeld qN0 qN1 qN2 qU0 qU1 qU2 qX0 qX1 qX2
    replace kw:=kw.below hW kw.lt
    replace kX:=kX.below hW kX.lt
    replace kU:=kU.below hW kU.lt
    replace kF:=kF.below hW kF.lt
    replace kN:=kN.below hW kN.lt
    replace la : ad.block < W6.heap.size:=Nat.lt_of_lt_of_le la hW.size
    replace hB:=hB.trans (hW.mono hB.size)
    clear hW
    have qN0:=kN.cell 0 rfl
    have qN1:=kN.cell 1 rfl
    have qN2:=kN.cell 2 rfl
    have qU0:=kU.cell 0 rfl
    have qU1:=kU.cell 1 rfl
    have qU2:=kU.cell 2 rfl
    have qX0:=kX.cell 0 rfl
    have qX1:=kX.cell 1 rfl
    have qX2:=kX.cell 2 rfl
    refine ⟨_,rfl,⟨⟨qN0,qN1,qN2⟩,⟨qU0,qU1,qU2⟩,⟨qX0,qX1,qX2⟩⟩,fun hHeld=>?_⟩
    (try simp only [Act.put,List.setIfInBounds_toArray,List.set_cons_zero,List.set_cons_succ])
    (refine held_call 4 (some 87) 50 _ rfl (by kernel_rfl) (by rfl) ?_ ((Cbb.out _)) ?_; rotate_left; rotate_left; (simp only [List.getElem?_toArray,List.getElem?_cons_zero,List.getElem?_cons_succ,Option.map_some]; refine congrArg some ?_; go_simp))
    rintro e W7 ⟨rfl,hW⟩
    clear hHeld qN0 qN1 qN2 qU0 qU1 qU2 qX0 qX1 qX2
    replace kw:=kw.below hW kw.lt
    replace kX:=kX.below hW kX.lt
    replace kU:=kU.below hW kU.lt
    replace kF:=kF.below hW kF.lt
    replace kN:=kN.below hW kN.lt
    replace la : ad.block < W7.heap.size:=Nat.lt_of_lt_of_le la hW.size
    replace hB:=hB.trans (hW.mono hB.size)
    clear hW
    have qN0:=kN.cell 0 rfl
    have qN1:=kN.cell 1 rfl
    have qN2:=kN.cell 2 rfl
    have qU0:=kU.cell 0 rfl
    have qU1:=kU.cell 1 rfl
    have qU2:=kU.cell 2 rfl
    have qX0:=kX.cell 0 rfl
    have qX1:=kX.cell 1 rfl
    have qX2:=kX.cell 2 rfl
    refine ⟨_,rfl,⟨⟨qN0,qN1,qN2⟩,⟨qU0,qU1,qU2⟩,⟨qX0,qX1,qX2⟩⟩,fun hHeld=>?_⟩
    (try simp only [Act.put,List.setIfInBounds_toArray,List.set_cons_zero,List.set_cons_succ])
    refine tk 5 13 ?_
    refine wpAnyH_done (by kernel_rfl) ?_ _
    clear hHeld qN0 qN1 qN2 qU0 qU1 qU2 qX0 qX1 qX2
    go_wp2
    have hs1 : IntKind.i64.wrap (nn - aa) = nn - aa:=IntWalk.i64_in _ (by omega)
    have hs2 : IntKind.i64.wrap (nn - aa - bb) = nn - aa - bb:=IntWalk.i64_in _ (by omega)
    by_cases hN : N1 = 0 ∧ N2 = 0 ∧ N3 = 0
    ·have hNb : (N1 == 0 && (N2 == 0 && N3 == 0)) = true:=by obtain ⟨rfl,rfl,rfl⟩:=hN; rfl
     have HN:=Lib.hid hN
     clear hN
     have qN0:=kN.cell 0 rfl
     have qN1:=kN.cell 1 rfl
     have qN2:=kN.cell 2 rfl
     have qX0:=kX.cell 0 rfl
     have qX1:=kX.cell 1 rfl
     have qX2:=kX.cell 2 rfl
     refine wp_region_held_drew (S:=fun w'=>(w'.cell? ⟨gN,0,none⟩ = some (.int .i64 N1) ∧ w'.cell? ⟨gN,1,none⟩ = some (.int .i64 N2) ∧ w'.cell? ⟨gN,2,none⟩ = some (.int .i64 N3)) ∧ (w'.cell? ⟨gX,0,none⟩ = some (.int .i64 X1) ∧ w'.cell? ⟨gX,1,none⟩ = some (.int .i64 X2) ∧ w'.cell? ⟨gX,2,none⟩ = some (.int .i64 X3))) (by kernel_rfl) ?_ (fun hHeld=>?_)
     ·exact ⟨⟨qN0,qN1,qN2⟩,⟨qX0,qX1,qX2⟩⟩
     refine tk 0 88 ?_
     refine tk 1 89 ?_
     refine tk 3 91 ?_
     refine tk 5 93 ?_
     refine tk 7 95 ?_
     refine tk 8 96 ?_
     refine tk 10 98 ?_
     refine tk 11 99 ?_
     refine tk 12 100 ?_
     (refine held_call 2 (some 90) 50 _ rfl (by kernel_rfl) (by rfl) ?_ ((Cnn.out _)) ?_; rotate_left; rotate_left; (simp only [List.getElem?_toArray,List.getElem?_cons_zero,List.getElem?_cons_succ,Option.map_some]; refine congrArg some ?_; go_simp))
     rintro e R1 ⟨rfl,hR2⟩
     have hR : Below W7.heap.size W7 R1:=(Below.drew (Below.refl _ _)).trans hR2
     clear hHeld
     have hS1 : (R1.cell? ⟨gN,0,none⟩ = some (.int .i64 N1) ∧ R1.cell? ⟨gN,1,none⟩ = some (.int .i64 N2) ∧ R1.cell? ⟨gN,2,none⟩ = some (.int .i64 N3)) ∧ (R1.cell? ⟨gX,0,none⟩ = some (.int .i64 X1) ∧ R1.cell? ⟨gX,1,none⟩ = some (.int .i64 X2) ∧ R1.cell? ⟨gX,2,none⟩ = some (.int .i64 X3)):=⟨⟨(hR.cell (p:=⟨gN,0,none⟩) kN.lt).trans qN0,(hR.cell (p:=⟨gN,1,none⟩) kN.lt).trans qN1,(hR.cell (p:=⟨gN,2,none⟩) kN.lt).trans qN2⟩,⟨(hR.cell (p:=⟨gX,0,none⟩) kX.lt).trans qX0,(hR.cell (p:=⟨gX,1,none⟩) kX.lt).trans qX1,(hR.cell (p:=⟨gX,2,none⟩) kX.lt).trans qX2⟩⟩
     refine ⟨_,rfl,hS1,fun hHeld=>?_⟩
     (try simp only [Act.put,List.setIfInBounds_toArray,List.set_cons_zero,List.set_cons_succ])
     clear hS1
     refine tk 4 92 ?_
     refine tk 6 94 ?_
     refine tk 13 101 ?_
     refine sk 14 102 ?_
     refine sk 15 103 ?_
     refine sk 16 104 ?_
     refine sk 17 105 ?_
     refine tk 18 106 ?_
     refine held_one 9 ⟨some 97, .buildSlice 77 3 #[(0, .tmp 94),(1, .tmp 95),(2, .tmp 96)],77,_,_,none⟩ rfl (by kernel_rfl) (by rfl) ?_
     have lN : gN < R1.heap.size:=Nat.lt_of_lt_of_le kN.lt hR.size
     have lX : gX < R1.heap.size:=Nat.lt_of_lt_of_le kX.lt hR.size
     have yN0:=(hR.cell (p:=⟨gN,0,none⟩) kN.lt).trans qN0
     have yN1:=(hR.cell (p:=⟨gN,1,none⟩) kN.lt).trans qN1
     have yN2:=(hR.cell (p:=⟨gN,2,none⟩) kN.lt).trans qN2
     have yX0:=(hR.cell (p:=⟨gX,0,none⟩) kX.lt).trans qX0
     have yX1:=(hR.cell (p:=⟨gX,1,none⟩) kX.lt).trans qX1
     have yX2:=(hR.cell (p:=⟨gX,2,none⟩) kX.lt).trans qX2
     unfold Oper.wp
     go_simp
     replace hR : Below W7.heap.size W7 (R1.alloc (.cells #[.int .i64 (nn - aa - bb), .int .i64 aa, .int .i64 bb] 3)):=hR.alloc hR.size _
     clear hHeld
     have hHeld : ((R1.alloc (.cells #[.int .i64 (nn - aa - bb), .int .i64 aa, .int .i64 bb] 3)).cell? ⟨gN,0,none⟩ = some (.int .i64 N1) ∧ (R1.alloc (.cells #[.int .i64 (nn - aa - bb), .int .i64 aa, .int .i64 bb] 3)).cell? ⟨gN,1,none⟩ = some (.int .i64 N2) ∧ (R1.alloc (.cells #[.int .i64 (nn - aa - bb), .int .i64 aa, .int .i64 bb] 3)).cell? ⟨gN,2,none⟩ = some (.int .i64 N3)) ∧ ((R1.alloc (.cells #[.int .i64 (nn - aa - bb), .int .i64 aa, .int .i64 bb] 3)).cell? ⟨gX,0,none⟩ = some (.int .i64 X1) ∧ (R1.alloc (.cells #[.int .i64 (nn - aa - bb), .int .i64 aa, .int .i64 bb] 3)).cell? ⟨gX,1,none⟩ = some (.int .i64 X2) ∧ (R1.alloc (.cells #[.int .i64 (nn - aa - bb), .int .i64 aa, .int .i64 bb] 3)).cell? ⟨gX,2,none⟩ = some (.int .i64 X3)):=⟨⟨(hR.cell (p:=⟨gN,0,none⟩) kN.lt).trans qN0,(hR.cell (p:=⟨gN,1,none⟩) kN.lt).trans qN1,(hR.cell (p:=⟨gN,2,none⟩) kN.lt).trans qN2⟩,⟨(hR.cell (p:=⟨gX,0,none⟩) kX.lt).trans qX0,(hR.cell (p:=⟨gX,1,none⟩) kX.lt).trans qX1,(hR.cell (p:=⟨gX,2,none⟩) kX.lt).trans qX2⟩⟩
     (try simp only [Act.put,List.setIfInBounds_toArray,List.set_cons_zero,List.set_cons_succ])
     refine tk 19 4 ?_
     refine tk 20 5 ?_
     refine wpAnyH_done (by kernel_rfl) ?_ _
     clear hHeld
     go_wp2
     go_ret2
     refine w_end (l:=[nn - aa - bb,aa,bb]) ?_ rfl ?_ (by omega) (by omega) (by first | exact hB.trans (hR.mono hB.size) | exact (hB.trans (hR.mono hB.size)).drew)
     ·rw [HE.out,if_neg (fun h=>h.1 HN.out)]; simp
     ·first | exact Lies.fresh rfl (by simp) (by simp) rfl | exact Lies.via kS hS9 rfl
    ·have hNb : (N1 == 0 && (N2 == 0 && N3 == 0)) = false:=by cases hx : (N1 == 0 && (N2 == 0 && N3 == 0)) with | false=>rfl | true=>exact absurd (by simpa using hx) hN
     have HN:=Lib.hid hN
     clear hN
     have qN0:=kN.cell 0 rfl
     have qN1:=kN.cell 1 rfl
     have qN2:=kN.cell 2 rfl
     have qX0:=kX.cell 0 rfl
     have qX1:=kX.cell 1 rfl
     have qX2:=kX.cell 2 rfl
     refine wp_region_held_drew (S:=fun w'=>(w'.cell? ⟨gN,0,none⟩ = some (.int .i64 N1) ∧ w'.cell? ⟨gN,1,none⟩ = some (.int .i64 N2) ∧ w'.cell? ⟨gN,2,none⟩ = some (.int .i64 N3)) ∧ (w'.cell? ⟨gX,0,none⟩ = some (.int .i64 X1) ∧ w'.cell? ⟨gX,1,none⟩ = some (.int .i64 X2) ∧ w'.cell? ⟨gX,2,none⟩ = some (.int .i64 X3))) (by kernel_rfl) ?_ (fun hHeld=>?_)
     ·exact ⟨⟨qN0,qN1,qN2⟩,⟨qX0,qX1,qX2⟩⟩
     refine tk 0 88 ?_
     refine tk 1 89 ?_
     refine tk 3 91 ?_
     refine tk 5 93 ?_
     refine tk 7 95 ?_
     refine tk 8 96 ?_
     refine tk 10 98 ?_
     refine tk 11 99 ?_
     refine tk 12 100 ?_
     (refine held_call 2 (some 90) 50 _ rfl (by kernel_rfl) (by rfl) ?_ ((Cnn.out _)) ?_; rotate_left; rotate_left; (simp only [List.getElem?_toArray,List.getElem?_cons_zero,List.getElem?_cons_succ,Option.map_some]; refine congrArg some ?_; go_simp))
     rintro e R1 ⟨rfl,hR2⟩
     have hR : Below W7.heap.size W7 R1:=(Below.drew (Below.refl _ _)).trans hR2
     clear hHeld
     have hS1 : (R1.cell? ⟨gN,0,none⟩ = some (.int .i64 N1) ∧ R1.cell? ⟨gN,1,none⟩ = some (.int .i64 N2) ∧ R1.cell? ⟨gN,2,none⟩ = some (.int .i64 N3)) ∧ (R1.cell? ⟨gX,0,none⟩ = some (.int .i64 X1) ∧ R1.cell? ⟨gX,1,none⟩ = some (.int .i64 X2) ∧ R1.cell? ⟨gX,2,none⟩ = some (.int .i64 X3)):=⟨⟨(hR.cell (p:=⟨gN,0,none⟩) kN.lt).trans qN0,(hR.cell (p:=⟨gN,1,none⟩) kN.lt).trans qN1,(hR.cell (p:=⟨gN,2,none⟩) kN.lt).trans qN2⟩,⟨(hR.cell (p:=⟨gX,0,none⟩) kX.lt).trans qX0,(hR.cell (p:=⟨gX,1,none⟩) kX.lt).trans qX1,(hR.cell (p:=⟨gX,2,none⟩) kX.lt).trans qX2⟩⟩
     refine ⟨_,rfl,hS1,fun hHeld=>?_⟩
     (try simp only [Act.put,List.setIfInBounds_toArray,List.set_cons_zero,List.set_cons_succ])
     clear hS1
     refine tk 4 92 ?_
     refine tk 6 94 ?_
     refine tk 13 101 ?_
     refine tk 14 102 ?_
     refine tk 15 103 ?_
     refine held_two 9 16 ⟨some 97, .buildSlice 77 3 #[(0, .tmp 94),(1, .tmp 95),(2, .tmp 96)],77,_,_,none⟩ ⟨some 104, .call { callee:=.value (.func 50),args:=#[.tmp 102, .tmp 103],argTypes:=#[37,37] },3,_,_,some (13,true)⟩ rfl rfl (by kernel_rfl) (by rfl) (by rfl) ?_ ?_
     ·skip
      have lN : gN < R1.heap.size:=Nat.lt_of_lt_of_le kN.lt hR.size
      have lX : gX < R1.heap.size:=Nat.lt_of_lt_of_le kX.lt hR.size
      have yN0:=(hR.cell (p:=⟨gN,0,none⟩) kN.lt).trans qN0
      have yN1:=(hR.cell (p:=⟨gN,1,none⟩) kN.lt).trans qN1
      have yN2:=(hR.cell (p:=⟨gN,2,none⟩) kN.lt).trans qN2
      have yX0:=(hR.cell (p:=⟨gX,0,none⟩) kX.lt).trans qX0
      have yX1:=(hR.cell (p:=⟨gX,1,none⟩) kX.lt).trans qX1
      have yX2:=(hR.cell (p:=⟨gX,2,none⟩) kX.lt).trans qX2
      unfold Oper.wp
      go_simp
      replace hR : Below W7.heap.size W7 (R1.alloc (.cells #[.int .i64 (nn - aa - bb), .int .i64 aa, .int .i64 bb] 3)):=hR.alloc hR.size _
      clear hHeld
      have hHeld : ((R1.alloc (.cells #[.int .i64 (nn - aa - bb), .int .i64 aa, .int .i64 bb] 3)).cell? ⟨gN,0,none⟩ = some (.int .i64 N1) ∧ (R1.alloc (.cells #[.int .i64 (nn - aa - bb), .int .i64 aa, .int .i64 bb] 3)).cell? ⟨gN,1,none⟩ = some (.int .i64 N2) ∧ (R1.alloc (.cells #[.int .i64 (nn - aa - bb), .int .i64 aa, .int .i64 bb] 3)).cell? ⟨gN,2,none⟩ = some (.int .i64 N3)) ∧ ((R1.alloc (.cells #[.int .i64 (nn - aa - bb), .int .i64 aa, .int .i64 bb] 3)).cell? ⟨gX,0,none⟩ = some (.int .i64 X1) ∧ (R1.alloc (.cells #[.int .i64 (nn - aa - bb), .int .i64 aa, .int .i64 bb] 3)).cell? ⟨gX,1,none⟩ = some (.int .i64 X2) ∧ (R1.alloc (.cells #[.int .i64 (nn - aa - bb), .int .i64 aa, .int .i64 bb] 3)).cell? ⟨gX,2,none⟩ = some (.int .i64 X3)):=⟨⟨(hR.cell (p:=⟨gN,0,none⟩) kN.lt).trans qN0,(hR.cell (p:=⟨gN,1,none⟩) kN.lt).trans qN1,(hR.cell (p:=⟨gN,2,none⟩) kN.lt).trans qN2⟩,⟨(hR.cell (p:=⟨gX,0,none⟩) kX.lt).trans qX0,(hR.cell (p:=⟨gX,1,none⟩) kX.lt).trans qX1,(hR.cell (p:=⟨gX,2,none⟩) kX.lt).trans qX2⟩⟩
      (try simp only [Act.put,List.setIfInBounds_toArray,List.set_cons_zero,List.set_cons_succ])
      have kS:=Bk.new R1 3 #[.int .i64 (nn - aa - bb), .int .i64 aa, .int .i64 bb]
      (refine held_call 16 (some 104) 50 _ rfl (by kernel_rfl) (by rfl) ?_ ((Cnx.out _)) ?_; rotate_left; rotate_left; (simp only [List.getElem?_toArray,List.getElem?_cons_zero,List.getElem?_cons_succ,Option.map_some]; refine congrArg some ?_; go_simp))
      rintro e R2 ⟨rfl,hR2⟩
      have hS9:=hR2
      replace hR:=hR.trans (hR2.mono hR.size)
      clear hHeld
      have hS1 : (R2.cell? ⟨gN,0,none⟩ = some (.int .i64 N1) ∧ R2.cell? ⟨gN,1,none⟩ = some (.int .i64 N2) ∧ R2.cell? ⟨gN,2,none⟩ = some (.int .i64 N3)) ∧ (R2.cell? ⟨gX,0,none⟩ = some (.int .i64 X1) ∧ R2.cell? ⟨gX,1,none⟩ = some (.int .i64 X2) ∧ R2.cell? ⟨gX,2,none⟩ = some (.int .i64 X3)):=⟨⟨(hR.cell (p:=⟨gN,0,none⟩) kN.lt).trans qN0,(hR.cell (p:=⟨gN,1,none⟩) kN.lt).trans qN1,(hR.cell (p:=⟨gN,2,none⟩) kN.lt).trans qN2⟩,⟨(hR.cell (p:=⟨gX,0,none⟩) kX.lt).trans qX0,(hR.cell (p:=⟨gX,1,none⟩) kX.lt).trans qX1,(hR.cell (p:=⟨gX,2,none⟩) kX.lt).trans qX2⟩⟩
      refine ⟨_,rfl,hS1,fun hHeld=>?_⟩
      (try simp only [Act.put,List.setIfInBounds_toArray,List.set_cons_zero,List.set_cons_succ])
      refine tk 17 105 ?_
      refine tk 18 106 ?_
      refine tk 19 4 ?_
      refine tk 20 5 ?_
      refine wpAnyH_done (by kernel_rfl) ?_ _
      clear hHeld
      go_wp2
      go_ret2
      refine w_end (l:=[nn - aa - bb,aa,bb]) ?_ rfl ?_ (by omega) (by omega) (by first | exact hB.trans (hR.mono hB.size) | exact (hB.trans (hR.mono hB.size)).drew)
      ·rw [HE.out]; have hN:=HN.out; simp [hN]
      ·first | exact Lies.fresh rfl (by simp) (by simp) rfl | exact Lies.via kS hS9 rfl
     ·skip
      refine wp_call (f:=50) (args:=#[vG N1 N2 N3,vG X1 X2 X3]) (by go_simp) (Cnx.out _) ?_
      rintro e R2 ⟨rfl,hR2⟩
      replace hR:=hR.trans (hR2.mono hR.size)
      clear hHeld
      have hS1 : (R2.cell? ⟨gN,0,none⟩ = some (.int .i64 N1) ∧ R2.cell? ⟨gN,1,none⟩ = some (.int .i64 N2) ∧ R2.cell? ⟨gN,2,none⟩ = some (.int .i64 N3)) ∧ (R2.cell? ⟨gX,0,none⟩ = some (.int .i64 X1) ∧ R2.cell? ⟨gX,1,none⟩ = some (.int .i64 X2) ∧ R2.cell? ⟨gX,2,none⟩ = some (.int .i64 X3)):=⟨⟨(hR.cell (p:=⟨gN,0,none⟩) kN.lt).trans qN0,(hR.cell (p:=⟨gN,1,none⟩) kN.lt).trans qN1,(hR.cell (p:=⟨gN,2,none⟩) kN.lt).trans qN2⟩,⟨(hR.cell (p:=⟨gX,0,none⟩) kX.lt).trans qX0,(hR.cell (p:=⟨gX,1,none⟩) kX.lt).trans qX1,(hR.cell (p:=⟨gX,2,none⟩) kX.lt).trans qX2⟩⟩
      refine ⟨_,rfl,hS1,?_⟩
      (try simp only [Act.put,List.setIfInBounds_toArray,List.set_cons_zero,List.set_cons_succ])
      have hHeld:=hS1
      refine tk 17 105 ?_
      refine tk 18 106 ?_
      refine held_one 9 ⟨some 97, .buildSlice 77 3 #[(0, .tmp 94),(1, .tmp 95),(2, .tmp 96)],77,_,_,none⟩ rfl (by kernel_rfl) (by rfl) ?_
      have lN : gN < R2.heap.size:=Nat.lt_of_lt_of_le kN.lt hR.size
      have lX : gX < R2.heap.size:=Nat.lt_of_lt_of_le kX.lt hR.size
      have yN0:=(hR.cell (p:=⟨gN,0,none⟩) kN.lt).trans qN0
      have yN1:=(hR.cell (p:=⟨gN,1,none⟩) kN.lt).trans qN1
      have yN2:=(hR.cell (p:=⟨gN,2,none⟩) kN.lt).trans qN2
      have yX0:=(hR.cell (p:=⟨gX,0,none⟩) kX.lt).trans qX0
      have yX1:=(hR.cell (p:=⟨gX,1,none⟩) kX.lt).trans qX1
      have yX2:=(hR.cell (p:=⟨gX,2,none⟩) kX.lt).trans qX2
      unfold Oper.wp
      go_simp
      replace hR : Below W7.heap.size W7 (R2.alloc (.cells #[.int .i64 (nn - aa - bb), .int .i64 aa, .int .i64 bb] 3)):=hR.alloc hR.size _
      clear hHeld
      have hHeld : ((R2.alloc (.cells #[.int .i64 (nn - aa - bb), .int .i64 aa, .int .i64 bb] 3)).cell? ⟨gN,0,none⟩ = some (.int .i64 N1) ∧ (R2.alloc (.cells #[.int .i64 (nn - aa - bb), .int .i64 aa, .int .i64 bb] 3)).cell? ⟨gN,1,none⟩ = some (.int .i64 N2) ∧ (R2.alloc (.cells #[.int .i64 (nn - aa - bb), .int .i64 aa, .int .i64 bb] 3)).cell? ⟨gN,2,none⟩ = some (.int .i64 N3)) ∧ ((R2.alloc (.cells #[.int .i64 (nn - aa - bb), .int .i64 aa, .int .i64 bb] 3)).cell? ⟨gX,0,none⟩ = some (.int .i64 X1) ∧ (R2.alloc (.cells #[.int .i64 (nn - aa - bb), .int .i64 aa, .int .i64 bb] 3)).cell? ⟨gX,1,none⟩ = some (.int .i64 X2) ∧ (R2.alloc (.cells #[.int .i64 (nn - aa - bb), .int .i64 aa, .int .i64 bb] 3)).cell? ⟨gX,2,none⟩ = some (.int .i64 X3)):=⟨⟨(hR.cell (p:=⟨gN,0,none⟩) kN.lt).trans qN0,(hR.cell (p:=⟨gN,1,none⟩) kN.lt).trans qN1,(hR.cell (p:=⟨gN,2,none⟩) kN.lt).trans qN2⟩,⟨(hR.cell (p:=⟨gX,0,none⟩) kX.lt).trans qX0,(hR.cell (p:=⟨gX,1,none⟩) kX.lt).trans qX1,(hR.cell (p:=⟨gX,2,none⟩) kX.lt).trans qX2⟩⟩
      (try simp only [Act.put,List.setIfInBounds_toArray,List.set_cons_zero,List.set_cons_succ])
      refine tk 19 4 ?_
      refine tk 20 5 ?_
      refine wpAnyH_done (by kernel_rfl) ?_ _
      clear hHeld
      go_wp2
      go_ret2
      refine w_end (l:=[nn - aa - bb,aa,bb]) ?_ rfl ?_ (by omega) (by omega) (by first | exact hB.trans (hR.mono hB.size) | exact (hB.trans (hR.mono hB.size)).drew)
      ·rw [HE.out]; have hN:=HN.out; simp [hN]
      ·first | exact Lies.fresh rfl (by simp) (by simp) rfl | exact Lies.via kS hS9 rfl
end Go.Proofs.Ytkjceegmmhnajaa
