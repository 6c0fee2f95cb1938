/- The reference's weights (fn 80) of one to four points. Printed by wip/gen_rw.py. -/
import Derived.Test.YtkjceegmmhnajaaG62
import Derived.Test.YtkjceegmmhnajaaG84

set_option linter.unusedVariables false
set_option linter.unusedSimpArgs false

namespace Go.Proofs.Ytkjceegmmhnajaa
open Go.RowKit
set_option maxRecDepth 100000 in
set_option maxHeartbeats 4000000 in
theorem rweights1 (a z : Vc) (ad : Addr) (cp : Nat) (w : World) (hb : ad.block < w.heap.size) (hp0 : vecAt w ad a) (s0 : shadeV a) (hz : shadeV z) : Calls Try.prog 80 #[.slice (some ad) 1 cp,z.agg] w (WEnd (rpw [a] z) w):=by
 have bX:=vb_sub hz s0
 obtain ⟨a1,a2,a3⟩:=a
 obtain ⟨z1,z2,z3⟩:=z
 dsimp only at *
 obtain ⟨X1,X2,X3,EX,vX,CX⟩:=minus_pre bX
 clear bX
 have HE : Hid (rpw [⟨a1,a2,a3⟩] ⟨z1,z2,z3⟩ = if z1 = a1 ∧ z2 = a2 ∧ z3 = a3 then some [1] else none):=by
  obtain ⟨rfl,rfl,rfl⟩:=EX.out
  show _ = _
  simp only [rpw,Vc.sub,Vc.dot,Vc.crs,Vc.mk.injEq,ne_eq]
 clear EX
 have Hp0:=Lib.hid hp0
 clear hp0 s0 hz
 have q37:=eq37
 go_enter Try.func80,Try.ntmps80
 go_wp2
 have kw:=Bk.new w 37 #[.int .i64 z1, .int .i64 z2, .int .i64 z3]
 have hB : Below w.heap.size w (w.alloc (.cells #[.int .i64 z1, .int .i64 z2, .int .i64 z3] 37)):=(Below.refl _ _).alloc (Nat.le_refl _) _
 have la : ad.block < (w.alloc (.cells #[.int .i64 z1, .int .i64 z2, .int .i64 z3] 37)).heap.size:=by simp; omega
 generalize w.alloc (.cells #[.int .i64 z1, .int .i64 z2, .int .i64 z3] 37) = W0 at *
 have qw0:=kw.cell 0 rfl
 have qw1:=kw.cell 1 rfl
 have qw2:=kw.cell 2 rfl
 have qp00 : W0.cell? ad = some (.int .i64 a1):=(Hp0.out.below hB hb).1
 have qp01 : W0.cell? ⟨ad.block,ad.off + 1,none⟩ = some (.int .i64 a2):=(Hp0.out.below hB hb).2.1
 have qp02 : W0.cell? ⟨ad.block,ad.off + 2,none⟩ = some (.int .i64 a3):=(Hp0.out.below hB hb).2.2
 refine wp_region_held_drew (S:=fun w'=>(w'.cell? ⟨w.heap.size,0,none⟩ = some (.int .i64 z1) ∧ w'.cell? ⟨w.heap.size,1,none⟩ = some (.int .i64 z2) ∧ w'.cell? ⟨w.heap.size,2,none⟩ = some (.int .i64 z3)) ∧ (w'.cell? ad = some (.int .i64 a1) ∧ w'.cell? ⟨ad.block,ad.off + 1,none⟩ = some (.int .i64 a2) ∧ w'.cell? ⟨ad.block,ad.off + 2,none⟩ = some (.int .i64 a3))) (by kernel_rfl) ?_ (fun hHeld=>?_)
 ·exact ⟨⟨qw0,qw1,qw2⟩,⟨qp00,qp01,qp02⟩⟩
 refine tk 0 19 ?_
 refine tk 1 20 ?_
 refine tk 2 21 ?_
 refine tk 3 22 ?_
 refine box_laid (f:=91) (args:=#[.agg #[.int .i64 z1, .int .i64 z2, .int .i64 z3], .agg #[.int .i64 a1, .int .i64 a2, .int .i64 a3]]) (ty:=37) (Z:=zero3) (R:=#[.int .i64 X1, .int .i64 X2, .int .i64 X3]) 4 5 6 23 6 (by decide) ⟨_,rfl,rfl,rfl,?c1,?c2⟩ ⟨_,rfl,rfl,rfl,?al⟩ ⟨_,rfl,rfl,rfl,?st⟩ (by kernel_rfl) (by kernel_rfl) (by kernel_rfl) (by kernel_rfl) (by kernel_rfl) (by kernel_rfl) (by kernel_rfl) ?hS ?hC ?hK
 case c1=>exact fun w=>by go_simp
 case c2=>exact fun u w=>by go_simp
 case al=>exact fun a w=>by go_simp; rfl
 case st =>
  intro w g hg
  have t0:=hg.cell 0 rfl
  have t1:=hg.cell 1 rfl
  have t2:=hg.cell 2 rfl
  have r0:=hg.fro 0
  have r1:=hg.fro 1
  have r2:=hg.fro 2
  refine ⟨_,?_,(((hg.set 0 _).set 1 _).set 2 _),fun B v hB hb=>((hb.setCell (p:=⟨g,0,none⟩) hB _).setCell (p:=⟨g,1,none⟩) hB _).setCell (p:=⟨g,2,none⟩) hB _⟩
  simp only [putCP,List.setIfInBounds_toArray,List.set_cons_zero,List.set_cons_succ]
  go_simp
 case hS =>
  intro w9 hw9
  have hw8:=(Below.drew (Below.refl _ _)).trans hw9
  exact ⟨⟨(hw8.cell (p:=⟨w.heap.size,0,none⟩) kw.lt).trans qw0,(hw8.cell (p:=⟨w.heap.size,1,none⟩) kw.lt).trans qw1,(hw8.cell (p:=⟨w.heap.size,2,none⟩) kw.lt).trans qw2⟩,⟨(hw8.cell (p:=ad) la).trans qp00,(hw8.cell (p:=⟨ad.block,ad.off + 1,none⟩) la).trans qp01,(hw8.cell (p:=⟨ad.block,ad.off + 2,none⟩) la).trans qp02⟩⟩
 case hC=>exact fun W _=>CX.out W
 case hK =>
  intro gX W1 hW hg kn
  simp only [putCP,List.setIfInBounds_toArray,List.set_cons_zero,List.set_cons_succ]
  replace hW : Below W0.heap.size W0 W1:=(Below.drew (Below.refl _ _)).trans hW
  clear hHeld qw0 qw1 qw2 qp00 qp01 qp02
  replace kw:=kw.below hW kw.lt
  replace la : ad.block < W1.heap.size:=Nat.lt_of_lt_of_le la hW.size
  replace hB:=hB.trans (hW.mono hB.size)
  have kX:=kn
  clear kn hW hg
  go_wp2
  have qw0:=kw.cell 0 rfl
  have qw1:=kw.cell 1 rfl
  have qw2:=kw.cell 2 rfl
  have qp00 : W1.cell? ad = some (.int .i64 a1):=(Hp0.out.below hB hb).1
  have qp01 : W1.cell? ⟨ad.block,ad.off + 1,none⟩ = some (.int .i64 a2):=(Hp0.out.below hB hb).2.1
  have qp02 : W1.cell? ⟨ad.block,ad.off + 2,none⟩ = some (.int .i64 a3):=(Hp0.out.below hB hb).2.2
  refine wp_region_held_drew (S:=fun w'=>(w'.cell? ⟨w.heap.size,0,none⟩ = some (.int .i64 z1) ∧ w'.cell? ⟨w.heap.size,1,none⟩ = some (.int .i64 z2) ∧ w'.cell? ⟨w.heap.size,2,none⟩ = some (.int .i64 z3)) ∧ (w'.cell? ad = some (.int .i64 a1) ∧ w'.cell? ⟨ad.block,ad.off + 1,none⟩ = some (.int .i64 a2) ∧ w'.cell? ⟨ad.block,ad.off + 2,none⟩ = some (.int .i64 a3))) (by kernel_rfl) ?_ (fun hHeld=>?_)
  ·exact ⟨⟨qw0,qw1,qw2⟩,⟨qp00,qp01,qp02⟩⟩
  refine tk 1 28 ?_
  refine tk 2 29 ?_
  refine tk 3 30 ?_
  refine tk 4 31 ?_
  refine tk 5 32 ?_
  refine held_one 0 ⟨some 27, .buildSlice 77 1 #[(0, .const (.int .i64 1))],77,_,_,none⟩ rfl (by kernel_rfl) (by rfl) ?_
  have lw:=kw.lt
  unfold Oper.wp
  go_simp
  have hw8 : Below W1.heap.size W1 (W1.alloc (.cells #[.int .i64 1] 3)):=(Below.refl _ _).alloc (Nat.le_refl _) _
  (try simp only [Act.put,List.setIfInBounds_toArray,List.set_cons_zero,List.set_cons_succ])
  clear hHeld
  have hHeld : ((W1.alloc (.cells #[.int .i64 1] 3)).cell? ⟨w.heap.size,0,none⟩ = some (.int .i64 z1) ∧ (W1.alloc (.cells #[.int .i64 1] 3)).cell? ⟨w.heap.size,1,none⟩ = some (.int .i64 z2) ∧ (W1.alloc (.cells #[.int .i64 1] 3)).cell? ⟨w.heap.size,2,none⟩ = some (.int .i64 z3)) ∧ ((W1.alloc (.cells #[.int .i64 1] 3)).cell? ad = some (.int .i64 a1) ∧ (W1.alloc (.cells #[.int .i64 1] 3)).cell? ⟨ad.block,ad.off + 1,none⟩ = some (.int .i64 a2) ∧ (W1.alloc (.cells #[.int .i64 1] 3)).cell? ⟨ad.block,ad.off + 2,none⟩ = some (.int .i64 a3)):=⟨⟨(hw8.cell (p:=⟨w.heap.size,0,none⟩) kw.lt).trans qw0,(hw8.cell (p:=⟨w.heap.size,1,none⟩) kw.lt).trans qw1,(hw8.cell (p:=⟨w.heap.size,2,none⟩) kw.lt).trans qw2⟩,⟨(hw8.cell (p:=ad) la).trans qp00,(hw8.cell (p:=⟨ad.block,ad.off + 1,none⟩) la).trans qp01,(hw8.cell (p:=⟨ad.block,ad.off + 2,none⟩) la).trans qp02⟩⟩
  refine tk 6 4 ?_
  refine tk 7 5 ?_
  refine wpAnyH_done (by kernel_rfl) ?_ _
  go_wp2
  go_ret2
  refine w_end (l:=[1]) ?_ rfl (Lies.fresh rfl (by simp) (by simp) rfl) (by omega) (by omega) (by first | exact hB.trans (hw8.mono hB.size) | exact (hB.trans (hw8.mono hB.size)).drew)
  rw [HE.out]; simp
set_option maxRecDepth 100000 in
set_option maxHeartbeats 4000000 in
theorem rweights2 (a b z : Vc) (ad : Addr) (cp : Nat) (w : World) (hb : ad.block < w.heap.size) (hp0 : vecAt w ad a) (hp1 : vecAt w ⟨ad.block,ad.off + 3,none⟩ b) (s0 : shadeV a) (s1 : shadeV b) (hz : shadeV z) : Calls Try.prog 80 #[.slice (some ad) 2 cp,z.agg] w (WEnd (rpw [a,b] z) w):=by
 have bX:=vb_sub hz s0
 have bU:=vb_sub s1 s0
 obtain ⟨a1,a2,a3⟩:=a
 obtain ⟨b1,b2,b3⟩:=b
 obtain ⟨z1,z2,z3⟩:=z
 dsimp only at *
 obtain ⟨X1,X2,X3,EX,vX,CX⟩:=minus_pre bX
 clear bX
 obtain ⟨U1,U2,U3,EU,vU,CU⟩:=minus_pre bU
 clear bU
 obtain ⟨D1,D2,D3,ED,vD,CD⟩:=crs_pre (A:=1000) (B:=1000) vU vX (by omega)
 obtain ⟨nn,Enn,vnn,Cnn⟩:=dot_pre (A:=1000) (B:=1000) vU vU (by omega)
 obtain ⟨lnn,unn⟩ : -3000000 ≤ nn ∧ nn ≤ 3000000:=by have:=vnn; unfold ab at this; omega
 obtain ⟨ux,Eux,vux,Cux⟩:=dot_pre (A:=1000) (B:=1000) vU vX (by omega)
 obtain ⟨lux,uux⟩ : -3000000 ≤ ux ∧ ux ≤ 3000000:=by have:=vux; unfold ab at this; omega
 have HE : Hid (rpw [⟨a1,a2,a3⟩,⟨b1,b2,b3⟩] ⟨z1,z2,z3⟩ = if 0 < nn ∧ (D1 = 0 ∧ D2 = 0 ∧ D3 = 0) then some [nn - ux,ux] else none):=by
  obtain ⟨rfl,rfl,rfl⟩:=EX.out
  obtain ⟨rfl,rfl,rfl⟩:=EU.out
  obtain ⟨rfl,rfl,rfl⟩:=ED.out
  obtain rfl:=Enn.out
  obtain rfl:=Eux.out
  show _ = _
  simp only [rpw,Vc.sub,Vc.dot,Vc.crs,Vc.mk.injEq,ne_eq]
 clear EX EU ED Enn Eux
 have Hp0:=Lib.hid hp0
 have Hp1:=Lib.hid hp1
 clear hp0 s0 hp1 s1 hz
 have q37:=eq37
 go_enter Try.func80,Try.ntmps80
 go_wp2
 have kw:=Bk.new w 37 #[.int .i64 z1, .int .i64 z2, .int .i64 z3]
 have hB : Below w.heap.size w (w.alloc (.cells #[.int .i64 z1, .int .i64 z2, .int .i64 z3] 37)):=(Below.refl _ _).alloc (Nat.le_refl _) _
 have la : ad.block < (w.alloc (.cells #[.int .i64 z1, .int .i64 z2, .int .i64 z3] 37)).heap.size:=by simp; omega
 generalize w.alloc (.cells #[.int .i64 z1, .int .i64 z2, .int .i64 z3] 37) = W0 at *
 have qw0:=kw.cell 0 rfl
 have qw1:=kw.cell 1 rfl
 have qw2:=kw.cell 2 rfl
 have qp00 : W0.cell? ad = some (.int .i64 a1):=(Hp0.out.below hB hb).1
 have qp01 : W0.cell? ⟨ad.block,ad.off + 1,none⟩ = some (.int .i64 a2):=(Hp0.out.below hB hb).2.1
 have qp02 : W0.cell? ⟨ad.block,ad.off + 2,none⟩ = some (.int .i64 a3):=(Hp0.out.below hB hb).2.2
 refine wp_region_held_drew (S:=fun w'=>(w'.cell? ⟨w.heap.size,0,none⟩ = some (.int .i64 z1) ∧ w'.cell? ⟨w.heap.size,1,none⟩ = some (.int .i64 z2) ∧ w'.cell? ⟨w.heap.size,2,none⟩ = some (.int .i64 z3)) ∧ (w'.cell? ad = some (.int .i64 a1) ∧ w'.cell? ⟨ad.block,ad.off + 1,none⟩ = some (.int .i64 a2) ∧ w'.cell? ⟨ad.block,ad.off + 2,none⟩ = some (.int .i64 a3))) (by kernel_rfl) ?_ (fun hHeld=>?_)
 ·exact ⟨⟨qw0,qw1,qw2⟩,⟨qp00,qp01,qp02⟩⟩
 refine tk 0 19 ?_
 refine tk 1 20 ?_
 refine tk 2 21 ?_
 refine tk 3 22 ?_
 refine box_laid (f:=91) (args:=#[.agg #[.int .i64 z1, .int .i64 z2, .int .i64 z3], .agg #[.int .i64 a1, .int .i64 a2, .int .i64 a3]]) (ty:=37) (Z:=zero3) (R:=#[.int .i64 X1, .int .i64 X2, .int .i64 X3]) 4 5 6 23 6 (by decide) ⟨_,rfl,rfl,rfl,?c1,?c2⟩ ⟨_,rfl,rfl,rfl,?al⟩ ⟨_,rfl,rfl,rfl,?st⟩ (by kernel_rfl) (by kernel_rfl) (by kernel_rfl) (by kernel_rfl) (by kernel_rfl) (by kernel_rfl) (by kernel_rfl) ?hS ?hC ?hK
 case c1=>exact fun w=>by go_simp
 case c2=>exact fun u w=>by go_simp
 case al=>exact fun a w=>by go_simp; rfl
 case st =>
  intro w g hg
  have t0:=hg.cell 0 rfl
  have t1:=hg.cell 1 rfl
  have t2:=hg.cell 2 rfl
  have r0:=hg.fro 0
  have r1:=hg.fro 1
  have r2:=hg.fro 2
  refine ⟨_,?_,(((hg.set 0 _).set 1 _).set 2 _),fun B v hB hb=>((hb.setCell (p:=⟨g,0,none⟩) hB _).setCell (p:=⟨g,1,none⟩) hB _).setCell (p:=⟨g,2,none⟩) hB _⟩
  simp only [putCP,List.setIfInBounds_toArray,List.set_cons_zero,List.set_cons_succ]
  go_simp
 case hS =>
  intro w9 hw9
  have hw8:=(Below.drew (Below.refl _ _)).trans hw9
  exact ⟨⟨(hw8.cell (p:=⟨w.heap.size,0,none⟩) kw.lt).trans qw0,(hw8.cell (p:=⟨w.heap.size,1,none⟩) kw.lt).trans qw1,(hw8.cell (p:=⟨w.heap.size,2,none⟩) kw.lt).trans qw2⟩,⟨(hw8.cell (p:=ad) la).trans qp00,(hw8.cell (p:=⟨ad.block,ad.off + 1,none⟩) la).trans qp01,(hw8.cell (p:=⟨ad.block,ad.off + 2,none⟩) la).trans qp02⟩⟩
 case hC=>exact fun W _=>CX.out W
 case hK =>
  intro gX W1 hW hg kn
  simp only [putCP,List.setIfInBounds_toArray,List.set_cons_zero,List.set_cons_succ]
  replace hW : Below W0.heap.size W0 W1:=(Below.drew (Below.refl _ _)).trans hW
  clear hHeld qw0 qw1 qw2 qp00 qp01 qp02
  replace kw:=kw.below hW kw.lt
  replace la : ad.block < W1.heap.size:=Nat.lt_of_lt_of_le la hW.size
  replace hB:=hB.trans (hW.mono hB.size)
  have kX:=kn
  clear kn hW hg
  go_wp2
  have qp10 : W1.cell? ⟨ad.block,ad.off + 3,none⟩ = some (.int .i64 b1):=(Hp1.out.below hB hb).1
  have qp11 : W1.cell? ⟨ad.block,ad.off + 3 + 1,none⟩ = some (.int .i64 b2):=(Hp1.out.below hB hb).2.1
  have qp12 : W1.cell? ⟨ad.block,ad.off + 3 + 2,none⟩ = some (.int .i64 b3):=(Hp1.out.below hB hb).2.2
  have qp00 : W1.cell? ad = some (.int .i64 a1):=(Hp0.out.below hB hb).1
  have qp01 : W1.cell? ⟨ad.block,ad.off + 1,none⟩ = some (.int .i64 a2):=(Hp0.out.below hB hb).2.1
  have qp02 : W1.cell? ⟨ad.block,ad.off + 2,none⟩ = some (.int .i64 a3):=(Hp0.out.below hB hb).2.2
  refine wp_region_held_drew (S:=fun w'=>(w'.cell? ⟨ad.block,ad.off + 3,none⟩ = some (.int .i64 b1) ∧ w'.cell? ⟨ad.block,ad.off + 3 + 1,none⟩ = some (.int .i64 b2) ∧ w'.cell? ⟨ad.block,ad.off + 3 + 2,none⟩ = some (.int .i64 b3)) ∧ (w'.cell? ad = some (.int .i64 a1) ∧ w'.cell? ⟨ad.block,ad.off + 1,none⟩ = some (.int .i64 a2) ∧ w'.cell? ⟨ad.block,ad.off + 2,none⟩ = some (.int .i64 a3))) (by kernel_rfl) ?_ (fun hHeld=>?_)
  ·exact ⟨⟨qp10,qp11,qp12⟩,⟨qp00,qp01,qp02⟩⟩
  refine tk 0 33 ?_
  refine tk 1 34 ?_
  refine tk 2 35 ?_
  refine tk 3 36 ?_
  refine tk 4 37 ?_
  refine tk 5 38 ?_
  refine box_laid (f:=91) (args:=#[.agg #[.int .i64 b1, .int .i64 b2, .int .i64 b3], .agg #[.int .i64 a1, .int .i64 a2, .int .i64 a3]]) (ty:=37) (Z:=zero3) (R:=#[.int .i64 U1, .int .i64 U2, .int .i64 U3]) 6 7 8 39 7 (by decide) ⟨_,rfl,rfl,rfl,?c1,?c2⟩ ⟨_,rfl,rfl,rfl,?al⟩ ⟨_,rfl,rfl,rfl,?st⟩ (by kernel_rfl) (by kernel_rfl) (by kernel_rfl) (by kernel_rfl) (by kernel_rfl) (by kernel_rfl) (by kernel_rfl) ?hS ?hC ?hK
  case c1=>exact fun w=>by go_simp
  case c2=>exact fun u w=>by go_simp
  case al=>exact fun a w=>by go_simp; rfl
  case st =>
   intro w g hg
   have t0:=hg.cell 0 rfl
   have t1:=hg.cell 1 rfl
   have t2:=hg.cell 2 rfl
   have r0:=hg.fro 0
   have r1:=hg.fro 1
   have r2:=hg.fro 2
   refine ⟨_,?_,(((hg.set 0 _).set 1 _).set 2 _),fun B v hB hb=>((hb.setCell (p:=⟨g,0,none⟩) hB _).setCell (p:=⟨g,1,none⟩) hB _).setCell (p:=⟨g,2,none⟩) hB _⟩
   simp only [putCP,List.setIfInBounds_toArray,List.set_cons_zero,List.set_cons_succ]
   go_simp
  case hS =>
   intro w9 hw9
   have hw8:=(Below.drew (Below.refl _ _)).trans hw9
   exact ⟨⟨(hw8.cell (p:=⟨ad.block,ad.off + 3,none⟩) la).trans qp10,(hw8.cell (p:=⟨ad.block,ad.off + 3 + 1,none⟩) la).trans qp11,(hw8.cell (p:=⟨ad.block,ad.off + 3 + 2,none⟩) la).trans qp12⟩,⟨(hw8.cell (p:=ad) la).trans qp00,(hw8.cell (p:=⟨ad.block,ad.off + 1,none⟩) la).trans qp01,(hw8.cell (p:=⟨ad.block,ad.off + 2,none⟩) la).trans qp02⟩⟩
  case hC=>exact fun W _=>CU.out W
  case hK =>
   intro gU W2 hW hg kn
   simp only [putCP,List.setIfInBounds_toArray,List.set_cons_zero,List.set_cons_succ]
   replace hW : Below W1.heap.size W1 W2:=(Below.drew (Below.refl _ _)).trans hW
   clear hHeld qp10 qp11 qp12 qp00 qp01 qp02
   replace kw:=kw.below hW kw.lt
   replace kX:=kX.below hW kX.lt
   replace la : ad.block < W2.heap.size:=Nat.lt_of_lt_of_le la hW.size
   replace hB:=hB.trans (hW.mono hB.size)
   have kU:=kn
   clear kn hW hg
   have qU0:=kU.cell 0 rfl
   have qU1:=kU.cell 1 rfl
   have qU2:=kU.cell 2 rfl
   have qX0:=kX.cell 0 rfl
   have qX1:=kX.cell 1 rfl
   have qX2:=kX.cell 2 rfl
   go_wp2_with (first | (go_at_call 92; refine (CD.out _).mono ?_; rintro e V1 ⟨rfl,hV⟩; have hZ1:=hB.trans (hV.mono hB.size); replace la:=Nat.lt_of_lt_of_le la hV.size; replace kw:=kw.below hV kw.lt; replace kX:=kX.below hV kX.lt; replace kU:=kU.below hV kU.lt; have kV:=Bk.new V1 37 #[.int .i64 D1, .int .i64 D2, .int .i64 D3]; clear hV qU0 qU1 qU2 qX0 qX1 qX2; have qU0:=(kU.alloc (.cells #[.int .i64 D1, .int .i64 D2, .int .i64 D3] 37)).cell 0 rfl; have qU1:=(kU.alloc (.cells #[.int .i64 D1, .int .i64 D2, .int .i64 D3] 37)).cell 1 rfl; have qU2:=(kU.alloc (.cells #[.int .i64 D1, .int .i64 D2, .int .i64 D3] 37)).cell 2 rfl) | (go_at_call 50; refine (Cnn.out _).mono ?_; rintro e V2 ⟨rfl,hV⟩))
   have hV0 : Below V1.heap.size V1 (V1.alloc (.cells #[.int .i64 D1, .int .i64 D2, .int .i64 D3] 37)):=(Below.refl _ _).alloc (Nat.le_refl _) _
   have hV1 : Below V1.heap.size V1 V2:=hV0.trans (hV.mono hV0.size)
   replace kw:=kw.below hV1 kw.lt
   replace kX:=kX.below hV1 kX.lt
   replace kU:=kU.below hV1 kU.lt
   have kD:=kV.below hV kV.lt
   have lD:=kV.lt
   replace la : ad.block < V2.heap.size:=Nat.lt_of_lt_of_le la hV1.size
   replace hB:=hZ1.trans (hV1.mono hZ1.size)
   clear kV hV hV0 hV1 hZ1 qU0 qU1 qU2
   have hs1 : IntKind.i64.wrap (nn - ux) = nn - ux:=IntWalk.i64_in _ (by omega)
   by_cases hn : 0 < nn
   ·skip
    have qU0:=kU.cell 0 rfl
    have qU1:=kU.cell 1 rfl
    have qU2:=kU.cell 2 rfl
    have qX0:=kX.cell 0 rfl
    have qX1:=kX.cell 1 rfl
    have qX2:=kX.cell 2 rfl
    have qD0:=kD.cell 0 rfl
    have qD1:=kD.cell 1 rfl
    have qD2:=kD.cell 2 rfl
    refine wp_region_held_drew (S:=fun w'=>(w'.cell? ⟨gU,0,none⟩ = some (.int .i64 U1) ∧ w'.cell? ⟨gU,1,none⟩ = some (.int .i64 U2) ∧ w'.cell? ⟨gU,2,none⟩ = some (.int .i64 U3)) ∧ (w'.cell? ⟨gX,0,none⟩ = some (.int .i64 X1) ∧ w'.cell? ⟨gX,1,none⟩ = some (.int .i64 X2) ∧ w'.cell? ⟨gX,2,none⟩ = some (.int .i64 X3)) ∧ (w'.cell? ⟨V1.heap.size,0,none⟩ = some (.int .i64 D1) ∧ w'.cell? ⟨V1.heap.size,1,none⟩ = some (.int .i64 D2) ∧ w'.cell? ⟨V1.heap.size,2,none⟩ = some (.int .i64 D3))) (by kernel_rfl) ?_ (fun hHeld=>?_)
    ·exact ⟨⟨qU0,qU1,qU2⟩,⟨qX0,qX1,qX2⟩,⟨qD0,qD1,qD2⟩⟩
    refine tk 0 49 ?_
    refine tk 1 50 ?_
    refine tk 2 51 ?_
    refine tk 5 54 ?_
    refine tk 6 55 ?_
    refine tk 9 58 ?_
    refine tk 10 59 ?_
    (refine held_call 3 (some 52) 50 _ rfl (by kernel_rfl) (by rfl) ?_ ((Cux.out _)) ?_; rotate_left; rotate_left; (simp only [List.getElem?_toArray,List.getElem?_cons_zero,List.getElem?_cons_succ,Option.map_some]; refine congrArg some ?_; go_simp))
    rintro e R1 ⟨rfl,hR⟩
    replace hR : Below V2.heap.size V2 R1:=(Below.drew (Below.refl _ _)).trans hR
    clear hHeld
    have hS1 : (R1.cell? ⟨gU,0,none⟩ = some (.int .i64 U1) ∧ R1.cell? ⟨gU,1,none⟩ = some (.int .i64 U2) ∧ R1.cell? ⟨gU,2,none⟩ = some (.int .i64 U3)) ∧ (R1.cell? ⟨gX,0,none⟩ = some (.int .i64 X1) ∧ R1.cell? ⟨gX,1,none⟩ = some (.int .i64 X2) ∧ R1.cell? ⟨gX,2,none⟩ = some (.int .i64 X3)) ∧ (R1.cell? ⟨V1.heap.size,0,none⟩ = some (.int .i64 D1) ∧ R1.cell? ⟨V1.heap.size,1,none⟩ = some (.int .i64 D2) ∧ R1.cell? ⟨V1.heap.size,2,none⟩ = some (.int .i64 D3)):=⟨⟨(hR.cell (p:=⟨gU,0,none⟩) kU.lt).trans qU0,(hR.cell (p:=⟨gU,1,none⟩) kU.lt).trans qU1,(hR.cell (p:=⟨gU,2,none⟩) kU.lt).trans qU2⟩,⟨(hR.cell (p:=⟨gX,0,none⟩) kX.lt).trans qX0,(hR.cell (p:=⟨gX,1,none⟩) kX.lt).trans qX1,(hR.cell (p:=⟨gX,2,none⟩) kX.lt).trans qX2⟩,⟨(hR.cell (p:=⟨V1.heap.size,0,none⟩) kD.lt).trans qD0,(hR.cell (p:=⟨V1.heap.size,1,none⟩) kD.lt).trans qD1,(hR.cell (p:=⟨V1.heap.size,2,none⟩) kD.lt).trans qD2⟩⟩
    refine ⟨_,rfl,hS1,fun hHeld=>?_⟩
    (try simp only [Act.put,List.setIfInBounds_toArray,List.set_cons_zero,List.set_cons_succ])
    refine tk 4 53 ?_
    (refine held_call 7 (some 56) 50 _ rfl (by kernel_rfl) (by rfl) ?_ ((Cux.out _)) ?_; rotate_left; rotate_left; (simp only [List.getElem?_toArray,List.getElem?_cons_zero,List.getElem?_cons_succ,Option.map_some]; refine congrArg some ?_; go_simp))
    rintro e R2 ⟨rfl,hR2⟩
    replace hR:=hR.trans (hR2.mono hR.size)
    clear hHeld hS1
    have hS1 : (R2.cell? ⟨gU,0,none⟩ = some (.int .i64 U1) ∧ R2.cell? ⟨gU,1,none⟩ = some (.int .i64 U2) ∧ R2.cell? ⟨gU,2,none⟩ = some (.int .i64 U3)) ∧ (R2.cell? ⟨gX,0,none⟩ = some (.int .i64 X1) ∧ R2.cell? ⟨gX,1,none⟩ = some (.int .i64 X2) ∧ R2.cell? ⟨gX,2,none⟩ = some (.int .i64 X3)) ∧ (R2.cell? ⟨V1.heap.size,0,none⟩ = some (.int .i64 D1) ∧ R2.cell? ⟨V1.heap.size,1,none⟩ = some (.int .i64 D2) ∧ R2.cell? ⟨V1.heap.size,2,none⟩ = some (.int .i64 D3)):=⟨⟨(hR.cell (p:=⟨gU,0,none⟩) kU.lt).trans qU0,(hR.cell (p:=⟨gU,1,none⟩) kU.lt).trans qU1,(hR.cell (p:=⟨gU,2,none⟩) kU.lt).trans qU2⟩,⟨(hR.cell (p:=⟨gX,0,none⟩) kX.lt).trans qX0,(hR.cell (p:=⟨gX,1,none⟩) kX.lt).trans qX1,(hR.cell (p:=⟨gX,2,none⟩) kX.lt).trans qX2⟩,⟨(hR.cell (p:=⟨V1.heap.size,0,none⟩) kD.lt).trans qD0,(hR.cell (p:=⟨V1.heap.size,1,none⟩) kD.lt).trans qD1,(hR.cell (p:=⟨V1.heap.size,2,none⟩) kD.lt).trans qD2⟩⟩
    refine ⟨_,rfl,hS1,fun hHeld=>?_⟩
    (try simp only [Act.put,List.setIfInBounds_toArray,List.set_cons_zero,List.set_cons_succ])
    refine tk 11 60 ?_
    refine tk 12 61 ?_
    refine tk 13 62 ?_
    refine tk 14 63 ?_
    refine tk 15 64 ?_
    refine held_one 8 ⟨some 57, .buildSlice 77 2 #[(0, .tmp 53),(1, .tmp 56)],77,_,_,none⟩ rfl (by kernel_rfl) (by rfl) ?_
    have lU : gU < R2.heap.size:=Nat.lt_of_lt_of_le kU.lt hR.size
    have lX : gX < R2.heap.size:=Nat.lt_of_lt_of_le kX.lt hR.size
    have lD : V1.heap.size < R2.heap.size:=Nat.lt_of_lt_of_le kD.lt hR.size
    have yU0:=(hR.cell (p:=⟨gU,0,none⟩) kU.lt).trans qU0
    have yU1:=(hR.cell (p:=⟨gU,1,none⟩) kU.lt).trans qU1
    have yU2:=(hR.cell (p:=⟨gU,2,none⟩) kU.lt).trans qU2
    have yX0:=(hR.cell (p:=⟨gX,0,none⟩) kX.lt).trans qX0
    have yX1:=(hR.cell (p:=⟨gX,1,none⟩) kX.lt).trans qX1
    have yX2:=(hR.cell (p:=⟨gX,2,none⟩) kX.lt).trans qX2
    have yD0:=(hR.cell (p:=⟨V1.heap.size,0,none⟩) kD.lt).trans qD0
    have yD1:=(hR.cell (p:=⟨V1.heap.size,1,none⟩) kD.lt).trans qD1
    have yD2:=(hR.cell (p:=⟨V1.heap.size,2,none⟩) kD.lt).trans qD2
    unfold Oper.wp
    go_simp
    have hR3 : Below V2.heap.size V2 (R2.alloc (.cells #[.int .i64 (nn - ux), .int .i64 ux] 3)):=hR.alloc hR.size _
    clear hHeld hS1
    have hHeld : ((R2.alloc (.cells #[.int .i64 (nn - ux), .int .i64 ux] 3)).cell? ⟨gU,0,none⟩ = some (.int .i64 U1) ∧ (R2.alloc (.cells #[.int .i64 (nn - ux), .int .i64 ux] 3)).cell? ⟨gU,1,none⟩ = some (.int .i64 U2) ∧ (R2.alloc (.cells #[.int .i64 (nn - ux), .int .i64 ux] 3)).cell? ⟨gU,2,none⟩ = some (.int .i64 U3)) ∧ ((R2.alloc (.cells #[.int .i64 (nn - ux), .int .i64 ux] 3)).cell? ⟨gX,0,none⟩ = some (.int .i64 X1) ∧ (R2.alloc (.cells #[.int .i64 (nn - ux), .int .i64 ux] 3)).cell? ⟨gX,1,none⟩ = some (.int .i64 X2) ∧ (R2.alloc (.cells #[.int .i64 (nn - ux), .int .i64 ux] 3)).cell? ⟨gX,2,none⟩ = some (.int .i64 X3)) ∧ ((R2.alloc (.cells #[.int .i64 (nn - ux), .int .i64 ux] 3)).cell? ⟨V1.heap.size,0,none⟩ = some (.int .i64 D1) ∧ (R2.alloc (.cells #[.int .i64 (nn - ux), .int .i64 ux] 3)).cell? ⟨V1.heap.size,1,none⟩ = some (.int .i64 D2) ∧ (R2.alloc (.cells #[.int .i64 (nn - ux), .int .i64 ux] 3)).cell? ⟨V1.heap.size,2,none⟩ = some (.int .i64 D3)):=⟨⟨(hR3.cell (p:=⟨gU,0,none⟩) kU.lt).trans qU0,(hR3.cell (p:=⟨gU,1,none⟩) kU.lt).trans qU1,(hR3.cell (p:=⟨gU,2,none⟩) kU.lt).trans qU2⟩,⟨(hR3.cell (p:=⟨gX,0,none⟩) kX.lt).trans qX0,(hR3.cell (p:=⟨gX,1,none⟩) kX.lt).trans qX1,(hR3.cell (p:=⟨gX,2,none⟩) kX.lt).trans qX2⟩,⟨(hR3.cell (p:=⟨V1.heap.size,0,none⟩) kD.lt).trans qD0,(hR3.cell (p:=⟨V1.heap.size,1,none⟩) kD.lt).trans qD1,(hR3.cell (p:=⟨V1.heap.size,2,none⟩) kD.lt).trans qD2⟩⟩
    (try simp only [Act.put,List.setIfInBounds_toArray,List.set_cons_zero,List.set_cons_succ])
    refine tk 16 4 ?_
    refine tk 17 5 ?_
    refine wpAnyH_done (by kernel_rfl) ?_ _
    clear hHeld
    go_wp2
    go_ret2
    refine w_end (l:=[nn - ux,ux]) ?_ rfl (Lies.fresh rfl (by simp) (by simp) rfl) (by omega) (by omega) (by first | exact hB.trans (hR3.mono hB.size) | exact (hB.trans (hR3.mono hB.size)).drew)
    rw [HE.out]; simp [hn]
   ·skip
    have qU0:=kU.cell 0 rfl
    have qU1:=kU.cell 1 rfl
    have qU2:=kU.cell 2 rfl
    have qX0:=kX.cell 0 rfl
    have qX1:=kX.cell 1 rfl
    have qX2:=kX.cell 2 rfl
    have qD0:=kD.cell 0 rfl
    have qD1:=kD.cell 1 rfl
    have qD2:=kD.cell 2 rfl
    refine wp_region_held_drew (S:=fun w'=>(w'.cell? ⟨gU,0,none⟩ = some (.int .i64 U1) ∧ w'.cell? ⟨gU,1,none⟩ = some (.int .i64 U2) ∧ w'.cell? ⟨gU,2,none⟩ = some (.int .i64 U3)) ∧ (w'.cell? ⟨gX,0,none⟩ = some (.int .i64 X1) ∧ w'.cell? ⟨gX,1,none⟩ = some (.int .i64 X2) ∧ w'.cell? ⟨gX,2,none⟩ = some (.int .i64 X3)) ∧ (w'.cell? ⟨V1.heap.size,0,none⟩ = some (.int .i64 D1) ∧ w'.cell? ⟨V1.heap.size,1,none⟩ = some (.int .i64 D2) ∧ w'.cell? ⟨V1.heap.size,2,none⟩ = some (.int .i64 D3))) (by kernel_rfl) ?_ (fun hHeld=>?_)
    ·exact ⟨⟨qU0,qU1,qU2⟩,⟨qX0,qX1,qX2⟩,⟨qD0,qD1,qD2⟩⟩
    refine tk 0 49 ?_
    refine tk 1 50 ?_
    refine tk 2 51 ?_
    refine tk 5 54 ?_
    refine tk 6 55 ?_
    refine tk 9 58 ?_
    refine tk 10 59 ?_
    (refine held_call 3 (some 52) 50 _ rfl (by kernel_rfl) (by rfl) ?_ ((Cux.out _)) ?_; rotate_left; rotate_left; (simp only [List.getElem?_toArray,List.getElem?_cons_zero,List.getElem?_cons_succ,Option.map_some]; refine congrArg some ?_; go_simp))
    rintro e R1 ⟨rfl,hR⟩
    replace hR : Below V2.heap.size V2 R1:=(Below.drew (Below.refl _ _)).trans hR
    clear hHeld
    have hS1 : (R1.cell? ⟨gU,0,none⟩ = some (.int .i64 U1) ∧ R1.cell? ⟨gU,1,none⟩ = some (.int .i64 U2) ∧ R1.cell? ⟨gU,2,none⟩ = some (.int .i64 U3)) ∧ (R1.cell? ⟨gX,0,none⟩ = some (.int .i64 X1) ∧ R1.cell? ⟨gX,1,none⟩ = some (.int .i64 X2) ∧ R1.cell? ⟨gX,2,none⟩ = some (.int .i64 X3)) ∧ (R1.cell? ⟨V1.heap.size,0,none⟩ = some (.int .i64 D1) ∧ R1.cell? ⟨V1.heap.size,1,none⟩ = some (.int .i64 D2) ∧ R1.cell? ⟨V1.heap.size,2,none⟩ = some (.int .i64 D3)):=⟨⟨(hR.cell (p:=⟨gU,0,none⟩) kU.lt).trans qU0,(hR.cell (p:=⟨gU,1,none⟩) kU.lt).trans qU1,(hR.cell (p:=⟨gU,2,none⟩) kU.lt).trans qU2⟩,⟨(hR.cell (p:=⟨gX,0,none⟩) kX.lt).trans qX0,(hR.cell (p:=⟨gX,1,none⟩) kX.lt).trans qX1,(hR.cell (p:=⟨gX,2,none⟩) kX.lt).trans qX2⟩,⟨(hR.cell (p:=⟨V1.heap.size,0,none⟩) kD.lt).trans qD0,(hR.cell (p:=⟨V1.heap.size,1,none⟩) kD.lt).trans qD1,(hR.cell (p:=⟨V1.heap.size,2,none⟩) kD.lt).trans qD2⟩⟩
    refine ⟨_,rfl,hS1,fun hHeld=>?_⟩
    (try simp only [Act.put,List.setIfInBounds_toArray,List.set_cons_zero,List.set_cons_succ])
    refine tk 4 53 ?_
    (refine held_call 7 (some 56) 50 _ rfl (by kernel_rfl) (by rfl) ?_ ((Cux.out _)) ?_; rotate_left; rotate_left; (simp only [List.getElem?_toArray,List.getElem?_cons_zero,List.getElem?_cons_succ,Option.map_some]; refine congrArg some ?_; go_simp))
    rintro e R2 ⟨rfl,hR2⟩
    replace hR:=hR.trans (hR2.mono hR.size)
    clear hHeld hS1
    have hS1 : (R2.cell? ⟨gU,0,none⟩ = some (.int .i64 U1) ∧ R2.cell? ⟨gU,1,none⟩ = some (.int .i64 U2) ∧ R2.cell? ⟨gU,2,none⟩ = some (.int .i64 U3)) ∧ (R2.cell? ⟨gX,0,none⟩ = some (.int .i64 X1) ∧ R2.cell? ⟨gX,1,none⟩ = some (.int .i64 X2) ∧ R2.cell? ⟨gX,2,none⟩ = some (.int .i64 X3)) ∧ (R2.cell? ⟨V1.heap.size,0,none⟩ = some (.int .i64 D1) ∧ R2.cell? ⟨V1.heap.size,1,none⟩ = some (.int .i64 D2) ∧ R2.cell? ⟨V1.heap.size,2,none⟩ = some (.int .i64 D3)):=⟨⟨(hR.cell (p:=⟨gU,0,none⟩) kU.lt).trans qU0,(hR.cell (p:=⟨gU,1,none⟩) kU.lt).trans qU1,(hR.cell (p:=⟨gU,2,none⟩) kU.lt).trans qU2⟩,⟨(hR.cell (p:=⟨gX,0,none⟩) kX.lt).trans qX0,(hR.cell (p:=⟨gX,1,none⟩) kX.lt).trans qX1,(hR.cell (p:=⟨gX,2,none⟩) kX.lt).trans qX2⟩,⟨(hR.cell (p:=⟨V1.heap.size,0,none⟩) kD.lt).trans qD0,(hR.cell (p:=⟨V1.heap.size,1,none⟩) kD.lt).trans qD1,(hR.cell (p:=⟨V1.heap.size,2,none⟩) kD.lt).trans qD2⟩⟩
    refine ⟨_,rfl,hS1,fun hHeld=>?_⟩
    (try simp only [Act.put,List.setIfInBounds_toArray,List.set_cons_zero,List.set_cons_succ])
    refine tk 11 60 ?_
    refine sk 12 61 ?_
    refine sk 13 62 ?_
    refine sk 14 63 ?_
    refine tk 15 64 ?_
    refine held_one 8 ⟨some 57, .buildSlice 77 2 #[(0, .tmp 53),(1, .tmp 56)],77,_,_,none⟩ rfl (by kernel_rfl) (by rfl) ?_
    have lU : gU < R2.heap.size:=Nat.lt_of_lt_of_le kU.lt hR.size
    have lX : gX < R2.heap.size:=Nat.lt_of_lt_of_le kX.lt hR.size
    have lD : V1.heap.size < R2.heap.size:=Nat.lt_of_lt_of_le kD.lt hR.size
    have yU0:=(hR.cell (p:=⟨gU,0,none⟩) kU.lt).trans qU0
    have yU1:=(hR.cell (p:=⟨gU,1,none⟩) kU.lt).trans qU1
    have yU2:=(hR.cell (p:=⟨gU,2,none⟩) kU.lt).trans qU2
    have yX0:=(hR.cell (p:=⟨gX,0,none⟩) kX.lt).trans qX0
    have yX1:=(hR.cell (p:=⟨gX,1,none⟩) kX.lt).trans qX1
    have yX2:=(hR.cell (p:=⟨gX,2,none⟩) kX.lt).trans qX2
    have yD0:=(hR.cell (p:=⟨V1.heap.size,0,none⟩) kD.lt).trans qD0
    have yD1:=(hR.cell (p:=⟨V1.heap.size,1,none⟩) kD.lt).trans qD1
    have yD2:=(hR.cell (p:=⟨V1.heap.size,2,none⟩) kD.lt).trans qD2
    unfold Oper.wp
    go_simp
    have hR3 : Below V2.heap.size V2 (R2.alloc (.cells #[.int .i64 (nn - ux), .int .i64 ux] 3)):=hR.alloc hR.size _
    clear hHeld hS1
    have hHeld : ((R2.alloc (.cells #[.int .i64 (nn - ux), .int .i64 ux] 3)).cell? ⟨gU,0,none⟩ = some (.int .i64 U1) ∧ (R2.alloc (.cells #[.int .i64 (nn - ux), .int .i64 ux] 3)).cell? ⟨gU,1,none⟩ = some (.int .i64 U2) ∧ (R2.alloc (.cells #[.int .i64 (nn - ux), .int .i64 ux] 3)).cell? ⟨gU,2,none⟩ = some (.int .i64 U3)) ∧ ((R2.alloc (.cells #[.int .i64 (nn - ux), .int .i64 ux] 3)).cell? ⟨gX,0,none⟩ = some (.int .i64 X1) ∧ (R2.alloc (.cells #[.int .i64 (nn - ux), .int .i64 ux] 3)).cell? ⟨gX,1,none⟩ = some (.int .i64 X2) ∧ (R2.alloc (.cells #[.int .i64 (nn - ux), .int .i64 ux] 3)).cell? ⟨gX,2,none⟩ = some (.int .i64 X3)) ∧ ((R2.alloc (.cells #[.int .i64 (nn - ux), .int .i64 ux] 3)).cell? ⟨V1.heap.size,0,none⟩ = some (.int .i64 D1) ∧ (R2.alloc (.cells #[.int .i64 (nn - ux), .int .i64 ux] 3)).cell? ⟨V1.heap.size,1,none⟩ = some (.int .i64 D2) ∧ (R2.alloc (.cells #[.int .i64 (nn - ux), .int .i64 ux] 3)).cell? ⟨V1.heap.size,2,none⟩ = some (.int .i64 D3)):=⟨⟨(hR3.cell (p:=⟨gU,0,none⟩) kU.lt).trans qU0,(hR3.cell (p:=⟨gU,1,none⟩) kU.lt).trans qU1,(hR3.cell (p:=⟨gU,2,none⟩) kU.lt).trans qU2⟩,⟨(hR3.cell (p:=⟨gX,0,none⟩) kX.lt).trans qX0,(hR3.cell (p:=⟨gX,1,none⟩) kX.lt).trans qX1,(hR3.cell (p:=⟨gX,2,none⟩) kX.lt).trans qX2⟩,⟨(hR3.cell (p:=⟨V1.heap.size,0,none⟩) kD.lt).trans qD0,(hR3.cell (p:=⟨V1.heap.size,1,none⟩) kD.lt).trans qD1,(hR3.cell (p:=⟨V1.heap.size,2,none⟩) kD.lt).trans qD2⟩⟩
    (try simp only [Act.put,List.setIfInBounds_toArray,List.set_cons_zero,List.set_cons_succ])
    refine tk 16 4 ?_
    refine tk 17 5 ?_
    refine wpAnyH_done (by kernel_rfl) ?_ _
    clear hHeld
    go_wp2
    go_ret2
    refine w_end (l:=[nn - ux,ux]) ?_ rfl (Lies.fresh rfl (by simp) (by simp) rfl) (by omega) (by omega) (by first | exact hB.trans (hR3.mono hB.size) | exact (hB.trans (hR3.mono hB.size)).drew)
    rw [HE.out,if_neg (fun h=>by omega)]; simp [hn]
end Go.Proofs.Ytkjceegmmhnajaa
