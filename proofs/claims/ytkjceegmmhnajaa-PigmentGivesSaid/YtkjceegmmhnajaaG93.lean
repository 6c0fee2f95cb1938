/- pigment.slopes of three differences,and of any. Printed by wip/gen_sl3.py. -/
import Derived.Test.YtkjceegmmhnajaaG62
import Derived.Test.YtkjceegmmhnajaaG92

set_option linter.unusedVariables false
set_option linter.unusedSimpArgs false

namespace Go.Proofs.Ytkjceegmmhnajaa
open Go.RowKit

set_option maxRecDepth 100000 in
set_option maxHeartbeats 40000000 in
theorem slopes3 (dv fv gv : Vc) (p q r : Int) (ad bp : Addr) (c d : Nat) (w : World) (h0 : vecAt w ad dv) (h3 : vecAt w ⟨ad.block,ad.off + 3,none⟩ fv) (h6 : vecAt w ⟨ad.block,ad.off + 6,none⟩ gv) (hb : ad.block < w.heap.size) (hp : w.cell? bp = some (.int .i64 p)) (hq : w.cell? ⟨bp.block,bp.off + 1,none⟩ = some (.int .i64 q)) (hr : w.cell? ⟨bp.block,bp.off + 2,none⟩ = some (.int .i64 r)) (hbp : bp.block < w.heap.size)
  (bd : vb 1000 dv.x dv.y dv.z) (bf : vb 1000 fv.x fv.y fv.z) (bg : vb 1000 gv.x gv.y gv.z) (bp_ : ab 10000 p) (bq : ab 10000 q) (br : ab 10000 r) : Calls Try.prog 76 #[.slice (some ad) 3 c, .slice (some bp) 3 d] w (SlE (slpC [dv,fv,gv] [p,q,r]) w):=by
 obtain ⟨d1,d2,d3⟩:=dv
 obtain ⟨f1,f2,f3⟩:=fv
 obtain ⟨g1,g2,g3⟩:=gv
 obtain ⟨q0,q1,q2⟩:=h0
 obtain ⟨q3,q4,q5⟩:=h3
 obtain ⟨q6,q7,q8⟩:=h6
 obtain ⟨bd1,bd2,bd3⟩:=bd
 obtain ⟨bf1,bf2,bf3⟩:=bf
 obtain ⟨bg1,bg2,bg3⟩:=bg
 dsimp only at *
 obtain ⟨c01,c02,c03,HC0,bC0,CC0⟩:=pcrs (show vb 10000 p d2 d3 from ⟨(ab_mono bp_ (by omega)),(ab_mono bd2 (by omega)),(ab_mono bd3 (by omega))⟩) (show vb 10000 q f2 f3 from ⟨(ab_mono bq (by omega)),(ab_mono bf2 (by omega)),(ab_mono bf3 (by omega))⟩) (by omega)
 obtain ⟨o0,HO0,bO0,CO0⟩:=pdot bC0 (show vb 10000 r g2 g3 from ⟨(ab_mono br (by omega)),(ab_mono bg2 (by omega)),(ab_mono bg3 (by omega))⟩) (by omega)
 obtain ⟨c11,c12,c13,HC1,bC1,CC1⟩:=pcrs (show vb 10000 d1 p d3 from ⟨(ab_mono bd1 (by omega)),(ab_mono bp_ (by omega)),(ab_mono bd3 (by omega))⟩) (show vb 10000 f1 q f3 from ⟨(ab_mono bf1 (by omega)),(ab_mono bq (by omega)),(ab_mono bf3 (by omega))⟩) (by omega)
 obtain ⟨o1,HO1,bO1,CO1⟩:=pdot bC1 (show vb 10000 g1 r g3 from ⟨(ab_mono bg1 (by omega)),(ab_mono br (by omega)),(ab_mono bg3 (by omega))⟩) (by omega)
 obtain ⟨c21,c22,c23,HC2,bC2,CC2⟩:=pcrs (show vb 10000 d1 d2 p from ⟨(ab_mono bd1 (by omega)),(ab_mono bd2 (by omega)),(ab_mono bp_ (by omega))⟩) (show vb 10000 f1 f2 q from ⟨(ab_mono bf1 (by omega)),(ab_mono bf2 (by omega)),(ab_mono bq (by omega))⟩) (by omega)
 obtain ⟨o2,HO2,bO2,CO2⟩:=pdot bC2 (show vb 10000 g1 g2 r from ⟨(ab_mono bg1 (by omega)),(ab_mono bg2 (by omega)),(ab_mono br (by omega))⟩) (by omega)
 obtain ⟨m1,m2,m3,HM,bM,CM⟩:=pcrs (show vb 1000 d1 d2 d3 from ⟨(ab_mono bd1 (by omega)),(ab_mono bd2 (by omega)),(ab_mono bd3 (by omega))⟩) (show vb 1000 f1 f2 f3 from ⟨(ab_mono bf1 (by omega)),(ab_mono bf2 (by omega)),(ab_mono bf3 (by omega))⟩) (by omega)
 obtain ⟨de,HDE,bDE,CDE⟩:=pdot bM (show vb 1000 g1 g2 g3 from ⟨(ab_mono bg1 (by omega)),(ab_mono bg2 (by omega)),(ab_mono bg3 (by omega))⟩) (by omega)
 have HE : Hid (slpC [⟨d1,d2,d3⟩,⟨f1,f2,f3⟩,⟨g1,g2,g3⟩] [p,q,r] = if de ≠ 0 then some (⟨o0,o1,o2⟩,de) else none):=by
  show _ = _
  have e0:=HO0.out; rw [HC0.out.1,HC0.out.2.1,HC0.out.2.2] at e0
  have e1:=HO1.out; rw [HC1.out.1,HC1.out.2.1,HC1.out.2.2] at e1
  have e2:=HO2.out; rw [HC2.out.1,HC2.out.2.1,HC2.out.2.2] at e2
  have e3:=HDE.out; rw [HM.out.1,HM.out.2.1,HM.out.2.2] at e3
  rw [e0,e1,e2,e3]; rfl
 have HS : Hid (∀ V,Below w.heap.size w V → V.cell? ad = some (.int .i64 d1) ∧ V.cell? ⟨ad.block,ad.off + 1,none⟩ = some (.int .i64 d2) ∧ V.cell? ⟨ad.block,ad.off + 2,none⟩ = some (.int .i64 d3) ∧ V.cell? ⟨ad.block,ad.off + 3,none⟩ = some (.int .i64 f1) ∧ V.cell? ⟨ad.block,ad.off + 3 + 1,none⟩ = some (.int .i64 f2) ∧ V.cell? ⟨ad.block,ad.off + 3 + 2,none⟩ = some (.int .i64 f3) ∧ V.cell? ⟨ad.block,ad.off + 6,none⟩ = some (.int .i64 g1) ∧ V.cell? ⟨ad.block,ad.off + 6 + 1,none⟩ = some (.int .i64 g2) ∧ V.cell? ⟨ad.block,ad.off + 6 + 2,none⟩ = some (.int .i64 g3) ∧ V.cell? bp = some (.int .i64 p) ∧ V.cell? ⟨bp.block,bp.off + 1,none⟩ = some (.int .i64 q) ∧ V.cell? ⟨bp.block,bp.off + 2,none⟩ = some (.int .i64 r)):=fun V hV=>⟨(hV.cell hb).trans q0,(hV.cell (p:=⟨ad.block,ad.off + 1,none⟩) hb).trans q1,(hV.cell (p:=⟨ad.block,ad.off + 2,none⟩) hb).trans q2,(hV.cell (p:=⟨ad.block,ad.off + 3,none⟩) hb).trans q3,(hV.cell (p:=⟨ad.block,ad.off + 3 + 1,none⟩) hb).trans q4,(hV.cell (p:=⟨ad.block,ad.off + 3 + 2,none⟩) hb).trans q5,(hV.cell (p:=⟨ad.block,ad.off + 6,none⟩) hb).trans q6,(hV.cell (p:=⟨ad.block,ad.off + 6 + 1,none⟩) hb).trans q7,(hV.cell (p:=⟨ad.block,ad.off + 6 + 2,none⟩) hb).trans q8,(hV.cell hbp).trans hp,(hV.cell (p:=⟨bp.block,bp.off + 1,none⟩) hbp).trans hq,(hV.cell (p:=⟨bp.block,bp.off + 2,none⟩) hbp).trans hr⟩
 clear q0 q1 q2 q3 q4 q5 q6 q7 q8 hp hq hr bd1 bd2 bd3 bf1 bf2 bf3 bg1 bg2 bg3 bp_ bq br
 have k1 : Bk ((w.alloc (.cells (vcA 0 0 0) 84)).alloc (.cells (vcA 0 0 0) 84)) w.heap.size 84 (vcA 0 0 0):=(Bk.new _ _ _).alloc _
 have k2 : Bk ((w.alloc (.cells (vcA 0 0 0) 84)).alloc (.cells (vcA 0 0 0) 84)) (w.heap.size + 1) 84 (vcA 0 0 0):=by simpa using Bk.new (w.alloc (.cells (vcA 0 0 0) 84)) 84 (vcA 0 0 0)
 have hb2 : Below w.heap.size w ((w.alloc (.cells (vcA 0 0 0) 84)).alloc (.cells (vcA 0 0 0) 84)):=by exact (by repeat (first | with_reducible exact Below.refl _ _ | with_reducible assumption | with_reducible refine Below.drew ?_ | with_reducible refine below_drewN ?_ _ | (with_reducible refine Below.alloc ?_ ?_ _; rotate_left; (try simp) <;> omega) | (with_reducible refine Below.setCell ?_ ?_ _; rotate_left; (try simp) <;> omega)))
 obtain ⟨v0,hv0⟩ : ∃ v,v = (w.alloc (.cells (vcA 0 0 0) 84)).alloc (.cells (vcA 0 0 0) 84):=⟨_,rfl⟩
 rw [← hv0] at k1 k2 hb2
 go_enter Try.func76,Try.ntmps76
 go_upto_region 3 with fail
 rw [← hv0]
 clear hv0
 have kb:=k1
 have kn:=k2
 have hB:=hb2
 clear k1 k2 hb2
 go_upto_region 23 with fail
 refine wp_region_held_drew (S:=fun V=>V.cell? ad = some (.int .i64 d1) ∧ V.cell? ⟨ad.block,ad.off + 1,none⟩ = some (.int .i64 d2) ∧ V.cell? ⟨ad.block,ad.off + 2,none⟩ = some (.int .i64 d3) ∧ V.cell? ⟨ad.block,ad.off + 3,none⟩ = some (.int .i64 f1) ∧ V.cell? ⟨ad.block,ad.off + 3 + 1,none⟩ = some (.int .i64 f2) ∧ V.cell? ⟨ad.block,ad.off + 3 + 2,none⟩ = some (.int .i64 f3) ∧ V.cell? ⟨ad.block,ad.off + 6,none⟩ = some (.int .i64 g1) ∧ V.cell? ⟨ad.block,ad.off + 6 + 1,none⟩ = some (.int .i64 g2) ∧ V.cell? ⟨ad.block,ad.off + 6 + 2,none⟩ = some (.int .i64 g3)) (by kernel_rfl) (by have:=HS.out _ hB.drew; exact ⟨this.1,this.2.1,this.2.2.1,this.2.2.2.1,this.2.2.2.2.1,this.2.2.2.2.2.1,this.2.2.2.2.2.2.1,this.2.2.2.2.2.2.2.1,this.2.2.2.2.2.2.2.2.1⟩) (fun hHeld=>?_)
 replace kb:=kb.drew
 replace kn:=kn.drew
 replace hB:=hB.drew
 generalize v0.drew = v1 at *
 refine tk 0 129 ?_
 refine tk 1 130 ?_
 refine tk 2 131 ?_
 refine tk 3 132 ?_
 refine tk 4 133 ?_
 refine tk 5 134 ?_
 refine tk 7 136 ?_
 refine tk 8 137 ?_
 refine tk 9 138 ?_
 (refine held_call 6 (some 135) 82 _ rfl (by kernel_rfl) (by rfl) ?_ ((CM.out _)) ?_; rotate_left; rotate_left; (simp only [List.getElem?_toArray,List.getElem?_cons_zero,List.getElem?_cons_succ,Option.map_some]; refine congrArg some ?_; go_simp))
 rintro e v2 ⟨rfl,hb2⟩
 replace kb:=kb.below hb2 kb.lt
 replace kn:=kn.below hb2 kn.lt
 replace hB:=hB.trans (hb2.mono hB.size)
 clear hHeld hb2
 have hS9:=HS.out _ hB
 refine ⟨_,rfl,⟨hS9.1,hS9.2.1,hS9.2.2.1,hS9.2.2.2.1,hS9.2.2.2.2.1,hS9.2.2.2.2.2.1,hS9.2.2.2.2.2.2.1,hS9.2.2.2.2.2.2.2.1,hS9.2.2.2.2.2.2.2.2.1⟩,fun hHeld=>?_⟩
 (try simp only [Act.put,List.setIfInBounds_toArray,List.set_cons_zero,List.set_cons_succ])
 (refine held_call 10 (some 139) 46 _ rfl (by kernel_rfl) (by rfl) ?_ ((CDE.out _)) ?_; rotate_left; rotate_left; (simp only [List.getElem?_toArray,List.getElem?_cons_zero,List.getElem?_cons_succ,Option.map_some]; refine congrArg some ?_; go_simp))
 rintro e v3 ⟨rfl,hb2⟩
 replace kb:=kb.below hb2 kb.lt
 replace kn:=kn.below hb2 kn.lt
 replace hB:=hB.trans (hb2.mono hB.size)
 clear hHeld hb2 hS9
 have hS9:=HS.out _ hB
 refine ⟨_,rfl,⟨hS9.1,hS9.2.1,hS9.2.2.1,hS9.2.2.2.1,hS9.2.2.2.2.1,hS9.2.2.2.2.2.1,hS9.2.2.2.2.2.2.1,hS9.2.2.2.2.2.2.2.1,hS9.2.2.2.2.2.2.2.2.1⟩,fun hHeld=>?_⟩
 (try simp only [Act.put,List.setIfInBounds_toArray,List.set_cons_zero,List.set_cons_succ])
 refine tk 11 14 ?_
 refine wpAnyH_done (by kernel_rfl) ?_ _
 clear hHeld hS9
 go_wp2
 refine wp_loop_rounds 4 ?_
 refine (show Code.rounds _ _ _ (3 + 1) _ _ from ?_)
 rw [rounds_succ]
 go_upto_region 27 with fail
 refine wp_region_held_drew (S:=fun V=>V.cell? ad = some (.int .i64 d1) ∧ V.cell? ⟨ad.block,ad.off + 1,none⟩ = some (.int .i64 d2) ∧ V.cell? ⟨ad.block,ad.off + 2,none⟩ = some (.int .i64 d3) ∧ V.cell? ⟨ad.block,ad.off + 3,none⟩ = some (.int .i64 f1) ∧ V.cell? ⟨ad.block,ad.off + 3 + 1,none⟩ = some (.int .i64 f2) ∧ V.cell? ⟨ad.block,ad.off + 3 + 2,none⟩ = some (.int .i64 f3) ∧ V.cell? ⟨ad.block,ad.off + 6,none⟩ = some (.int .i64 g1) ∧ V.cell? ⟨ad.block,ad.off + 6 + 1,none⟩ = some (.int .i64 g2) ∧ V.cell? ⟨ad.block,ad.off + 6 + 2,none⟩ = some (.int .i64 g3)) (by kernel_rfl) (by have:=HS.out _ hB.drew; exact ⟨this.1,this.2.1,this.2.2.1,this.2.2.2.1,this.2.2.2.2.1,this.2.2.2.2.2.1,this.2.2.2.2.2.2.1,this.2.2.2.2.2.2.2.1,this.2.2.2.2.2.2.2.2.1⟩) (fun hHeld=>?_)
 replace kb:=kb.drew
 replace kn:=kn.drew
 replace hB:=hB.drew
 generalize v3.drew = a0 at *
 refine tk 0 143 ?_
 refine tk 1 144 ?_
 refine tk 2 145 ?_
 refine tk 3 146 ?_
 refine tk 4 147 ?_
 refine tk 5 148 ?_
 refine tk 6 149 ?_
 refine tk 7 150 ?_
 refine tk 8 151 ?_
 refine tk 9 152 ?_
 refine new_laid (Z:=#[.int .i64 0, .int .i64 0, .int .i64 0, .int .i64 0, .int .i64 0, .int .i64 0, .int .i64 0, .int .i64 0, .int .i64 0]) (R:=#[.int .i64 d1, .int .i64 d2, .int .i64 d3, .int .i64 f1, .int .i64 f2, .int .i64 f3, .int .i64 g1, .int .i64 g2, .int .i64 g3]) (ty:=125) 10 11 16 ⟨_,rfl,rfl,rfl,?al0⟩ ⟨_,rfl,rfl,rfl,?st0⟩ (by kernel_rfl) (by kernel_rfl) (by kernel_rfl) ?hS0 ?hK0
 case al0=>exact fun a w=>by go_simp; (try rfl)
 case st0 =>
  intro w g hg
  have t0:=hg.cell 0 rfl
  have r0:=hg.fro 0
  have t1:=hg.cell 1 rfl
  have r1:=hg.fro 1
  have t2:=hg.cell 2 rfl
  have r2:=hg.fro 2
  have t3:=hg.cell 3 rfl
  have r3:=hg.fro 3
  have t4:=hg.cell 4 rfl
  have r4:=hg.fro 4
  have t5:=hg.cell 5 rfl
  have r5:=hg.fro 5
  have t6:=hg.cell 6 rfl
  have r6:=hg.fro 6
  have t7:=hg.cell 7 rfl
  have r7:=hg.fro 7
  have t8:=hg.cell 8 rfl
  have r8:=hg.fro 8
  refine ⟨_,?_,(((((((((hg.set 0 _).set 1 _).set 2 _).set 3 _).set 4 _).set 5 _).set 6 _).set 7 _).set 8 _),fun B v hB hb=>(((((((((hb.setCell (p:=⟨g,0,none⟩) hB _).setCell (p:=⟨g,1,none⟩) hB _).setCell (p:=⟨g,2,none⟩) hB _).setCell (p:=⟨g,3,none⟩) hB _).setCell (p:=⟨g,4,none⟩) hB _).setCell (p:=⟨g,5,none⟩) hB _).setCell (p:=⟨g,6,none⟩) hB _).setCell (p:=⟨g,7,none⟩) hB _).setCell (p:=⟨g,8,none⟩) hB _)⟩
  simp only [List.setIfInBounds_toArray,List.set_cons_zero,List.set_cons_succ]
  go_simp
 case hS0 =>
  intro V hV
  have:=HS.out _ (hB.trans (hV.mono hB.size))
  exact ⟨this.1,this.2.1,this.2.2.1,this.2.2.2.1,this.2.2.2.2.1,this.2.2.2.2.2.1,this.2.2.2.2.2.2.1,this.2.2.2.2.2.2.2.1,this.2.2.2.2.2.2.2.2.1⟩
 intro gE0 b0 hbb hge kE
 (try simp only [Act.put,List.setIfInBounds_toArray,List.set_cons_zero,List.set_cons_succ])
 have hgE : w.heap.size + 1 < gE0:=by have:=kn.lt; omega
 replace kb:=kb.below hbb kb.lt
 replace kn:=kn.below hbb kn.lt
 replace hB:=hB.trans (hbb.mono hB.size)
 clear hHeld hbb hge
 go_wp2
 refine wp_loop_rounds 4 ?_
 refine (show Code.rounds _ _ _ (3 + 1) _ _ from ?_)
 rw [rounds_succ]
 go_upto_region 31 with fail
 refine wp_region_held_drew (S:=fun _=>True) (by kernel_rfl) trivial (fun hHeld=>?_)
 replace kb:=kb.drew
 replace kn:=kn.drew
 replace kE:=kE.drew
 replace hB:=hB.drew
 generalize b0.drew = x00 at *
 refine tk 0 156 ?_
 refine tk 1 157 ?_
 refine tk 2 158 ?_
 refine tk 3 159 ?_
 refine tk 4 160 ?_
 refine tk 6 162 ?_
 refine quiet_laid (cs:=[⟨5,161, .int .i64 p,[]⟩,⟨7,163, .pointer (some ⟨gE0,0,none⟩),[]⟩]) (s:=8) (ds:=[161,163]) (B:=x00.heap.size) (Fin:=fun V=>Below w.heap.size w V ∧ (Bk V w.heap.size 84 (vcA 0 0 0) ∧ (Bk V (w.heap.size + 1) 84 (vcA 0 0 0) ∧ Bk V gE0 125 #[.int .i64 p, .int .i64 d2, .int .i64 d3, .int .i64 f1, .int .i64 f2, .int .i64 f3, .int .i64 g1, .int .i64 g2, .int .i64 g3]))) (by kernel_rfl) (by simp [left]) (Nat.le_refl _) ?hq00 (fun _ _=>trivial) (fun h=>absurd h (by decide)) ?hs00 ?hQ00
 case hq00 =>
  intro q hq
  simp only [List.mem_cons,List.not_mem_nil,or_false] at hq
  rcases hq with rfl | rfl
  ·refine ⟨by simp,_,rfl,rfl,rfl,by kernel_rfl,fun V w hb hd=>.inl ?_⟩
   have hc:=(HS.out _ (hB.trans (hb.mono hB.size))).2.2.2.2.2.2.2.2.2.1
   simp only [canon,List.foldl_cons,List.foldl_nil,List.setIfInBounds_toArray,List.set_cons_zero,List.set_cons_succ]
   go_simp
  ·refine ⟨by simp,_,rfl,rfl,rfl,by kernel_rfl,fun V w hb hd=>.inl ?_⟩
   simp only [canon,List.foldl_cons,List.foldl_nil,List.setIfInBounds_toArray,List.set_cons_zero,List.set_cons_succ]
   go_simp
 case hs00 =>
  intro o ho
  cases ho
  refine ⟨rfl,rfl,by kernel_rfl,fun V w' hb hd=>?_⟩
  have e5 : V 161 = .int .i64 p:=hd ⟨5,161,_,[]⟩ (by simp)
  have e7 : V 163 = .pointer (some ⟨gE0,0,none⟩):=hd ⟨7,163,_,[]⟩ (by simp)
  have f:=kE.below hb kE.lt
  have f3:=f.cell 0 rfl
  have r3:=f.fro 0
  refine ⟨_,_,?_, .inl rfl,trivial,(hB.trans (hb.mono hB.size)).setCell (p:=⟨gE0,0,none⟩) (by simp; omega) _,(kb.below hb kb.lt).far (p:=⟨gE0,0,none⟩) (by show w.heap.size ≠ gE0; omega) _,(kn.below hb kn.lt).far (p:=⟨gE0,0,none⟩) (by show w.heap.size + 1 ≠ gE0; omega) _,f.set 0 _⟩
  simp only [canon,List.foldl_cons,List.foldl_nil,List.setIfInBounds_toArray,List.set_cons_zero,List.set_cons_succ]
  go_simp
 intro V e00 hV hrest hF
 have q5 : V 161 = .int .i64 p:=hV ⟨5,161,_,[]⟩ (by simp)
 have q7 : V 163 = .pointer (some ⟨gE0,0,none⟩):=hV ⟨7,163,_,[]⟩ (by simp)
 simp only [canon,List.foldl_cons,List.foldl_nil,List.setIfInBounds_toArray,List.set_cons_zero,List.set_cons_succ]
 rw [q5,q7]
 clear hHeld hV hrest hB kb kn kE q5 q7
 obtain ⟨hB,kb,kn,kE⟩:=hF
 go_wp2
 refine (show Code.rounds _ _ _ (2 + 1) _ _ from ?_)
 rw [rounds_succ]
 go_upto_region 31 with fail
 refine wp_region_held_drew (S:=fun _=>True) (by kernel_rfl) trivial (fun hHeld=>?_)
 replace kb:=kb.drew
 replace kn:=kn.drew
 replace kE:=kE.drew
 replace hB:=hB.drew
 generalize e00.drew = x01 at *
 refine tk 0 156 ?_
 refine tk 1 157 ?_
 refine tk 2 158 ?_
 refine tk 3 159 ?_
 refine tk 4 160 ?_
 refine tk 6 162 ?_
 refine quiet_laid (cs:=[⟨5,161, .int .i64 q,[]⟩,⟨7,163, .pointer (some ⟨gE0,3,none⟩),[]⟩]) (s:=8) (ds:=[161,163]) (B:=x01.heap.size) (Fin:=fun V=>Below w.heap.size w V ∧ (Bk V w.heap.size 84 (vcA 0 0 0) ∧ (Bk V (w.heap.size + 1) 84 (vcA 0 0 0) ∧ Bk V gE0 125 #[.int .i64 p, .int .i64 d2, .int .i64 d3, .int .i64 q, .int .i64 f2, .int .i64 f3, .int .i64 g1, .int .i64 g2, .int .i64 g3]))) (by kernel_rfl) (by simp [left]) (Nat.le_refl _) ?hq01 (fun _ _=>trivial) (fun h=>absurd h (by decide)) ?hs01 ?hQ01
 case hq01 =>
  intro q hq
  simp only [List.mem_cons,List.not_mem_nil,or_false] at hq
  rcases hq with rfl | rfl
  ·refine ⟨by simp,_,rfl,rfl,rfl,by kernel_rfl,fun V w hb hd=>.inl ?_⟩
   have hc:=(HS.out _ (hB.trans (hb.mono hB.size))).2.2.2.2.2.2.2.2.2.2.1
   simp only [canon,List.foldl_cons,List.foldl_nil,List.setIfInBounds_toArray,List.set_cons_zero,List.set_cons_succ]
   go_simp
  ·refine ⟨by simp,_,rfl,rfl,rfl,by kernel_rfl,fun V w hb hd=>.inl ?_⟩
   simp only [canon,List.foldl_cons,List.foldl_nil,List.setIfInBounds_toArray,List.set_cons_zero,List.set_cons_succ]
   go_simp
 case hs01 =>
  intro o ho
  cases ho
  refine ⟨rfl,rfl,by kernel_rfl,fun V w' hb hd=>?_⟩
  have e5 : V 161 = .int .i64 q:=hd ⟨5,161,_,[]⟩ (by simp)
  have e7 : V 163 = .pointer (some ⟨gE0,3,none⟩):=hd ⟨7,163,_,[]⟩ (by simp)
  have f:=kE.below hb kE.lt
  have f3:=f.cell 3 rfl
  have r3:=f.fro 3
  refine ⟨_,_,?_, .inl rfl,trivial,(hB.trans (hb.mono hB.size)).setCell (p:=⟨gE0,3,none⟩) (by simp; omega) _,(kb.below hb kb.lt).far (p:=⟨gE0,3,none⟩) (by show w.heap.size ≠ gE0; omega) _,(kn.below hb kn.lt).far (p:=⟨gE0,3,none⟩) (by show w.heap.size + 1 ≠ gE0; omega) _,f.set 3 _⟩
  simp only [canon,List.foldl_cons,List.foldl_nil,List.setIfInBounds_toArray,List.set_cons_zero,List.set_cons_succ]
  go_simp
 intro V e01 hV hrest hF
 have q5 : V 161 = .int .i64 q:=hV ⟨5,161,_,[]⟩ (by simp)
 have q7 : V 163 = .pointer (some ⟨gE0,3,none⟩):=hV ⟨7,163,_,[]⟩ (by simp)
 simp only [canon,List.foldl_cons,List.foldl_nil,List.setIfInBounds_toArray,List.set_cons_zero,List.set_cons_succ]
 rw [q5,q7]
 clear hHeld hV hrest hB kb kn kE q5 q7
 obtain ⟨hB,kb,kn,kE⟩:=hF
 go_wp2
 refine (show Code.rounds _ _ _ (1 + 1) _ _ from ?_)
 rw [rounds_succ]
 go_upto_region 31 with fail
 refine wp_region_held_drew (S:=fun _=>True) (by kernel_rfl) trivial (fun hHeld=>?_)
 replace kb:=kb.drew
 replace kn:=kn.drew
 replace kE:=kE.drew
 replace hB:=hB.drew
 generalize e01.drew = x02 at *
 refine tk 0 156 ?_
 refine tk 1 157 ?_
 refine tk 2 158 ?_
 refine tk 3 159 ?_
 refine tk 4 160 ?_
 refine tk 6 162 ?_
 refine quiet_laid (cs:=[⟨5,161, .int .i64 r,[]⟩,⟨7,163, .pointer (some ⟨gE0,6,none⟩),[]⟩]) (s:=8) (ds:=[161,163]) (B:=x02.heap.size) (Fin:=fun V=>Below w.heap.size w V ∧ (Bk V w.heap.size 84 (vcA 0 0 0) ∧ (Bk V (w.heap.size + 1) 84 (vcA 0 0 0) ∧ Bk V gE0 125 #[.int .i64 p, .int .i64 d2, .int .i64 d3, .int .i64 q, .int .i64 f2, .int .i64 f3, .int .i64 r, .int .i64 g2, .int .i64 g3]))) (by kernel_rfl) (by simp [left]) (Nat.le_refl _) ?hq02 (fun _ _=>trivial) (fun h=>absurd h (by decide)) ?hs02 ?hQ02
 case hq02 =>
  intro q hq
  simp only [List.mem_cons,List.not_mem_nil,or_false] at hq
  rcases hq with rfl | rfl
  ·refine ⟨by simp,_,rfl,rfl,rfl,by kernel_rfl,fun V w hb hd=>.inl ?_⟩
   have hc:=(HS.out _ (hB.trans (hb.mono hB.size))).2.2.2.2.2.2.2.2.2.2.2
   simp only [canon,List.foldl_cons,List.foldl_nil,List.setIfInBounds_toArray,List.set_cons_zero,List.set_cons_succ]
   go_simp
  ·refine ⟨by simp,_,rfl,rfl,rfl,by kernel_rfl,fun V w hb hd=>.inl ?_⟩
   simp only [canon,List.foldl_cons,List.foldl_nil,List.setIfInBounds_toArray,List.set_cons_zero,List.set_cons_succ]
   go_simp
 case hs02 =>
  intro o ho
  cases ho
  refine ⟨rfl,rfl,by kernel_rfl,fun V w' hb hd=>?_⟩
  have e5 : V 161 = .int .i64 r:=hd ⟨5,161,_,[]⟩ (by simp)
  have e7 : V 163 = .pointer (some ⟨gE0,6,none⟩):=hd ⟨7,163,_,[]⟩ (by simp)
  have f:=kE.below hb kE.lt
  have f3:=f.cell 6 rfl
  have r3:=f.fro 6
  refine ⟨_,_,?_, .inl rfl,trivial,(hB.trans (hb.mono hB.size)).setCell (p:=⟨gE0,6,none⟩) (by simp; omega) _,(kb.below hb kb.lt).far (p:=⟨gE0,6,none⟩) (by show w.heap.size ≠ gE0; omega) _,(kn.below hb kn.lt).far (p:=⟨gE0,6,none⟩) (by show w.heap.size + 1 ≠ gE0; omega) _,f.set 6 _⟩
  simp only [canon,List.foldl_cons,List.foldl_nil,List.setIfInBounds_toArray,List.set_cons_zero,List.set_cons_succ]
  go_simp
 intro V e02 hV hrest hF
 have q5 : V 161 = .int .i64 r:=hV ⟨5,161,_,[]⟩ (by simp)
 have q7 : V 163 = .pointer (some ⟨gE0,6,none⟩):=hV ⟨7,163,_,[]⟩ (by simp)
 simp only [canon,List.foldl_cons,List.foldl_nil,List.setIfInBounds_toArray,List.set_cons_zero,List.set_cons_succ]
 rw [q5,q7]
 clear hHeld hV hrest hB kb kn kE q5 q7
 obtain ⟨hB,kb,kn,kE⟩:=hF
 go_wp2
 refine (show Code.rounds _ _ _ (0 + 1) _ _ from ?_)
 rw [rounds_succ]
 go_upto_region 33 with fail
 refine wp_region_held_drew (S:=fun _=>True) (by kernel_rfl) trivial (fun hHeld=>?_)
 replace kb:=kb.drew
 replace kn:=kn.drew
 replace kE:=kE.drew
 replace hB:=hB.drew
 generalize e02.drew = y0 at *
 refine tk 0 165 ?_
 refine tk 1 166 ?_
 refine tk 3 168 ?_
 refine tk 6 171 ?_
 refine quiet_laid (cs:=[⟨2,167, .agg #[.int .i64 p, .int .i64 d2, .int .i64 d3],[]⟩,⟨4,169, .agg #[.int .i64 q, .int .i64 f2, .int .i64 f3],[]⟩,⟨5,170, .agg #[.int .i64 c01, .int .i64 c02, .int .i64 c03],[2,4]⟩,⟨7,172, .agg #[.int .i64 r, .int .i64 g2, .int .i64 g3],[]⟩,⟨8,173, .int .i64 o0,[5,7]⟩,⟨9,174, .pointer (some ⟨w.heap.size + 1,0,none⟩),[]⟩]) (s:=10) (ds:=[167,169,170,172,173,174]) (B:=y0.heap.size) (Fin:=fun V=>Below w.heap.size w V ∧ (Bk V w.heap.size 84 (vcA 0 0 0) ∧ Bk V (w.heap.size + 1) 84 (vcA o0 0 0))) (by kernel_rfl) (by simp [left]) (Nat.le_refl _) ?hqz0 (fun _ _=>trivial) (fun h=>absurd h (by decide)) ?hsz0 ?hQz0
 case hqz0 =>
  intro q hq
  simp only [List.mem_cons,List.not_mem_nil,or_false] at hq
  rcases hq with rfl | rfl | rfl | rfl | rfl | rfl
  ·refine ⟨by simp,_,rfl,rfl,rfl,by kernel_rfl,fun V w hb hd=>.inl ?_⟩
   have f:=kE.below hb kE.lt
   have f0:=f.cell 0 rfl
   have f1:=f.cell 1 rfl
   have f2:=f.cell 2 rfl
   simp only [canon,List.foldl_cons,List.foldl_nil,List.setIfInBounds_toArray,List.set_cons_zero,List.set_cons_succ]
   go_simp
  ·refine ⟨by simp,_,rfl,rfl,rfl,by kernel_rfl,fun V w hb hd=>.inl ?_⟩
   have f:=kE.below hb kE.lt
   have f0:=f.cell 3 rfl
   have f1:=f.cell 4 rfl
   have f2:=f.cell 5 rfl
   simp only [canon,List.foldl_cons,List.foldl_nil,List.setIfInBounds_toArray,List.set_cons_zero,List.set_cons_succ]
   go_simp
  ·refine ⟨by simp,_,rfl,rfl,rfl,by kernel_rfl,fun V w hb hd=>.inr ⟨82,#[.agg #[.int .i64 p, .int .i64 d2, .int .i64 d3], .agg #[.int .i64 q, .int .i64 f2, .int .i64 f3]],?_,CC0.out w⟩⟩
   have e2 : V 167 = _:=hd ⟨2,167, .agg #[.int .i64 p, .int .i64 d2, .int .i64 d3],[]⟩ (by simp) (by simp)
   have e4 : V 169 = _:=hd ⟨4,169, .agg #[.int .i64 q, .int .i64 f2, .int .i64 f3],[]⟩ (by simp) (by simp)
   simp only [canon,List.foldl_cons,List.foldl_nil,List.setIfInBounds_toArray,List.set_cons_zero,List.set_cons_succ]
   go_simp
  ·refine ⟨by simp,_,rfl,rfl,rfl,by kernel_rfl,fun V w hb hd=>.inl ?_⟩
   have f:=kE.below hb kE.lt
   have f0:=f.cell 6 rfl
   have f1:=f.cell 7 rfl
   have f2:=f.cell 8 rfl
   simp only [canon,List.foldl_cons,List.foldl_nil,List.setIfInBounds_toArray,List.set_cons_zero,List.set_cons_succ]
   go_simp
  ·refine ⟨by simp,_,rfl,rfl,rfl,by kernel_rfl,fun V w hb hd=>.inr ⟨46,#[.agg #[.int .i64 c01, .int .i64 c02, .int .i64 c03], .agg #[.int .i64 r, .int .i64 g2, .int .i64 g3]],?_,CO0.out w⟩⟩
   have e5 : V 170 = _:=hd ⟨5,170, .agg #[.int .i64 c01, .int .i64 c02, .int .i64 c03],[2,4]⟩ (by simp) (by simp)
   have e7 : V 172 = _:=hd ⟨7,172, .agg #[.int .i64 r, .int .i64 g2, .int .i64 g3],[]⟩ (by simp) (by simp)
   simp only [canon,List.foldl_cons,List.foldl_nil,List.setIfInBounds_toArray,List.set_cons_zero,List.set_cons_succ]
   go_simp
  ·refine ⟨by simp,_,rfl,rfl,rfl,by kernel_rfl,fun V w hb hd=>.inl ?_⟩
   simp only [canon,List.foldl_cons,List.foldl_nil,List.setIfInBounds_toArray,List.set_cons_zero,List.set_cons_succ]
   go_simp
 case hsz0 =>
  intro o ho
  cases ho
  refine ⟨rfl,rfl,by kernel_rfl,fun V w' hb hd=>?_⟩
  have e8 : V 173 = .int .i64 o0:=hd ⟨8,173,_,[5,7]⟩ (by simp)
  have e9 : V 174 = .pointer (some ⟨w.heap.size + 1,0,none⟩):=hd ⟨9,174,_,[]⟩ (by simp)
  have f:=kn.below hb kn.lt
  have f3:=f.cell 0 rfl
  have r3:=f.fro 0
  refine ⟨_,_,?_, .inl rfl,trivial,(hB.trans (hb.mono hB.size)).setCell (p:=⟨w.heap.size + 1,0,none⟩) (by simp) _,(kb.below hb kb.lt).far (p:=⟨w.heap.size + 1,0,none⟩) (by simp) _,f.set 0 _⟩
  simp only [canon,List.foldl_cons,List.foldl_nil,List.setIfInBounds_toArray,List.set_cons_zero,List.set_cons_succ]
  go_simp
 intro V z0 hV hrest hF
 have q2 : V 167 = .agg #[.int .i64 p, .int .i64 d2, .int .i64 d3]:=hV ⟨2,167,_,[]⟩ (by simp)
 have q4 : V 169 = .agg #[.int .i64 q, .int .i64 f2, .int .i64 f3]:=hV ⟨4,169,_,[]⟩ (by simp)
 have q5 : V 170 = .agg #[.int .i64 c01, .int .i64 c02, .int .i64 c03]:=hV ⟨5,170,_,[2,4]⟩ (by simp)
 have q7 : V 172 = .agg #[.int .i64 r, .int .i64 g2, .int .i64 g3]:=hV ⟨7,172,_,[]⟩ (by simp)
 have q8 : V 173 = .int .i64 o0:=hV ⟨8,173,_,[5,7]⟩ (by simp)
 have q9 : V 174 = .pointer (some ⟨w.heap.size + 1,0,none⟩):=hV ⟨9,174,_,[]⟩ (by simp)
 simp only [canon,List.foldl_cons,List.foldl_nil,List.setIfInBounds_toArray,List.set_cons_zero,List.set_cons_succ]
 rw [q2,q4,q5,q7,q8,q9]
 clear hHeld hV hrest hB kb kn kE q2 q4 q5 q7 q8 q9
 obtain ⟨hB,kb,kn⟩:=hF
 go_wp2
 refine (show Code.rounds _ _ _ (2 + 1) _ _ from ?_)
 rw [rounds_succ]
 go_upto_region 27 with fail
 refine wp_region_held_drew (S:=fun V=>V.cell? ad = some (.int .i64 d1) ∧ V.cell? ⟨ad.block,ad.off + 1,none⟩ = some (.int .i64 d2) ∧ V.cell? ⟨ad.block,ad.off + 2,none⟩ = some (.int .i64 d3) ∧ V.cell? ⟨ad.block,ad.off + 3,none⟩ = some (.int .i64 f1) ∧ V.cell? ⟨ad.block,ad.off + 3 + 1,none⟩ = some (.int .i64 f2) ∧ V.cell? ⟨ad.block,ad.off + 3 + 2,none⟩ = some (.int .i64 f3) ∧ V.cell? ⟨ad.block,ad.off + 6,none⟩ = some (.int .i64 g1) ∧ V.cell? ⟨ad.block,ad.off + 6 + 1,none⟩ = some (.int .i64 g2) ∧ V.cell? ⟨ad.block,ad.off + 6 + 2,none⟩ = some (.int .i64 g3)) (by kernel_rfl) (by have:=HS.out _ hB.drew; exact ⟨this.1,this.2.1,this.2.2.1,this.2.2.2.1,this.2.2.2.2.1,this.2.2.2.2.2.1,this.2.2.2.2.2.2.1,this.2.2.2.2.2.2.2.1,this.2.2.2.2.2.2.2.2.1⟩) (fun hHeld=>?_)
 replace kb:=kb.drew
 replace kn:=kn.drew
 replace hB:=hB.drew
 generalize z0.drew = a1 at *
 refine tk 0 143 ?_
 refine tk 1 144 ?_
 refine tk 2 145 ?_
 refine tk 3 146 ?_
 refine tk 4 147 ?_
 refine tk 5 148 ?_
 refine tk 6 149 ?_
 refine tk 7 150 ?_
 refine tk 8 151 ?_
 refine tk 9 152 ?_
 refine new_laid (Z:=#[.int .i64 0, .int .i64 0, .int .i64 0, .int .i64 0, .int .i64 0, .int .i64 0, .int .i64 0, .int .i64 0, .int .i64 0]) (R:=#[.int .i64 d1, .int .i64 d2, .int .i64 d3, .int .i64 f1, .int .i64 f2, .int .i64 f3, .int .i64 g1, .int .i64 g2, .int .i64 g3]) (ty:=125) 10 11 16 ⟨_,rfl,rfl,rfl,?al1⟩ ⟨_,rfl,rfl,rfl,?st1⟩ (by kernel_rfl) (by kernel_rfl) (by kernel_rfl) ?hS1 ?hK1
 case al1=>exact fun a w=>by go_simp; (try rfl)
 case st1 =>
  intro w g hg
  have t0:=hg.cell 0 rfl
  have r0:=hg.fro 0
  have t1:=hg.cell 1 rfl
  have r1:=hg.fro 1
  have t2:=hg.cell 2 rfl
  have r2:=hg.fro 2
  have t3:=hg.cell 3 rfl
  have r3:=hg.fro 3
  have t4:=hg.cell 4 rfl
  have r4:=hg.fro 4
  have t5:=hg.cell 5 rfl
  have r5:=hg.fro 5
  have t6:=hg.cell 6 rfl
  have r6:=hg.fro 6
  have t7:=hg.cell 7 rfl
  have r7:=hg.fro 7
  have t8:=hg.cell 8 rfl
  have r8:=hg.fro 8
  refine ⟨_,?_,(((((((((hg.set 0 _).set 1 _).set 2 _).set 3 _).set 4 _).set 5 _).set 6 _).set 7 _).set 8 _),fun B v hB hb=>(((((((((hb.setCell (p:=⟨g,0,none⟩) hB _).setCell (p:=⟨g,1,none⟩) hB _).setCell (p:=⟨g,2,none⟩) hB _).setCell (p:=⟨g,3,none⟩) hB _).setCell (p:=⟨g,4,none⟩) hB _).setCell (p:=⟨g,5,none⟩) hB _).setCell (p:=⟨g,6,none⟩) hB _).setCell (p:=⟨g,7,none⟩) hB _).setCell (p:=⟨g,8,none⟩) hB _)⟩
  simp only [List.setIfInBounds_toArray,List.set_cons_zero,List.set_cons_succ]
  go_simp
 case hS1 =>
  intro V hV
  have:=HS.out _ (hB.trans (hV.mono hB.size))
  exact ⟨this.1,this.2.1,this.2.2.1,this.2.2.2.1,this.2.2.2.2.1,this.2.2.2.2.2.1,this.2.2.2.2.2.2.1,this.2.2.2.2.2.2.2.1,this.2.2.2.2.2.2.2.2.1⟩
 intro gE1 b1 hbb hge kE
 (try simp only [Act.put,List.setIfInBounds_toArray,List.set_cons_zero,List.set_cons_succ])
 have hgE : w.heap.size + 1 < gE1:=by have:=kn.lt; omega
 replace kb:=kb.below hbb kb.lt
 replace kn:=kn.below hbb kn.lt
 replace hB:=hB.trans (hbb.mono hB.size)
 clear hHeld hbb hge
 go_wp2
 refine wp_loop_rounds 4 ?_
 refine (show Code.rounds _ _ _ (3 + 1) _ _ from ?_)
 rw [rounds_succ]
 go_upto_region 31 with fail
 refine wp_region_held_drew (S:=fun _=>True) (by kernel_rfl) trivial (fun hHeld=>?_)
 replace kb:=kb.drew
 replace kn:=kn.drew
 replace kE:=kE.drew
 replace hB:=hB.drew
 generalize b1.drew = x10 at *
 refine tk 0 156 ?_
 refine tk 1 157 ?_
 refine tk 2 158 ?_
 refine tk 3 159 ?_
 refine tk 4 160 ?_
 refine tk 6 162 ?_
 refine quiet_laid (cs:=[⟨5,161, .int .i64 p,[]⟩,⟨7,163, .pointer (some ⟨gE1,1,none⟩),[]⟩]) (s:=8) (ds:=[161,163]) (B:=x10.heap.size) (Fin:=fun V=>Below w.heap.size w V ∧ (Bk V w.heap.size 84 (vcA 0 0 0) ∧ (Bk V (w.heap.size + 1) 84 (vcA o0 0 0) ∧ Bk V gE1 125 #[.int .i64 d1, .int .i64 p, .int .i64 d3, .int .i64 f1, .int .i64 f2, .int .i64 f3, .int .i64 g1, .int .i64 g2, .int .i64 g3]))) (by kernel_rfl) (by simp [left]) (Nat.le_refl _) ?hq10 (fun _ _=>trivial) (fun h=>absurd h (by decide)) ?hs10 ?hQ10
 case hq10 =>
  intro q hq
  simp only [List.mem_cons,List.not_mem_nil,or_false] at hq
  rcases hq with rfl | rfl
  ·refine ⟨by simp,_,rfl,rfl,rfl,by kernel_rfl,fun V w hb hd=>.inl ?_⟩
   have hc:=(HS.out _ (hB.trans (hb.mono hB.size))).2.2.2.2.2.2.2.2.2.1
   simp only [canon,List.foldl_cons,List.foldl_nil,List.setIfInBounds_toArray,List.set_cons_zero,List.set_cons_succ]
   go_simp
  ·refine ⟨by simp,_,rfl,rfl,rfl,by kernel_rfl,fun V w hb hd=>.inl ?_⟩
   simp only [canon,List.foldl_cons,List.foldl_nil,List.setIfInBounds_toArray,List.set_cons_zero,List.set_cons_succ]
   go_simp
 case hs10 =>
  intro o ho
  cases ho
  refine ⟨rfl,rfl,by kernel_rfl,fun V w' hb hd=>?_⟩
  have e5 : V 161 = .int .i64 p:=hd ⟨5,161,_,[]⟩ (by simp)
  have e7 : V 163 = .pointer (some ⟨gE1,1,none⟩):=hd ⟨7,163,_,[]⟩ (by simp)
  have f:=kE.below hb kE.lt
  have f3:=f.cell 1 rfl
  have r3:=f.fro 1
  refine ⟨_,_,?_, .inl rfl,trivial,(hB.trans (hb.mono hB.size)).setCell (p:=⟨gE1,1,none⟩) (by simp; omega) _,(kb.below hb kb.lt).far (p:=⟨gE1,1,none⟩) (by show w.heap.size ≠ gE1; omega) _,(kn.below hb kn.lt).far (p:=⟨gE1,1,none⟩) (by show w.heap.size + 1 ≠ gE1; omega) _,f.set 1 _⟩
  simp only [canon,List.foldl_cons,List.foldl_nil,List.setIfInBounds_toArray,List.set_cons_zero,List.set_cons_succ]
  go_simp
 intro V e10 hV hrest hF
 have q5 : V 161 = .int .i64 p:=hV ⟨5,161,_,[]⟩ (by simp)
 have q7 : V 163 = .pointer (some ⟨gE1,1,none⟩):=hV ⟨7,163,_,[]⟩ (by simp)
 simp only [canon,List.foldl_cons,List.foldl_nil,List.setIfInBounds_toArray,List.set_cons_zero,List.set_cons_succ]
 rw [q5,q7]
 clear hHeld hV hrest hB kb kn kE q5 q7
 obtain ⟨hB,kb,kn,kE⟩:=hF
 go_wp2
 refine (show Code.rounds _ _ _ (2 + 1) _ _ from ?_)
 rw [rounds_succ]
 go_upto_region 31 with fail
 refine wp_region_held_drew (S:=fun _=>True) (by kernel_rfl) trivial (fun hHeld=>?_)
 replace kb:=kb.drew
 replace kn:=kn.drew
 replace kE:=kE.drew
 replace hB:=hB.drew
 generalize e10.drew = x11 at *
 refine tk 0 156 ?_
 refine tk 1 157 ?_
 refine tk 2 158 ?_
 refine tk 3 159 ?_
 refine tk 4 160 ?_
 refine tk 6 162 ?_
 refine quiet_laid (cs:=[⟨5,161, .int .i64 q,[]⟩,⟨7,163, .pointer (some ⟨gE1,4,none⟩),[]⟩]) (s:=8) (ds:=[161,163]) (B:=x11.heap.size) (Fin:=fun V=>Below w.heap.size w V ∧ (Bk V w.heap.size 84 (vcA 0 0 0) ∧ (Bk V (w.heap.size + 1) 84 (vcA o0 0 0) ∧ Bk V gE1 125 #[.int .i64 d1, .int .i64 p, .int .i64 d3, .int .i64 f1, .int .i64 q, .int .i64 f3, .int .i64 g1, .int .i64 g2, .int .i64 g3]))) (by kernel_rfl) (by simp [left]) (Nat.le_refl _) ?hq11 (fun _ _=>trivial) (fun h=>absurd h (by decide)) ?hs11 ?hQ11
 case hq11 =>
  intro q hq
  simp only [List.mem_cons,List.not_mem_nil,or_false] at hq
  rcases hq with rfl | rfl
  ·refine ⟨by simp,_,rfl,rfl,rfl,by kernel_rfl,fun V w hb hd=>.inl ?_⟩
   have hc:=(HS.out _ (hB.trans (hb.mono hB.size))).2.2.2.2.2.2.2.2.2.2.1
   simp only [canon,List.foldl_cons,List.foldl_nil,List.setIfInBounds_toArray,List.set_cons_zero,List.set_cons_succ]
   go_simp
  ·refine ⟨by simp,_,rfl,rfl,rfl,by kernel_rfl,fun V w hb hd=>.inl ?_⟩
   simp only [canon,List.foldl_cons,List.foldl_nil,List.setIfInBounds_toArray,List.set_cons_zero,List.set_cons_succ]
   go_simp
 case hs11 =>
  intro o ho
  cases ho
  refine ⟨rfl,rfl,by kernel_rfl,fun V w' hb hd=>?_⟩
  have e5 : V 161 = .int .i64 q:=hd ⟨5,161,_,[]⟩ (by simp)
  have e7 : V 163 = .pointer (some ⟨gE1,4,none⟩):=hd ⟨7,163,_,[]⟩ (by simp)
  have f:=kE.below hb kE.lt
  have f3:=f.cell 4 rfl
  have r3:=f.fro 4
  refine ⟨_,_,?_, .inl rfl,trivial,(hB.trans (hb.mono hB.size)).setCell (p:=⟨gE1,4,none⟩) (by simp; omega) _,(kb.below hb kb.lt).far (p:=⟨gE1,4,none⟩) (by show w.heap.size ≠ gE1; omega) _,(kn.below hb kn.lt).far (p:=⟨gE1,4,none⟩) (by show w.heap.size + 1 ≠ gE1; omega) _,f.set 4 _⟩
  simp only [canon,List.foldl_cons,List.foldl_nil,List.setIfInBounds_toArray,List.set_cons_zero,List.set_cons_succ]
  go_simp
 intro V e11 hV hrest hF
 have q5 : V 161 = .int .i64 q:=hV ⟨5,161,_,[]⟩ (by simp)
 have q7 : V 163 = .pointer (some ⟨gE1,4,none⟩):=hV ⟨7,163,_,[]⟩ (by simp)
 simp only [canon,List.foldl_cons,List.foldl_nil,List.setIfInBounds_toArray,List.set_cons_zero,List.set_cons_succ]
 rw [q5,q7]
 clear hHeld hV hrest hB kb kn kE q5 q7
 obtain ⟨hB,kb,kn,kE⟩:=hF
 go_wp2
 refine (show Code.rounds _ _ _ (1 + 1) _ _ from ?_)
 rw [rounds_succ]
 go_upto_region 31 with fail
 refine wp_region_held_drew (S:=fun _=>True) (by kernel_rfl) trivial (fun hHeld=>?_)
 replace kb:=kb.drew
 replace kn:=kn.drew
 replace kE:=kE.drew
 replace hB:=hB.drew
 generalize e11.drew = x12 at *
 refine tk 0 156 ?_
 refine tk 1 157 ?_
 refine tk 2 158 ?_
 refine tk 3 159 ?_
 refine tk 4 160 ?_
 refine tk 6 162 ?_
 refine quiet_laid (cs:=[⟨5,161, .int .i64 r,[]⟩,⟨7,163, .pointer (some ⟨gE1,7,none⟩),[]⟩]) (s:=8) (ds:=[161,163]) (B:=x12.heap.size) (Fin:=fun V=>Below w.heap.size w V ∧ (Bk V w.heap.size 84 (vcA 0 0 0) ∧ (Bk V (w.heap.size + 1) 84 (vcA o0 0 0) ∧ Bk V gE1 125 #[.int .i64 d1, .int .i64 p, .int .i64 d3, .int .i64 f1, .int .i64 q, .int .i64 f3, .int .i64 g1, .int .i64 r, .int .i64 g3]))) (by kernel_rfl) (by simp [left]) (Nat.le_refl _) ?hq12 (fun _ _=>trivial) (fun h=>absurd h (by decide)) ?hs12 ?hQ12
 case hq12 =>
  intro q hq
  simp only [List.mem_cons,List.not_mem_nil,or_false] at hq
  rcases hq with rfl | rfl
  ·refine ⟨by simp,_,rfl,rfl,rfl,by kernel_rfl,fun V w hb hd=>.inl ?_⟩
   have hc:=(HS.out _ (hB.trans (hb.mono hB.size))).2.2.2.2.2.2.2.2.2.2.2
   simp only [canon,List.foldl_cons,List.foldl_nil,List.setIfInBounds_toArray,List.set_cons_zero,List.set_cons_succ]
   go_simp
  ·refine ⟨by simp,_,rfl,rfl,rfl,by kernel_rfl,fun V w hb hd=>.inl ?_⟩
   simp only [canon,List.foldl_cons,List.foldl_nil,List.setIfInBounds_toArray,List.set_cons_zero,List.set_cons_succ]
   go_simp
 case hs12 =>
  intro o ho
  cases ho
  refine ⟨rfl,rfl,by kernel_rfl,fun V w' hb hd=>?_⟩
  have e5 : V 161 = .int .i64 r:=hd ⟨5,161,_,[]⟩ (by simp)
  have e7 : V 163 = .pointer (some ⟨gE1,7,none⟩):=hd ⟨7,163,_,[]⟩ (by simp)
  have f:=kE.below hb kE.lt
  have f3:=f.cell 7 rfl
  have r3:=f.fro 7
  refine ⟨_,_,?_, .inl rfl,trivial,(hB.trans (hb.mono hB.size)).setCell (p:=⟨gE1,7,none⟩) (by simp; omega) _,(kb.below hb kb.lt).far (p:=⟨gE1,7,none⟩) (by show w.heap.size ≠ gE1; omega) _,(kn.below hb kn.lt).far (p:=⟨gE1,7,none⟩) (by show w.heap.size + 1 ≠ gE1; omega) _,f.set 7 _⟩
  simp only [canon,List.foldl_cons,List.foldl_nil,List.setIfInBounds_toArray,List.set_cons_zero,List.set_cons_succ]
  go_simp
 intro V e12 hV hrest hF
 have q5 : V 161 = .int .i64 r:=hV ⟨5,161,_,[]⟩ (by simp)
 have q7 : V 163 = .pointer (some ⟨gE1,7,none⟩):=hV ⟨7,163,_,[]⟩ (by simp)
 simp only [canon,List.foldl_cons,List.foldl_nil,List.setIfInBounds_toArray,List.set_cons_zero,List.set_cons_succ]
 rw [q5,q7]
 clear hHeld hV hrest hB kb kn kE q5 q7
 obtain ⟨hB,kb,kn,kE⟩:=hF
 go_wp2
 refine (show Code.rounds _ _ _ (0 + 1) _ _ from ?_)
 rw [rounds_succ]
 go_upto_region 33 with fail
 refine wp_region_held_drew (S:=fun _=>True) (by kernel_rfl) trivial (fun hHeld=>?_)
 replace kb:=kb.drew
 replace kn:=kn.drew
 replace kE:=kE.drew
 replace hB:=hB.drew
 generalize e12.drew = y1 at *
 refine tk 0 165 ?_
 refine tk 1 166 ?_
 refine tk 3 168 ?_
 refine tk 6 171 ?_
 refine quiet_laid (cs:=[⟨2,167, .agg #[.int .i64 d1, .int .i64 p, .int .i64 d3],[]⟩,⟨4,169, .agg #[.int .i64 f1, .int .i64 q, .int .i64 f3],[]⟩,⟨5,170, .agg #[.int .i64 c11, .int .i64 c12, .int .i64 c13],[2,4]⟩,⟨7,172, .agg #[.int .i64 g1, .int .i64 r, .int .i64 g3],[]⟩,⟨8,173, .int .i64 o1,[5,7]⟩,⟨9,174, .pointer (some ⟨w.heap.size + 1,1,none⟩),[]⟩]) (s:=10) (ds:=[167,169,170,172,173,174]) (B:=y1.heap.size) (Fin:=fun V=>Below w.heap.size w V ∧ (Bk V w.heap.size 84 (vcA 0 0 0) ∧ Bk V (w.heap.size + 1) 84 (vcA o0 o1 0))) (by kernel_rfl) (by simp [left]) (Nat.le_refl _) ?hqz1 (fun _ _=>trivial) (fun h=>absurd h (by decide)) ?hsz1 ?hQz1
 case hqz1 =>
  intro q hq
  simp only [List.mem_cons,List.not_mem_nil,or_false] at hq
  rcases hq with rfl | rfl | rfl | rfl | rfl | rfl
  ·refine ⟨by simp,_,rfl,rfl,rfl,by kernel_rfl,fun V w hb hd=>.inl ?_⟩
   have f:=kE.below hb kE.lt
   have f0:=f.cell 0 rfl
   have f1:=f.cell 1 rfl
   have f2:=f.cell 2 rfl
   simp only [canon,List.foldl_cons,List.foldl_nil,List.setIfInBounds_toArray,List.set_cons_zero,List.set_cons_succ]
   go_simp
  ·refine ⟨by simp,_,rfl,rfl,rfl,by kernel_rfl,fun V w hb hd=>.inl ?_⟩
   have f:=kE.below hb kE.lt
   have f0:=f.cell 3 rfl
   have f1:=f.cell 4 rfl
   have f2:=f.cell 5 rfl
   simp only [canon,List.foldl_cons,List.foldl_nil,List.setIfInBounds_toArray,List.set_cons_zero,List.set_cons_succ]
   go_simp
  ·refine ⟨by simp,_,rfl,rfl,rfl,by kernel_rfl,fun V w hb hd=>.inr ⟨82,#[.agg #[.int .i64 d1, .int .i64 p, .int .i64 d3], .agg #[.int .i64 f1, .int .i64 q, .int .i64 f3]],?_,CC1.out w⟩⟩
   have e2 : V 167 = _:=hd ⟨2,167, .agg #[.int .i64 d1, .int .i64 p, .int .i64 d3],[]⟩ (by simp) (by simp)
   have e4 : V 169 = _:=hd ⟨4,169, .agg #[.int .i64 f1, .int .i64 q, .int .i64 f3],[]⟩ (by simp) (by simp)
   simp only [canon,List.foldl_cons,List.foldl_nil,List.setIfInBounds_toArray,List.set_cons_zero,List.set_cons_succ]
   go_simp
  ·refine ⟨by simp,_,rfl,rfl,rfl,by kernel_rfl,fun V w hb hd=>.inl ?_⟩
   have f:=kE.below hb kE.lt
   have f0:=f.cell 6 rfl
   have f1:=f.cell 7 rfl
   have f2:=f.cell 8 rfl
   simp only [canon,List.foldl_cons,List.foldl_nil,List.setIfInBounds_toArray,List.set_cons_zero,List.set_cons_succ]
   go_simp
  ·refine ⟨by simp,_,rfl,rfl,rfl,by kernel_rfl,fun V w hb hd=>.inr ⟨46,#[.agg #[.int .i64 c11, .int .i64 c12, .int .i64 c13], .agg #[.int .i64 g1, .int .i64 r, .int .i64 g3]],?_,CO1.out w⟩⟩
   have e5 : V 170 = _:=hd ⟨5,170, .agg #[.int .i64 c11, .int .i64 c12, .int .i64 c13],[2,4]⟩ (by simp) (by simp)
   have e7 : V 172 = _:=hd ⟨7,172, .agg #[.int .i64 g1, .int .i64 r, .int .i64 g3],[]⟩ (by simp) (by simp)
   simp only [canon,List.foldl_cons,List.foldl_nil,List.setIfInBounds_toArray,List.set_cons_zero,List.set_cons_succ]
   go_simp
  ·refine ⟨by simp,_,rfl,rfl,rfl,by kernel_rfl,fun V w hb hd=>.inl ?_⟩
   simp only [canon,List.foldl_cons,List.foldl_nil,List.setIfInBounds_toArray,List.set_cons_zero,List.set_cons_succ]
   go_simp
 case hsz1 =>
  intro o ho
  cases ho
  refine ⟨rfl,rfl,by kernel_rfl,fun V w' hb hd=>?_⟩
  have e8 : V 173 = .int .i64 o1:=hd ⟨8,173,_,[5,7]⟩ (by simp)
  have e9 : V 174 = .pointer (some ⟨w.heap.size + 1,1,none⟩):=hd ⟨9,174,_,[]⟩ (by simp)
  have f:=kn.below hb kn.lt
  have f3:=f.cell 1 rfl
  have r3:=f.fro 1
  refine ⟨_,_,?_, .inl rfl,trivial,(hB.trans (hb.mono hB.size)).setCell (p:=⟨w.heap.size + 1,1,none⟩) (by simp) _,(kb.below hb kb.lt).far (p:=⟨w.heap.size + 1,1,none⟩) (by simp) _,f.set 1 _⟩
  simp only [canon,List.foldl_cons,List.foldl_nil,List.setIfInBounds_toArray,List.set_cons_zero,List.set_cons_succ]
  go_simp
 intro V z1 hV hrest hF
 have q2 : V 167 = .agg #[.int .i64 d1, .int .i64 p, .int .i64 d3]:=hV ⟨2,167,_,[]⟩ (by simp)
 have q4 : V 169 = .agg #[.int .i64 f1, .int .i64 q, .int .i64 f3]:=hV ⟨4,169,_,[]⟩ (by simp)
 have q5 : V 170 = .agg #[.int .i64 c11, .int .i64 c12, .int .i64 c13]:=hV ⟨5,170,_,[2,4]⟩ (by simp)
 have q7 : V 172 = .agg #[.int .i64 g1, .int .i64 r, .int .i64 g3]:=hV ⟨7,172,_,[]⟩ (by simp)
 have q8 : V 173 = .int .i64 o1:=hV ⟨8,173,_,[5,7]⟩ (by simp)
 have q9 : V 174 = .pointer (some ⟨w.heap.size + 1,1,none⟩):=hV ⟨9,174,_,[]⟩ (by simp)
 simp only [canon,List.foldl_cons,List.foldl_nil,List.setIfInBounds_toArray,List.set_cons_zero,List.set_cons_succ]
 rw [q2,q4,q5,q7,q8,q9]
 clear hHeld hV hrest hB kb kn kE q2 q4 q5 q7 q8 q9
 obtain ⟨hB,kb,kn⟩:=hF
 go_wp2
 refine (show Code.rounds _ _ _ (1 + 1) _ _ from ?_)
 rw [rounds_succ]
 go_upto_region 27 with fail
 refine wp_region_held_drew (S:=fun V=>V.cell? ad = some (.int .i64 d1) ∧ V.cell? ⟨ad.block,ad.off + 1,none⟩ = some (.int .i64 d2) ∧ V.cell? ⟨ad.block,ad.off + 2,none⟩ = some (.int .i64 d3) ∧ V.cell? ⟨ad.block,ad.off + 3,none⟩ = some (.int .i64 f1) ∧ V.cell? ⟨ad.block,ad.off + 3 + 1,none⟩ = some (.int .i64 f2) ∧ V.cell? ⟨ad.block,ad.off + 3 + 2,none⟩ = some (.int .i64 f3) ∧ V.cell? ⟨ad.block,ad.off + 6,none⟩ = some (.int .i64 g1) ∧ V.cell? ⟨ad.block,ad.off + 6 + 1,none⟩ = some (.int .i64 g2) ∧ V.cell? ⟨ad.block,ad.off + 6 + 2,none⟩ = some (.int .i64 g3)) (by kernel_rfl) (by have:=HS.out _ hB.drew; exact ⟨this.1,this.2.1,this.2.2.1,this.2.2.2.1,this.2.2.2.2.1,this.2.2.2.2.2.1,this.2.2.2.2.2.2.1,this.2.2.2.2.2.2.2.1,this.2.2.2.2.2.2.2.2.1⟩) (fun hHeld=>?_)
 replace kb:=kb.drew
 replace kn:=kn.drew
 replace hB:=hB.drew
 generalize z1.drew = a2 at *
 refine tk 0 143 ?_
 refine tk 1 144 ?_
 refine tk 2 145 ?_
 refine tk 3 146 ?_
 refine tk 4 147 ?_
 refine tk 5 148 ?_
 refine tk 6 149 ?_
 refine tk 7 150 ?_
 refine tk 8 151 ?_
 refine tk 9 152 ?_
 refine new_laid (Z:=#[.int .i64 0, .int .i64 0, .int .i64 0, .int .i64 0, .int .i64 0, .int .i64 0, .int .i64 0, .int .i64 0, .int .i64 0]) (R:=#[.int .i64 d1, .int .i64 d2, .int .i64 d3, .int .i64 f1, .int .i64 f2, .int .i64 f3, .int .i64 g1, .int .i64 g2, .int .i64 g3]) (ty:=125) 10 11 16 ⟨_,rfl,rfl,rfl,?al2⟩ ⟨_,rfl,rfl,rfl,?st2⟩ (by kernel_rfl) (by kernel_rfl) (by kernel_rfl) ?hS2 ?hK2
 case al2=>exact fun a w=>by go_simp; (try rfl)
 case st2 =>
  intro w g hg
  have t0:=hg.cell 0 rfl
  have r0:=hg.fro 0
  have t1:=hg.cell 1 rfl
  have r1:=hg.fro 1
  have t2:=hg.cell 2 rfl
  have r2:=hg.fro 2
  have t3:=hg.cell 3 rfl
  have r3:=hg.fro 3
  have t4:=hg.cell 4 rfl
  have r4:=hg.fro 4
  have t5:=hg.cell 5 rfl
  have r5:=hg.fro 5
  have t6:=hg.cell 6 rfl
  have r6:=hg.fro 6
  have t7:=hg.cell 7 rfl
  have r7:=hg.fro 7
  have t8:=hg.cell 8 rfl
  have r8:=hg.fro 8
  refine ⟨_,?_,(((((((((hg.set 0 _).set 1 _).set 2 _).set 3 _).set 4 _).set 5 _).set 6 _).set 7 _).set 8 _),fun B v hB hb=>(((((((((hb.setCell (p:=⟨g,0,none⟩) hB _).setCell (p:=⟨g,1,none⟩) hB _).setCell (p:=⟨g,2,none⟩) hB _).setCell (p:=⟨g,3,none⟩) hB _).setCell (p:=⟨g,4,none⟩) hB _).setCell (p:=⟨g,5,none⟩) hB _).setCell (p:=⟨g,6,none⟩) hB _).setCell (p:=⟨g,7,none⟩) hB _).setCell (p:=⟨g,8,none⟩) hB _)⟩
  simp only [List.setIfInBounds_toArray,List.set_cons_zero,List.set_cons_succ]
  go_simp
 case hS2 =>
  intro V hV
  have:=HS.out _ (hB.trans (hV.mono hB.size))
  exact ⟨this.1,this.2.1,this.2.2.1,this.2.2.2.1,this.2.2.2.2.1,this.2.2.2.2.2.1,this.2.2.2.2.2.2.1,this.2.2.2.2.2.2.2.1,this.2.2.2.2.2.2.2.2.1⟩
 intro gE2 b2 hbb hge kE
 (try simp only [Act.put,List.setIfInBounds_toArray,List.set_cons_zero,List.set_cons_succ])
 have hgE : w.heap.size + 1 < gE2:=by have:=kn.lt; omega
 replace kb:=kb.below hbb kb.lt
 replace kn:=kn.below hbb kn.lt
 replace hB:=hB.trans (hbb.mono hB.size)
 clear hHeld hbb hge
 go_wp2
 refine wp_loop_rounds 4 ?_
 refine (show Code.rounds _ _ _ (3 + 1) _ _ from ?_)
 rw [rounds_succ]
 go_upto_region 31 with fail
 refine wp_region_held_drew (S:=fun _=>True) (by kernel_rfl) trivial (fun hHeld=>?_)
 replace kb:=kb.drew
 replace kn:=kn.drew
 replace kE:=kE.drew
 replace hB:=hB.drew
 generalize b2.drew = x20 at *
 refine tk 0 156 ?_
 refine tk 1 157 ?_
 refine tk 2 158 ?_
 refine tk 3 159 ?_
 refine tk 4 160 ?_
 refine tk 6 162 ?_
 refine quiet_laid (cs:=[⟨5,161, .int .i64 p,[]⟩,⟨7,163, .pointer (some ⟨gE2,2,none⟩),[]⟩]) (s:=8) (ds:=[161,163]) (B:=x20.heap.size) (Fin:=fun V=>Below w.heap.size w V ∧ (Bk V w.heap.size 84 (vcA 0 0 0) ∧ (Bk V (w.heap.size + 1) 84 (vcA o0 o1 0) ∧ Bk V gE2 125 #[.int .i64 d1, .int .i64 d2, .int .i64 p, .int .i64 f1, .int .i64 f2, .int .i64 f3, .int .i64 g1, .int .i64 g2, .int .i64 g3]))) (by kernel_rfl) (by simp [left]) (Nat.le_refl _) ?hq20 (fun _ _=>trivial) (fun h=>absurd h (by decide)) ?hs20 ?hQ20
 case hq20 =>
  intro q hq
  simp only [List.mem_cons,List.not_mem_nil,or_false] at hq
  rcases hq with rfl | rfl
  ·refine ⟨by simp,_,rfl,rfl,rfl,by kernel_rfl,fun V w hb hd=>.inl ?_⟩
   have hc:=(HS.out _ (hB.trans (hb.mono hB.size))).2.2.2.2.2.2.2.2.2.1
   simp only [canon,List.foldl_cons,List.foldl_nil,List.setIfInBounds_toArray,List.set_cons_zero,List.set_cons_succ]
   go_simp
  ·refine ⟨by simp,_,rfl,rfl,rfl,by kernel_rfl,fun V w hb hd=>.inl ?_⟩
   simp only [canon,List.foldl_cons,List.foldl_nil,List.setIfInBounds_toArray,List.set_cons_zero,List.set_cons_succ]
   go_simp
 case hs20 =>
  intro o ho
  cases ho
  refine ⟨rfl,rfl,by kernel_rfl,fun V w' hb hd=>?_⟩
  have e5 : V 161 = .int .i64 p:=hd ⟨5,161,_,[]⟩ (by simp)
  have e7 : V 163 = .pointer (some ⟨gE2,2,none⟩):=hd ⟨7,163,_,[]⟩ (by simp)
  have f:=kE.below hb kE.lt
  have f3:=f.cell 2 rfl
  have r3:=f.fro 2
  refine ⟨_,_,?_, .inl rfl,trivial,(hB.trans (hb.mono hB.size)).setCell (p:=⟨gE2,2,none⟩) (by simp; omega) _,(kb.below hb kb.lt).far (p:=⟨gE2,2,none⟩) (by show w.heap.size ≠ gE2; omega) _,(kn.below hb kn.lt).far (p:=⟨gE2,2,none⟩) (by show w.heap.size + 1 ≠ gE2; omega) _,f.set 2 _⟩
  simp only [canon,List.foldl_cons,List.foldl_nil,List.setIfInBounds_toArray,List.set_cons_zero,List.set_cons_succ]
  go_simp
 intro V e20 hV hrest hF
 have q5 : V 161 = .int .i64 p:=hV ⟨5,161,_,[]⟩ (by simp)
 have q7 : V 163 = .pointer (some ⟨gE2,2,none⟩):=hV ⟨7,163,_,[]⟩ (by simp)
 simp only [canon,List.foldl_cons,List.foldl_nil,List.setIfInBounds_toArray,List.set_cons_zero,List.set_cons_succ]
 rw [q5,q7]
 clear hHeld hV hrest hB kb kn kE q5 q7
 obtain ⟨hB,kb,kn,kE⟩:=hF
 go_wp2
 refine (show Code.rounds _ _ _ (2 + 1) _ _ from ?_)
 rw [rounds_succ]
 go_upto_region 31 with fail
 refine wp_region_held_drew (S:=fun _=>True) (by kernel_rfl) trivial (fun hHeld=>?_)
 replace kb:=kb.drew
 replace kn:=kn.drew
 replace kE:=kE.drew
 replace hB:=hB.drew
 generalize e20.drew = x21 at *
 refine tk 0 156 ?_
 refine tk 1 157 ?_
 refine tk 2 158 ?_
 refine tk 3 159 ?_
 refine tk 4 160 ?_
 refine tk 6 162 ?_
 refine quiet_laid (cs:=[⟨5,161, .int .i64 q,[]⟩,⟨7,163, .pointer (some ⟨gE2,5,none⟩),[]⟩]) (s:=8) (ds:=[161,163]) (B:=x21.heap.size) (Fin:=fun V=>Below w.heap.size w V ∧ (Bk V w.heap.size 84 (vcA 0 0 0) ∧ (Bk V (w.heap.size + 1) 84 (vcA o0 o1 0) ∧ Bk V gE2 125 #[.int .i64 d1, .int .i64 d2, .int .i64 p, .int .i64 f1, .int .i64 f2, .int .i64 q, .int .i64 g1, .int .i64 g2, .int .i64 g3]))) (by kernel_rfl) (by simp [left]) (Nat.le_refl _) ?hq21 (fun _ _=>trivial) (fun h=>absurd h (by decide)) ?hs21 ?hQ21
 case hq21 =>
  intro q hq
  simp only [List.mem_cons,List.not_mem_nil,or_false] at hq
  rcases hq with rfl | rfl
  ·refine ⟨by simp,_,rfl,rfl,rfl,by kernel_rfl,fun V w hb hd=>.inl ?_⟩
   have hc:=(HS.out _ (hB.trans (hb.mono hB.size))).2.2.2.2.2.2.2.2.2.2.1
   simp only [canon,List.foldl_cons,List.foldl_nil,List.setIfInBounds_toArray,List.set_cons_zero,List.set_cons_succ]
   go_simp
  ·refine ⟨by simp,_,rfl,rfl,rfl,by kernel_rfl,fun V w hb hd=>.inl ?_⟩
   simp only [canon,List.foldl_cons,List.foldl_nil,List.setIfInBounds_toArray,List.set_cons_zero,List.set_cons_succ]
   go_simp
 case hs21 =>
  intro o ho
  cases ho
  refine ⟨rfl,rfl,by kernel_rfl,fun V w' hb hd=>?_⟩
  have e5 : V 161 = .int .i64 q:=hd ⟨5,161,_,[]⟩ (by simp)
  have e7 : V 163 = .pointer (some ⟨gE2,5,none⟩):=hd ⟨7,163,_,[]⟩ (by simp)
  have f:=kE.below hb kE.lt
  have f3:=f.cell 5 rfl
  have r3:=f.fro 5
  refine ⟨_,_,?_, .inl rfl,trivial,(hB.trans (hb.mono hB.size)).setCell (p:=⟨gE2,5,none⟩) (by simp; omega) _,(kb.below hb kb.lt).far (p:=⟨gE2,5,none⟩) (by show w.heap.size ≠ gE2; omega) _,(kn.below hb kn.lt).far (p:=⟨gE2,5,none⟩) (by show w.heap.size + 1 ≠ gE2; omega) _,f.set 5 _⟩
  simp only [canon,List.foldl_cons,List.foldl_nil,List.setIfInBounds_toArray,List.set_cons_zero,List.set_cons_succ]
  go_simp
 intro V e21 hV hrest hF
 have q5 : V 161 = .int .i64 q:=hV ⟨5,161,_,[]⟩ (by simp)
 have q7 : V 163 = .pointer (some ⟨gE2,5,none⟩):=hV ⟨7,163,_,[]⟩ (by simp)
 simp only [canon,List.foldl_cons,List.foldl_nil,List.setIfInBounds_toArray,List.set_cons_zero,List.set_cons_succ]
 rw [q5,q7]
 clear hHeld hV hrest hB kb kn kE q5 q7
 obtain ⟨hB,kb,kn,kE⟩:=hF
 go_wp2
 refine (show Code.rounds _ _ _ (1 + 1) _ _ from ?_)
 rw [rounds_succ]
 go_upto_region 31 with fail
 refine wp_region_held_drew (S:=fun _=>True) (by kernel_rfl) trivial (fun hHeld=>?_)
 replace kb:=kb.drew
 replace kn:=kn.drew
 replace kE:=kE.drew
 replace hB:=hB.drew
 generalize e21.drew = x22 at *
 refine tk 0 156 ?_
 refine tk 1 157 ?_
 refine tk 2 158 ?_
 refine tk 3 159 ?_
 refine tk 4 160 ?_
 refine tk 6 162 ?_
 refine quiet_laid (cs:=[⟨5,161, .int .i64 r,[]⟩,⟨7,163, .pointer (some ⟨gE2,8,none⟩),[]⟩]) (s:=8) (ds:=[161,163]) (B:=x22.heap.size) (Fin:=fun V=>Below w.heap.size w V ∧ (Bk V w.heap.size 84 (vcA 0 0 0) ∧ (Bk V (w.heap.size + 1) 84 (vcA o0 o1 0) ∧ Bk V gE2 125 #[.int .i64 d1, .int .i64 d2, .int .i64 p, .int .i64 f1, .int .i64 f2, .int .i64 q, .int .i64 g1, .int .i64 g2, .int .i64 r]))) (by kernel_rfl) (by simp [left]) (Nat.le_refl _) ?hq22 (fun _ _=>trivial) (fun h=>absurd h (by decide)) ?hs22 ?hQ22
 case hq22 =>
  intro q hq
  simp only [List.mem_cons,List.not_mem_nil,or_false] at hq
  rcases hq with rfl | rfl
  ·refine ⟨by simp,_,rfl,rfl,rfl,by kernel_rfl,fun V w hb hd=>.inl ?_⟩
   have hc:=(HS.out _ (hB.trans (hb.mono hB.size))).2.2.2.2.2.2.2.2.2.2.2
   simp only [canon,List.foldl_cons,List.foldl_nil,List.setIfInBounds_toArray,List.set_cons_zero,List.set_cons_succ]
   go_simp
  ·refine ⟨by simp,_,rfl,rfl,rfl,by kernel_rfl,fun V w hb hd=>.inl ?_⟩
   simp only [canon,List.foldl_cons,List.foldl_nil,List.setIfInBounds_toArray,List.set_cons_zero,List.set_cons_succ]
   go_simp
 case hs22 =>
  intro o ho
  cases ho
  refine ⟨rfl,rfl,by kernel_rfl,fun V w' hb hd=>?_⟩
  have e5 : V 161 = .int .i64 r:=hd ⟨5,161,_,[]⟩ (by simp)
  have e7 : V 163 = .pointer (some ⟨gE2,8,none⟩):=hd ⟨7,163,_,[]⟩ (by simp)
  have f:=kE.below hb kE.lt
  have f3:=f.cell 8 rfl
  have r3:=f.fro 8
  refine ⟨_,_,?_, .inl rfl,trivial,(hB.trans (hb.mono hB.size)).setCell (p:=⟨gE2,8,none⟩) (by simp; omega) _,(kb.below hb kb.lt).far (p:=⟨gE2,8,none⟩) (by show w.heap.size ≠ gE2; omega) _,(kn.below hb kn.lt).far (p:=⟨gE2,8,none⟩) (by show w.heap.size + 1 ≠ gE2; omega) _,f.set 8 _⟩
  simp only [canon,List.foldl_cons,List.foldl_nil,List.setIfInBounds_toArray,List.set_cons_zero,List.set_cons_succ]
  go_simp
 intro V e22 hV hrest hF
 have q5 : V 161 = .int .i64 r:=hV ⟨5,161,_,[]⟩ (by simp)
 have q7 : V 163 = .pointer (some ⟨gE2,8,none⟩):=hV ⟨7,163,_,[]⟩ (by simp)
 simp only [canon,List.foldl_cons,List.foldl_nil,List.setIfInBounds_toArray,List.set_cons_zero,List.set_cons_succ]
 rw [q5,q7]
 clear hHeld hV hrest hB kb kn kE q5 q7
 obtain ⟨hB,kb,kn,kE⟩:=hF
 go_wp2
 refine (show Code.rounds _ _ _ (0 + 1) _ _ from ?_)
 rw [rounds_succ]
 go_upto_region 33 with fail
 refine wp_region_held_drew (S:=fun _=>True) (by kernel_rfl) trivial (fun hHeld=>?_)
 replace kb:=kb.drew
 replace kn:=kn.drew
 replace kE:=kE.drew
 replace hB:=hB.drew
 generalize e22.drew = y2 at *
 refine tk 0 165 ?_
 refine tk 1 166 ?_
 refine tk 3 168 ?_
 refine tk 6 171 ?_
 refine quiet_laid (cs:=[⟨2,167, .agg #[.int .i64 d1, .int .i64 d2, .int .i64 p],[]⟩,⟨4,169, .agg #[.int .i64 f1, .int .i64 f2, .int .i64 q],[]⟩,⟨5,170, .agg #[.int .i64 c21, .int .i64 c22, .int .i64 c23],[2,4]⟩,⟨7,172, .agg #[.int .i64 g1, .int .i64 g2, .int .i64 r],[]⟩,⟨8,173, .int .i64 o2,[5,7]⟩,⟨9,174, .pointer (some ⟨w.heap.size + 1,2,none⟩),[]⟩]) (s:=10) (ds:=[167,169,170,172,173,174]) (B:=y2.heap.size) (Fin:=fun V=>Below w.heap.size w V ∧ (Bk V w.heap.size 84 (vcA 0 0 0) ∧ Bk V (w.heap.size + 1) 84 (vcA o0 o1 o2))) (by kernel_rfl) (by simp [left]) (Nat.le_refl _) ?hqz2 (fun _ _=>trivial) (fun h=>absurd h (by decide)) ?hsz2 ?hQz2
 case hqz2 =>
  intro q hq
  simp only [List.mem_cons,List.not_mem_nil,or_false] at hq
  rcases hq with rfl | rfl | rfl | rfl | rfl | rfl
  ·refine ⟨by simp,_,rfl,rfl,rfl,by kernel_rfl,fun V w hb hd=>.inl ?_⟩
   have f:=kE.below hb kE.lt
   have f0:=f.cell 0 rfl
   have f1:=f.cell 1 rfl
   have f2:=f.cell 2 rfl
   simp only [canon,List.foldl_cons,List.foldl_nil,List.setIfInBounds_toArray,List.set_cons_zero,List.set_cons_succ]
   go_simp
  ·refine ⟨by simp,_,rfl,rfl,rfl,by kernel_rfl,fun V w hb hd=>.inl ?_⟩
   have f:=kE.below hb kE.lt
   have f0:=f.cell 3 rfl
   have f1:=f.cell 4 rfl
   have f2:=f.cell 5 rfl
   simp only [canon,List.foldl_cons,List.foldl_nil,List.setIfInBounds_toArray,List.set_cons_zero,List.set_cons_succ]
   go_simp
  ·refine ⟨by simp,_,rfl,rfl,rfl,by kernel_rfl,fun V w hb hd=>.inr ⟨82,#[.agg #[.int .i64 d1, .int .i64 d2, .int .i64 p], .agg #[.int .i64 f1, .int .i64 f2, .int .i64 q]],?_,CC2.out w⟩⟩
   have e2 : V 167 = _:=hd ⟨2,167, .agg #[.int .i64 d1, .int .i64 d2, .int .i64 p],[]⟩ (by simp) (by simp)
   have e4 : V 169 = _:=hd ⟨4,169, .agg #[.int .i64 f1, .int .i64 f2, .int .i64 q],[]⟩ (by simp) (by simp)
   simp only [canon,List.foldl_cons,List.foldl_nil,List.setIfInBounds_toArray,List.set_cons_zero,List.set_cons_succ]
   go_simp
  ·refine ⟨by simp,_,rfl,rfl,rfl,by kernel_rfl,fun V w hb hd=>.inl ?_⟩
   have f:=kE.below hb kE.lt
   have f0:=f.cell 6 rfl
   have f1:=f.cell 7 rfl
   have f2:=f.cell 8 rfl
   simp only [canon,List.foldl_cons,List.foldl_nil,List.setIfInBounds_toArray,List.set_cons_zero,List.set_cons_succ]
   go_simp
  ·refine ⟨by simp,_,rfl,rfl,rfl,by kernel_rfl,fun V w hb hd=>.inr ⟨46,#[.agg #[.int .i64 c21, .int .i64 c22, .int .i64 c23], .agg #[.int .i64 g1, .int .i64 g2, .int .i64 r]],?_,CO2.out w⟩⟩
   have e5 : V 170 = _:=hd ⟨5,170, .agg #[.int .i64 c21, .int .i64 c22, .int .i64 c23],[2,4]⟩ (by simp) (by simp)
   have e7 : V 172 = _:=hd ⟨7,172, .agg #[.int .i64 g1, .int .i64 g2, .int .i64 r],[]⟩ (by simp) (by simp)
   simp only [canon,List.foldl_cons,List.foldl_nil,List.setIfInBounds_toArray,List.set_cons_zero,List.set_cons_succ]
   go_simp
  ·refine ⟨by simp,_,rfl,rfl,rfl,by kernel_rfl,fun V w hb hd=>.inl ?_⟩
   simp only [canon,List.foldl_cons,List.foldl_nil,List.setIfInBounds_toArray,List.set_cons_zero,List.set_cons_succ]
   go_simp
 case hsz2 =>
  intro o ho
  cases ho
  refine ⟨rfl,rfl,by kernel_rfl,fun V w' hb hd=>?_⟩
  have e8 : V 173 = .int .i64 o2:=hd ⟨8,173,_,[5,7]⟩ (by simp)
  have e9 : V 174 = .pointer (some ⟨w.heap.size + 1,2,none⟩):=hd ⟨9,174,_,[]⟩ (by simp)
  have f:=kn.below hb kn.lt
  have f3:=f.cell 2 rfl
  have r3:=f.fro 2
  refine ⟨_,_,?_, .inl rfl,trivial,(hB.trans (hb.mono hB.size)).setCell (p:=⟨w.heap.size + 1,2,none⟩) (by simp) _,(kb.below hb kb.lt).far (p:=⟨w.heap.size + 1,2,none⟩) (by simp) _,f.set 2 _⟩
  simp only [canon,List.foldl_cons,List.foldl_nil,List.setIfInBounds_toArray,List.set_cons_zero,List.set_cons_succ]
  go_simp
 intro V z2 hV hrest hF
 have q2 : V 167 = .agg #[.int .i64 d1, .int .i64 d2, .int .i64 p]:=hV ⟨2,167,_,[]⟩ (by simp)
 have q4 : V 169 = .agg #[.int .i64 f1, .int .i64 f2, .int .i64 q]:=hV ⟨4,169,_,[]⟩ (by simp)
 have q5 : V 170 = .agg #[.int .i64 c21, .int .i64 c22, .int .i64 c23]:=hV ⟨5,170,_,[2,4]⟩ (by simp)
 have q7 : V 172 = .agg #[.int .i64 g1, .int .i64 g2, .int .i64 r]:=hV ⟨7,172,_,[]⟩ (by simp)
 have q8 : V 173 = .int .i64 o2:=hV ⟨8,173,_,[5,7]⟩ (by simp)
 have q9 : V 174 = .pointer (some ⟨w.heap.size + 1,2,none⟩):=hV ⟨9,174,_,[]⟩ (by simp)
 simp only [canon,List.foldl_cons,List.foldl_nil,List.setIfInBounds_toArray,List.set_cons_zero,List.set_cons_succ]
 rw [q2,q4,q5,q7,q8,q9]
 clear hHeld hV hrest hB kb kn kE q2 q4 q5 q7 q8 q9
 obtain ⟨hB,kb,kn⟩:=hF
 go_wp2
 refine (show Code.rounds _ _ _ (0 + 1) _ _ from ?_)
 rw [rounds_succ]
 have y0:=kn.cell 0 rfl
 have y1:=kn.cell 1 rfl
 have y2:=kn.cell 2 rfl
 have z0:=kb.cell 0 rfl
 have z1:=kb.cell 1 rfl
 have z2:=kb.cell 2 rfl
 have f0_:=kb.fro 0
 have f1_:=kb.fro 1
 have f2_:=kb.fro 2
 by_cases hde : de = 0
 ·have HE2 : Hid (slpC [⟨d1,d2,d3⟩,⟨f1,f2,f3⟩,⟨g1,g2,g3⟩] [p,q,r] = none):=by show _ = _; rw [HE.out,if_neg (fun h=>h hde)]
  go_wp2
  have g1_:=((kb.set 0 (.int .i64 o0)).set 1 (.int .i64 o1)).set 2 (.int .i64 o2)
  have gb:=((hB.setCell (p:=⟨w.heap.size,0,none⟩) (Nat.le_refl _) (.int .i64 o0)).setCell (p:=⟨w.heap.size,1,none⟩) (Nat.le_refl _) (.int .i64 o1)).setCell (p:=⟨w.heap.size,2,none⟩) (Nat.le_refl _) (.int .i64 o2)
  have x0:=g1_.cell 0 rfl
  have x1:=g1_.cell 1 rfl
  have x2:=g1_.cell 2 rfl
  generalize World.setCell _ _ _ = w9 at *
  refine bodyPost_ret (v:=.tuple #[.agg #[.int .i64 o0, .int .i64 o1, .int .i64 o2], .int .i64 0, .bool false]) (by simp [results,Try.results76,go_sem,x0,x1,x2,hde]) rfl ⟨gb,_,_,_,_,false,rfl,HE2.out⟩
 ·have HE2 : Hid (slpC [⟨d1,d2,d3⟩,⟨f1,f2,f3⟩,⟨g1,g2,g3⟩] [p,q,r] = some (⟨o0,o1,o2⟩,de)):=by show _ = _; rw [HE.out,if_pos hde]
  go_wp2
  have g1_:=((kb.set 0 (.int .i64 o0)).set 1 (.int .i64 o1)).set 2 (.int .i64 o2)
  have gb:=((hB.setCell (p:=⟨w.heap.size,0,none⟩) (Nat.le_refl _) (.int .i64 o0)).setCell (p:=⟨w.heap.size,1,none⟩) (Nat.le_refl _) (.int .i64 o1)).setCell (p:=⟨w.heap.size,2,none⟩) (Nat.le_refl _) (.int .i64 o2)
  have x0:=g1_.cell 0 rfl
  have x1:=g1_.cell 1 rfl
  have x2:=g1_.cell 2 rfl
  generalize World.setCell _ _ _ = w9 at *
  refine bodyPost_ret (v:=.tuple #[.agg #[.int .i64 o0, .int .i64 o1, .int .i64 o2], .int .i64 de, .bool true]) (by simp [results,Try.results76,go_sem,x0,x1,x2,hde]) rfl ⟨gb,_,_,_,_,true,rfl,HE2.out⟩
end Go.Proofs.Ytkjceegmmhnajaa
