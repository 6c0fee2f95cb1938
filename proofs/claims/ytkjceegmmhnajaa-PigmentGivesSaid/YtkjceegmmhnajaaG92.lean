/- pigment.slopes of two differences. Printed by wip/gen_sl2.py. -/
import Derived.Test.YtkjceegmmhnajaaG62
import Derived.Test.YtkjceegmmhnajaaG90

set_option linter.unusedVariables false
set_option linter.unusedSimpArgs false

namespace Go.Proofs.Ytkjceegmmhnajaa
open Go.RowKit

set_option maxRecDepth 100000 in
set_option maxHeartbeats 4000000 in
theorem slopes2 (dv fv : Vc) (p q : Int) (ad bp : Addr) (c d : Nat) (w : World) (h0 : vecAt w ad dv) (h3 : vecAt w ⟨ad.block,ad.off + 3,none⟩ fv) (hb : ad.block < w.heap.size) (hp : w.cell? bp = some (.int .i64 p)) (hq : w.cell? ⟨bp.block,bp.off + 1,none⟩ = some (.int .i64 q)) (hbp : bp.block < w.heap.size)
  (bd : vb 1000 dv.x dv.y dv.z) (bf : vb 1000 fv.x fv.y fv.z) (bp0 : ab 10000 p) (bq0 : ab 10000 q) : Calls Try.prog 76 #[.slice (some ad) 2 c, .slice (some bp) 2 d] w (SlE (slpC [dv,fv] [p,q]) w):=by
 obtain ⟨d1,d2,d3⟩:=dv
 obtain ⟨f1,f2,f3⟩:=fv
 obtain ⟨q0,q1,q2⟩:=h0
 obtain ⟨q3,q4,q5⟩:=h3
 obtain ⟨bd1,bd2,bd3⟩:=bd
 obtain ⟨bf1,bf2,bf3⟩:=bf
 dsimp only at *
 have W0 : Hid (IntKind.i64.wrap (d1 * f2) = d1 * f2):=IntWalk.i64_in _ (by have h1:=(ab_mul bd1 bf2); unfold ab at h1; omega)
 have W1 : Hid (IntKind.i64.wrap (d2 * f1) = d2 * f1):=IntWalk.i64_in _ (by have h1:=(ab_mul bd2 bf1); unfold ab at h1; omega)
 have W2 : Hid (IntKind.i64.wrap (d1 * f2 - d2 * f1) = d1 * f2 - d2 * f1):=IntWalk.i64_in _ (by have h1:=(ab_mul bd1 bf2); have h2:=(ab_mul bd2 bf1); unfold ab at h1 h2; omega)
 have W3 : Hid (IntKind.i64.wrap (p * f2) = p * f2):=IntWalk.i64_in _ (by have h1:=(ab_mul bp0 bf2); unfold ab at h1; omega)
 have W4 : Hid (IntKind.i64.wrap (d2 * q) = d2 * q):=IntWalk.i64_in _ (by have h1:=(ab_mul bd2 bq0); unfold ab at h1; omega)
 have W5 : Hid (IntKind.i64.wrap (p * f2 - d2 * q) = p * f2 - d2 * q):=IntWalk.i64_in _ (by have h1:=(ab_mul bp0 bf2); have h2:=(ab_mul bd2 bq0); unfold ab at h1 h2; omega)
 have W6 : Hid (IntKind.i64.wrap (d1 * q) = d1 * q):=IntWalk.i64_in _ (by have h1:=(ab_mul bd1 bq0); unfold ab at h1; omega)
 have W7 : Hid (IntKind.i64.wrap (p * f1) = p * f1):=IntWalk.i64_in _ (by have h1:=(ab_mul bp0 bf1); unfold ab at h1; omega)
 have W8 : Hid (IntKind.i64.wrap (d1 * q - p * f1) = d1 * q - p * f1):=IntWalk.i64_in _ (by have h1:=(ab_mul bd1 bq0); have h2:=(ab_mul bp0 bf1); unfold ab at h1 h2; omega)
 have W9 : Hid (IntKind.i64.wrap (d1 * f3) = d1 * f3):=IntWalk.i64_in _ (by have h1:=(ab_mul bd1 bf3); unfold ab at h1; omega)
 have W10 : Hid (IntKind.i64.wrap (d3 * f1) = d3 * f1):=IntWalk.i64_in _ (by have h1:=(ab_mul bd3 bf1); unfold ab at h1; omega)
 have W11 : Hid (IntKind.i64.wrap (d1 * f3 - d3 * f1) = d1 * f3 - d3 * f1):=IntWalk.i64_in _ (by have h1:=(ab_mul bd1 bf3); have h2:=(ab_mul bd3 bf1); unfold ab at h1 h2; omega)
 have W12 : Hid (IntKind.i64.wrap (p * f3) = p * f3):=IntWalk.i64_in _ (by have h1:=(ab_mul bp0 bf3); unfold ab at h1; omega)
 have W13 : Hid (IntKind.i64.wrap (d3 * q) = d3 * q):=IntWalk.i64_in _ (by have h1:=(ab_mul bd3 bq0); unfold ab at h1; omega)
 have W14 : Hid (IntKind.i64.wrap (p * f3 - d3 * q) = p * f3 - d3 * q):=IntWalk.i64_in _ (by have h1:=(ab_mul bp0 bf3); have h2:=(ab_mul bd3 bq0); unfold ab at h1 h2; omega)
 have W15 : Hid (IntKind.i64.wrap (d2 * f3) = d2 * f3):=IntWalk.i64_in _ (by have h1:=(ab_mul bd2 bf3); unfold ab at h1; omega)
 have W16 : Hid (IntKind.i64.wrap (d3 * f2) = d3 * f2):=IntWalk.i64_in _ (by have h1:=(ab_mul bd3 bf2); unfold ab at h1; omega)
 have W17 : Hid (IntKind.i64.wrap (d2 * f3 - d3 * f2) = d2 * f3 - d3 * f2):=IntWalk.i64_in _ (by have h1:=(ab_mul bd2 bf3); have h2:=(ab_mul bd3 bf2); unfold ab at h1 h2; omega)
 have W18 : Hid (IntKind.i64.wrap (d2 * q - p * f2) = d2 * q - p * f2):=IntWalk.i64_in _ (by have h1:=(ab_mul bd2 bq0); have h2:=(ab_mul bp0 bf2); unfold ab at h1 h2; omega)
 have HS : Hid (∀ V,Below w.heap.size w V → V.cell? ad = some (.int .i64 d1) ∧ V.cell? ⟨ad.block,ad.off + 1,none⟩ = some (.int .i64 d2) ∧ V.cell? ⟨ad.block,ad.off + 2,none⟩ = some (.int .i64 d3) ∧ V.cell? ⟨ad.block,ad.off + 3,none⟩ = some (.int .i64 f1) ∧ V.cell? ⟨ad.block,ad.off + 3 + 1,none⟩ = some (.int .i64 f2) ∧ V.cell? ⟨ad.block,ad.off + 3 + 2,none⟩ = some (.int .i64 f3) ∧ V.cell? bp = some (.int .i64 p) ∧ V.cell? ⟨bp.block,bp.off + 1,none⟩ = some (.int .i64 q)):=fun V hV=>⟨(hV.cell hb).trans q0,(hV.cell (p:=⟨ad.block,ad.off + 1,none⟩) hb).trans q1,(hV.cell (p:=⟨ad.block,ad.off + 2,none⟩) hb).trans q2,(hV.cell (p:=⟨ad.block,ad.off + 3,none⟩) hb).trans q3,(hV.cell (p:=⟨ad.block,ad.off + 3 + 1,none⟩) hb).trans q4,(hV.cell (p:=⟨ad.block,ad.off + 3 + 2,none⟩) hb).trans q5,(hV.cell hbp).trans hp,(hV.cell (p:=⟨bp.block,bp.off + 1,none⟩) hbp).trans hq⟩
 clear q0 q1 q2 q3 q4 q5 hp hq bd1 bd2 bd3 bf1 bf2 bf3 bp0 bq0
 have k1 : Bk ((w.alloc (.cells (vcA 0 0 0) 84)).alloc (.cells (vcA 0 0 0) 84)) w.heap.size 84 (vcA 0 0 0):=(Bk.new _ _ _).alloc _
 have k2 : Bk ((w.alloc (.cells (vcA 0 0 0) 84)).alloc (.cells (vcA 0 0 0) 84)) (w.heap.size + 1) 84 (vcA 0 0 0):=by simpa using Bk.new (w.alloc (.cells (vcA 0 0 0) 84)) 84 (vcA 0 0 0)
 have hb2 : Below w.heap.size w ((w.alloc (.cells (vcA 0 0 0) 84)).alloc (.cells (vcA 0 0 0) 84)):=by exact (by repeat (first | with_reducible exact Below.refl _ _ | with_reducible assumption | with_reducible refine Below.drew ?_ | with_reducible refine below_drewN ?_ _ | (with_reducible refine Below.alloc ?_ ?_ _; rotate_left; (try simp) <;> omega) | (with_reducible refine Below.setCell ?_ ?_ _; rotate_left; (try simp) <;> omega)))
 obtain ⟨w2,hw2⟩ : ∃ v,v = (w.alloc (.cells (vcA 0 0 0) 84)).alloc (.cells (vcA 0 0 0) 84):=⟨_,rfl⟩
 rw [← hw2] at k1 k2 hb2
 go_enter Try.func76,Try.ntmps76
 go_upto_region 3 with fail
 rw [← hw2]
 clear hw2
 go_wp2
 obtain ⟨v0,hv0⟩ : ∃ v,v = w2.alloc (.cells #[.int .i64 0, .int .i64 1, .int .i64 0, .int .i64 2, .int .i64 1, .int .i64 2] 123):=⟨_,rfl⟩
 have kS : Bk v0 w2.heap.size 123 #[.int .i64 0, .int .i64 1, .int .i64 0, .int .i64 2, .int .i64 1, .int .i64 2]:=by rw [hv0]; exact Bk.new _ _ _
 have kb : Bk v0 w.heap.size 84 (vcA 0 0 0):=by rw [hv0]; exact k1.alloc _
 have kn : Bk v0 (w.heap.size + 1) 84 (vcA 0 0 0):=by rw [hv0]; exact k2.alloc _
 have hB : Below w.heap.size w v0:=by rw [hv0]; exact hb2.alloc hb2.size _
 have hg : w.heap.size + 1 < w2.heap.size:=k2.lt
 rw [← hv0]
 clear hv0 k1 k2 hb2
 generalize w2.heap.size = gS at *
 refine wp_loop_rounds 4 ?_
 refine (show Code.rounds _ _ _ (3 + 1) _ _ from ?_)
 rw [rounds_succ]
 have s0:=kS.cell 0 rfl
 have s1:=kS.cell 1 rfl
 have lS:=kS.lt
 go_upto_region 15 with fail
 have kx:=(Bk.new v0 123 #[.int .i64 0, .int .i64 1]).drew
 clear s0 s1 lS
 replace kS:=kS.alloc (.cells #[.int .i64 0, .int .i64 1] 123)
 replace kb:=kb.alloc (.cells #[.int .i64 0, .int .i64 1] 123)
 replace kn:=kn.alloc (.cells #[.int .i64 0, .int .i64 1] 123)
 replace hB:=hB.alloc hB.size (.cells #[.int .i64 0, .int .i64 1] 123)
 replace kS:=kS.drew
 replace kb:=kb.drew
 replace kn:=kn.drew
 replace hB:=hB.drew
 refine wp_region_held_drew (S:=fun V=>V.cell? ⟨v0.heap.size,0,none⟩ = some (.int .i64 0) ∧ V.cell? ⟨v0.heap.size,1,none⟩ = some (.int .i64 1)) (by kernel_rfl) ⟨kx.cell 0 rfl,kx.cell 1 rfl⟩ (fun hHeld=>?_)
 clear kx
 generalize (v0.alloc (.cells #[.int .i64 0, .int .i64 1] 123)).drew = x0 at *
 refine tk 0 54 ?_
 refine tk 1 55 ?_
 refine tk 2 56 ?_
 refine tk 3 57 ?_
 refine tk 4 11 ?_
 refine tk 5 12 ?_
 refine wpAnyH_done (by kernel_rfl) ?_ _
 clear hHeld
 go_upto_region 16 with fail
 refine wp_region_held_drew (S:=fun V=>V.cell? ad = some (.int .i64 d1) ∧ V.cell? ⟨ad.block,ad.off + 1,none⟩ = some (.int .i64 d2) ∧ V.cell? ⟨ad.block,ad.off + 2,none⟩ = some (.int .i64 d3) ∧ V.cell? ⟨ad.block,ad.off + 3,none⟩ = some (.int .i64 f1) ∧ V.cell? ⟨ad.block,ad.off + 3 + 1,none⟩ = some (.int .i64 f2) ∧ V.cell? ⟨ad.block,ad.off + 3 + 2,none⟩ = some (.int .i64 f3) ∧ V.cell? bp = some (.int .i64 p) ∧ V.cell? ⟨bp.block,bp.off + 1,none⟩ = some (.int .i64 q)) (by kernel_rfl) (HS.out _ hB.drew) (fun hHeld=>?_)
 replace kS:=kS.drew
 replace kb:=kb.drew
 replace kn:=kn.drew
 replace hB:=hB.drew
 generalize x0.drew = v1 at *
 have o0:=W0.out
 have o1:=W1.out
 have o2:=W2.out
 refine tk 0 58 ?_
 refine tk 1 59 ?_
 refine tk 2 60 ?_
 refine tk 3 61 ?_
 refine tk 4 62 ?_
 refine tk 5 63 ?_
 refine tk 6 64 ?_
 refine tk 7 65 ?_
 refine tk 8 66 ?_
 refine tk 9 67 ?_
 refine tk 10 68 ?_
 refine tk 11 69 ?_
 refine tk 12 70 ?_
 refine tk 13 71 ?_
 refine tk 14 72 ?_
 refine tk 15 73 ?_
 refine tk 16 74 ?_
 refine tk 17 75 ?_
 refine tk 18 76 ?_
 refine tk 19 77 ?_
 refine tk 20 78 ?_
 refine tk 21 79 ?_
 refine tk 22 80 ?_
 refine tk 23 13 ?_
 refine wpAnyH_done (by kernel_rfl) ?_ _
 clear hHeld o0 o1 o2
 have n0 : Hid True:=trivial
 by_cases hden : d1 * f2 - d2 * f1 ≠ 0
 ·have HE : Hid (slpC [⟨d1,d2,d3⟩,⟨f1,f2,f3⟩] [p,q] = some (⟨p * f2 - d2 * q,d1 * q - p * f1,0⟩,d1 * f2 - d2 * f1)):=by
   show _ = _
   simp only [slpC]
   rw [if_pos hden]
  go_upto_region 18 with fail
  refine wp_region_held_drew (S:=fun V=>V.cell? ad = some (.int .i64 d1) ∧ V.cell? ⟨ad.block,ad.off + 1,none⟩ = some (.int .i64 d2) ∧ V.cell? ⟨ad.block,ad.off + 2,none⟩ = some (.int .i64 d3) ∧ V.cell? ⟨ad.block,ad.off + 3,none⟩ = some (.int .i64 f1) ∧ V.cell? ⟨ad.block,ad.off + 3 + 1,none⟩ = some (.int .i64 f2) ∧ V.cell? ⟨ad.block,ad.off + 3 + 2,none⟩ = some (.int .i64 f3) ∧ V.cell? bp = some (.int .i64 p) ∧ V.cell? ⟨bp.block,bp.off + 1,none⟩ = some (.int .i64 q)) (by kernel_rfl) (HS.out _ hB.drew) (fun hHeld=>?_)
  replace kS:=kS.drew
  replace kb:=kb.drew
  replace kn:=kn.drew
  replace hB:=hB.drew
  generalize v1.drew = u0a at *
  have o0:=W3.out
  have o1:=W4.out
  have o2:=W5.out
  refine tk 0 83 ?_
  refine tk 1 84 ?_
  refine tk 2 85 ?_
  refine tk 3 86 ?_
  refine tk 4 87 ?_
  refine tk 5 88 ?_
  refine tk 6 89 ?_
  refine tk 7 90 ?_
  refine tk 8 91 ?_
  refine tk 9 92 ?_
  refine tk 10 93 ?_
  refine tk 11 94 ?_
  refine tk 12 95 ?_
  refine tk 13 96 ?_
  refine tk 14 97 ?_
  refine tk 15 98 ?_
  refine tk 16 99 ?_
  refine tk 17 100 ?_
  refine tk 18 101 ?_
  refine tk 19 102 ?_
  refine tk 20 103 ?_
  clear o0 o1 o2
  have z0:=kn.cell 0 rfl
  have y0:=kn.fro 0
  refine held_one 21 ⟨none, .store 3 (.tmp 103) (.tmp 102),_,_,_,none⟩ rfl (by kernel_rfl) (by rfl) ?_
  unfold Oper.wp
  go_simp
  replace kb:=kb.far (p:=⟨w.heap.size + 1,0,none⟩) (by simp) (.int .i64 (p * f2 - d2 * q))
  replace hB:=hB.setCell (p:=⟨w.heap.size + 1,0,none⟩) (by simp) (.int .i64 (p * f2 - d2 * q))
  replace kn:=kn.set 0 (.int .i64 (p * f2 - d2 * q))
  clear hHeld z0 y0 kS
  generalize World.setCell _ _ _ = u0 at *
  have hc:=HS.out _ hB
  refine ⟨⟨hc.1,hc.2.2.2.2.2.2.1⟩,?_⟩
  (try simp only [Act.put,List.setIfInBounds_toArray,List.set_cons_zero,List.set_cons_succ])
  refine wpAnyH_done (by kernel_rfl) ?_ _
  clear hc
  go_upto_region 19 with fail
  refine wp_region_held_drew (S:=fun V=>V.cell? ad = some (.int .i64 d1) ∧ V.cell? ⟨ad.block,ad.off + 1,none⟩ = some (.int .i64 d2) ∧ V.cell? ⟨ad.block,ad.off + 2,none⟩ = some (.int .i64 d3) ∧ V.cell? ⟨ad.block,ad.off + 3,none⟩ = some (.int .i64 f1) ∧ V.cell? ⟨ad.block,ad.off + 3 + 1,none⟩ = some (.int .i64 f2) ∧ V.cell? ⟨ad.block,ad.off + 3 + 2,none⟩ = some (.int .i64 f3) ∧ V.cell? bp = some (.int .i64 p) ∧ V.cell? ⟨bp.block,bp.off + 1,none⟩ = some (.int .i64 q)) (by kernel_rfl) (HS.out _ hB.drew) (fun hHeld=>?_)
  replace kb:=kb.drew
  replace kn:=kn.drew
  replace hB:=hB.drew
  generalize u0.drew = t0a at *
  have o0:=W6.out
  have o1:=W7.out
  have o2:=W8.out
  refine tk 0 104 ?_
  refine tk 1 105 ?_
  refine tk 2 106 ?_
  refine tk 3 107 ?_
  refine tk 4 108 ?_
  refine tk 5 109 ?_
  refine tk 6 110 ?_
  refine tk 7 111 ?_
  refine tk 8 112 ?_
  refine tk 9 113 ?_
  refine tk 10 114 ?_
  refine tk 11 115 ?_
  refine tk 12 116 ?_
  refine tk 13 117 ?_
  refine tk 14 118 ?_
  refine tk 15 119 ?_
  refine tk 16 120 ?_
  refine tk 17 121 ?_
  refine tk 18 122 ?_
  refine tk 19 123 ?_
  refine tk 20 124 ?_
  clear o0 o1 o2
  have z0:=kn.cell 1 rfl
  have y0:=kn.fro 1
  refine held_one 21 ⟨none, .store 3 (.tmp 124) (.tmp 123),_,_,_,none⟩ rfl (by kernel_rfl) (by rfl) ?_
  unfold Oper.wp
  go_simp
  replace kb:=kb.far (p:=⟨w.heap.size + 1,1,none⟩) (by simp) (.int .i64 (d1 * q - p * f1))
  replace hB:=hB.setCell (p:=⟨w.heap.size + 1,1,none⟩) (by simp) (.int .i64 (d1 * q - p * f1))
  replace kn:=kn.set 1 (.int .i64 (d1 * q - p * f1))
  clear hHeld z0 y0
  generalize World.setCell _ _ _ = t0 at *
  have hc:=HS.out _ hB
  refine ⟨⟨hc.1,hc.2.2.2.2.2.2.1⟩,?_⟩
  (try simp only [Act.put,List.setIfInBounds_toArray,List.set_cons_zero,List.set_cons_succ])
  refine wpAnyH_done (by kernel_rfl) ?_ _
  clear hc
  have y0:=kn.cell 0 rfl
  have y1:=kn.cell 1 rfl
  have y2:=kn.cell 2 rfl
  have z0:=kb.cell 0 rfl
  have z1:=kb.cell 1 rfl
  have z2:=kb.cell 2 rfl
  have f0_:=kb.fro 0
  have f1_:=kb.fro 1
  have f2_:=kb.fro 2
  go_wp2
  have g1:=((kb.set 0 (.int .i64 (p * f2 - d2 * q))).set 1 (.int .i64 (d1 * q - p * f1))).set 2 (.int .i64 (0))
  have gb:=((hB.setCell (p:=⟨w.heap.size,0,none⟩) (Nat.le_refl _) (.int .i64 (p * f2 - d2 * q))).setCell (p:=⟨w.heap.size,1,none⟩) (Nat.le_refl _) (.int .i64 (d1 * q - p * f1))).setCell (p:=⟨w.heap.size,2,none⟩) (Nat.le_refl _) (.int .i64 (0))
  have x0:=g1.cell 0 rfl
  have x1:=g1.cell 1 rfl
  have x2:=g1.cell 2 rfl
  generalize World.setCell _ _ _ = w9 at *
  refine bodyPost_ret (v:=.tuple #[.agg #[.int .i64 (p * f2 - d2 * q), .int .i64 (d1 * q - p * f1), .int .i64 (0)], .int .i64 (d1 * f2 - d2 * f1), .bool true]) (by simp [results,Try.results76,go_sem,x0,x1,x2]) rfl ⟨gb,_,_,_,_,true,rfl,HE.out⟩
 ·replace n0:=Lib.hid hden
  have hden0 : d1 * f2 - d2 * f1 = 0:=by omega
  go_wp2
  clear hden0 hden
  refine (show Code.rounds _ _ _ (2 + 1) _ _ from ?_)
  rw [rounds_succ]
  have s0:=kS.cell 2 rfl
  have s1:=kS.cell 3 rfl
  have lS:=kS.lt
  go_upto_region 15 with fail
  have kx:=(Bk.new v1 123 #[.int .i64 0, .int .i64 2]).drew
  clear s0 s1 lS
  replace kS:=kS.alloc (.cells #[.int .i64 0, .int .i64 2] 123)
  replace kb:=kb.alloc (.cells #[.int .i64 0, .int .i64 2] 123)
  replace kn:=kn.alloc (.cells #[.int .i64 0, .int .i64 2] 123)
  replace hB:=hB.alloc hB.size (.cells #[.int .i64 0, .int .i64 2] 123)
  replace kS:=kS.drew
  replace kb:=kb.drew
  replace kn:=kn.drew
  replace hB:=hB.drew
  refine wp_region_held_drew (S:=fun V=>V.cell? ⟨v1.heap.size,0,none⟩ = some (.int .i64 0) ∧ V.cell? ⟨v1.heap.size,1,none⟩ = some (.int .i64 2)) (by kernel_rfl) ⟨kx.cell 0 rfl,kx.cell 1 rfl⟩ (fun hHeld=>?_)
  clear kx
  generalize (v1.alloc (.cells #[.int .i64 0, .int .i64 2] 123)).drew = x1 at *
  refine tk 0 54 ?_
  refine tk 1 55 ?_
  refine tk 2 56 ?_
  refine tk 3 57 ?_
  refine tk 4 11 ?_
  refine tk 5 12 ?_
  refine wpAnyH_done (by kernel_rfl) ?_ _
  clear hHeld
  go_upto_region 16 with fail
  refine wp_region_held_drew (S:=fun V=>V.cell? ad = some (.int .i64 d1) ∧ V.cell? ⟨ad.block,ad.off + 1,none⟩ = some (.int .i64 d2) ∧ V.cell? ⟨ad.block,ad.off + 2,none⟩ = some (.int .i64 d3) ∧ V.cell? ⟨ad.block,ad.off + 3,none⟩ = some (.int .i64 f1) ∧ V.cell? ⟨ad.block,ad.off + 3 + 1,none⟩ = some (.int .i64 f2) ∧ V.cell? ⟨ad.block,ad.off + 3 + 2,none⟩ = some (.int .i64 f3) ∧ V.cell? bp = some (.int .i64 p) ∧ V.cell? ⟨bp.block,bp.off + 1,none⟩ = some (.int .i64 q)) (by kernel_rfl) (HS.out _ hB.drew) (fun hHeld=>?_)
  replace kS:=kS.drew
  replace kb:=kb.drew
  replace kn:=kn.drew
  replace hB:=hB.drew
  generalize x1.drew = v2 at *
  have o0:=W9.out
  have o1:=W10.out
  have o2:=W11.out
  refine tk 0 58 ?_
  refine tk 1 59 ?_
  refine tk 2 60 ?_
  refine tk 3 61 ?_
  refine tk 4 62 ?_
  refine tk 5 63 ?_
  refine tk 6 64 ?_
  refine tk 7 65 ?_
  refine tk 8 66 ?_
  refine tk 9 67 ?_
  refine tk 10 68 ?_
  refine tk 11 69 ?_
  refine tk 12 70 ?_
  refine tk 13 71 ?_
  refine tk 14 72 ?_
  refine tk 15 73 ?_
  refine tk 16 74 ?_
  refine tk 17 75 ?_
  refine tk 18 76 ?_
  refine tk 19 77 ?_
  refine tk 20 78 ?_
  refine tk 21 79 ?_
  refine tk 22 80 ?_
  refine tk 23 13 ?_
  refine wpAnyH_done (by kernel_rfl) ?_ _
  clear hHeld o0 o1 o2
  have n1 : Hid True:=trivial
  by_cases hden : d1 * f3 - d3 * f1 ≠ 0
  ·have HE : Hid (slpC [⟨d1,d2,d3⟩,⟨f1,f2,f3⟩] [p,q] = some (⟨p * f3 - d3 * q,0,d1 * q - p * f1⟩,d1 * f3 - d3 * f1)):=by
    show _ = _
    simp only [slpC]
    rw [if_neg n0.out,if_pos hden]
   go_upto_region 18 with fail
   refine wp_region_held_drew (S:=fun V=>V.cell? ad = some (.int .i64 d1) ∧ V.cell? ⟨ad.block,ad.off + 1,none⟩ = some (.int .i64 d2) ∧ V.cell? ⟨ad.block,ad.off + 2,none⟩ = some (.int .i64 d3) ∧ V.cell? ⟨ad.block,ad.off + 3,none⟩ = some (.int .i64 f1) ∧ V.cell? ⟨ad.block,ad.off + 3 + 1,none⟩ = some (.int .i64 f2) ∧ V.cell? ⟨ad.block,ad.off + 3 + 2,none⟩ = some (.int .i64 f3) ∧ V.cell? bp = some (.int .i64 p) ∧ V.cell? ⟨bp.block,bp.off + 1,none⟩ = some (.int .i64 q)) (by kernel_rfl) (HS.out _ hB.drew) (fun hHeld=>?_)
   replace kS:=kS.drew
   replace kb:=kb.drew
   replace kn:=kn.drew
   replace hB:=hB.drew
   generalize v2.drew = u1a at *
   have o0:=W12.out
   have o1:=W13.out
   have o2:=W14.out
   refine tk 0 83 ?_
   refine tk 1 84 ?_
   refine tk 2 85 ?_
   refine tk 3 86 ?_
   refine tk 4 87 ?_
   refine tk 5 88 ?_
   refine tk 6 89 ?_
   refine tk 7 90 ?_
   refine tk 8 91 ?_
   refine tk 9 92 ?_
   refine tk 10 93 ?_
   refine tk 11 94 ?_
   refine tk 12 95 ?_
   refine tk 13 96 ?_
   refine tk 14 97 ?_
   refine tk 15 98 ?_
   refine tk 16 99 ?_
   refine tk 17 100 ?_
   refine tk 18 101 ?_
   refine tk 19 102 ?_
   refine tk 20 103 ?_
   clear o0 o1 o2
   have z0:=kn.cell 0 rfl
   have y0:=kn.fro 0
   refine held_one 21 ⟨none, .store 3 (.tmp 103) (.tmp 102),_,_,_,none⟩ rfl (by kernel_rfl) (by rfl) ?_
   unfold Oper.wp
   go_simp
   replace kb:=kb.far (p:=⟨w.heap.size + 1,0,none⟩) (by simp) (.int .i64 (p * f3 - d3 * q))
   replace hB:=hB.setCell (p:=⟨w.heap.size + 1,0,none⟩) (by simp) (.int .i64 (p * f3 - d3 * q))
   replace kn:=kn.set 0 (.int .i64 (p * f3 - d3 * q))
   clear hHeld z0 y0 kS
   generalize World.setCell _ _ _ = u1 at *
   have hc:=HS.out _ hB
   refine ⟨⟨hc.1,hc.2.2.2.2.2.2.1⟩,?_⟩
   (try simp only [Act.put,List.setIfInBounds_toArray,List.set_cons_zero,List.set_cons_succ])
   refine wpAnyH_done (by kernel_rfl) ?_ _
   clear hc
   go_upto_region 19 with fail
   refine wp_region_held_drew (S:=fun V=>V.cell? ad = some (.int .i64 d1) ∧ V.cell? ⟨ad.block,ad.off + 1,none⟩ = some (.int .i64 d2) ∧ V.cell? ⟨ad.block,ad.off + 2,none⟩ = some (.int .i64 d3) ∧ V.cell? ⟨ad.block,ad.off + 3,none⟩ = some (.int .i64 f1) ∧ V.cell? ⟨ad.block,ad.off + 3 + 1,none⟩ = some (.int .i64 f2) ∧ V.cell? ⟨ad.block,ad.off + 3 + 2,none⟩ = some (.int .i64 f3) ∧ V.cell? bp = some (.int .i64 p) ∧ V.cell? ⟨bp.block,bp.off + 1,none⟩ = some (.int .i64 q)) (by kernel_rfl) (HS.out _ hB.drew) (fun hHeld=>?_)
   replace kb:=kb.drew
   replace kn:=kn.drew
   replace hB:=hB.drew
   generalize u1.drew = t1a at *
   have o0:=W6.out
   have o1:=W7.out
   have o2:=W8.out
   refine tk 0 104 ?_
   refine tk 1 105 ?_
   refine tk 2 106 ?_
   refine tk 3 107 ?_
   refine tk 4 108 ?_
   refine tk 5 109 ?_
   refine tk 6 110 ?_
   refine tk 7 111 ?_
   refine tk 8 112 ?_
   refine tk 9 113 ?_
   refine tk 10 114 ?_
   refine tk 11 115 ?_
   refine tk 12 116 ?_
   refine tk 13 117 ?_
   refine tk 14 118 ?_
   refine tk 15 119 ?_
   refine tk 16 120 ?_
   refine tk 17 121 ?_
   refine tk 18 122 ?_
   refine tk 19 123 ?_
   refine tk 20 124 ?_
   clear o0 o1 o2
   have z0:=kn.cell 2 rfl
   have y0:=kn.fro 2
   refine held_one 21 ⟨none, .store 3 (.tmp 124) (.tmp 123),_,_,_,none⟩ rfl (by kernel_rfl) (by rfl) ?_
   unfold Oper.wp
   go_simp
   replace kb:=kb.far (p:=⟨w.heap.size + 1,2,none⟩) (by simp) (.int .i64 (d1 * q - p * f1))
   replace hB:=hB.setCell (p:=⟨w.heap.size + 1,2,none⟩) (by simp) (.int .i64 (d1 * q - p * f1))
   replace kn:=kn.set 2 (.int .i64 (d1 * q - p * f1))
   clear hHeld z0 y0
   generalize World.setCell _ _ _ = t1 at *
   have hc:=HS.out _ hB
   refine ⟨⟨hc.1,hc.2.2.2.2.2.2.1⟩,?_⟩
   (try simp only [Act.put,List.setIfInBounds_toArray,List.set_cons_zero,List.set_cons_succ])
   refine wpAnyH_done (by kernel_rfl) ?_ _
   clear hc
   have y0:=kn.cell 0 rfl
   have y1:=kn.cell 1 rfl
   have y2:=kn.cell 2 rfl
   have z0:=kb.cell 0 rfl
   have z1:=kb.cell 1 rfl
   have z2:=kb.cell 2 rfl
   have f0_:=kb.fro 0
   have f1_:=kb.fro 1
   have f2_:=kb.fro 2
   go_wp2
   have g1:=((kb.set 0 (.int .i64 (p * f3 - d3 * q))).set 1 (.int .i64 (0))).set 2 (.int .i64 (d1 * q - p * f1))
   have gb:=((hB.setCell (p:=⟨w.heap.size,0,none⟩) (Nat.le_refl _) (.int .i64 (p * f3 - d3 * q))).setCell (p:=⟨w.heap.size,1,none⟩) (Nat.le_refl _) (.int .i64 (0))).setCell (p:=⟨w.heap.size,2,none⟩) (Nat.le_refl _) (.int .i64 (d1 * q - p * f1))
   have x0:=g1.cell 0 rfl
   have x1:=g1.cell 1 rfl
   have x2:=g1.cell 2 rfl
   generalize World.setCell _ _ _ = w9 at *
   refine bodyPost_ret (v:=.tuple #[.agg #[.int .i64 (p * f3 - d3 * q), .int .i64 (0), .int .i64 (d1 * q - p * f1)], .int .i64 (d1 * f3 - d3 * f1), .bool true]) (by simp [results,Try.results76,go_sem,x0,x1,x2]) rfl ⟨gb,_,_,_,_,true,rfl,HE.out⟩
  ·replace n1:=Lib.hid hden
   have hden0 : d1 * f3 - d3 * f1 = 0:=by omega
   go_wp2
   clear hden0 hden
   refine (show Code.rounds _ _ _ (1 + 1) _ _ from ?_)
   rw [rounds_succ]
   have s0:=kS.cell 4 rfl
   have s1:=kS.cell 5 rfl
   have lS:=kS.lt
   go_upto_region 15 with fail
   have kx:=(Bk.new v2 123 #[.int .i64 1, .int .i64 2]).drew
   clear s0 s1 lS
   replace kS:=kS.alloc (.cells #[.int .i64 1, .int .i64 2] 123)
   replace kb:=kb.alloc (.cells #[.int .i64 1, .int .i64 2] 123)
   replace kn:=kn.alloc (.cells #[.int .i64 1, .int .i64 2] 123)
   replace hB:=hB.alloc hB.size (.cells #[.int .i64 1, .int .i64 2] 123)
   replace kS:=kS.drew
   replace kb:=kb.drew
   replace kn:=kn.drew
   replace hB:=hB.drew
   refine wp_region_held_drew (S:=fun V=>V.cell? ⟨v2.heap.size,0,none⟩ = some (.int .i64 1) ∧ V.cell? ⟨v2.heap.size,1,none⟩ = some (.int .i64 2)) (by kernel_rfl) ⟨kx.cell 0 rfl,kx.cell 1 rfl⟩ (fun hHeld=>?_)
   clear kx
   generalize (v2.alloc (.cells #[.int .i64 1, .int .i64 2] 123)).drew = x2 at *
   refine tk 0 54 ?_
   refine tk 1 55 ?_
   refine tk 2 56 ?_
   refine tk 3 57 ?_
   refine tk 4 11 ?_
   refine tk 5 12 ?_
   refine wpAnyH_done (by kernel_rfl) ?_ _
   clear hHeld
   go_upto_region 16 with fail
   refine wp_region_held_drew (S:=fun V=>V.cell? ad = some (.int .i64 d1) ∧ V.cell? ⟨ad.block,ad.off + 1,none⟩ = some (.int .i64 d2) ∧ V.cell? ⟨ad.block,ad.off + 2,none⟩ = some (.int .i64 d3) ∧ V.cell? ⟨ad.block,ad.off + 3,none⟩ = some (.int .i64 f1) ∧ V.cell? ⟨ad.block,ad.off + 3 + 1,none⟩ = some (.int .i64 f2) ∧ V.cell? ⟨ad.block,ad.off + 3 + 2,none⟩ = some (.int .i64 f3) ∧ V.cell? bp = some (.int .i64 p) ∧ V.cell? ⟨bp.block,bp.off + 1,none⟩ = some (.int .i64 q)) (by kernel_rfl) (HS.out _ hB.drew) (fun hHeld=>?_)
   replace kS:=kS.drew
   replace kb:=kb.drew
   replace kn:=kn.drew
   replace hB:=hB.drew
   generalize x2.drew = v3 at *
   have o0:=W15.out
   have o1:=W16.out
   have o2:=W17.out
   refine tk 0 58 ?_
   refine tk 1 59 ?_
   refine tk 2 60 ?_
   refine tk 3 61 ?_
   refine tk 4 62 ?_
   refine tk 5 63 ?_
   refine tk 6 64 ?_
   refine tk 7 65 ?_
   refine tk 8 66 ?_
   refine tk 9 67 ?_
   refine tk 10 68 ?_
   refine tk 11 69 ?_
   refine tk 12 70 ?_
   refine tk 13 71 ?_
   refine tk 14 72 ?_
   refine tk 15 73 ?_
   refine tk 16 74 ?_
   refine tk 17 75 ?_
   refine tk 18 76 ?_
   refine tk 19 77 ?_
   refine tk 20 78 ?_
   refine tk 21 79 ?_
   refine tk 22 80 ?_
   refine tk 23 13 ?_
   refine wpAnyH_done (by kernel_rfl) ?_ _
   clear hHeld o0 o1 o2
   have n2 : Hid True:=trivial
   by_cases hden : d2 * f3 - d3 * f2 ≠ 0
   ·have HE : Hid (slpC [⟨d1,d2,d3⟩,⟨f1,f2,f3⟩] [p,q] = some (⟨0,p * f3 - d3 * q,d2 * q - p * f2⟩,d2 * f3 - d3 * f2)):=by
     show _ = _
     simp only [slpC]
     rw [if_neg n0.out,if_neg n1.out,if_pos hden]
    go_upto_region 18 with fail
    refine wp_region_held_drew (S:=fun V=>V.cell? ad = some (.int .i64 d1) ∧ V.cell? ⟨ad.block,ad.off + 1,none⟩ = some (.int .i64 d2) ∧ V.cell? ⟨ad.block,ad.off + 2,none⟩ = some (.int .i64 d3) ∧ V.cell? ⟨ad.block,ad.off + 3,none⟩ = some (.int .i64 f1) ∧ V.cell? ⟨ad.block,ad.off + 3 + 1,none⟩ = some (.int .i64 f2) ∧ V.cell? ⟨ad.block,ad.off + 3 + 2,none⟩ = some (.int .i64 f3) ∧ V.cell? bp = some (.int .i64 p) ∧ V.cell? ⟨bp.block,bp.off + 1,none⟩ = some (.int .i64 q)) (by kernel_rfl) (HS.out _ hB.drew) (fun hHeld=>?_)
    replace kS:=kS.drew
    replace kb:=kb.drew
    replace kn:=kn.drew
    replace hB:=hB.drew
    generalize v3.drew = u2a at *
    have o0:=W12.out
    have o1:=W13.out
    have o2:=W14.out
    refine tk 0 83 ?_
    refine tk 1 84 ?_
    refine tk 2 85 ?_
    refine tk 3 86 ?_
    refine tk 4 87 ?_
    refine tk 5 88 ?_
    refine tk 6 89 ?_
    refine tk 7 90 ?_
    refine tk 8 91 ?_
    refine tk 9 92 ?_
    refine tk 10 93 ?_
    refine tk 11 94 ?_
    refine tk 12 95 ?_
    refine tk 13 96 ?_
    refine tk 14 97 ?_
    refine tk 15 98 ?_
    refine tk 16 99 ?_
    refine tk 17 100 ?_
    refine tk 18 101 ?_
    refine tk 19 102 ?_
    refine tk 20 103 ?_
    clear o0 o1 o2
    have z0:=kn.cell 1 rfl
    have y0:=kn.fro 1
    refine held_one 21 ⟨none, .store 3 (.tmp 103) (.tmp 102),_,_,_,none⟩ rfl (by kernel_rfl) (by rfl) ?_
    unfold Oper.wp
    go_simp
    replace kb:=kb.far (p:=⟨w.heap.size + 1,1,none⟩) (by simp) (.int .i64 (p * f3 - d3 * q))
    replace hB:=hB.setCell (p:=⟨w.heap.size + 1,1,none⟩) (by simp) (.int .i64 (p * f3 - d3 * q))
    replace kn:=kn.set 1 (.int .i64 (p * f3 - d3 * q))
    clear hHeld z0 y0 kS
    generalize World.setCell _ _ _ = u2 at *
    have hc:=HS.out _ hB
    refine ⟨⟨hc.1,hc.2.2.2.2.2.2.1⟩,?_⟩
    (try simp only [Act.put,List.setIfInBounds_toArray,List.set_cons_zero,List.set_cons_succ])
    refine wpAnyH_done (by kernel_rfl) ?_ _
    clear hc
    go_upto_region 19 with fail
    refine wp_region_held_drew (S:=fun V=>V.cell? ad = some (.int .i64 d1) ∧ V.cell? ⟨ad.block,ad.off + 1,none⟩ = some (.int .i64 d2) ∧ V.cell? ⟨ad.block,ad.off + 2,none⟩ = some (.int .i64 d3) ∧ V.cell? ⟨ad.block,ad.off + 3,none⟩ = some (.int .i64 f1) ∧ V.cell? ⟨ad.block,ad.off + 3 + 1,none⟩ = some (.int .i64 f2) ∧ V.cell? ⟨ad.block,ad.off + 3 + 2,none⟩ = some (.int .i64 f3) ∧ V.cell? bp = some (.int .i64 p) ∧ V.cell? ⟨bp.block,bp.off + 1,none⟩ = some (.int .i64 q)) (by kernel_rfl) (HS.out _ hB.drew) (fun hHeld=>?_)
    replace kb:=kb.drew
    replace kn:=kn.drew
    replace hB:=hB.drew
    generalize u2.drew = t2a at *
    have o0:=W4.out
    have o1:=W3.out
    have o2:=W18.out
    refine tk 0 104 ?_
    refine tk 1 105 ?_
    refine tk 2 106 ?_
    refine tk 3 107 ?_
    refine tk 4 108 ?_
    refine tk 5 109 ?_
    refine tk 6 110 ?_
    refine tk 7 111 ?_
    refine tk 8 112 ?_
    refine tk 9 113 ?_
    refine tk 10 114 ?_
    refine tk 11 115 ?_
    refine tk 12 116 ?_
    refine tk 13 117 ?_
    refine tk 14 118 ?_
    refine tk 15 119 ?_
    refine tk 16 120 ?_
    refine tk 17 121 ?_
    refine tk 18 122 ?_
    refine tk 19 123 ?_
    refine tk 20 124 ?_
    clear o0 o1 o2
    have z0:=kn.cell 2 rfl
    have y0:=kn.fro 2
    refine held_one 21 ⟨none, .store 3 (.tmp 124) (.tmp 123),_,_,_,none⟩ rfl (by kernel_rfl) (by rfl) ?_
    unfold Oper.wp
    go_simp
    replace kb:=kb.far (p:=⟨w.heap.size + 1,2,none⟩) (by simp) (.int .i64 (d2 * q - p * f2))
    replace hB:=hB.setCell (p:=⟨w.heap.size + 1,2,none⟩) (by simp) (.int .i64 (d2 * q - p * f2))
    replace kn:=kn.set 2 (.int .i64 (d2 * q - p * f2))
    clear hHeld z0 y0
    generalize World.setCell _ _ _ = t2 at *
    have hc:=HS.out _ hB
    refine ⟨⟨hc.1,hc.2.2.2.2.2.2.1⟩,?_⟩
    (try simp only [Act.put,List.setIfInBounds_toArray,List.set_cons_zero,List.set_cons_succ])
    refine wpAnyH_done (by kernel_rfl) ?_ _
    clear hc
    have y0:=kn.cell 0 rfl
    have y1:=kn.cell 1 rfl
    have y2:=kn.cell 2 rfl
    have z0:=kb.cell 0 rfl
    have z1:=kb.cell 1 rfl
    have z2:=kb.cell 2 rfl
    have f0_:=kb.fro 0
    have f1_:=kb.fro 1
    have f2_:=kb.fro 2
    go_wp2
    have g1:=((kb.set 0 (.int .i64 (0))).set 1 (.int .i64 (p * f3 - d3 * q))).set 2 (.int .i64 (d2 * q - p * f2))
    have gb:=((hB.setCell (p:=⟨w.heap.size,0,none⟩) (Nat.le_refl _) (.int .i64 (0))).setCell (p:=⟨w.heap.size,1,none⟩) (Nat.le_refl _) (.int .i64 (p * f3 - d3 * q))).setCell (p:=⟨w.heap.size,2,none⟩) (Nat.le_refl _) (.int .i64 (d2 * q - p * f2))
    have x0:=g1.cell 0 rfl
    have x1:=g1.cell 1 rfl
    have x2:=g1.cell 2 rfl
    generalize World.setCell _ _ _ = w9 at *
    refine bodyPost_ret (v:=.tuple #[.agg #[.int .i64 (0), .int .i64 (p * f3 - d3 * q), .int .i64 (d2 * q - p * f2)], .int .i64 (d2 * f3 - d3 * f2), .bool true]) (by simp [results,Try.results76,go_sem,x0,x1,x2]) rfl ⟨gb,_,_,_,_,true,rfl,HE.out⟩
   ·replace n2:=Lib.hid hden
    have hden0 : d2 * f3 - d3 * f2 = 0:=by omega
    go_wp2
    clear hden0 hden
    refine (show Code.rounds _ _ _ (0 + 1) _ _ from ?_)
    rw [rounds_succ]
    have HE : Hid (slpC [⟨d1,d2,d3⟩,⟨f1,f2,f3⟩] [p,q] = none):=by
     show _ = _
     simp only [slpC]
     rw [if_neg n0.out,if_neg n1.out,if_neg n2.out]
    have y0:=kn.cell 0 rfl
    have y1:=kn.cell 1 rfl
    have y2:=kn.cell 2 rfl
    have z0:=kb.cell 0 rfl
    have z1:=kb.cell 1 rfl
    have z2:=kb.cell 2 rfl
    have f0_:=kb.fro 0
    have f1_:=kb.fro 1
    have f2_:=kb.fro 2
    go_wp2
    have g1:=((kb.set 0 (.int .i64 (0))).set 1 (.int .i64 (0))).set 2 (.int .i64 (0))
    have gb:=((hB.setCell (p:=⟨w.heap.size,0,none⟩) (Nat.le_refl _) (.int .i64 (0))).setCell (p:=⟨w.heap.size,1,none⟩) (Nat.le_refl _) (.int .i64 (0))).setCell (p:=⟨w.heap.size,2,none⟩) (Nat.le_refl _) (.int .i64 (0))
    have x0:=g1.cell 0 rfl
    have x1:=g1.cell 1 rfl
    have x2:=g1.cell 2 rfl
    generalize World.setCell _ _ _ = w9 at *
    refine bodyPost_ret (v:=.tuple #[.agg #[.int .i64 (0), .int .i64 (0), .int .i64 (0)], .int .i64 (0), .bool false]) (by simp [results,Try.results76,go_sem,x0,x1,x2]) rfl ⟨gb,_,_,_,_,false,rfl,HE.out⟩
end Go.Proofs.Ytkjceegmmhnajaa
