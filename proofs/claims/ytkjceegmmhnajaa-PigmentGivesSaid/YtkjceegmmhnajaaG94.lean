/- pigment.solved. Printed by wip/gen_sv1.py. -/
import Derived.Deep.RegionWith
import Derived.StillTailTactics
import Derived.Test.YtkjceegmmhnajaaG54
import Derived.Test.YtkjceegmmhnajaaG59
import Derived.Test.YtkjceegmmhnajaaG61
import Derived.Test.YtkjceegmmhnajaaG62
import Derived.Test.YtkjceegmmhnajaaG87
import Derived.Test.YtkjceegmmhnajaaG88
import Derived.Test.YtkjceegmmhnajaaG89
import Derived.Test.YtkjceegmmhnajaaG90
import Derived.Test.YtkjceegmmhnajaaG91
import Derived.Test.YtkjceegmmhnajaaG93

set_option linter.unusedVariables false
set_option linter.unusedSimpArgs false

namespace Go.Proofs.Ytkjceegmmhnajaa
open Go.RowKit

def SvE (r : Option Du) (w : World) (e : Ending) (w' : World) : Prop:=Below w.heap.size w w' ∧ ∃ (d : Du) (ok : Bool),e = .returned (.tuple #[d.agg, .bool ok]) ∧ r = if ok = true then some d else none
theorem info108 : (Try.prog.info? 84).map (fun i=>(i.zero,i.size,i.bytes)) = some (some (.agg #[.int .i64 0, .int .i64 0, .int .i64 0]),3,24):=by kernel_rfl
theorem vecsC_snoc (l : List Vc) (v : Vc) : vecsC l ++ [.int .i64 v.x, .int .i64 v.y, .int .i64 v.z] = vecsC (l ++ [v]):=by simp [vecsC,Vc.cells]
theorem ints_snoc' (l : List Int) (n : Int) : ints l ++ [.int .i64 n] = ints (l ++ [n]):=by simp [ints]
theorem difL_take {l : List Tn} {i : Nat} {R : List Nat} {k : Nat} (h : k < R.length) : difL l i (R.take (k + 1)) = difL l i (R.take k) ++ [(ptN l R[k]).sub (ptN l i)]:=by
 unfold difL; rw [List.take_succ_eq_append_getElem h,List.map_append]; rfl
theorem difP_take {l : List Tn} {i : Nat} {R : List Nat} {k : Nat} (h : k < R.length) : difP l i (R.take (k + 1)) = difP l i (R.take k) ++ [prN l R[k] - prN l i]:=by
 unfold difP; rw [List.take_succ_eq_append_getElem h,List.map_append]; rfl

def SlopesOk : Prop:=∀ (ds : List Vc) (ps : List Int) (A B : Option Addr) (c d : Nat) (w : World),Lies w w.heap.size A (vecsC ds) → Lies w w.heap.size B (ints ps) → ds.length ≤ 3 → ps.length = ds.length → (∀ v ∈ ds,vb 1000 v.x v.y v.z) → (∀ p ∈ ps,ab 10000 p) → Calls Try.prog 76 #[.slice A ds.length c, .slice B ps.length d] w (SlE (slpC ds ps) w)

set_option maxRecDepth 100000 in
set_option maxHeartbeats 4000000 in
theorem solved_of (HSL : SlopesOk) (l : List Tn) (i0 : Nat) (R : List Nat) (At : Option Addr) (al : Addr) (ct c : Nat) (w : World) (hlt : Lies w w.heap.size At (tintsC l)) (hl : Lies w w.heap.size (some al) (nats (i0 :: R))) (h4 : R.length ≤ 3) (hc : R.length + 1 ≤ c) (hr : ∀ i ∈ i0 :: R,i < l.length) (hm2 : l.length ≤ 1000) (hoff : ∀ t ∈ l,offTint t = false) :
  Calls Try.prog 40 #[.slice At l.length ct, .slice (some al) (R.length + 1) c] w (SvE (solC l (i0 :: R)) w):=by
 have hi0 : i0 < l.length:=hr i0 (by simp)
 obtain ⟨al',e1,hab,q0,qs⟩:=el_at (e:=⟨i0 :: R,some al,c⟩) ⟨hl,(fun e=>by cases e),by simpa using hc⟩ rfl
 cases e1
 obtain ⟨at0,rfl,hatb,t0,t1,t2,t3,t4⟩:=tint_at hlt hi0
 have HLT:=Lib.hid hlt
 have HLR : Hid (∀ V,Below w.heap.size w V → ∀ (j m : Nat),R[j]? = some m → V.cell? ⟨al.block,al.off + (j + 1),none⟩ = some (.int .i64 (m : Int))):=fun V hV j m hm=>(hV.cell (p:=⟨al.block,al.off + (j + 1),none⟩) hab).trans (qs j m hm)
 have HRR:=Lib.hid hr
 have HOF:=Lib.hid hoff
 obtain ⟨hsa,hpa0,hpa1⟩:=tin_price hoff hi0
 rw [ptN_at hi0] at hsa
 rw [prN_at hi0] at hpa0 hpa1
 have HP0:=Lib.hid (prN_at hi0)
 have HA0:=Lib.hid (ptN_at hi0)
 have HBD:=Lib.hid (dif_bd hoff hi0 (R:=R) (fun j hj=>hr j (by simp [hj])))
 generalize l[i0].a = a1 at *
 generalize l[i0].b = a2 at *
 generalize l[i0].c = a3 at *
 generalize l[i0].price = pa at *
 generalize l[i0].name = nm at *
 have HT0 : Hid (∀ V,Below w.heap.size w V → (V.cell? al = some (.int .i64 (i0 : Int)) ∧ (V.cell? ⟨(at0.add (i0 * 5)).block,(at0.add (i0 * 5)).off + 1,none⟩ = some (.int .i64 a1) ∧ V.cell? ⟨(at0.add (i0 * 5)).block,(at0.add (i0 * 5)).off + 2,none⟩ = some (.int .i64 a2) ∧ V.cell? ⟨(at0.add (i0 * 5)).block,(at0.add (i0 * 5)).off + 3,none⟩ = some (.int .i64 a3) ∧ V.cell? ⟨(at0.add (i0 * 5)).block,(at0.add (i0 * 5)).off + 4,none⟩ = some (.int .i64 pa)))):=fun V hV=>by
  have hb' : (at0.add (i0 * 5)).block < w.heap.size:=by rw [add_block]; exact hatb
  exact ⟨(hV.cell hab).trans q0,(hV.cell (p:=⟨(at0.add (i0 * 5)).block,(at0.add (i0 * 5)).off + 1,none⟩) hb').trans t1,(hV.cell (p:=⟨(at0.add (i0 * 5)).block,(at0.add (i0 * 5)).off + 2,none⟩) hb').trans t2,(hV.cell (p:=⟨(at0.add (i0 * 5)).block,(at0.add (i0 * 5)).off + 3,none⟩) hb').trans t3,(hV.cell (p:=⟨(at0.add (i0 * 5)).block,(at0.add (i0 * 5)).off + 4,none⟩) hb').trans t4⟩
 have hi0I : (i0 : Int) < (l.length : Int):=by omega
 have hi00 : 0 ≤ (i0 : Int):=by omega
 have hb' : (at0.add (i0 * 5)).block < w.heap.size:=by rw [add_block]; exact hatb
 obtain ⟨v2,hv2⟩ : ∃ v,v = (w.alloc (.cells #[.int .i64 0, .int .i64 0, .int .i64 0, .int .i64 0, .int .i64 0] 44)).alloc (.cells (vcA a1 a2 a3) 84):=⟨_,rfl⟩
 have kr : Bk v2 w.heap.size 44 #[.int .i64 0, .int .i64 0, .int .i64 0, .int .i64 0, .int .i64 0]:=by rw [hv2]; exact (Bk.new _ _ _).alloc _
 have ka : Bk v2 (w.heap.size + 1) 84 (vcA a1 a2 a3):=by rw [hv2]; simpa using Bk.new (w.alloc (.cells #[.int .i64 0, .int .i64 0, .int .i64 0, .int .i64 0, .int .i64 0] 44)) 84 (vcA a1 a2 a3)
 have hB : Below w.heap.size w v2:=by rw [hv2]; exact (by repeat (first | with_reducible exact Below.refl _ _ | with_reducible assumption | with_reducible refine Below.drew ?_ | with_reducible refine below_drewN ?_ _ | (with_reducible refine Below.alloc ?_ ?_ _; rotate_left; (try simp) <;> omega) | (with_reducible refine Below.setCell ?_ ?_ _; rotate_left; (try simp) <;> omega)))
 have hcI : (R.length : Int) + 1 ≤ (c : Int):=by omega
 clear hlt hl hr hoff qs t0
 go_enter Try.func40,Try.ntmps40
 go_upto_region 2 with fail
 rw [← hv2]
 clear hv2
 go_upto_region 4 with fail
 go_cut [23,24,25] (fun s23 s24 s25 wx=>∃ (A' : Option Addr) (c' : Nat),s23 = .slice A' R.length c' ∧ s24 = .int .i64 (R.length : Int) ∧ s25 = .int .i64 0 ∧ wx = v2 ∧ (0 < R.length → A' = some ⟨al.block,al.off + 1,none⟩))
 case first =>
  by_cases hc1 : c = 1
  ·have hR0 : R.length = 0:=by omega
   go_wp2_with fail
   all_goals
    go_meet
    exact ⟨some al,0,by first | rfl | simp [hR0],by first | rfl | simp [hR0],rfl,rfl,fun h=>by omega⟩
  ·go_wp2_with fail
   all_goals
    go_meet
    exact ⟨_,_,rfl,rfl,rfl,rfl,fun h=>by first | rfl | omega⟩
 case rest =>
 obtain ⟨A',c',rfl,rfl,rfl,rfl,hA'⟩:=hcut
 clear hc hcI q0 t1 t2 t3 t4
 go_wp2
 go_loopw [7,8,25] (fun vD vP s25 wr=>∃ k : Nat,k ≤ R.length ∧ s25 = .int .i64 (k : Int) ∧ Below w.heap.size w wr ∧ (Bk wr w.heap.size 44 #[.int .i64 0, .int .i64 0, .int .i64 0, .int .i64 0, .int .i64 0] ∧ (Bk wr (w.heap.size + 1) 84 (vcA a1 a2 a3) ∧ (wr.ownsRow (w.heap.size + 2) 84 3 vD k (vecsC (difL l i0 (R.take k))) ∧ wr.ownsRow (w.heap.size + 2) 3 1 vP k (ints (difP l i0 (R.take k)))))) ) (fun _ _ s25 _=>R.length - (intOf s25).toNat)
 case atStart=>exact ⟨0,Nat.zero_le _,rfl,hB,kr,ka,⟨rfl, .inl ⟨rfl,rfl⟩⟩,⟨rfl, .inl ⟨rfl,rfl⟩⟩⟩
 case round =>
 clear kr ka hB
 obtain ⟨k,hk,rfl,hB,kr,ka,oD,oP⟩:=hrel
 have lka:=ka.lt
 by_cases hlt : k < R.length
 ·obtain rfl:=hA' (by omega)
  have hkI : (k : Int) < (R.length : Int):=by omega
  have hk0 : 0 ≤ (k : Int):=by omega
  have hwk : IntKind.i64.wrap ((k : Int) + 1) = (k : Int) + 1:=IntWalk.i64_in _ (by omega)
  have hRk : R[k] < l.length:=HRR.out _ (List.mem_cons_of_mem _ (List.getElem_mem hlt))
  have q1:=HLR.out wr hB k R[k] (List.getElem?_eq_getElem hlt)
  rw [show al.off + (k + 1) = al.off + 1 + k by omega] at q1
  obtain ⟨aj,e,hajb,s0,s1,s2,s3,s4⟩:=tint_at HLT.out hRk
  cases e
  obtain ⟨⟨j1,j2,j3⟩,hpj0,hpj1⟩:=tin_price HOF.out hRk
  have HPJ:=Lib.hid (prN_at hRk)
  have HAJ:=Lib.hid (ptN_at hRk)
  have HDT:=Lib.hid (difL_take (l:=l) (i:=i0) hlt)
  have HPT:=Lib.hid (difP_take (l:=l) (i:=i0) hlt)
  rw [ptN_at hRk] at j1 j2 j3
  rw [prN_at hRk] at hpj0 hpj1
  dsimp only at j1 j2 j3
  have hjI : ((R[k] : Nat) : Int) < (l.length : Int):=by omega
  have hj0 : 0 ≤ ((R[k] : Nat) : Int):=by omega
  generalize l[R[k]].a = b1 at *
  generalize l[R[k]].b = b2 at *
  generalize l[R[k]].c = b3 at *
  generalize l[R[k]].price = pb at *
  generalize l[R[k]].name = nmj at *
  generalize hjv : R[k] = jv at *
  obtain ⟨m1,m2,m3,HM,bM,CM⟩:=pmin (vb_sub (a:=⟨b1,b2,b3⟩) (b:=⟨a1,a2,a3⟩) ⟨j1,j2,j3⟩ hsa) (by omega)
  have hpd : IntKind.i64.wrap (pb - pa) = pb - pa:=IntWalk.i64_in _ (by omega)
  have hajb' : (at0.add (jv * 5)).block < w.heap.size:=by rw [add_block]; exact hatb
  have HJC : Hid (∀ V,Below w.heap.size w V → V.cell? ⟨(at0.add (jv * 5)).block,(at0.add (jv * 5)).off + 1,none⟩ = some (.int .i64 b1) ∧ V.cell? ⟨(at0.add (jv * 5)).block,(at0.add (jv * 5)).off + 2,none⟩ = some (.int .i64 b2) ∧ V.cell? ⟨(at0.add (jv * 5)).block,(at0.add (jv * 5)).off + 3,none⟩ = some (.int .i64 b3) ∧ V.cell? ⟨(at0.add (jv * 5)).block,(at0.add (jv * 5)).off + 4,none⟩ = some (.int .i64 pb)):=fun V hV =>
   ⟨(hV.cell (cell_lt s1)).trans s1,(hV.cell (cell_lt s2)).trans s2,(hV.cell (cell_lt s3)).trans s3,(hV.cell (cell_lt s4)).trans s4⟩
  clear s0 s1 s2 s3 s4 hjv
  have HS7 : Hid (∀ V,Below w.heap.size w V → Bk V (w.heap.size + 1) 84 (vcA a1 a2 a3) → (V.cell? ⟨(at0.add (jv * 5)).block,(at0.add (jv * 5)).off + 1,none⟩ = some (.int .i64 b1) ∧ V.cell? ⟨(at0.add (jv * 5)).block,(at0.add (jv * 5)).off + 2,none⟩ = some (.int .i64 b2) ∧ V.cell? ⟨(at0.add (jv * 5)).block,(at0.add (jv * 5)).off + 3,none⟩ = some (.int .i64 b3)) ∧ (V.cell? ⟨w.heap.size + 1,0,none⟩ = some (.int .i64 a1) ∧ V.cell? ⟨w.heap.size + 1,1,none⟩ = some (.int .i64 a2) ∧ V.cell? ⟨w.heap.size + 1,2,none⟩ = some (.int .i64 a3))):=fun V hV ka'=>by
   have h:=HJC.out V hV
   exact ⟨⟨h.1,h.2.1,h.2.2.1⟩,ka'.cell 0 rfl,ka'.cell 1 rfl,ka'.cell 2 rfl⟩
  obtain ⟨AD,cD,rfl,hkD,hmD⟩:=ownsSlice oD
  obtain ⟨AP,cP,rfl,hkP,hmP⟩:=ownsSlice oP
  go_upto_region 7 with fail
  refine wp_region_held_drew (S:=fun V=>(V.cell? ⟨(at0.add (jv * 5)).block,(at0.add (jv * 5)).off + 1,none⟩ = some (.int .i64 b1) ∧ V.cell? ⟨(at0.add (jv * 5)).block,(at0.add (jv * 5)).off + 2,none⟩ = some (.int .i64 b2) ∧ V.cell? ⟨(at0.add (jv * 5)).block,(at0.add (jv * 5)).off + 3,none⟩ = some (.int .i64 b3)) ∧ (V.cell? ⟨w.heap.size + 1,0,none⟩ = some (.int .i64 a1) ∧ V.cell? ⟨w.heap.size + 1,1,none⟩ = some (.int .i64 a2) ∧ V.cell? ⟨w.heap.size + 1,2,none⟩ = some (.int .i64 a3))) (by kernel_rfl) (HS7.out _ hB.drew ka.drew) (fun hHeld=>?_)
  replace hB:=hB.drew
  replace kr:=kr.drew
  replace ka:=ka.drew
  replace oD:=own_drew oD
  replace oP:=own_drew oP
  have hza : w.heap.size + 2 ≤ wr.drew.heap.size:=ka.lt
  generalize wr.drew = w6 at *
  refine tk 0 29 ?_
  refine tk 1 30 ?_
  refine tk 2 31 ?_
  refine tk 3 32 ?_
  refine tk 4 33 ?_
  refine tk 5 34 ?_
  refine tk 6 35 ?_
  (refine held_call 7 (some 36) 75 _ rfl (by kernel_rfl) (by rfl) ?_ ((CM.out _)) ?_; rotate_left; rotate_left; (simp only [List.getElem?_toArray,List.getElem?_cons_zero,List.getElem?_cons_succ,Option.map_some]; refine congrArg some ?_; go_simp))
  rintro e w7 ⟨rfl,hb7⟩
  replace kr:=kr.below hb7 kr.lt
  replace ka:=ka.below hb7 ka.lt
  replace oD:=ownsRow_below oD hb7 (Nat.le_refl _)
  replace oP:=ownsRow_below oP hb7 (Nat.le_refl _)
  replace hB:=hB.trans (hb7.mono hB.size)
  clear hHeld hb7 hza
  refine ⟨_,rfl,HS7.out _ hB ka,fun hHeld=>?_⟩
  (try simp only [Act.put,List.setIfInBounds_toArray,List.set_cons_zero,List.set_cons_succ])
  have kq:=Bk.new w7 84 (vcA m1 m2 m3)
  have hg7:=ka.lt
  replace kr:=kr.alloc (.cells (vcA m1 m2 m3) 84)
  replace ka:=ka.alloc (.cells (vcA m1 m2 m3) 84)
  replace oD:=ownsRow_below oD ((Below.refl _ w7).alloc (Nat.le_refl _) (.cells (vcA m1 m2 m3) 84)) (Nat.le_refl _)
  replace oP:=ownsRow_below oP ((Below.refl _ w7).alloc (Nat.le_refl _) (.cells (vcA m1 m2 m3) 84)) (Nat.le_refl _)
  replace hB:=hB.alloc hB.size (.cells (vcA m1 m2 m3) 84)
  have hS8:=HS7.out _ hB ka
  refine held_one 8 ⟨some 37, .buildSlice 108 1 #[(0, .tmp 36)],108,_,_,none⟩ rfl (by kernel_rfl) (by rfl) ?_
  unfold Oper.wp
  go_simp
  (try simp only [Act.put,List.setIfInBounds_toArray,List.set_cons_zero,List.set_cons_succ])
  clear hS8 hHeld
  obtain ⟨i84,hi0,hz0,hz1,hz2⟩:=info_parts info108
  have I84:=Lib.hid (And.intro hi0 (And.intro hz0 (And.intro hz1 hz2))); clear hi0 hz0 hz1 hz2
  obtain ⟨i3,hi0,hz0,hz1,hz2⟩:=info_parts info3
  have I3:=Lib.hid (And.intro hi0 (And.intro hz0 (And.intro hz1 hz2))); clear hi0 hz0 hz1 hz2
  refine held_one 9 ⟨some 38, .call { callee:=.builtin .append,args:=#[.tmp 29, .tmp 37],argTypes:=#[108,108] },108,_,_,none⟩ rfl (by kernel_rfl) (by rfl) ?_
  have hg8 : w.heap.size + 2 ≤ (w7.alloc (.cells (vcA m1 m2 m3) 84)).heap.size:=ka.lt
  refine wp_append_own _ (.tmp 29) (.tmp 37) 108 rfl 84 i84 (.agg (vcA 0 0 0)) 3 24 Try.underlying108 I84.out.1 I84.out.2.1 I84.out.2.2.1 I84.out.2.2.2 rfl (by decide) (w.heap.size + 2) (.slice AD k cD) k _ rfl oD ⟨w7.heap.size,0,none⟩ 1 1 [.int .i64 m1, .int .i64 m2, .int .i64 m3] rfl rfl (bk_cells kq) ?_ ?_ ?_ hg8 ?_
  ·intro u hu; simp at hu; rcases hu with rfl | rfl | rfl <;> rfl
  ·unfold maxLen; omega
  ·omega
  intro v9 w9 oD9 hg9
  have hB9:=below_row hB oD hg9 (Nat.le_add_right _ 2) hB.size
  have ka9:=ka.grown hg9 (own_ne oD (by omega))
  have kr9:=kr.grown hg9 (own_ne oD (by omega))
  have oP9:=own_kept oP oD (by decide) hg9
  have eD : vecsC (difL l i0 (R.take k)) ++ [.int .i64 m1, .int .i64 m2, .int .i64 m3] = vecsC (difL l i0 (R.take (k + 1))):=by
   rw [HDT.out,HAJ.out,HA0.out,← vecsC_snoc,HM.out.1,HM.out.2.1,HM.out.2.2]; rfl
  rw [eD] at oD9
  refine ⟨HS7.out _ hB9 ka9,?_⟩
  clear eD hg8 hg9 hg7 kq kr ka oD oP hB
  have hHeld:=HS7.out _ hB9 ka9
  (try simp only [Act.put,List.setIfInBounds_toArray,List.set_cons_zero,List.set_cons_succ])
  refine tk 10 7 ?_
  refine wpAnyH_done (by kernel_rfl) ?_ _
  clear hHeld
  obtain ⟨AD2,cD2,rfl,hkD2,hmD2⟩:=ownsSlice oD9
  have HS9 : Hid (∀ V,Below w.heap.size w V → V.cell? ⟨(at0.add (jv * 5)).block,(at0.add (jv * 5)).off + 4,none⟩ = some (.int .i64 pb) ∧ (V.cell? al = some (.int .i64 (i0 : Int)) ∧ V.cell? ⟨(at0.add (i0 * 5)).block,(at0.add (i0 * 5)).off + 4,none⟩ = some (.int .i64 pa))):=fun V hV=>⟨(HJC.out V hV).2.2.2,(HT0.out V hV).1,(HT0.out V hV).2.2.2.2⟩
  go_upto_region 8 with fail
  refine wp_region_held_drew (S:=fun V=>V.cell? ⟨(at0.add (jv * 5)).block,(at0.add (jv * 5)).off + 4,none⟩ = some (.int .i64 pb) ∧ (V.cell? al = some (.int .i64 (i0 : Int)) ∧ V.cell? ⟨(at0.add (i0 * 5)).block,(at0.add (i0 * 5)).off + 4,none⟩ = some (.int .i64 pa))) (by kernel_rfl) (HS9.out _ hB9.drew) (fun hHeld=>?_)
  replace hB9:=hB9.drew
  replace kr9:=kr9.drew
  replace ka9:=ka9.drew
  replace oD9:=own_drew oD9
  replace oP9:=own_drew oP9
  generalize w9.drew = u6 at *
  refine tk 0 39 ?_
  refine tk 1 40 ?_
  refine tk 2 41 ?_
  refine tk 3 42 ?_
  refine tk 4 43 ?_
  refine tk 5 44 ?_
  refine tk 6 45 ?_
  refine tk 7 46 ?_
  refine tk 8 47 ?_
  refine tk 9 48 ?_
  refine tk 10 49 ?_
  refine tk 11 50 ?_
  refine tk 12 51 ?_
  refine tk 13 52 ?_
  have kq:=Bk.new u6 3 #[.int .i64 (pb - pa)]
  have hg7:=ka9.lt
  replace kr9:=kr9.alloc (.cells #[.int .i64 (pb - pa)] 3)
  replace ka9:=ka9.alloc (.cells #[.int .i64 (pb - pa)] 3)
  replace oD9:=ownsRow_below oD9 ((Below.refl _ u6).alloc (Nat.le_refl _) (.cells #[.int .i64 (pb - pa)] 3)) (Nat.le_refl _)
  replace oP9:=ownsRow_below oP9 ((Below.refl _ u6).alloc (Nat.le_refl _) (.cells #[.int .i64 (pb - pa)] 3)) (Nat.le_refl _)
  replace hB9:=hB9.alloc hB9.size (.cells #[.int .i64 (pb - pa)] 3)
  have hS8:=HS9.out _ hB9
  refine held_one 14 ⟨some 53, .buildSlice 77 1 #[(0, .tmp 52)],77,_,_,none⟩ rfl (by kernel_rfl) (by rfl) ?_
  unfold Oper.wp
  go_simp
  (try simp only [Act.put,List.setIfInBounds_toArray,List.set_cons_zero,List.set_cons_succ])
  clear hHeld
  refine held_one 15 ⟨some 54, .call { callee:=.builtin .append,args:=#[.tmp 39, .tmp 53],argTypes:=#[77,77] },77,_,_,none⟩ rfl (by kernel_rfl) (by rfl) ?_
  have hg8 : w.heap.size + 2 ≤ (u6.alloc (.cells #[.int .i64 (pb - pa)] 3)).heap.size:=ka9.lt
  refine wp_append_own _ (.tmp 39) (.tmp 53) 77 rfl 3 i3 (.int .i64 0) 1 8 Try.underlying77 I3.out.1 I3.out.2.1 I3.out.2.2.1 I3.out.2.2.2 rfl (by decide) (w.heap.size + 2) (.slice AP k cP) k _ rfl oP9 ⟨u6.heap.size,0,none⟩ 1 1 [.int .i64 (pb - pa)] rfl rfl (bk_cells kq) ?_ ?_ ?_ hg8 ?_
  ·intro u hu; simp at hu; subst hu; rfl
  ·unfold maxLen; omega
  ·omega
  intro v10 w10 oP10 hg10
  have hB10:=below_row hB9 oP9 hg10 (Nat.le_add_right _ 2) hB9.size
  have ka10:=ka9.grown hg10 (own_ne oP9 (by omega))
  have kr10:=kr9.grown hg10 (own_ne oP9 (by omega))
  have oD10:=own_kept oD9 oP9 (by decide) hg10
  have eP : ints (difP l i0 (R.take k)) ++ [.int .i64 (pb - pa)] = ints (difP l i0 (R.take (k + 1))):=by
   rw [HPT.out,HPJ.out,HP0.out,ints_snoc']
  rw [eP] at oP10
  refine ⟨HS9.out _ hB10,?_⟩
  clear eP hg8 hg10 hg7 kq kr9 ka9 oD9 oP9 hB9 hS8
  have hHeld:=HS9.out _ hB10
  (try simp only [Act.put,List.setIfInBounds_toArray,List.set_cons_zero,List.set_cons_succ])
  refine tk 16 8 ?_
  refine wpAnyH_done (by kernel_rfl) ?_ _
  clear hHeld
  go_wp2
  go_roundw
  case rel=>exact ⟨k + 1,by omega,by go_num,hB10,kr10,ka10,oD10,oP10⟩
  case measure=>simp [intOf] <;> omega
 ·obtain rfl : k = R.length:=by omega
  have hirr : ¬ (R.length : Int) < (R.length : Int):=by omega
  rw [List.take_length] at oD oP
  obtain ⟨AD,cD,rfl,hkD,hmD⟩:=ownsSlice oD
  obtain ⟨AP,cP,rfl,hkP,hmP⟩:=ownsSlice oP
  have hC:=HSL (difL l i0 R) (difP l i0 R) AD AP cD cP wr ((ownsRow_lies oD)) ((ownsRow_lies oP)) (by simp [difL]; omega) (by simp [difL,difP]) HBD.out.1 HBD.out.2
  rw [show (difL l i0 R).length = R.length by simp [difL],show (difP l i0 R).length = R.length by simp [difP]] at hC
  have HC:=Lib.hid hC
  have HBS : Hid (∀ v e,slpC (difL l i0 R) (difP l i0 R) = some (v,e) → e ≠ 0 ∧ ab 6000000000 e ∧ vb 60000000000 v.x v.y v.z):=fun v e h=>slpC_bd h HBD.out.1 HBD.out.2
  have HSO : Hid (solC l (i0 :: R) = match slpC (difL l i0 R) (difP l i0 R) with | none=>none | some (y,e)=>some (posD pa ⟨a1,a2,a3⟩ y e)):=by
   show _ = _
   rw [← HP0.out,← HA0.out]; rfl
  generalize solC l (i0 :: R) = sol at *
  generalize slpC (difL l i0 R) (difP l i0 R) = slo at *
  clear hC oD oP hA' hkD hkP hmD hmP
  go_wp2_with fail
  refine HC.out.mono ?_
  rintro e w3 ⟨hb3,y1,y2,y3,de,ok,rfl,hok⟩
  replace kr:=kr.below hb3 kr.lt
  replace ka:=ka.below hb3 ka.lt
  replace hB:=hB.trans (hb3.mono hB.size)
  clear hb3
  have ky:=Bk.new w3 84 (vcA y1 y2 y3)
  have hgw : w.heap.size + 1 < w3.heap.size:=ka.lt
  replace kr:=kr.alloc (.cells (vcA y1 y2 y3) 84)
  replace ka:=ka.alloc (.cells (vcA y1 y2 y3) 84)
  replace hB:=hB.alloc hB.size (.cells (vcA y1 y2 y3) 84)
  obtain ⟨w4,hw4⟩ : ∃ v,v = w3.alloc (.cells (vcA y1 y2 y3) 84):=⟨_,rfl⟩
  rw [← hw4] at ky kr ka hB
  go_upto_region 11 with fail
  rw [← hw4]
  clear hw4
  generalize w3.heap.size = gy at *
  cases ok with
  | false =>
   have HN : Hid (sol = none):=by show _ = _; rw [HSO.out,hok]; rfl
   clear hok
   have z0:=kr.cell 0 rfl
   have z1:=kr.cell 1 rfl
   have z2:=kr.cell 2 rfl
   have z3:=kr.cell 3 rfl
   have z4:=kr.cell 4 rfl
   have f0:=kr.fro 0
   have f1:=kr.fro 1
   have f2:=kr.fro 2
   have f3:=kr.fro 3
   have f4:=kr.fro 4
   go_wp2
   have g1:=((((kr.set 0 (.int .i64 0)).set 1 (.int .i64 0)).set 2 (.int .i64 0)).set 3 (.int .i64 0)).set 4 (.int .i64 0)
   have gb:=((((hB.setCell (p:=⟨w.heap.size,0,none⟩) (Nat.le_refl _) (.int .i64 0)).setCell (p:=⟨w.heap.size,1,none⟩) (Nat.le_refl _) (.int .i64 0)).setCell (p:=⟨w.heap.size,2,none⟩) (Nat.le_refl _) (.int .i64 0)).setCell (p:=⟨w.heap.size,3,none⟩) (Nat.le_refl _) (.int .i64 0)).setCell (p:=⟨w.heap.size,4,none⟩) (Nat.le_refl _) (.int .i64 0)
   have x0:=g1.cell 0 rfl
   have x1:=g1.cell 1 rfl
   have x2:=g1.cell 2 rfl
   have x3:=g1.cell 3 rfl
   have x4:=g1.cell 4 rfl
   generalize World.setCell _ _ _ = w9 at *
   refine bodyPost_ret (v:=.tuple #[.agg #[.int .i64 0, .int .i64 0, .int .i64 0, .int .i64 0, .int .i64 0], .bool false]) (by simp [results,Try.results40,go_sem,x0,x1,x2,x3,x4]) rfl ⟨gb,⟨0,0,0,0,0⟩,false,rfl,HN.out⟩
  | true =>
   obtain ⟨de0,bde,bY⟩:=HBS.out ⟨y1,y2,y3⟩ de (by rw [hok]; rfl)
   have HSV : Hid (sol = some (posD pa ⟨a1,a2,a3⟩ ⟨y1,y2,y3⟩ de)):=by show _ = _; rw [HSO.out,hok]; rfl
   clear hok
   dsimp only at bY
   obtain ⟨s1,s2,s3,HSC,bSC,CSC⟩:=pscl (n:=-1) (B:=1) bY ⟨by omega,by omega⟩ (by omega)
   go_upto_if 67 with fail
   go_cut [12] (fun s12 wx=>∃ (e z1 z2 z3 : Int),s12 = .int .i64 e ∧ (1 ≤ e ∧ e ≤ 6000000000) ∧ vb 60000000000 z1 z2 z3 ∧ Hid (sol = some (redD pa ⟨a1,a2,a3⟩ ⟨z1,z2,z3⟩ e)) ∧ (Below w.heap.size w wx ∧ (Bk wx w.heap.size 44 #[.int .i64 0, .int .i64 0, .int .i64 0, .int .i64 0, .int .i64 0] ∧ (Bk wx (w.heap.size + 1) 84 (vcA a1 a2 a3) ∧ Bk wx gy 84 (vcA z1 z2 z3)))))
   case first =>
    by_cases hneg : de < 0
    ·have HR : Hid (sol = some (redD pa ⟨a1,a2,a3⟩ ⟨s1,s2,s3⟩ (-de))):=by
      show _ = _
      rw [HSV.out]; unfold posD; rw [if_pos hneg,HSC.out.1,HSC.out.2.1,HSC.out.2.2]; rfl
     have hwn : IntKind.i64.wrap (-de) = -de:=IntWalk.i64_in _ (by unfold ab at bde; omega)
     have x0:=ky.cell 0 rfl
     have x1:=ky.cell 1 rfl
     have x2:=ky.cell 2 rfl
     go_wp2_with fail
     refine (CSC.out _).mono ?_
     rintro e w5 ⟨rfl,hb5⟩
     have ky5:=ky.below hb5 ky.lt
     have p0:=ky5.cell 0 rfl
     have p1:=ky5.cell 1 rfl
     have p2:=ky5.cell 2 rfl
     have f0:=ky5.fro 0
     have f1:=ky5.fro 1
     have f2:=ky5.fro 2
     go_wp2_with fail
     replace kr:=kr.below hb5 kr.lt
     replace ka:=ka.below hb5 ka.lt
     replace hB:=hB.trans (hb5.mono hB.size)
     go_meet
     have hne : w.heap.size ≠ gy ∧ w.heap.size + 1 ≠ gy:=by omega
     refine ⟨-de,s1,s2,s3,rfl,⟨by omega,by unfold ab at bde; omega⟩,⟨ab_mono bSC.1 (by omega),ab_mono bSC.2.1 (by omega),ab_mono bSC.2.2 (by omega)⟩,HR,((hB.setCell (p:=⟨gy,0,none⟩) (by simp; omega) _).setCell (p:=⟨gy,1,none⟩) (by simp; omega) _).setCell (p:=⟨gy,2,none⟩) (by simp; omega) _,((kr.far (p:=⟨gy,0,none⟩) hne.1 _).far (p:=⟨gy,1,none⟩) hne.1 _).far (p:=⟨gy,2,none⟩) hne.1 _,((ka.far (p:=⟨gy,0,none⟩) hne.2 _).far (p:=⟨gy,1,none⟩) hne.2 _).far (p:=⟨gy,2,none⟩) hne.2 _,((ky5.set 0 _).set 1 _).set 2 _⟩
    ·have HR : Hid (sol = some (redD pa ⟨a1,a2,a3⟩ ⟨y1,y2,y3⟩ de)):=by
      show _ = _
      rw [HSV.out]; unfold posD; rw [if_neg hneg]
     go_wp2_with fail
     go_meet
     refine ⟨de,y1,y2,y3,rfl,⟨by omega,by unfold ab at bde; omega⟩,bY,HR,hB,kr,ka,ky⟩
   case rest =>
   clear ky kr ka hB bSC CSC HSC bde bY de0 HSV
   obtain ⟨e,z1,z2,z3,rfl,⟨he1,he2⟩,bZ,HSV,hB,kr,ka,ky⟩:=hcut
   obtain ⟨gg1,gr0⟩:=gcd_first (r:=[z1,z2,z3]) he1
   obtain ⟨G,HG⟩ : ∃ G : Int,Hid (G = (gcdL [e,z1,z2,z3] : Int)):=⟨_,rfl⟩
   rw [← HG.out] at gg1 gr0
   have br0 : ab 6000000000 (e.tdiv G):=ab_tdiv1 ⟨by omega,by omega⟩ gg1
   have br1:=ab_tdiv1 bZ.1 gg1
   have br2:=ab_tdiv1 bZ.2.1 gg1
   have br3:=ab_tdiv1 bZ.2.2 gg1
   have hw0 : IntKind.i64.wrap (e.tdiv G) = e.tdiv G:=IntWalk.i64_in _ (by unfold ab at br0; omega)
   have hw1 : IntKind.i64.wrap (z1.tdiv G) = z1.tdiv G:=IntWalk.i64_in _ (by unfold ab at br1; omega)
   have hw2 : IntKind.i64.wrap (z2.tdiv G) = z2.tdiv G:=IntWalk.i64_in _ (by unfold ab at br2; omega)
   have hw3 : IntKind.i64.wrap (z3.tdiv G) = z3.tdiv G:=IntWalk.i64_in _ (by unfold ab at br3; omega)
   have HF0 : Hid (redD pa ⟨a1,a2,a3⟩ ⟨z1,z2,z3⟩ e = ⟨e.tdiv G * pa - (z1.tdiv G * a1 + z2.tdiv G * a2 + z3.tdiv G * a3),z1.tdiv G,z2.tdiv G,z3.tdiv G,e.tdiv G⟩):=by
    show _ = _
    unfold redD
    dsimp only
    rw [← HG.out]; rfl
   have hGne : (G == 0) = false:=by rw [beq_eq_false_iff_ne]; omega
   have HDV : Hid (∀ (W : World) (b : Nat),Lies W W.heap.size (some ⟨b,0,none⟩) (ints [e,z1,z2,z3]) → Calls Try.prog 61 #[.slice (some ⟨b,0,none⟩) 4 4] W fun e w'=>e = .returned (.int .i64 G) ∧ Below W.heap.size W w'):=fun W b hL=>by
    have h:=divisor_aux [e,z1,z2,z3] (some ⟨b,0,none⟩) 4 W hL (by
     intro n hn
     simp only [List.mem_cons,List.not_mem_nil,or_false] at hn
     have h1:=bZ.1
     have h2:=bZ.2.1
     have h3:=bZ.2.2
     unfold ab at h1 h2 h3
     unfold bigP
     rcases hn with rfl | rfl | rfl | rfl <;> omega) (by simp)
    refine h.mono fun e w' ⟨h1,n,h2⟩=>⟨by rw [h1,HG.out],?_⟩
    subst h2
    exact below_drewN (Below.refl _ _) _
   obtain ⟨r0,hr0⟩ : ∃ r,r = e.tdiv G:=⟨_,rfl⟩
   obtain ⟨r1,hr1⟩ : ∃ r,r = z1.tdiv G:=⟨_,rfl⟩
   obtain ⟨r2,hr2⟩ : ∃ r,r = z2.tdiv G:=⟨_,rfl⟩
   obtain ⟨r3,hr3⟩ : ∃ r,r = z3.tdiv G:=⟨_,rfl⟩
   have hv0:=hw0.trans hr0.symm
   have hv1:=hw1.trans hr1.symm
   have hv2:=hw2.trans hr2.symm
   have hv3:=hw3.trans hr3.symm
   rw [← hr0] at br0 gr0
   rw [← hr1] at br1
   rw [← hr2] at br2
   rw [← hr3] at br3
   have HF1:=HF0.out
   rw [← hr0,← hr1,← hr2,← hr3] at HF1
   obtain ⟨dt,HDT,bDT,CDT⟩:=pdot (show vb 60000000000 r1 r2 r3 from ⟨br1,br2,br3⟩) (shadeV_vb hsa) (by omega)
   rw [← HDT.out] at HF1
   have bpa : ab 10000 pa:=⟨by omega,by omega⟩
   have b1:=ab_mul br0 bpa
   have hm1 : IntKind.i64.wrap (r0 * pa) = r0 * pa:=IntWalk.i64_in _ (by unfold ab at b1; omega)
   have hm2_ : IntKind.i64.wrap (r0 * pa - dt) = r0 * pa - dt:=IntWalk.i64_in _ (by unfold ab at b1 bDT; omega)
   have HFIN : Hid (sol = some ⟨r0 * pa - dt,r1,r2,r3,r0⟩):=by show _ = _; rw [HSV.out,HF1]
   have HH1:=Lib.hid (And.intro hm1 hm2_)
   have HHV:=Lib.hid (And.intro hGne (And.intro hv0 (And.intro hv1 (And.intro hv2 hv3))))
   clear hw0 hw1 hw2 hw3 hr0 hr1 hr2 hr3 hv0 hv1 hv2 hv3 HF1 HF0 HG HSV b1 br0 br1 br2 br3 bDT HDT gr0 gg1 bZ he1 he2 hm1 hm2_ hGne
   have x0:=ky.cell 0 rfl
   have x1:=ky.cell 1 rfl
   have x2:=ky.cell 2 rfl
   have lw:=ky.lt
   go_wp2_with fail
   refine (HDV.out _ _ (Lies.new wc #[.int .i64 e, .int .i64 z1, .int .i64 z2, .int .i64 z3] 3 (by simp))).mono ?_
   rintro ee w5 ⟨rfl,hb5⟩
   have hb5':=((Below.refl _ wc).alloc (Nat.le_refl _) (.cells #[.int .i64 e, .int .i64 z1, .int .i64 z2, .int .i64 z3] 3)).trans (hb5.mono (by simp))
   clear x0 x1 x2
   replace ky:=ky.below hb5' ky.lt
   replace kr:=kr.below hb5' kr.lt
   replace ka:=ka.below hb5' ka.lt
   replace hB:=hB.trans (hb5'.mono hB.size)
   clear hb5 hb5' lw
   go_upto_region 16 with fail
   refine wp_region_held_drew (S:=fun _=>True) (by kernel_rfl) trivial (fun hHeld=>?_)
   replace ky:=ky.drew
   replace kr:=kr.drew
   replace ka:=ka.drew
   replace hB:=hB.drew
   generalize w5.drew = w6 at *
   refine tk 0 81 ?_
   refine tk 1 82 ?_
   refine tk 3 84 ?_
   refine tk 5 86 ?_
   refine tk 7 88 ?_
   refine tk 9 90 ?_
   refine tk 11 92 ?_
   refine tk 13 94 ?_
   refine quiet_laid (cs:=[⟨2,83, .int .i64 r0,[]⟩,⟨4,85, .int .i64 z1,[]⟩,⟨6,87, .int .i64 r1,[4]⟩,⟨8,89, .int .i64 z2,[]⟩,⟨10,91, .int .i64 r2,[8]⟩,⟨12,93, .int .i64 z3,[]⟩,⟨14,95, .int .i64 r3,[12]⟩,⟨15,96, .agg (vcA r1 r2 r3),[6,10,14]⟩,⟨16,12, .int .i64 r0,[2]⟩] ) (s:=17) (ds:=[83,85,87,89,91,93,95,96,12]) (B:=w6.heap.size) (Fin:=fun V=>Below w.heap.size w V ∧ (Bk V w.heap.size 44 #[.int .i64 0, .int .i64 0, .int .i64 0, .int .i64 0, .int .i64 0] ∧ (Bk V (w.heap.size + 1) 84 (vcA a1 a2 a3) ∧ Bk V gy 84 (vcA r1 r2 r3)))) (by kernel_rfl) (by simp [left]) (Nat.le_refl _) ?hq2 (fun _ _=>trivial) (fun h=>absurd h (by decide)) ?hs2 ?hQ2
   case hq2 =>
    intro q hq
    obtain ⟨hGne,hv0,hv1,hv2,hv3⟩:=HHV.out
    have hG0 : ¬ G = 0:=fun h=>by rw [h] at hGne; cases hGne
    simp only [List.mem_cons,List.not_mem_nil,or_false] at hq
    rcases hq with rfl | rfl | rfl | rfl | rfl | rfl | rfl | rfl | rfl
    ·refine ⟨by simp,_,rfl,rfl,rfl,by kernel_rfl,fun V w hb hd=>.inl ?_⟩
     simp only [canon,List.foldl_cons,List.foldl_nil,List.setIfInBounds_toArray,List.set_cons_zero,List.set_cons_succ]
     go_simp
    ·refine ⟨by simp,_,rfl,rfl,rfl,by kernel_rfl,fun V w hb hd=>.inl ?_⟩
     have f:=ky.below hb ky.lt
     have f0:=f.cell 0 rfl
     simp only [canon,List.foldl_cons,List.foldl_nil,List.setIfInBounds_toArray,List.set_cons_zero,List.set_cons_succ]
     go_simp
    ·refine ⟨by simp,_,rfl,rfl,rfl,by kernel_rfl,fun V w hb hd=>.inl ?_⟩
     have e4 : V 85 = _:=hd ⟨4,85, .int .i64 z1,[]⟩ (by simp) (by simp)
     simp only [canon,List.foldl_cons,List.foldl_nil,List.setIfInBounds_toArray,List.set_cons_zero,List.set_cons_succ]
     go_simp
    ·refine ⟨by simp,_,rfl,rfl,rfl,by kernel_rfl,fun V w hb hd=>.inl ?_⟩
     have f:=ky.below hb ky.lt
     have f0:=f.cell 1 rfl
     simp only [canon,List.foldl_cons,List.foldl_nil,List.setIfInBounds_toArray,List.set_cons_zero,List.set_cons_succ]
     go_simp
    ·refine ⟨by simp,_,rfl,rfl,rfl,by kernel_rfl,fun V w hb hd=>.inl ?_⟩
     have e8 : V 89 = _:=hd ⟨8,89, .int .i64 z2,[]⟩ (by simp) (by simp)
     simp only [canon,List.foldl_cons,List.foldl_nil,List.setIfInBounds_toArray,List.set_cons_zero,List.set_cons_succ]
     go_simp
    ·refine ⟨by simp,_,rfl,rfl,rfl,by kernel_rfl,fun V w hb hd=>.inl ?_⟩
     have f:=ky.below hb ky.lt
     have f0:=f.cell 2 rfl
     simp only [canon,List.foldl_cons,List.foldl_nil,List.setIfInBounds_toArray,List.set_cons_zero,List.set_cons_succ]
     go_simp
    ·refine ⟨by simp,_,rfl,rfl,rfl,by kernel_rfl,fun V w hb hd=>.inl ?_⟩
     have e12 : V 93 = _:=hd ⟨12,93, .int .i64 z3,[]⟩ (by simp) (by simp)
     simp only [canon,List.foldl_cons,List.foldl_nil,List.setIfInBounds_toArray,List.set_cons_zero,List.set_cons_succ]
     go_simp
    ·refine ⟨by simp,_,rfl,rfl,rfl,by kernel_rfl,fun V w hb hd=>.inl ?_⟩
     have e6 : V 87 = _:=hd ⟨6,87, .int .i64 r1,[4]⟩ (by simp) (by simp)
     have e10 : V 91 = _:=hd ⟨10,91, .int .i64 r2,[8]⟩ (by simp) (by simp)
     have e14 : V 95 = _:=hd ⟨14,95, .int .i64 r3,[12]⟩ (by simp) (by simp)
     simp only [canon,List.foldl_cons,List.foldl_nil,List.setIfInBounds_toArray,List.set_cons_zero,List.set_cons_succ]
     go_simp
    ·refine ⟨by simp,_,rfl,rfl,rfl,by kernel_rfl,fun V w hb hd=>.inl ?_⟩
     have e2 : V 83 = _:=hd ⟨2,83, .int .i64 r0,[]⟩ (by simp) (by simp)
     simp only [canon,List.foldl_cons,List.foldl_nil,List.setIfInBounds_toArray,List.set_cons_zero,List.set_cons_succ]
     go_simp
   case hs2 =>
    intro o ho
    cases ho
    refine ⟨rfl,rfl,by kernel_rfl,fun V w' hb hd=>?_⟩
    have e15 : V 96 = .agg (vcA r1 r2 r3):=hd ⟨15,96,_,[6,10,14]⟩ (by simp)
    have f:=ky.below hb ky.lt
    have f0:=f.cell 0 rfl
    have f1:=f.cell 1 rfl
    have f2:=f.cell 2 rfl
    have g0:=f.fro 0
    have g1:=f.fro 1
    have g2:=f.fro 2
    have hne : w.heap.size ≠ gy ∧ w.heap.size + 1 ≠ gy:=by omega
    have hB':=hB.trans (hb.mono hB.size)
    refine ⟨_,_,?_, .inl rfl,trivial,((hB'.setCell (p:=⟨gy,0,none⟩) (by simp; omega) _).setCell (p:=⟨gy,1,none⟩) (by simp; omega) _).setCell (p:=⟨gy,2,none⟩) (by simp; omega) _,(((kr.below hb kr.lt).far (p:=⟨gy,0,none⟩) hne.1 _).far (p:=⟨gy,1,none⟩) hne.1 _).far (p:=⟨gy,2,none⟩) hne.1 _,(((ka.below hb ka.lt).far (p:=⟨gy,0,none⟩) hne.2 _).far (p:=⟨gy,1,none⟩) hne.2 _).far (p:=⟨gy,2,none⟩) hne.2 _,((f.set 0 _).set 1 _).set 2 _⟩
    simp only [canon,List.foldl_cons,List.foldl_nil,List.setIfInBounds_toArray,List.set_cons_zero,List.set_cons_succ]
    go_simp
   intro V w7 hV hrest hF
   have q2 : V 83 = .int .i64 r0:=hV ⟨2,83,_,[]⟩ (by simp)
   have q4 : V 85 = .int .i64 z1:=hV ⟨4,85,_,[]⟩ (by simp)
   have q6 : V 87 = .int .i64 r1:=hV ⟨6,87,_,[4]⟩ (by simp)
   have q8 : V 89 = .int .i64 z2:=hV ⟨8,89,_,[]⟩ (by simp)
   have q10 : V 91 = .int .i64 r2:=hV ⟨10,91,_,[8]⟩ (by simp)
   have q12 : V 93 = .int .i64 z3:=hV ⟨12,93,_,[]⟩ (by simp)
   have q14 : V 95 = .int .i64 r3:=hV ⟨14,95,_,[12]⟩ (by simp)
   have q15 : V 96 = .agg (vcA r1 r2 r3):=hV ⟨15,96,_,[6,10,14]⟩ (by simp)
   have q16 : V 12 = .int .i64 r0:=hV ⟨16,12,_,[2]⟩ (by simp)
   simp only [canon,List.foldl_cons,List.foldl_nil,List.setIfInBounds_toArray,List.set_cons_zero,List.set_cons_succ]
   rw [q2,q4,q6,q8,q10,q12,q14,q15,q16]
   clear hHeld hV hrest hB kr ka ky q2 q4 q6 q8 q10 q12 q14 q15 q16
   obtain ⟨hB,kr,ka,ky⟩:=hF
   have HS17 : Hid (∀ V,Below w.heap.size w V → Bk V (w.heap.size + 1) 84 (vcA a1 a2 a3) → Bk V gy 84 (vcA r1 r2 r3) → (V.cell? al = some (.int .i64 (i0 : Int)) ∧ V.cell? ⟨(at0.add (i0 * 5)).block,(at0.add (i0 * 5)).off + 4,none⟩ = some (.int .i64 pa)) ∧ ((V.cell? ⟨gy,0,none⟩ = some (.int .i64 r1) ∧ V.cell? ⟨gy,1,none⟩ = some (.int .i64 r2) ∧ V.cell? ⟨gy,2,none⟩ = some (.int .i64 r3)) ∧ (V.cell? ⟨w.heap.size + 1,0,none⟩ = some (.int .i64 a1) ∧ V.cell? ⟨w.heap.size + 1,1,none⟩ = some (.int .i64 a2) ∧ V.cell? ⟨w.heap.size + 1,2,none⟩ = some (.int .i64 a3)))):=fun V hV h k=>⟨⟨(HT0.out V hV).1,(HT0.out V hV).2.2.2.2⟩,⟨k.cell 0 rfl,k.cell 1 rfl,k.cell 2 rfl⟩,h.cell 0 rfl,h.cell 1 rfl,h.cell 2 rfl⟩
   go_upto_region 17 with fail
   refine wp_region_held_drew (S:=fun V=>(V.cell? al = some (.int .i64 (i0 : Int)) ∧ V.cell? ⟨(at0.add (i0 * 5)).block,(at0.add (i0 * 5)).off + 4,none⟩ = some (.int .i64 pa)) ∧ ((V.cell? ⟨gy,0,none⟩ = some (.int .i64 r1) ∧ V.cell? ⟨gy,1,none⟩ = some (.int .i64 r2) ∧ V.cell? ⟨gy,2,none⟩ = some (.int .i64 r3)) ∧ (V.cell? ⟨w.heap.size + 1,0,none⟩ = some (.int .i64 a1) ∧ V.cell? ⟨w.heap.size + 1,1,none⟩ = some (.int .i64 a2) ∧ V.cell? ⟨w.heap.size + 1,2,none⟩ = some (.int .i64 a3)))) (by kernel_rfl) (HS17.out _ hB.drew ka.drew ky.drew) (fun hHeld=>?_)
   replace ky:=ky.drew
   replace kr:=kr.drew
   replace ka:=ka.drew
   replace hB:=hB.drew
   generalize w7.drew = w8 at *
   obtain ⟨hm1,hm2_⟩:=HH1.out
   refine tk 0 97 ?_
   refine tk 1 98 ?_
   refine tk 2 99 ?_
   refine tk 3 100 ?_
   refine tk 4 101 ?_
   refine tk 5 102 ?_
   refine tk 6 103 ?_
   refine tk 7 104 ?_
   refine tk 8 105 ?_
   refine tk 9 106 ?_
   refine tk 10 107 ?_
   refine tk 13 110 ?_
   refine tk 14 111 ?_
   refine tk 15 112 ?_
   refine tk 16 113 ?_
   refine tk 17 114 ?_
   refine tk 18 115 ?_
   refine tk 20 117 ?_
   (refine held_call 11 (some 108) 46 _ rfl (by kernel_rfl) (by rfl) ?_ ((CDT.out _)) ?_; rotate_left; rotate_left; (simp only [List.getElem?_toArray,List.getElem?_cons_zero,List.getElem?_cons_succ,Option.map_some]; refine congrArg some ?_; go_simp))
   rintro ee w9 ⟨rfl,hb9⟩
   replace ky:=ky.below hb9 ky.lt
   replace kr:=kr.below hb9 kr.lt
   replace ka:=ka.below hb9 ka.lt
   replace hB:=hB.trans (hb9.mono hB.size)
   clear hHeld hb9
   refine ⟨_,rfl,HS17.out _ hB ka ky,fun hHeld=>?_⟩
   (try simp only [Act.put,List.setIfInBounds_toArray,List.set_cons_zero,List.set_cons_succ])
   refine tk 12 109 ?_
   refine tk 19 116 ?_
   refine tk 21 118 ?_
   clear hm1 hm2_
   have z0:=kr.cell 0 rfl
   have z1_:=kr.cell 1 rfl
   have z2_:=kr.cell 2 rfl
   have z3_:=kr.cell 3 rfl
   have z4_:=kr.cell 4 rfl
   have f0:=kr.fro 0
   have f1:=kr.fro 1
   have f2:=kr.fro 2
   have f3:=kr.fro 3
   have f4:=kr.fro 4
   have hgy : ¬ w.heap.size = gy:=by omega
   have g1:=((((kr.set 0 (.int .i64 (r0 * pa - dt))).set 1 (.int .i64 r1)).set 2 (.int .i64 r2)).set 3 (.int .i64 r3)).set 4 (.int .i64 r0)
   have gb:=((((hB.setCell (p:=⟨w.heap.size,0,none⟩) (Nat.le_refl _) (.int .i64 (r0 * pa - dt))).setCell (p:=⟨w.heap.size,1,none⟩) (Nat.le_refl _) (.int .i64 r1)).setCell (p:=⟨w.heap.size,2,none⟩) (Nat.le_refl _) (.int .i64 r2)).setCell (p:=⟨w.heap.size,3,none⟩) (Nat.le_refl _) (.int .i64 r3)).setCell (p:=⟨w.heap.size,4,none⟩) (Nat.le_refl _) (.int .i64 r0)
   have far5 : ∀ {b t : Nat} {cs : Array Value} (_ : b ≠ w.heap.size),Bk w9 b t cs → Bk (((((w9.setCell ⟨w.heap.size,0,none⟩ (.int .i64 (r0 * pa - dt))).setCell ⟨w.heap.size,1,none⟩ (.int .i64 r1)).setCell ⟨w.heap.size,2,none⟩ (.int .i64 r2)).setCell ⟨w.heap.size,3,none⟩ (.int .i64 r3)).setCell ⟨w.heap.size,4,none⟩ (.int .i64 r0)) b t cs:=fun hne h=>((((h.far (p:=⟨w.heap.size,0,none⟩) hne _).far (p:=⟨w.heap.size,1,none⟩) hne _).far (p:=⟨w.heap.size,2,none⟩) hne _).far (p:=⟨w.heap.size,3,none⟩) hne _).far (p:=⟨w.heap.size,4,none⟩) hne _
   have hS9:=HS17.out _ gb (far5 (by omega) ka) (far5 (by omega) ky)
   refine held_one 22 ⟨none, .store 44 (.tmp 4) (.tmp 118),_,_,_,none⟩ rfl (by kernel_rfl) (by rfl) ?_
   unfold Oper.wp
   go_simp
   clear hHeld z0 z1_ z2_ z3_ z4_ f0 f1 f2 f3 f4 far5
   generalize World.setCell _ _ _ = w10 at *
   have hHeld:=hS9
   (try simp only [Act.put,List.setIfInBounds_toArray,List.set_cons_zero,List.set_cons_succ])
   refine tk 23 5 ?_
   refine wpAnyH_done (by kernel_rfl) ?_ _
   clear hHeld hS9
   go_wp2
   have x0:=g1.cell 0 rfl
   have x1:=g1.cell 1 rfl
   have x2:=g1.cell 2 rfl
   have x3:=g1.cell 3 rfl
   have x4:=g1.cell 4 rfl
   refine bodyPost_ret (v:=.tuple #[.agg #[.int .i64 (r0 * pa - dt), .int .i64 r1, .int .i64 r2, .int .i64 r3, .int .i64 r0], .bool true]) (by simp [results,Try.results40,go_sem,x0,x1,x2,x3,x4]) rfl ⟨gb,⟨r0 * pa - dt,r1,r2,r3,r0⟩,true,rfl,HFIN.out⟩
end Go.Proofs.Ytkjceegmmhnajaa

namespace Go.Proofs.Ytkjceegmmhnajaa
open Go.RowKit

theorem int_at0 {w : World} {ad : Addr} {ps : List Int} {p : Int} (h : ∀ j u,(ints (p :: ps))[j]? = some u → w.cell? (ad.add j) = some u) : w.cell? ad = some (.int .i64 p):=by
 have:=h 0 _ rfl
 have e0 : ad.add 0 = ad:=by unfold Addr.add; simp
 rw [e0] at this; exact this
theorem int_atv {w : World} {ad : Addr} {ps : List Int} (h : ∀ j u,(ints ps)[j]? = some u → w.cell? (ad.add j) = some u) (j : Nat) (p : Int) (hj : 0 < j) (hp : ps[j]? = some p) : w.cell? ⟨ad.block,ad.off + j,none⟩ = some (.int .i64 p):=by
 have:=h j (.int .i64 p) (by simp [ints,hp])
 have e0 : ad.add j = ⟨ad.block,ad.off + j,none⟩:=by unfold Addr.add; rw [if_neg (by omega)]
 rw [e0] at this; exact this
theorem slopes_ok : SlopesOk:=by
 intro ds ps A B c d w hA hB h3 hl hd hp
 match ds,ps,hl with
 | [],[],_=>exact slopes0 A B c d w
 | [v],[p],_ =>
  obtain ⟨ad,rfl,hb,hc⟩:=hA (by simp [vecsC,Vc.cells])
  obtain ⟨bp,rfl,hb',hc'⟩:=hB (by simp [ints])
  exact slopes1 v p ad bp c d w (vec_at0 hc v rfl rfl rfl) hb (int_at0 hc') hb'
 | [v,f],[p,q],_ =>
  obtain ⟨ad,rfl,hb,hc⟩:=hA (by simp [vecsC,Vc.cells])
  obtain ⟨bp,rfl,hb',hc'⟩:=hB (by simp [ints])
  exact slopes2 v f p q ad bp c d w (vec_at0 hc v rfl rfl rfl) (vec_at hc 3 f (by omega) rfl rfl rfl) hb (int_at0 hc') (int_atv hc' 1 q (by omega) rfl) hb' (hd v (by simp)) (hd f (by simp)) (hp p (by simp)) (hp q (by simp))
 | [v,f,g],[p,q,r],_ =>
  obtain ⟨ad,rfl,hb,hc⟩:=hA (by simp [vecsC,Vc.cells])
  obtain ⟨bp,rfl,hb',hc'⟩:=hB (by simp [ints])
  exact slopes3 v f g p q r ad bp c d w (vec_at0 hc v rfl rfl rfl) (vec_at hc 3 f (by omega) rfl rfl rfl) (vec_at hc 6 g (by omega) rfl rfl rfl) hb (int_at0 hc') (int_atv hc' 1 q (by omega) rfl) (int_atv hc' 2 r (by omega) rfl) hb' (hd v (by simp)) (hd f (by simp)) (hd g (by simp)) (hp p (by simp)) (hp q (by simp)) (hp r (by simp))
 | _ :: _ :: _ :: _ :: _,_,_=>simp at h3
theorem solved_any (l : List Tn) (L : List Nat) (At Al : Option Addr) (ct c : Nat) (w : World) (hlt : Lies w w.heap.size At (tintsC l)) (hl : Lies w w.heap.size Al (nats L)) (h4 : 1 ≤ L.length ∧ L.length ≤ 4) (hc : L.length ≤ c) (hr : ∀ i ∈ L,i < l.length) (hm2 : l.length ≤ 1000) (hoff : ∀ t ∈ l,offTint t = false) :
  Calls Try.prog 40 #[.slice At l.length ct, .slice Al L.length c] w (SvE (solC l L) w):=by
 match L,h4 with
 | i0 :: R,h4 =>
  obtain ⟨al,rfl,_,_⟩:=hl (by simp [nats])
  exact solved_of slopes_ok l i0 R At al ct c w hlt hl (by simpa using h4.2) hc hr hm2 hoff
end Go.Proofs.Ytkjceegmmhnajaa

namespace Go.Proofs.Ytkjceegmmhnajaa
open Go.RowKit LPX
attribute [local go_sem] Oper.semAt_some nEnc

theorem kpc_set2 {own : Nat → Prop} (W : World) {b : Nat} (h : own b) (i : Nat) (v : Value) : KpC own W (W.setCell ⟨b,i,none⟩ v) :=
 ⟨by simp,fun g o h1 _ h3=>(Below.heap_setCell _ _ _ _ (by show g ≠ b; intro e; subst e; exact h3 h)).trans h1⟩
end Go.Proofs.Ytkjceegmmhnajaa

namespace Go.Proofs.Ytkjceegmmhnajaa
open Go.RowKit

def orL (l : List Int) : Int:=(l.find? (· != 0)).getD 0
set_option maxHeartbeats 400000 in
theorem or_any (l : List Int) (A : Option Addr) (c : Nat) (w : World) (hl : Lies w w.heap.size A (ints l)) (hm : l.length ≤ 1000) :
  Calls Try.prog 70 #[.slice A l.length c] w fun e w'=>e = .returned (.int .i64 (orL l)) ∧ w = w':=by
 go_enter Try.func70,Try.ntmps70
 go_wp2
 go_loop [8] (fun y=>∃ k : Nat,k ≤ l.length ∧ y = .int .i64 k ∧ Hid (orL (l.drop k) = orL l)) (fun y=>l.length - (intOf y).toNat)
 case atStart=>exact ⟨0,by omega,rfl,rfl⟩
 case round =>
  obtain ⟨k,hk,rfl,hg⟩:=hrel
  by_cases hlt : k < l.length
  ·obtain ⟨ad,u,rfl,_,hu,hcell⟩:=hl.at_ (k:=k) (by simpa [ints] using hlt)
   obtain ⟨v,hv⟩ : ∃ v,l[k]? = some v:=⟨_,List.getElem?_eq_getElem hlt⟩
   obtain rfl : u = .int .i64 v:=by simp [ints,hv] at hu; exact hu.symm
   have H0 : Hid (l.drop k = v :: l.drop (k + 1)):=by
    rw [List.drop_eq_getElem_cons hlt]; rw [List.getElem?_eq_getElem hlt] at hv; cases hv; rfl
   clear hu hl hv
   by_cases h0 : v = 0
   ·subst h0
    have H : Hid (orL (l.drop (k + 1)) = orL l):=by
     have e:=hg.out; rw [H0.out] at e; exact e
    go_wp2
    go_round
    case rel=>exact ⟨k + 1,by omega,by go_num,H⟩
    case measure=>simp [intOf]; omega
   ·have hb : (v != 0) = true:=by rw [bne_iff_ne]; exact h0
    go_wp2
    go_ret
    exact ⟨ret_int (by rw [← hg.out,H0.out]; simp [orL,h0]),rfl⟩
  ·obtain rfl : k = l.length:=by omega
   go_wp2
   go_ret
   exact ⟨ret_int (by rw [← hg.out]; simp [orL]),rfl⟩

theorem cmp_step (p q r s : Int) (hq : 1 ≤ q) (hs : 1 ≤ s) :
  (p * s < r * q ↔ p / q < r / s ∨ (p / q = r / s ∧ (p % q) * s < (r % s) * q)):=by
 have e1:=Int.mul_ediv_add_emod p q
 have e2:=Int.mul_ediv_add_emod r s
 have m1:=Int.emod_nonneg p (show q ≠ 0 by omega)
 have m2:=Int.emod_nonneg r (show s ≠ 0 by omega)
 have l1:=Int.emod_lt_of_pos p (show 0 < q by omega)
 have l2:=Int.emod_lt_of_pos r (show 0 < s by omega)
 generalize p / q = x at *
 generalize r / s = y at *
 generalize p % q = u at *
 generalize r % s = v at *
 subst e1 e2
 have k1 : (q * x + u) * s = q * s * x + u * s:=by rw [Int.add_mul,Int.mul_right_comm]
 have k2 : (s * y + v) * q = q * s * y + v * q:=by rw [Int.add_mul,Int.mul_right_comm,Int.mul_comm s q]
 have k3 : 0 ≤ u * s:=Int.mul_nonneg m1 (by omega)
 have k4 : 0 ≤ v * q:=Int.mul_nonneg m2 (by omega)
 have k5 : u * s < q * s:=Int.mul_lt_mul_of_pos_right l1 (by omega)
 have k6 : v * q < q * s:=by rw [Int.mul_comm q s]; exact Int.mul_lt_mul_of_pos_right l2 (by omega)
 rw [k1,k2]
 rcases Int.lt_trichotomy x y with h | h | h
 ·have : q * s * (x + 1) ≤ q * s * y:=Int.mul_le_mul_of_nonneg_left (by omega) (Int.mul_nonneg (by omega) (by omega))
  rw [Int.mul_add,Int.mul_one] at this
  constructor
  ·intro _; exact .inl h
  ·intro _; omega
 ·subst h
  constructor
  ·intro _; exact .inr ⟨rfl,by omega⟩
  ·rintro (h | ⟨_,h⟩) <;> omega
 ·have : q * s * (y + 1) ≤ q * s * x:=Int.mul_le_mul_of_nonneg_left (by omega) (Int.mul_nonneg (by omega) (by omega))
  rw [Int.mul_add,Int.mul_one] at this
  constructor
  ·intro _; omega
  ·rintro (h' | ⟨h',_⟩) <;> omega

theorem or_less (x y u v s q : Int) (hu : 0 ≤ u) (hv : 0 ≤ v) (hs : 1 ≤ s) (hq : 1 ≤ q) (h : x ≠ y ∨ u = 0 ∨ v = 0) :
  orL [cmpI x y,cmpI u v] < 0 ↔ x < y ∨ (x = y ∧ u * s < v * q):=by
 by_cases h1 : x < y
 ·simp [orL,cmpI,h1]
 ·by_cases h2 : y < x
  ·simp [orL,cmpI,h1,h2]; omega
  ·obtain rfl : x = y:=by omega
   have e1 : cmpI x x = 0:=by simp [cmpI]
   have e2 : orL [cmpI x x,cmpI u v] = cmpI u v:=by
    rw [e1]; by_cases hc : cmpI u v = 0 <;> simp [orL,hc]
   rw [e2]
   simp only [Int.lt_irrefl,false_or,true_and]
   rcases h with h | rfl | rfl
   ·exact absurd rfl h
   ·rw [Int.zero_mul]
    by_cases h3 : 0 < v
    ·have : 0 < v * q:=Int.mul_pos h3 (by omega)
     simp [cmpI,h3,this]
    ·obtain rfl : v = 0:=by omega
     simp [cmpI]
   ·rw [Int.zero_mul]
    have : 0 ≤ u * s:=Int.mul_nonneg hu (by omega)
    have h3 : ¬ u < 0:=by omega
    simp only [cmpI,h3,if_false]
    split <;> omega

theorem cmp_blocks {w : World} {B : Nat} {t : TypeId} {a b c d : Value} (h1 : Bk w B t #[a,b]) (h2 : Bk w (B + 1) t #[c,d]) (u1 u2 v1 v2 v3 v4 : Value) :
  let W:=(((((w.setCell ⟨B,0,none⟩ u1).setCell ⟨B + 1,0,none⟩ u2).setCell ⟨B,0,none⟩ v1).setCell ⟨B,1,none⟩ v2).setCell ⟨B + 1,0,none⟩ v3).setCell ⟨B + 1,1,none⟩ v4
  Bk W B t #[v1,v2] ∧ Bk W (B + 1) t #[v3,v4]:=by
 have n1 : B ≠ B + 1:=by omega
 have n2 : B + 1 ≠ B:=by omega
 exact ⟨((((((h1.set 0 u1).far (p:=⟨B + 1,0,none⟩) n1 u2).set 0 v1).set 1 v2).far (p:=⟨B + 1,0,none⟩) n1 v3).far (p:=⟨B + 1,1,none⟩) n1 v4),
  ((((((h2.far (p:=⟨B,0,none⟩) n2 u1).set 0 u2).far (p:=⟨B,0,none⟩) n2 v1).far (p:=⟨B,1,none⟩) n2 v2).set 0 v3).set 1 v4)⟩

def LessPost (p q r s : Int) (w : World) (e : Ending) (w' : World) : Prop:=∃ c : Int,e = .returned (.int .i64 c) ∧ (c < 0 ↔ p * s < r * q) ∧ Below w.heap.size w w'
set_option maxRecDepth 100000 in
set_option maxHeartbeats 1600000 in
theorem cmpfrac_any (p q r s : Int) (w : World) (hp : 0 ≤ p) (hp2 : p ≤ 3050000000000000000) (hq : 1 ≤ q) (hq2 : q ≤ 3050000000000000000) (hr : 0 ≤ r) (hr2 : r ≤ 3050000000000000000) (hs : 1 ≤ s) (hs2 : s ≤ 3050000000000000000) :
  Calls Try.prog 38 #[.agg #[.int .i64 p, .int .i64 q], .agg #[.int .i64 r, .int .i64 s]] w (LessPost p q r s w):=by
 go_enter Try.func38,Try.ntmps38
 go_wp2
 go_loopw [5,6] (fun x y wr=>∃ p' q' r' s' : Int,(Bk wr w.heap.size 29 #[.int .i64 p', .int .i64 q'] ∧ Bk wr (w.heap.size + 1) 29 #[.int .i64 r', .int .i64 s'])
  ∧ Below w.heap.size w wr ∧ Hid (p' * s' < r' * q' ↔ p * s < r * q)
  ∧ 0 ≤ p' ∧ p' ≤ 3050000000000000000 ∧ 1 ≤ q' ∧ q' ≤ 3050000000000000000 ∧ 0 ≤ r' ∧ r' ≤ 3050000000000000000 ∧ 1 ≤ s' ∧ s' ≤ 3050000000000000000) (fun _ _ wr=>(intOf ((wr.cell? ⟨w.heap.size,1,none⟩).getD undef) + intOf ((wr.cell? ⟨w.heap.size + 1,1,none⟩).getD undef)).toNat)
 case atStart=>exact ⟨p,q,r,s,⟨(Bk.new w _ _).alloc _,by simpa using Bk.new (w.alloc (.cells #[.int .i64 p, .int .i64 q] 29)) 29 #[.int .i64 r, .int .i64 s]⟩,bw,Iff.rfl,hp,hp2,hq,hq2,hr,hr2,hs,hs2⟩
 case round =>
  clear hp hp2 hq hq2 hr hr2 hs hs2
  obtain ⟨p',q',r',s',⟨bA,bB⟩,hB,hi,hp,hp2,hq,hq2,hr,hr2,hs,hs2⟩:=hrel
  have hBs:=hB.size
  have x1:=bA.cell 0 rfl
  have x2:=bA.cell 1 rfl
  have x3:=bB.cell 0 rfl
  have x4:=bB.cell 1 rfl
  have f1:=bA.fro 0
  have f2:=bA.fro 1
  have f3:=bB.fro 0
  have f4:=bB.fro 1
  have a1 : 0 ≤ p' / q' ∧ p' / q' ≤ 3050000000000000000:=⟨Int.ediv_nonneg hp (by omega),Int.le_trans (Int.ediv_le_self _ hp) hp2⟩
  have a2 : 0 ≤ r' / s' ∧ r' / s' ≤ 3050000000000000000:=⟨Int.ediv_nonneg hr (by omega),Int.le_trans (Int.ediv_le_self _ hr) hr2⟩
  have b1 : 0 ≤ p' % q' ∧ p' % q' < q':=⟨Int.emod_nonneg _ (by omega),Int.emod_lt_of_pos _ (by omega)⟩
  have b2 : 0 ≤ r' % s' ∧ r' % s' < s':=⟨Int.emod_nonneg _ (by omega),Int.emod_lt_of_pos _ (by omega)⟩
  have K:=Lib.hid (cmp_step p' q' r' s' hq hs)
  have c1 : (q' == 0) = false:=by rw [beq_eq_false_iff_ne]; omega
  have c2 : (s' == 0) = false:=by rw [beq_eq_false_iff_ne]; omega
  obtain ⟨a1,a1'⟩:=a1
  obtain ⟨a2,a2'⟩:=a2
  obtain ⟨b1,b1'⟩:=b1
  obtain ⟨b2,b2'⟩:=b2
  by_cases hx : p' / q' = r' / s'
  ·have hx1 : (p' / q' != r' / s') = false:=by rw [hx]; simp
   have Hx:=Lib.hid hx; clear hx
   by_cases h1 : p' % q' = 0
   ·have h1' : (p' % q' == 0) = true:=by rw [h1]; rfl
    have H1:=Lib.hid h1; clear h1
    go_wp2
    go_region
    all_goals
     go_wp2
     go_region
     go_wp2
     refine wp_region_still_tail 8 (by kernel_rfl) (by kernel_rfl) ?_
     simp only [List.take_succ_cons,List.take_zero,List.drop_succ_cons,List.drop_zero]
     change wpStill _ _ (World.drew _) (fun a'=>wpList _ _ _ _ a' (World.drew _)) _ _
     iterate 2 still_step
     still_call ((compare_any _ _ _).mono fun e w' h=>⟨h.1,h.2.symm⟩)
     iterate 4 still_step
     still_call ((compare_any _ _ _).mono fun e w' h=>⟨h.1,h.2.symm⟩)
     refine wpStill_nil ?_
     go_wp2_with (go_at_call 70; refine (or_any [cmpI (p' / q') (r' / s'),cmpI (p' % q') (r' % s')] _ _ _ (Lies.fresh rfl (by simp) (by simp) rfl) (by simp)).mono ?_; rintro e w' ⟨rfl,rfl⟩)
     go_ret
     exact ⟨_,rfl,(or_less _ _ _ _ s' q' b1 b2 hs hq (.inr (.inl H1.out))).trans (K.out.symm.trans hi.out),bw⟩
   ·have h1' : (p' % q' == 0) = false:=by rw [beq_eq_false_iff_ne]; exact h1
    have g1 : 1 ≤ p' % q':=by omega
    have H1:=Lib.hid h1; clear h1
    by_cases h2 : r' % s' = 0
    ·have h2' : (r' % s' == 0) = true:=by rw [h2]; rfl
     have H2:=Lib.hid h2; clear h2
     go_wp2
     go_region
     all_goals
      go_wp2
      go_region
      go_wp2
      refine wp_region_still_tail 8 (by kernel_rfl) (by kernel_rfl) ?_
      simp only [List.take_succ_cons,List.take_zero,List.drop_succ_cons,List.drop_zero]
      change wpStill _ _ (World.drew _) (fun a'=>wpList _ _ _ _ a' (World.drew _)) _ _
      iterate 2 still_step
      still_call ((compare_any _ _ _).mono fun e w' h=>⟨h.1,h.2.symm⟩)
      iterate 4 still_step
      still_call ((compare_any _ _ _).mono fun e w' h=>⟨h.1,h.2.symm⟩)
      refine wpStill_nil ?_
      go_wp2_with (go_at_call 70; refine (or_any [cmpI (p' / q') (r' / s'),cmpI (p' % q') (r' % s')] _ _ _ (Lies.fresh rfl (by simp) (by simp) rfl) (by simp)).mono ?_; rintro e w' ⟨rfl,rfl⟩)
      go_ret
      exact ⟨_,rfl,(or_less _ _ _ _ s' q' b1 b2 hs hq (.inr (.inr H2.out))).trans (K.out.symm.trans hi.out),bw⟩
    ·have h2' : (r' % s' == 0) = false:=by rw [beq_eq_false_iff_ne]; exact h2
     have g2 : 1 ≤ r' % s':=by omega
     have H2:=Lib.hid h2; clear h2
     have HN : Hid (s' * (p' % q') < q' * (r' % s') ↔ p * s < r * q):=by
      have k:=K.out
      rw [Hx.out] at k
      have k':=hi.out
      rw [k] at k'
      show _ ↔ _
      rw [← k',Int.mul_comm s',Int.mul_comm q']
      simp
     clear K hi
     go_wp2
     go_region
     all_goals
      go_wp2
      go_region
      all_goals
       go_wp2
       go_roundw
       case rel=>exact ⟨s',r' % s',q',p' % q',⟨(cmp_blocks bA bB _ _ _ _ _ _).1.drew.drew,(cmp_blocks bA bB _ _ _ _ _ _).2.drew.drew⟩,bw,HN,by omega,by omega,by omega,by omega,by omega,by omega,by omega,by omega⟩
       case measure=>rw [(cmp_blocks bA bB _ _ _ _ _ _).1.drew.drew.cell 1 rfl,(cmp_blocks bA bB _ _ _ _ _ _).2.drew.drew.cell 1 rfl,x2,x4]; simp [intOf]; omega
  ·have hx1 : (p' / q' != r' / s') = true:=by rw [bne_iff_ne]; exact hx
   have Hx:=Lib.hid hx; clear hx
   go_wp2
   go_region
   all_goals
    go_wp2
    go_region
    go_wp2
    refine wp_region_still_tail 8 (by kernel_rfl) (by kernel_rfl) ?_
    simp only [List.take_succ_cons,List.take_zero,List.drop_succ_cons,List.drop_zero]
    change wpStill _ _ (World.drew _) (fun a'=>wpList _ _ _ _ a' (World.drew _)) _ _
    iterate 2 still_step
    still_call ((compare_any _ _ _).mono fun e w' h=>⟨h.1,h.2.symm⟩)
    iterate 4 still_step
    still_call ((compare_any _ _ _).mono fun e w' h=>⟨h.1,h.2.symm⟩)
    refine wpStill_nil ?_
    go_wp2_with (go_at_call 70; refine (or_any [cmpI (p' / q') (r' / s'),cmpI (p' % q') (r' % s')] _ _ _ (Lies.fresh rfl (by simp) (by simp) rfl) (by simp)).mono ?_; rintro e w' ⟨rfl,rfl⟩)
    go_ret
    exact ⟨_,rfl,(or_less _ _ _ _ s' q' b1 b2 hs hq (.inl Hx.out)).trans (K.out.symm.trans hi.out),bw⟩
end Go.Proofs.Ytkjceegmmhnajaa

namespace Go.Proofs.Ytkjceegmmhnajaa
open Go.RowKit LPX

theorem low_bd {a b N : Int} (ha : 0 ≤ a ∧ a ≤ N) (hb : 1 ≤ b ∧ b ≤ N) : (0 ≤ (lowest a b).1 ∧ (lowest a b).1 ≤ N) ∧ (1 ≤ (lowest a b).2 ∧ (lowest a b).2 ≤ N):=by
 obtain ⟨g,g1,e1,e2⟩:=lowest_parts a b hb.1
 generalize lowest a b = f at *
 obtain ⟨p,q⟩:=f
 dsimp only at *
 have hp : 0 ≤ p:=by
  rcases Int.lt_or_le p 0 with h | h
  ·have : p * g < 0:=Int.mul_neg_of_neg_of_pos h (by omega)
   omega
  ·exact h
 have hq : 1 ≤ q:=by
  rcases Int.lt_or_le q 1 with h | h
  ·have : q * g ≤ 0:=Int.mul_nonpos_of_nonpos_of_nonneg (by omega) (by omega)
   omega
  ·exact h
 have k1 : p * 1 ≤ p * g:=Int.mul_le_mul_of_nonneg_left g1 hp
 have k2 : q * 1 ≤ q * g:=Int.mul_le_mul_of_nonneg_left g1 (by omega)
 refine ⟨⟨hp,by omega⟩,hq,by omega⟩
structure RcpK (l : List Tn) (ps : List Pt) : Prop where
 good : goodP l.length ps
 len : 1 ≤ ps.length ∧ ps.length ≤ 4
 p1 : 0 ≤ (priL l ps).1 ∧ (priL l ps).1 ≤ 3050000000000000000
 p2 : 1 ≤ (priL l ps).2 ∧ (priL l ps).2 ≤ 3050000000000000000
theorem rcpK {l : List Tn} {x : Vc} (hoff : ∀ t ∈ l,offTint t = false) (hx : shadeV x) {ps : List Pt} (h : ps ∈ allR l x) : RcpK l ps:=by
 obtain ⟨L,ws,hR⟩:=allR_ok hoff hx h
 have hg:=goodP_of hR.ok
 have h1:=wsum_bound Tn.price l ps hg (fun t ht=>by
  obtain ⟨_,_,_,_,hp⟩:=offTint_no (hoff t ht)
  exact hp)
 have h2:=wall_bound ps l.length hg
 obtain ⟨n1,n4⟩:=hR.ok.1
 have:=low_bd (a:=wsum Tn.price l ps) (b:=wall ps) (N:=3050000000000000000) (by omega) (by omega)
 exact ⟨hg,hR.ok.1,this.1,this.2⟩
theorem price_at {l : List Tn} {ps : List Pt} (hk : RcpK l ps) (hoff : ∀ t ∈ l,offTint t = false) (At A : Option Addr) (ct c : Nat) (w : World) (hlt : Lies w w.heap.size At (tintsC l)) (hl : Lies w w.heap.size A (partsC ps)) (hm2 : l.length ≤ 1000) :
  Calls Try.prog 35 #[.slice At l.length ct, .agg #[.slice A ps.length c]] w (FracEnd (priL l ps) w) :=
 price_any l ps At A ct c w hlt hl hk.len.2 hm2 hk.len.1 hk.good (fun t ht=>by
  obtain ⟨_,_,_,_,hp⟩:=offTint_no (hoff t ht)
  exact hp)
theorem cmp_at {l : List Tn} {r q : List Pt} (hr : RcpK l r) (hq : RcpK l q) (w : World) :
  Calls Try.prog 38 #[.agg #[.int .i64 (priL l r).1, .int .i64 (priL l r).2], .agg #[.int .i64 (priL l q).1, .int .i64 (priL l q).2]] w fun e w'=>∃ c : Int,e = .returned (.int .i64 c) ∧ decide (c < 0) = lessQ l r q ∧ Below w.heap.size w w':=by
 refine (cmpfrac_any _ _ _ _ w hr.p1.1 hr.p1.2 hr.p2.1 hr.p2.2 hq.p1.1 hq.p1.2 hq.p2.1 hq.p2.2).mono ?_
 rintro e w' ⟨c,rfl,hc,hb⟩
 refine ⟨c,rfl,?_,hb⟩
 unfold lessQ
 rw [decide_eq_decide]
 exact hc
def BestAt (l : List Tn) (x : Vc) (B0 gb : Nat) (rs : List (List Pt)) (W : World) : Prop :=
 (bestF l rs = none ∧ Bk W gb 25 #[.slice none 0 0]) ∨ ∃ e : Er,bestF l rs = some e.ps ∧ e.ps ∈ allR l x ∧ e.At B0 W ∧ Bk W gb 25 #[.slice e.A e.ps.length e.c]
def dualGood (l : List Tn) (x : Vc) (b : List Pt) (L : List Nat) : Prop:=∃ d,solC l L = some d ∧ belowB d l = true ∧ sameF (lowest (atD d x.x x.y x.z) d.den) (priL l b) = true
def CheE (l : List Tn) (x y z : Int) (w : World) (e : Ending) (w' : World) : Prop :=
 Below w.heap.size w w' ∧ ((chkW l x y z ≠ 0 ∧ e = .returned (.tuple #[.agg #[.slice none 0 0], .agg #[.int .i64 0, .int .i64 0, .int .i64 0, .int .i64 0, .int .i64 0], .int .i64 (chkW l x y z)]))
  ∨ (chkW l x y z = 0 ∧ allR l ⟨x,y,z⟩ = [] ∧ e = .returned (.tuple #[.agg #[.slice none 0 0], .agg #[.int .i64 0, .int .i64 0, .int .i64 0, .int .i64 0, .int .i64 0], .int .i64 61]))
  ∨ (chkW l x y z = 0 ∧ ∃ (r : Er) (d : Du),bestF l (allR l ⟨x,y,z⟩) = some r.ps ∧ r.ps ∈ allR l ⟨x,y,z⟩ ∧ okDu d ∧ belowB d l = true ∧ sameF (lowest (atD d x y z) d.den) (priL l r.ps) = true ∧ e = .returned (.tuple #[.agg #[.slice r.A r.ps.length r.c],d.agg, .int .i64 0]) ∧ r.At w.heap.size w'))
theorem bestF_nil {l : List Tn} : ∀ (rs : List (List Pt)),bestF l rs = none → rs = []:=by
 refine rev_ind (fun _=>rfl) ?_
 intro rs r _ h
 rw [bestF_snoc] at h
 obtain ⟨q,hq,_⟩:=stepB_some l (bestF l rs) r
 rw [hq] at h; cases h
theorem eqNl (w : World) : (binOp BinOp.eql 23 (Value.slice none 0 0) (Value.slice none 0 0)).run Try.prog w = .ok (.bool true) w:=Lib.run_eql_slice_nil w 23 _ none 0 0 0 0 Try.underlying23
theorem eqSl (a : Addr) (n c : Nat) (w : World) : (binOp BinOp.eql 23 (Value.slice (some a) n c) (Value.slice none 0 0)).run Try.prog w = .ok (.bool false) w:=Lib.run_eql_slice_nil w 23 _ (some a) n c 0 0 Try.underlying23
end Go.Proofs.Ytkjceegmmhnajaa
