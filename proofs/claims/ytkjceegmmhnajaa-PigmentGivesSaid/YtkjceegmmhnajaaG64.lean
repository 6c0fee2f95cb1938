/- pigment.weights of three points. -/
import Derived.Test.YtkjceegmmhnajaaG54
import Derived.Test.YtkjceegmmhnajaaG62
import Derived.Test.YtkjceegmmhnajaaG63

set_option linter.unusedVariables false
set_option linter.unusedSimpArgs false

namespace Go.Proofs.Ytkjceegmmhnajaa
open Go.RowKit

theorem gcd3_pos (x y z : Int) (h : y ≠ 0) : 1 ≤ (gcdL [x,y,z] : Int) ∧ (gcdL [x,y,z] : Int) ≤ y.natAbs:=by
 have hd : gcdL [x,y,z] ∣ y.natAbs:=Nat.dvd_trans (Nat.gcd_dvd_left ..) (Nat.gcd_dvd_right ..)
 have hp : 0 < y.natAbs:=by omega
 have h1:=Nat.pos_of_dvd_of_pos hd hp
 have h2:=Nat.le_of_dvd hp hd
 omega

set_option maxRecDepth 100000 in
set_option maxHeartbeats 4000000 in
theorem weights3 (a p q x : Vc) (ad : Addr) (c : Nat) (w : World) (hb : ad.block < w.heap.size) (h0 : vecAt w ad a) (h3 : vecAt w ⟨ad.block,ad.off + 3,none⟩ p) (h6 : vecAt w ⟨ad.block,ad.off + 6,none⟩ q) (ha : shadeV a) (hp : shadeV p) (hq : shadeV q) (hx : shadeV x) :
  Calls Try.prog 86 #[.slice (some ad) 3 c,x.agg] w (WEnd (pwts [a,p,q] x) w):=by
 have hu:=vb_sub hx ha
 have hd:=vb_sub hp ha
 have hf:=vb_sub hq ha
 obtain ⟨a1,a2,a3⟩:=a
 obtain ⟨p1,p2,p3⟩:=p
 obtain ⟨q1,q2,q3⟩:=q
 obtain ⟨x1,x2,x3⟩:=x
 dsimp only at hu hd hf
 have HMu : Hid (∀ W,Calls Try.prog 75 #[.agg #[.int .i64 x1, .int .i64 x2, .int .i64 x3], .agg #[.int .i64 a1, .int .i64 a2, .int .i64 a3]] W fun e w'=>e = .returned (.agg #[.int .i64 (x1 - a1), .int .i64 (x2 - a2), .int .i64 (x3 - a3)]) ∧ Below W.heap.size W w'):=fun W=>minus_any _ _ _ _ _ _ W (ab_big hu.1 (by omega)) (ab_big hu.2.1 (by omega)) (ab_big hu.2.2 (by omega))
 have HMd : Hid (∀ W,Calls Try.prog 75 #[.agg #[.int .i64 p1, .int .i64 p2, .int .i64 p3], .agg #[.int .i64 a1, .int .i64 a2, .int .i64 a3]] W fun e w'=>e = .returned (.agg #[.int .i64 (p1 - a1), .int .i64 (p2 - a2), .int .i64 (p3 - a3)]) ∧ Below W.heap.size W w'):=fun W=>minus_any _ _ _ _ _ _ W (ab_big hd.1 (by omega)) (ab_big hd.2.1 (by omega)) (ab_big hd.2.2 (by omega))
 have HMf : Hid (∀ W,Calls Try.prog 75 #[.agg #[.int .i64 q1, .int .i64 q2, .int .i64 q3], .agg #[.int .i64 a1, .int .i64 a2, .int .i64 a3]] W fun e w'=>e = .returned (.agg #[.int .i64 (q1 - a1), .int .i64 (q2 - a2), .int .i64 (q3 - a3)]) ∧ Below W.heap.size W w'):=fun W=>minus_any _ _ _ _ _ _ W (ab_big hf.1 (by omega)) (ab_big hf.2.1 (by omega)) (ab_big hf.2.2 (by omega))
 have HE : Hid (∀ u1 u2 u3 d1 d2 d3 f1 f2 f3 n1 n2 n3 y t e1 e2 e3 xx k1 k2 k3 z : Int,(x1 - a1 = u1 ∧ x2 - a2 = u2 ∧ x3 - a3 = u3) → (p1 - a1 = d1 ∧ p2 - a2 = d2 ∧ p3 - a3 = d3) → (q1 - a1 = f1 ∧ q2 - a2 = f2 ∧ q3 - a3 = f3) →
   (n1 = d2 * f3 - d3 * f2 ∧ n2 = d3 * f1 - d1 * f3 ∧ n3 = d1 * f2 - d2 * f1) → y = n1 * n1 + n2 * n2 + n3 * n3 → t = u1 * n1 + u2 * n2 + u3 * n3 →
   (e1 = u2 * f3 - u3 * f2 ∧ e2 = u3 * f1 - u1 * f3 ∧ e3 = u1 * f2 - u2 * f1) → xx = e1 * n1 + e2 * n2 + e3 * n3 → (k1 = d2 * u3 - d3 * u2 ∧ k2 = d3 * u1 - d1 * u3 ∧ k3 = d1 * u2 - d2 * u1) → z = k1 * n1 + k2 * n2 + k3 * n3 →
   pwts [⟨a1,a2,a3⟩,⟨p1,p2,p3⟩,⟨q1,q2,q3⟩] ⟨x1,x2,x3⟩ = if y = 0 ∨ t ≠ 0 then none else some [(y - xx - z).tdiv (gcdL [xx,y,z] : Nat),xx.tdiv (gcdL [xx,y,z] : Nat),z.tdiv (gcdL [xx,y,z] : Nat)]):=by
  rintro _ _ _ _ _ _ _ _ _ _ _ _ _ _ _ _ _ _ _ _ _ _ ⟨rfl,rfl,rfl⟩ ⟨rfl,rfl,rfl⟩ ⟨rfl,rfl,rfl⟩ ⟨rfl,rfl,rfl⟩ rfl rfl ⟨rfl,rfl,rfl⟩ rfl ⟨rfl,rfl,rfl⟩ rfl
  simp only [pwts,Vc.sub,Vc.dot,Vc.crs]
  rfl
 generalize hu1 : x1 - a1 = u1 at *
 generalize hu2 : x2 - a2 = u2 at *
 generalize hu3 : x3 - a3 = u3 at *
 generalize hd1 : p1 - a1 = d1 at *
 generalize hd2 : p2 - a2 = d2 at *
 generalize hd3 : p3 - a3 = d3 at *
 generalize hf1 : q1 - a1 = f1 at *
 generalize hf2 : q2 - a2 = f2 at *
 generalize hf3 : q3 - a3 = f3 at *
 have HE2:=Lib.hid (fun n1 n2 n3 y t e1 e2 e3 xx k1 k2 k3 z=>HE.out u1 u2 u3 d1 d2 d3 f1 f2 f3 n1 n2 n3 y t e1 e2 e3 xx k1 k2 k3 z ⟨rfl,rfl,rfl⟩ ⟨rfl,rfl,rfl⟩ ⟨rfl,rfl,rfl⟩)
 clear hu1 hu2 hu3 hd1 hd2 hd3 hf1 hf2 hf3 HE
 have H0:=Lib.hid h0
 have H3:=Lib.hid h3
 have H6:=Lib.hid h6
 have Hu:=Lib.hid hu
 have Hd:=Lib.hid hd
 have Hf:=Lib.hid hf
 unfold vecAt at h0 h3 h6
 obtain ⟨h00,h01,h02⟩:=h0
 dsimp only at *
 clear ha hp hq hx h3 h6 hu hd hf
 go_enter Try.func86,Try.ntmps86
 go_wp2_with (go_at_call 75; refine (HMu.out _).mono ?_; rintro e w1 ⟨rfl,hb1⟩; have hB1 : Below w.heap.size w w1:=(Below.trans (by repeat (first | with_reducible exact Below.refl _ _ | with_reducible assumption | with_reducible refine Below.drew ?_ | with_reducible refine below_drewN ?_ _ | (with_reducible refine Below.alloc ?_ ?_ _; rotate_left; (try simp) <;> omega) | (with_reducible refine Below.setCell ?_ ?_ _; rotate_left; (try simp) <;> omega))) (hb1.mono (by first | omega | (simp; omega) | simp))); have xa1:=(Bk.new (w.alloc (.cells #[.int .i64 x1, .int .i64 x2, .int .i64 x3] 84)) 84 #[.int .i64 a1, .int .i64 a2, .int .i64 a3]).below hb1 (by simp); rw [World.size_alloc] at xa1; have l1:=xa1.lt)
 have xu:=Bk.new w1 84 #[.int .i64 u1, .int .i64 u2, .int .i64 u3]
 have xa:=xa1.alloc (.cells #[.int .i64 u1, .int .i64 u2, .int .i64 u3] 84)
 have hBa : Below w.heap.size w (w1.alloc (.cells #[.int .i64 u1, .int .i64 u2, .int .i64 u3] 84)):=hB1.alloc hB1.size _
 have l2:=xu.lt
 have l3:=xa.lt
 clear xa1 hb1 l1
 go_wp2
 obtain ⟨wa,hwa⟩ : ∃ wa,wa = w1.alloc (.cells #[.int .i64 u1, .int .i64 u2, .int .i64 u3] 84):=⟨_,rfl⟩
 have hsza : wa.heap.size = w1.heap.size + 1:=by rw [hwa]; simp
 rw [← hwa] at xu xa hBa l2 l3 ⊢
 clear hwa h00 h01 h02
 have k30 : wa.cell? ⟨ad.block,ad.off + 3,none⟩ = some (.int .i64 p1):=(H3.out.below hBa hb).1
 have k31 : wa.cell? ⟨ad.block,ad.off + 3 + 1,none⟩ = some (.int .i64 p2):=(H3.out.below hBa hb).2.1
 have k32 : wa.cell? ⟨ad.block,ad.off + 3 + 2,none⟩ = some (.int .i64 p3):=(H3.out.below hBa hb).2.2
 have k60 : wa.cell? ⟨ad.block,ad.off + 6,none⟩ = some (.int .i64 q1):=(H6.out.below hBa hb).1
 have k61 : wa.cell? ⟨ad.block,ad.off + 6 + 1,none⟩ = some (.int .i64 q2):=(H6.out.below hBa hb).2.1
 have k62 : wa.cell? ⟨ad.block,ad.off + 6 + 2,none⟩ = some (.int .i64 q3):=(H6.out.below hBa hb).2.2
 have la : ad.block < wa.heap.size:=Nat.lt_of_lt_of_le hb hBa.size
 have a0:=xa.cell 0 rfl
 have a1':=xa.cell 1 rfl
 have a2':=xa.cell 2 rfl
 refine wp_region_held_drew (S:=fun w'=>(w'.cell? ⟨w.heap.size + 1,0,none⟩ = some (.int .i64 a1) ∧ w'.cell? ⟨w.heap.size + 1,1,none⟩ = some (.int .i64 a2) ∧ w'.cell? ⟨w.heap.size + 1,2,none⟩ = some (.int .i64 a3)) ∧ (w'.cell? ⟨ad.block,ad.off + 3,none⟩ = some (.int .i64 p1) ∧ w'.cell? ⟨ad.block,ad.off + 3 + 1,none⟩ = some (.int .i64 p2) ∧ w'.cell? ⟨ad.block,ad.off + 3 + 2,none⟩ = some (.int .i64 p3)) ∧ (w'.cell? ⟨ad.block,ad.off + 6,none⟩ = some (.int .i64 q1) ∧ w'.cell? ⟨ad.block,ad.off + 6 + 1,none⟩ = some (.int .i64 q2) ∧ w'.cell? ⟨ad.block,ad.off + 6 + 2,none⟩ = some (.int .i64 q3))) (by kernel_rfl) ?_ (fun hHeld=>?_)
 ·exact ⟨⟨a0,a1',a2'⟩,⟨k30,k31,k32⟩,⟨k60,k61,k62⟩⟩
 (refine held_take 0 (some 70) ?_ rfl (by kernel_rfl) (by kernel_rfl) (by kernel_rfl) (by rfl) (fun _ _ _ h=>h) (by assumption) (fun w hSw=>?_) ?_; rotate_left; ((try dsimp only at hSw); simp only [List.getElem?_toArray,List.getElem?_cons_zero,List.getElem?_cons_succ,Option.map_some]; refine congrArg some ?_; go_simp; (try with_reducible rfl)); (try simp only [Act.put,List.setIfInBounds_toArray,List.set_cons_zero,List.set_cons_succ]))
 (refine held_take 1 (some 71) ?_ rfl (by kernel_rfl) (by kernel_rfl) (by kernel_rfl) (by rfl) (fun _ _ _ h=>h) (by assumption) (fun w hSw=>?_) ?_; rotate_left; ((try dsimp only at hSw); simp only [List.getElem?_toArray,List.getElem?_cons_zero,List.getElem?_cons_succ,Option.map_some]; refine congrArg some ?_; go_simp; (try with_reducible rfl)); (try simp only [Act.put,List.setIfInBounds_toArray,List.set_cons_zero,List.set_cons_succ]))
 (refine held_take 2 (some 72) ?_ rfl (by kernel_rfl) (by kernel_rfl) (by kernel_rfl) (by rfl) (fun _ _ _ h=>h) (by assumption) (fun w hSw=>?_) ?_; rotate_left; ((try dsimp only at hSw); simp only [List.getElem?_toArray,List.getElem?_cons_zero,List.getElem?_cons_succ,Option.map_some]; refine congrArg some ?_; go_simp; (try with_reducible rfl)); (try simp only [Act.put,List.setIfInBounds_toArray,List.set_cons_zero,List.set_cons_succ]))
 (refine held_take 3 (some 73) ?_ rfl (by kernel_rfl) (by kernel_rfl) (by kernel_rfl) (by rfl) (fun _ _ _ h=>h) (by assumption) (fun w hSw=>?_) ?_; rotate_left; ((try dsimp only at hSw); simp only [List.getElem?_toArray,List.getElem?_cons_zero,List.getElem?_cons_succ,Option.map_some]; refine congrArg some ?_; go_simp; (try with_reducible rfl)); (try simp only [Act.put,List.setIfInBounds_toArray,List.set_cons_zero,List.set_cons_succ]))
 (refine held_take 5 (some 75) ?_ rfl (by kernel_rfl) (by kernel_rfl) (by kernel_rfl) (by rfl) (fun _ _ _ h=>h) (by assumption) (fun w hSw=>?_) ?_; rotate_left; ((try dsimp only at hSw); simp only [List.getElem?_toArray,List.getElem?_cons_zero,List.getElem?_cons_succ,Option.map_some]; refine congrArg some ?_; go_simp; (try with_reducible rfl)); (try simp only [Act.put,List.setIfInBounds_toArray,List.set_cons_zero,List.set_cons_succ]))
 (refine held_take 6 (some 76) ?_ rfl (by kernel_rfl) (by kernel_rfl) (by kernel_rfl) (by rfl) (fun _ _ _ h=>h) (by assumption) (fun w hSw=>?_) ?_; rotate_left; ((try dsimp only at hSw); simp only [List.getElem?_toArray,List.getElem?_cons_zero,List.getElem?_cons_succ,Option.map_some]; refine congrArg some ?_; go_simp; (try with_reducible rfl)); (try simp only [Act.put,List.setIfInBounds_toArray,List.set_cons_zero,List.set_cons_succ]))
 (refine held_take 7 (some 77) ?_ rfl (by kernel_rfl) (by kernel_rfl) (by kernel_rfl) (by rfl) (fun _ _ _ h=>h) (by assumption) (fun w hSw=>?_) ?_; rotate_left; ((try dsimp only at hSw); simp only [List.getElem?_toArray,List.getElem?_cons_zero,List.getElem?_cons_succ,Option.map_some]; refine congrArg some ?_; go_simp; (try with_reducible rfl)); (try simp only [Act.put,List.setIfInBounds_toArray,List.set_cons_zero,List.set_cons_succ]))
 (refine held_take 8 (some 78) ?_ rfl (by kernel_rfl) (by kernel_rfl) (by kernel_rfl) (by rfl) (fun _ _ _ h=>h) (by assumption) (fun w hSw=>?_) ?_; rotate_left; ((try dsimp only at hSw); simp only [List.getElem?_toArray,List.getElem?_cons_zero,List.getElem?_cons_succ,Option.map_some]; refine congrArg some ?_; go_simp; (try with_reducible rfl)); (try simp only [Act.put,List.setIfInBounds_toArray,List.set_cons_zero,List.set_cons_succ]))
 refine vectors_laid (ds:=[74,79,11,12]) (f:=75) (vs:=[⟨4,10,12,74,11,#[.agg #[.int .i64 p1, .int .i64 p2, .int .i64 p3], .agg #[.int .i64 a1, .int .i64 a2, .int .i64 a3]],d1,d2,d3⟩,⟨9,11,13,79,12,#[.agg #[.int .i64 q1, .int .i64 q2, .int .i64 q3], .agg #[.int .i64 a1, .int .i64 a2, .int .i64 a3]],f1,f2,f3⟩]) (B:=wa.heap.size) ?hv (by simp) (by simp) (by simp) ?hac ?hB ?hS ?hcalls ?hQ ?hsz ?hl ?hl2 ?hfuel ?hsl
 case hv =>
  intro v hv
  rcases List.mem_cons.1 hv with rfl | hv
  ·refine ⟨by simp,by simp,by simp,by simp,⟨_,rfl,rfl,rfl,fun V W=>?_⟩,⟨_,rfl,rfl,rfl,fun a W=>?_⟩,⟨_,rfl,rfl,rfl,by kernel_rfl,by kernel_rfl,fun a W b g1 g2 g3=>?_⟩⟩
   ·go_simp
    constructor <;> (rw [canon_get,if_neg (by simp)]; simp)
   ·go_simp
    rfl
   ·simp only [Vj.row] at g1 g2
    have t0:=g3.cell 0 rfl
    have t1:=g3.cell 1 rfl
    have t2:=g3.cell 2 rfl
    have r0:=g3.fro 0
    have r1:=g3.fro 1
    have r2:=g3.fro 2
    refine ⟨_,_,?_, .inl rfl,rfl⟩
    go_simp
  obtain rfl:=List.mem_singleton.1 hv
  ·refine ⟨by simp,by simp,by simp,by simp,⟨_,rfl,rfl,rfl,fun V W=>?_⟩,⟨_,rfl,rfl,rfl,fun a W=>?_⟩,⟨_,rfl,rfl,rfl,by kernel_rfl,by kernel_rfl,fun a W b g1 g2 g3=>?_⟩⟩
   ·go_simp
    constructor <;> (rw [canon_get,if_neg (by simp)]; simp)
   ·go_simp
    rfl
   ·simp only [Vj.row] at g1 g2
    have t0:=g3.cell 0 rfl
    have t1:=g3.cell 1 rfl
    have t2:=g3.cell 2 rfl
    have r0:=g3.fro 0
    have r1:=g3.fro 1
    have r2:=g3.fro 2
    refine ⟨_,_,?_, .inl rfl,rfl⟩
    go_simp
 case hac =>
  exact acB_spec (by kernel_rfl)
 case hB=>exact Nat.le_refl _
 case hsz=>simp
 case hS =>
  intro W hW
  have hW' : Below wa.heap.size wa W:=(Below.drew (Below.refl _ _)).trans hW
  exact ⟨⟨(hW'.cell l3).trans a0,(hW'.cell l3).trans a1',(hW'.cell l3).trans a2'⟩,⟨(hW'.cell (p:=⟨ad.block,ad.off + 3,none⟩) la).trans k30,(hW'.cell (p:=⟨ad.block,ad.off + 3 + 1,none⟩) la).trans k31,(hW'.cell (p:=⟨ad.block,ad.off + 3 + 2,none⟩) la).trans k32⟩,⟨(hW'.cell (p:=⟨ad.block,ad.off + 6,none⟩) la).trans k60,(hW'.cell (p:=⟨ad.block,ad.off + 6 + 1,none⟩) la).trans k61,(hW'.cell (p:=⟨ad.block,ad.off + 6 + 2,none⟩) la).trans k62⟩⟩
 case hcalls =>
  intro v hv W hW
  rcases List.mem_cons.1 hv with rfl | hv
  ·exact HMd.out W
  ·obtain rfl:=List.mem_singleton.1 hv
   exact HMf.out W
 case hl =>
  exact hlB_spec (by kernel_rfl)
 case hl2=>simp
 case hfuel=>simp [left]
 case hsl=>simp
 case hQ =>
  intro V W hW hV ⟨g,hg⟩ hrest
  have e74:=hV _ (List.mem_cons_self ..)
  have e79:=hV _ (List.mem_cons_of_mem _ (List.mem_singleton.2 rfl))
  obtain ⟨e11,b11,k11⟩:=hg _ (List.mem_cons_self ..)
  obtain ⟨e12,b12,k12⟩:=hg _ (List.mem_cons_of_mem _ (List.mem_singleton.2 rfl))
  dsimp only [Vj.row] at e74 e79 e11 e12 b11 b12 k11 k12
  simp only [canon,List.foldl_cons,List.foldl_nil]
  rw [e74,e79,e11,e12]
  simp only [List.setIfInBounds_toArray,List.set_cons_zero,List.set_cons_succ]
  generalize g 11 = g1 at *
  generalize g 12 = g2 at *
  have hW' : Below wa.heap.size wa W:=(Below.drew (Below.refl _ _)).trans hW
  have hBW : Below w.heap.size w W:=hBa.trans (hW'.mono hBa.size)
  have yu:=xu.below hW' l2
  clear hrest hV hg e74 e79 e11 e12 hW hW' xu xa a0 a1' a2' k30 k31 k32 k60 k61 k62 hHeld HMu HMd HMf H0 H3 H6 hB1 hBa l2 l3 la hsza b11 b12
  have lu:=yu.lt
  have l11:=k11.lt
  have l12:=k12.lt
  have u0:=yu.cell 0 rfl
  have u1':=yu.cell 1 rfl
  have u2':=yu.cell 2 rfl
  have d0:=k11.cell 0 rfl
  have d1':=k11.cell 1 rfl
  have d2':=k11.cell 2 rfl
  have f0:=k12.cell 0 rfl
  have f1':=k12.cell 1 rfl
  have f2':=k12.cell 2 rfl
  go_wp2_with fail
  refine (cross_b (A:=1000) (B:=1000) _ Hd.out Hf.out (by omega)).mono ?_
  rintro e w2 ⟨n1,n2,n3,rfl,HN,hvn,hb2,hz2⟩
  clear hz2
  have HK : Hid (∀ W',Below (w2.alloc (.cells #[.int .i64 n1, .int .i64 n2, .int .i64 n3] 84)).heap.size (w2.alloc (.cells #[.int .i64 n1, .int .i64 n2, .int .i64 n3] 84)) W' → (W'.cell? ⟨w1.heap.size,0,none⟩ = some (.int .i64 u1) ∧ W'.cell? ⟨w1.heap.size,1,none⟩ = some (.int .i64 u2) ∧ W'.cell? ⟨w1.heap.size,2,none⟩ = some (.int .i64 u3)) ∧ (W'.cell? ⟨g1,0,none⟩ = some (.int .i64 d1) ∧ W'.cell? ⟨g1,1,none⟩ = some (.int .i64 d2) ∧ W'.cell? ⟨g1,2,none⟩ = some (.int .i64 d3)) ∧ (W'.cell? ⟨g2,0,none⟩ = some (.int .i64 f1) ∧ W'.cell? ⟨g2,1,none⟩ = some (.int .i64 f2) ∧ W'.cell? ⟨g2,2,none⟩ = some (.int .i64 f3)) ∧ (W'.cell? ⟨w2.heap.size,0,none⟩ = some (.int .i64 n1) ∧ W'.cell? ⟨w2.heap.size,1,none⟩ = some (.int .i64 n2) ∧ W'.cell? ⟨w2.heap.size,2,none⟩ = some (.int .i64 n3))):=fun W' hW'=>by
   have hb' : Below W.heap.size W W':=(hb2.alloc hb2.size _).trans (hW'.mono (by have:=hb2.size; simp; omega))
   have z1:=yu.below hb' lu
   have z2:=k11.below hb' l11
   have z3:=k12.below hb' l12
   have z4:=(Bk.new w2 84 #[.int .i64 n1, .int .i64 n2, .int .i64 n3]).below hW' (by simp)
   exact ⟨⟨z1.cell 0 rfl,z1.cell 1 rfl,z1.cell 2 rfl⟩,⟨z2.cell 0 rfl,z2.cell 1 rfl,z2.cell 2 rfl⟩,⟨z3.cell 0 rfl,z3.cell 1 rfl,z3.cell 2 rfl⟩,⟨z4.cell 0 rfl,z4.cell 1 rfl,z4.cell 2 rfl⟩⟩
  have hBn : Below w.heap.size w (w2.alloc (.cells #[.int .i64 n1, .int .i64 n2, .int .i64 n3] 84)):=(hBW.trans (hb2.mono hBW.size)).alloc (Nat.le_trans hBW.size hb2.size) _
  have s1 : w1.heap.size < w2.heap.size:=Nat.lt_of_lt_of_le lu hb2.size
  have s2 : g1 < w2.heap.size:=Nat.lt_of_lt_of_le l11 hb2.size
  have s3 : g2 < w2.heap.size:=Nat.lt_of_lt_of_le l12 hb2.size
  clear hBW hb2 lu l11 l12 u0 u1' u2' d0 d1' d2' f0 f1' f2' yu k11 k12
  go_wp2_with fail
  obtain ⟨wn,hwn⟩ : ∃ wn,wn = w2.alloc (.cells #[.int .i64 n1, .int .i64 n2, .int .i64 n3] 84):=⟨_,rfl⟩
  rw [← hwn] at HK hBn ⊢
  have hszn : wn.heap.size = w2.heap.size + 1:=by rw [hwn]; simp
  clear hwn
  refine (times_b (A:=2000000) (B:=2000000) (a:=n1) _ hvn hvn (by omega)).mono ?_
  rintro e w3 ⟨y,rfl,HY,hvy,hb3,hz3⟩
  clear hz3
  have hB3 : Below w.heap.size w w3:=hBn.trans (hb3.mono hBn.size)
  have hyb : -12000000000000 ≤ y ∧ y ≤ 12000000000000:=by have:=hvy; unfold ab at this; omega
  obtain ⟨⟨u0,u1',u2'⟩,⟨d0,d1',d2'⟩,⟨f0,f1',f2'⟩,⟨n0,n1',n2'⟩⟩:=HK.out w3 hb3
  have t1 : w1.heap.size < w3.heap.size:=by have:=hb3.size; omega
  have t2 : g1 < w3.heap.size:=by have:=hb3.size; omega
  have t3 : g2 < w3.heap.size:=by have:=hb3.size; omega
  have t4 : w2.heap.size < w3.heap.size:=by have:=hb3.size; omega
  have HE3:=Lib.hid (fun t e1 e2 e3 xx k1 k2 k3 z=>HE2.out n1 n2 n3 y t e1 e2 e3 xx k1 k2 k3 z HN.out HY.out)
  clear HE2 hvy
  by_cases hy0 : y = 0
  ·have hyn : (y == 0) = true:=by rw [hy0]; rfl
   have HY0:=Lib.hid hy0
   clear hy0
   go_wp2
   go_ret2
   refine w_none (by rw [HE3.out _ _ _ _ _ _ _ _ _ rfl ⟨rfl,rfl,rfl⟩ rfl ⟨rfl,rfl,rfl⟩ rfl,if_pos (.inl HY0.out)]) (by omega) (by omega) ?_
   exact (by repeat (first | with_reducible exact Below.refl _ _ | with_reducible assumption | with_reducible refine Below.drew ?_ | with_reducible refine below_drewN ?_ _ | (with_reducible refine Below.alloc ?_ ?_ _; rotate_left; (try simp) <;> omega) | (with_reducible refine Below.setCell ?_ ?_ _; rotate_left; (try simp) <;> omega)))
  ·have hyn : (y == 0) = false:=by rw [beq_eq_false_iff_ne]; exact hy0
   have HY0:=Lib.hid hy0
   clear hy0
   go_wp2_with fail
   refine (times_b (A:=1000) (B:=2000000) (a:=u1) _ Hu.out hvn (by omega)).mono ?_
   rintro e w4 ⟨t,rfl,HT,hvt,hb4,hz4⟩
   clear hz4
   have hR4 : Below wn.heap.size wn w4:=hb3.trans (hb4.mono hb3.size)
   have hB4 : Below w.heap.size w w4:=hB3.trans (hb4.mono hB3.size)
   clear u0 u1' u2' d0 d1' d2' f0 f1' f2' n0 n1' n2' hvt
   obtain ⟨⟨u0,u1',u2'⟩,⟨d0,d1',d2'⟩,⟨f0,f1',f2'⟩,⟨n0,n1',n2'⟩⟩:=HK.out w4 hR4
   have t1 : w1.heap.size < w4.heap.size:=by have:=hR4.size; omega
   have t2 : g1 < w4.heap.size:=by have:=hR4.size; omega
   have t3 : g2 < w4.heap.size:=by have:=hR4.size; omega
   have t4 : w2.heap.size < w4.heap.size:=by have:=hR4.size; omega
   by_cases ht0 : t = 0
   ·have htn : (t != 0) = false:=by rw [ht0]; rfl
    have HT0:=Lib.hid ht0
    clear ht0
    go_wp2
    go_region_held3 (fun w'=>(w'.cell? ⟨w1.heap.size,0,none⟩ = some (.int .i64 u1) ∧ w'.cell? ⟨w1.heap.size,1,none⟩ = some (.int .i64 u2) ∧ w'.cell? ⟨w1.heap.size,2,none⟩ = some (.int .i64 u3)) ∧ (w'.cell? ⟨g1,0,none⟩ = some (.int .i64 d1) ∧ w'.cell? ⟨g1,1,none⟩ = some (.int .i64 d2) ∧ w'.cell? ⟨g1,2,none⟩ = some (.int .i64 d3)) ∧ (w'.cell? ⟨g2,0,none⟩ = some (.int .i64 f1) ∧ w'.cell? ⟨g2,1,none⟩ = some (.int .i64 f2) ∧ w'.cell? ⟨g2,2,none⟩ = some (.int .i64 f3)) ∧ (w'.cell? ⟨w2.heap.size,0,none⟩ = some (.int .i64 n1) ∧ w'.cell? ⟨w2.heap.size,1,none⟩ = some (.int .i64 n2) ∧ w'.cell? ⟨w2.heap.size,2,none⟩ = some (.int .i64 n3)))
     (first | go_keep | (refine ⟨⟨?_,?_,?_⟩,⟨?_,?_,?_⟩,⟨?_,?_,?_⟩,⟨?_,?_,?_⟩⟩ <;> first | assumption | go_keep))
     (first | (go_at_call 82; ((with_reducible refine (cross_b (A:=1000) (B:=1000) (a:=u1) _ Hu.out Hf.out (by omega)).mono ?_); rintro e w5 ⟨e1,e2,e3,rfl,HC1,hv5,hb5,hz5⟩); clear hz5; have hR5 : Below wn.heap.size wn w5:=hR4.trans (Below.mono (Below.trans (by repeat (first | with_reducible exact Below.refl _ _ | with_reducible assumption | with_reducible refine Below.drew ?_ | with_reducible refine below_drewN ?_ _ | (with_reducible refine Below.alloc ?_ ?_ _; rotate_left; (try simp) <;> omega) | (with_reducible refine Below.setCell ?_ ?_ _; rotate_left; (try simp) <;> omega))) hb5) hR4.size); have r5:=hR5.size; obtain ⟨⟨c0,c1,c2⟩,⟨c3,c4,c5⟩,⟨c6,c7,c8⟩,⟨c9,c10,c11⟩⟩:=HK.out w5 hR5) | (go_at_call 82; ((with_reducible refine (cross_b (A:=1000) (B:=1000) (a:=d1) _ Hd.out Hu.out (by omega)).mono ?_); rintro e w7 ⟨k1,k2,k3,rfl,HC2,hv7,hb7,hz7⟩); clear hz7; have hR7 : Below wn.heap.size wn w7:=hR6.trans (Below.mono (Below.trans (by repeat (first | with_reducible exact Below.refl _ _ | with_reducible assumption | with_reducible refine Below.drew ?_ | with_reducible refine below_drewN ?_ _ | (with_reducible refine Below.alloc ?_ ?_ _; rotate_left; (try simp) <;> omega) | (with_reducible refine Below.setCell ?_ ?_ _; rotate_left; (try simp) <;> omega))) hb7) hR6.size); have r7:=hR7.size; obtain ⟨⟨c0,c1,c2⟩,⟨c3,c4,c5⟩,⟨c6,c7,c8⟩,⟨c9,c10,c11⟩⟩:=HK.out w7 hR7) | (go_at_call 46; ((with_reducible refine (times_b (A:=2000000) (B:=2000000) (a:=e1) _ hv5 hvn (by omega)).mono ?_); rintro e w6 ⟨xx,rfl,HX,hv6,hb6,hz6⟩); clear hz6; have hR6 : Below wn.heap.size wn w6:=hR5.trans (Below.mono (Below.trans (by repeat (first | with_reducible exact Below.refl _ _ | with_reducible assumption | with_reducible refine Below.drew ?_ | with_reducible refine below_drewN ?_ _ | (with_reducible refine Below.alloc ?_ ?_ _; rotate_left; (try simp) <;> omega) | (with_reducible refine Below.setCell ?_ ?_ _; rotate_left; (try simp) <;> omega))) hb6) hR5.size); have r6:=hR6.size; obtain ⟨⟨c0,c1,c2⟩,⟨c3,c4,c5⟩,⟨c6,c7,c8⟩,⟨c9,c10,c11⟩⟩:=HK.out w6 hR6) | (go_at_call 46; ((with_reducible refine (times_b (A:=2000000) (B:=2000000) (a:=k1) _ hv7 hvn (by omega)).mono ?_); rintro e w8 ⟨z,rfl,HZ,hv8,hb8,hz8⟩); clear hz8; have hR8 : Below wn.heap.size wn w8:=hR7.trans (Below.mono (Below.trans (by repeat (first | with_reducible exact Below.refl _ _ | with_reducible assumption | with_reducible refine Below.drew ?_ | with_reducible refine below_drewN ?_ _ | (with_reducible refine Below.alloc ?_ ?_ _; rotate_left; (try simp) <;> omega) | (with_reducible refine Below.setCell ?_ ?_ _; rotate_left; (try simp) <;> omega))) hb8) hR7.size); have r8:=hR8.size; obtain ⟨⟨c0,c1,c2⟩,⟨c3,c4,c5⟩,⟨c6,c7,c8⟩,⟨c9,c10,c11⟩⟩:=HK.out w8 hR8))
    all_goals
     have HE4:=Lib.hid (HE3.out t _ _ _ xx _ _ _ z HT.out HC1.out HX.out HC2.out HZ.out)
     have hxb : -12000000000000 ≤ xx ∧ xx ≤ 12000000000000:=by have:=hv6; unfold ab at this; omega
     have hzb : -12000000000000 ≤ z ∧ z ≤ 12000000000000:=by have:=hv8; unfold ab at this; omega
     have hB8 : Below w.heap.size w w8:=hBn.trans (hR8.mono hBn.size)
     have hgp:=gcd3_pos xx y z HY0.out
     have hD : ∀ W : World,Lies W W.heap.size (some ⟨w8.heap.size,0,none⟩) (ints [xx,y,z]) → Calls Try.prog 61 #[.slice (some ⟨w8.heap.size,0,none⟩) 3 3] W fun e w'=>e = .returned (.int .i64 (gcdL [xx,y,z])) ∧ ∃ n,w' = W.drewN n:=fun W hL =>
      divisor_aux [xx,y,z] _ 3 W hL (by intro n hn; simp at hn; unfold bigP; rcases hn with rfl | rfl | rfl <;> omega) (by simp)
     generalize (gcdL [xx,y,z] : Int) = G at HE4 hgp hD
     have HD:=Lib.hid hD
     obtain ⟨hg1,hg2⟩:=hgp
     have hgn : (G == 0) = false:=by rw [beq_eq_false_iff_ne]; omega
     have t1:=tdiv_range (y - xx - z) G (by unfold bigP; omega) hg1
     have t2:=tdiv_range xx G (by unfold bigP; omega) hg1
     have t3:=tdiv_range z G (by unfold bigP; omega) hg1
     have p1 : -24000000000000 ≤ y - xx ∧ y - xx ≤ 24000000000000:=by omega
     have p2 : -36000000000000 ≤ y - xx - z ∧ y - xx - z ≤ 36000000000000:=by omega
     clear hD HK HC1 HC2 HX HZ HT HE3 HN HY hv5 hv6 hv7 hv8 hvn Hu Hd Hf hR4 hR5 hR6 hR7 hR8 hb3 hb4 hb5 hb6 hb7 hb8 c0 c1 c2 c3 c4 c5 c6 c7 c8 c9 c10 c11 u0 u1' u2' d0 d1' d2' f0 f1' f2' n0 n1' n2'
     obtain ⟨p11,p12⟩:=p1
     obtain ⟨p21,p22⟩:=p2
     obtain ⟨t11,t12⟩:=t1
     obtain ⟨t21,t22⟩:=t2
     obtain ⟨t31,t32⟩:=t3
     go_wp2_with (go_at_call 61; refine (HD.out _ (Lies.fresh rfl (by simp) (by simp) rfl)).mono ?_; rintro e w9 ⟨rfl,n,rfl⟩)
     go_region
     all_goals
      go_wp2
      go_ret2
      refine w_end (l:=[(y - xx - z).tdiv G,xx.tdiv G,z.tdiv G]) ?hE rfl ?hL (by omega) (by omega) ?hB
      case hE=>rw [HE4.out,if_neg (by intro h; rcases h with h | h; exact HY0.out h; exact h HT0.out)]; rfl
      case hL=>exact Lies.fresh rfl (by simp) (by simp) rfl
      case hB =>
       have hz8:=hB8.size
       exact (by repeat (first | with_reducible exact Below.refl _ _ | with_reducible assumption | with_reducible refine Below.drew ?_ | with_reducible refine below_drewN ?_ _ | (with_reducible refine Below.alloc ?_ ?_ _; rotate_left; (try simp) <;> omega) | (with_reducible refine Below.setCell ?_ ?_ _; rotate_left; (try simp) <;> omega)))
   ·have htn : (t != 0) = true:=by rw [bne_iff_ne]; exact ht0
    have HT0:=Lib.hid ht0
    clear ht0
    go_wp2
    go_ret2
    refine w_none (by rw [HE3.out _ _ _ _ _ _ _ _ _ HT.out ⟨rfl,rfl,rfl⟩ rfl ⟨rfl,rfl,rfl⟩ rfl,if_pos (.inr HT0.out)]) (by omega) (by omega) ?_
    exact (by repeat (first | with_reducible exact Below.refl _ _ | with_reducible assumption | with_reducible refine Below.drew ?_ | with_reducible refine below_drewN ?_ _ | (with_reducible refine Below.alloc ?_ ?_ _; rotate_left; (try simp) <;> omega) | (with_reducible refine Below.setCell ?_ ?_ _; rotate_left; (try simp) <;> omega)))
end Go.Proofs.Ytkjceegmmhnajaa

namespace Go.Proofs.Ytkjceegmmhnajaa
open Go.RowKit

set_option maxRecDepth 100000 in
set_option maxHeartbeats 4000000 in
theorem weights4 (a p q s x : Vc) (ad : Addr) (c : Nat) (w : World) (hb : ad.block < w.heap.size) (h0 : vecAt w ad a) (h3 : vecAt w ⟨ad.block,ad.off + 3,none⟩ p) (h6 : vecAt w ⟨ad.block,ad.off + 6,none⟩ q) (h9 : vecAt w ⟨ad.block,ad.off + 9,none⟩ s) (ha : shadeV a) (hp : shadeV p) (hq : shadeV q) (hs : shadeV s) (hx : shadeV x) :
  Calls Try.prog 86 #[.slice (some ad) 4 c,x.agg] w (WEnd (pwts [a,p,q,s] x) w):=by
 have hu:=vb_sub hx ha
 have hd:=vb_sub hp ha
 have hf:=vb_sub hq ha
 have hg:=vb_sub hs ha
 obtain ⟨a1,a2,a3⟩:=a
 obtain ⟨p1,p2,p3⟩:=p
 obtain ⟨q1,q2,q3⟩:=q
 obtain ⟨s1,s2,s3⟩:=s
 obtain ⟨x1,x2,x3⟩:=x
 dsimp only at hu hd hf hg
 have HMu : Hid (∀ W,Calls Try.prog 75 #[.agg #[.int .i64 x1, .int .i64 x2, .int .i64 x3], .agg #[.int .i64 a1, .int .i64 a2, .int .i64 a3]] W fun e w'=>e = .returned (.agg #[.int .i64 (x1 - a1), .int .i64 (x2 - a2), .int .i64 (x3 - a3)]) ∧ Below W.heap.size W w'):=fun W=>minus_any _ _ _ _ _ _ W (ab_big hu.1 (by omega)) (ab_big hu.2.1 (by omega)) (ab_big hu.2.2 (by omega))
 have HMd : Hid (∀ W,Calls Try.prog 75 #[.agg #[.int .i64 p1, .int .i64 p2, .int .i64 p3], .agg #[.int .i64 a1, .int .i64 a2, .int .i64 a3]] W fun e w'=>e = .returned (.agg #[.int .i64 (p1 - a1), .int .i64 (p2 - a2), .int .i64 (p3 - a3)]) ∧ Below W.heap.size W w'):=fun W=>minus_any _ _ _ _ _ _ W (ab_big hd.1 (by omega)) (ab_big hd.2.1 (by omega)) (ab_big hd.2.2 (by omega))
 have HMf : Hid (∀ W,Calls Try.prog 75 #[.agg #[.int .i64 q1, .int .i64 q2, .int .i64 q3], .agg #[.int .i64 a1, .int .i64 a2, .int .i64 a3]] W fun e w'=>e = .returned (.agg #[.int .i64 (q1 - a1), .int .i64 (q2 - a2), .int .i64 (q3 - a3)]) ∧ Below W.heap.size W w'):=fun W=>minus_any _ _ _ _ _ _ W (ab_big hf.1 (by omega)) (ab_big hf.2.1 (by omega)) (ab_big hf.2.2 (by omega))
 have HMg : Hid (∀ W,Calls Try.prog 75 #[.agg #[.int .i64 s1, .int .i64 s2, .int .i64 s3], .agg #[.int .i64 a1, .int .i64 a2, .int .i64 a3]] W fun e w'=>e = .returned (.agg #[.int .i64 (s1 - a1), .int .i64 (s2 - a2), .int .i64 (s3 - a3)]) ∧ Below W.heap.size W w'):=fun W=>minus_any _ _ _ _ _ _ W (ab_big hg.1 (by omega)) (ab_big hg.2.1 (by omega)) (ab_big hg.2.2 (by omega))
 have HE : Hid (∀ u1 u2 u3 d1 d2 d3 f1 f2 f3 g1 g2 g3 n1 n2 n3 y e1 e2 e3 pp h1 h2 h3 qq m1 m2 m3 rr : Int,(x1 - a1 = u1 ∧ x2 - a2 = u2 ∧ x3 - a3 = u3) → (p1 - a1 = d1 ∧ p2 - a2 = d2 ∧ p3 - a3 = d3) → (q1 - a1 = f1 ∧ q2 - a2 = f2 ∧ q3 - a3 = f3) → (s1 - a1 = g1 ∧ s2 - a2 = g2 ∧ s3 - a3 = g3) →
   (n1 = d2 * f3 - d3 * f2 ∧ n2 = d3 * f1 - d1 * f3 ∧ n3 = d1 * f2 - d2 * f1) → y = n1 * g1 + n2 * g2 + n3 * g3 →
   (e1 = u2 * f3 - u3 * f2 ∧ e2 = u3 * f1 - u1 * f3 ∧ e3 = u1 * f2 - u2 * f1) → pp = e1 * g1 + e2 * g2 + e3 * g3 → (h1 = d2 * u3 - d3 * u2 ∧ h2 = d3 * u1 - d1 * u3 ∧ h3 = d1 * u2 - d2 * u1) → qq = h1 * g1 + h2 * g2 + h3 * g3 →
   (m1 = d2 * f3 - d3 * f2 ∧ m2 = d3 * f1 - d1 * f3 ∧ m3 = d1 * f2 - d2 * f1) → rr = m1 * u1 + m2 * u2 + m3 * u3 →
   pwts [⟨a1,a2,a3⟩,⟨p1,p2,p3⟩,⟨q1,q2,q3⟩,⟨s1,s2,s3⟩] ⟨x1,x2,x3⟩ = if y = 0 then none else if y < 0 then some [-y - -pp - -qq - -rr, -pp, -qq, -rr] else some [y - pp - qq - rr,pp,qq,rr]):=by
  rintro _ _ _ _ _ _ _ _ _ _ _ _ _ _ _ _ _ _ _ _ _ _ _ _ _ _ _ _ ⟨rfl,rfl,rfl⟩ ⟨rfl,rfl,rfl⟩ ⟨rfl,rfl,rfl⟩ ⟨rfl,rfl,rfl⟩ ⟨rfl,rfl,rfl⟩ rfl ⟨rfl,rfl,rfl⟩ rfl ⟨rfl,rfl,rfl⟩ rfl ⟨rfl,rfl,rfl⟩ rfl
  simp only [pwts,Vc.sub,Vc.dot,Vc.crs]
  rfl
 generalize hu1 : x1 - a1 = u1 at *
 generalize hu2 : x2 - a2 = u2 at *
 generalize hu3 : x3 - a3 = u3 at *
 generalize hd1 : p1 - a1 = d1 at *
 generalize hd2 : p2 - a2 = d2 at *
 generalize hd3 : p3 - a3 = d3 at *
 generalize hf1 : q1 - a1 = f1 at *
 generalize hf2 : q2 - a2 = f2 at *
 generalize hf3 : q3 - a3 = f3 at *
 generalize hg1 : s1 - a1 = g1 at *
 generalize hg2 : s2 - a2 = g2 at *
 generalize hg3 : s3 - a3 = g3 at *
 have HE2:=Lib.hid (fun n1 n2 n3 y e1 e2 e3 pp h1 h2 h3 qq m1 m2 m3 rr=>HE.out u1 u2 u3 d1 d2 d3 f1 f2 f3 g1 g2 g3 n1 n2 n3 y e1 e2 e3 pp h1 h2 h3 qq m1 m2 m3 rr ⟨rfl,rfl,rfl⟩ ⟨rfl,rfl,rfl⟩ ⟨rfl,rfl,rfl⟩ ⟨rfl,rfl,rfl⟩)
 clear hu1 hu2 hu3 hd1 hd2 hd3 hf1 hf2 hf3 hg1 hg2 hg3 HE
 have H0:=Lib.hid h0
 have H3:=Lib.hid h3
 have H6:=Lib.hid h6
 have H9:=Lib.hid h9
 have Hu:=Lib.hid hu
 have Hd:=Lib.hid hd
 have Hf:=Lib.hid hf
 have Hg:=Lib.hid hg
 unfold vecAt at h0
 obtain ⟨h00,h01,h02⟩:=h0
 dsimp only at *
 clear ha hp hq hs hx h3 h6 h9 hu hd hf hg
 go_enter Try.func86,Try.ntmps86
 go_wp2_with (go_at_call 75; refine (HMu.out _).mono ?_; rintro e w1 ⟨rfl,hb1⟩; have hB1 : Below w.heap.size w w1:=(Below.trans bw (hb1.mono (by first | omega | (simp; omega) | simp))); have xa1:=(Bk.new (w.alloc (.cells #[.int .i64 x1, .int .i64 x2, .int .i64 x3] 84)) 84 #[.int .i64 a1, .int .i64 a2, .int .i64 a3]).below hb1 (by simp); rw [World.size_alloc] at xa1; have l1:=xa1.lt)
 have xu:=Bk.new w1 84 #[.int .i64 u1, .int .i64 u2, .int .i64 u3]
 have xa:=xa1.alloc (.cells #[.int .i64 u1, .int .i64 u2, .int .i64 u3] 84)
 have hBa : Below w.heap.size w (w1.alloc (.cells #[.int .i64 u1, .int .i64 u2, .int .i64 u3] 84)):=hB1.alloc hB1.size _
 have l2:=xu.lt
 have l3:=xa.lt
 clear xa1 hb1 l1
 go_wp2
 obtain ⟨wa,hwa⟩ : ∃ wa,wa = w1.alloc (.cells #[.int .i64 u1, .int .i64 u2, .int .i64 u3] 84):=⟨_,rfl⟩
 have hsza : wa.heap.size = w1.heap.size + 1:=by rw [hwa]; simp
 rw [← hwa] at xu xa hBa l2 l3 ⊢
 clear hwa h00 h01 h02
 have c30 : wa.cell? ⟨ad.block,ad.off + 3,none⟩ = some (.int .i64 p1):=(H3.out.below hBa hb).1
 have c31 : wa.cell? ⟨ad.block,ad.off + 3 + 1,none⟩ = some (.int .i64 p2):=(H3.out.below hBa hb).2.1
 have c32 : wa.cell? ⟨ad.block,ad.off + 3 + 2,none⟩ = some (.int .i64 p3):=(H3.out.below hBa hb).2.2
 have c60 : wa.cell? ⟨ad.block,ad.off + 6,none⟩ = some (.int .i64 q1):=(H6.out.below hBa hb).1
 have c61 : wa.cell? ⟨ad.block,ad.off + 6 + 1,none⟩ = some (.int .i64 q2):=(H6.out.below hBa hb).2.1
 have c62 : wa.cell? ⟨ad.block,ad.off + 6 + 2,none⟩ = some (.int .i64 q3):=(H6.out.below hBa hb).2.2
 have c90 : wa.cell? ⟨ad.block,ad.off + 9,none⟩ = some (.int .i64 s1):=(H9.out.below hBa hb).1
 have c91 : wa.cell? ⟨ad.block,ad.off + 9 + 1,none⟩ = some (.int .i64 s2):=(H9.out.below hBa hb).2.1
 have c92 : wa.cell? ⟨ad.block,ad.off + 9 + 2,none⟩ = some (.int .i64 s3):=(H9.out.below hBa hb).2.2
 have la : ad.block < wa.heap.size:=Nat.lt_of_lt_of_le hb hBa.size
 have a0:=xa.cell 0 rfl
 have a1':=xa.cell 1 rfl
 have a2':=xa.cell 2 rfl
 refine wp_region_held_drew (S:=fun w'=>(w'.cell? ⟨w.heap.size + 1,0,none⟩ = some (.int .i64 a1) ∧ w'.cell? ⟨w.heap.size + 1,1,none⟩ = some (.int .i64 a2) ∧ w'.cell? ⟨w.heap.size + 1,2,none⟩ = some (.int .i64 a3)) ∧ (w'.cell? ⟨ad.block,ad.off + 3,none⟩ = some (.int .i64 p1) ∧ w'.cell? ⟨ad.block,ad.off + 3 + 1,none⟩ = some (.int .i64 p2) ∧ w'.cell? ⟨ad.block,ad.off + 3 + 2,none⟩ = some (.int .i64 p3)) ∧ (w'.cell? ⟨ad.block,ad.off + 6,none⟩ = some (.int .i64 q1) ∧ w'.cell? ⟨ad.block,ad.off + 6 + 1,none⟩ = some (.int .i64 q2) ∧ w'.cell? ⟨ad.block,ad.off + 6 + 2,none⟩ = some (.int .i64 q3)) ∧ (w'.cell? ⟨ad.block,ad.off + 9,none⟩ = some (.int .i64 s1) ∧ w'.cell? ⟨ad.block,ad.off + 9 + 1,none⟩ = some (.int .i64 s2) ∧ w'.cell? ⟨ad.block,ad.off + 9 + 2,none⟩ = some (.int .i64 s3))) (by kernel_rfl) ?_ (fun hHeld=>?_)
 ·exact ⟨⟨a0,a1',a2'⟩,⟨c30,c31,c32⟩,⟨c60,c61,c62⟩,⟨c90,c91,c92⟩⟩
 (refine held_take 0 (some 123) ?_ rfl (by kernel_rfl) (by kernel_rfl) (by kernel_rfl) (by rfl) (fun _ _ _ h=>h) (by assumption) (fun w hSw=>?_) ?_; rotate_left; ((try dsimp only at hSw); simp only [List.getElem?_toArray,List.getElem?_cons_zero,List.getElem?_cons_succ,Option.map_some]; refine congrArg some ?_; go_simp; (try with_reducible rfl)); (try simp only [Act.put,List.setIfInBounds_toArray,List.set_cons_zero,List.set_cons_succ]))
 (refine held_take 1 (some 124) ?_ rfl (by kernel_rfl) (by kernel_rfl) (by kernel_rfl) (by rfl) (fun _ _ _ h=>h) (by assumption) (fun w hSw=>?_) ?_; rotate_left; ((try dsimp only at hSw); simp only [List.getElem?_toArray,List.getElem?_cons_zero,List.getElem?_cons_succ,Option.map_some]; refine congrArg some ?_; go_simp; (try with_reducible rfl)); (try simp only [Act.put,List.setIfInBounds_toArray,List.set_cons_zero,List.set_cons_succ]))
 (refine held_take 2 (some 125) ?_ rfl (by kernel_rfl) (by kernel_rfl) (by kernel_rfl) (by rfl) (fun _ _ _ h=>h) (by assumption) (fun w hSw=>?_) ?_; rotate_left; ((try dsimp only at hSw); simp only [List.getElem?_toArray,List.getElem?_cons_zero,List.getElem?_cons_succ,Option.map_some]; refine congrArg some ?_; go_simp; (try with_reducible rfl)); (try simp only [Act.put,List.setIfInBounds_toArray,List.set_cons_zero,List.set_cons_succ]))
 (refine held_take 3 (some 126) ?_ rfl (by kernel_rfl) (by kernel_rfl) (by kernel_rfl) (by rfl) (fun _ _ _ h=>h) (by assumption) (fun w hSw=>?_) ?_; rotate_left; ((try dsimp only at hSw); simp only [List.getElem?_toArray,List.getElem?_cons_zero,List.getElem?_cons_succ,Option.map_some]; refine congrArg some ?_; go_simp; (try with_reducible rfl)); (try simp only [Act.put,List.setIfInBounds_toArray,List.set_cons_zero,List.set_cons_succ]))
 (refine held_take 5 (some 128) ?_ rfl (by kernel_rfl) (by kernel_rfl) (by kernel_rfl) (by rfl) (fun _ _ _ h=>h) (by assumption) (fun w hSw=>?_) ?_; rotate_left; ((try dsimp only at hSw); simp only [List.getElem?_toArray,List.getElem?_cons_zero,List.getElem?_cons_succ,Option.map_some]; refine congrArg some ?_; go_simp; (try with_reducible rfl)); (try simp only [Act.put,List.setIfInBounds_toArray,List.set_cons_zero,List.set_cons_succ]))
 (refine held_take 6 (some 129) ?_ rfl (by kernel_rfl) (by kernel_rfl) (by kernel_rfl) (by rfl) (fun _ _ _ h=>h) (by assumption) (fun w hSw=>?_) ?_; rotate_left; ((try dsimp only at hSw); simp only [List.getElem?_toArray,List.getElem?_cons_zero,List.getElem?_cons_succ,Option.map_some]; refine congrArg some ?_; go_simp; (try with_reducible rfl)); (try simp only [Act.put,List.setIfInBounds_toArray,List.set_cons_zero,List.set_cons_succ]))
 (refine held_take 7 (some 130) ?_ rfl (by kernel_rfl) (by kernel_rfl) (by kernel_rfl) (by rfl) (fun _ _ _ h=>h) (by assumption) (fun w hSw=>?_) ?_; rotate_left; ((try dsimp only at hSw); simp only [List.getElem?_toArray,List.getElem?_cons_zero,List.getElem?_cons_succ,Option.map_some]; refine congrArg some ?_; go_simp; (try with_reducible rfl)); (try simp only [Act.put,List.setIfInBounds_toArray,List.set_cons_zero,List.set_cons_succ]))
 (refine held_take 8 (some 131) ?_ rfl (by kernel_rfl) (by kernel_rfl) (by kernel_rfl) (by rfl) (fun _ _ _ h=>h) (by assumption) (fun w hSw=>?_) ?_; rotate_left; ((try dsimp only at hSw); simp only [List.getElem?_toArray,List.getElem?_cons_zero,List.getElem?_cons_succ,Option.map_some]; refine congrArg some ?_; go_simp; (try with_reducible rfl)); (try simp only [Act.put,List.setIfInBounds_toArray,List.set_cons_zero,List.set_cons_succ]))
 (refine held_take 10 (some 133) ?_ rfl (by kernel_rfl) (by kernel_rfl) (by kernel_rfl) (by rfl) (fun _ _ _ h=>h) (by assumption) (fun w hSw=>?_) ?_; rotate_left; ((try dsimp only at hSw); simp only [List.getElem?_toArray,List.getElem?_cons_zero,List.getElem?_cons_succ,Option.map_some]; refine congrArg some ?_; go_simp; (try with_reducible rfl)); (try simp only [Act.put,List.setIfInBounds_toArray,List.set_cons_zero,List.set_cons_succ]))
 (refine held_take 11 (some 134) ?_ rfl (by kernel_rfl) (by kernel_rfl) (by kernel_rfl) (by rfl) (fun _ _ _ h=>h) (by assumption) (fun w hSw=>?_) ?_; rotate_left; ((try dsimp only at hSw); simp only [List.getElem?_toArray,List.getElem?_cons_zero,List.getElem?_cons_succ,Option.map_some]; refine congrArg some ?_; go_simp; (try with_reducible rfl)); (try simp only [Act.put,List.setIfInBounds_toArray,List.set_cons_zero,List.set_cons_succ]))
 (refine held_take 12 (some 135) ?_ rfl (by kernel_rfl) (by kernel_rfl) (by kernel_rfl) (by rfl) (fun _ _ _ h=>h) (by assumption) (fun w hSw=>?_) ?_; rotate_left; ((try dsimp only at hSw); simp only [List.getElem?_toArray,List.getElem?_cons_zero,List.getElem?_cons_succ,Option.map_some]; refine congrArg some ?_; go_simp; (try with_reducible rfl)); (try simp only [Act.put,List.setIfInBounds_toArray,List.set_cons_zero,List.set_cons_succ]))
 (refine held_take 13 (some 136) ?_ rfl (by kernel_rfl) (by kernel_rfl) (by kernel_rfl) (by rfl) (fun _ _ _ h=>h) (by assumption) (fun w hSw=>?_) ?_; rotate_left; ((try dsimp only at hSw); simp only [List.getElem?_toArray,List.getElem?_cons_zero,List.getElem?_cons_succ,Option.map_some]; refine congrArg some ?_; go_simp; (try with_reducible rfl)); (try simp only [Act.put,List.setIfInBounds_toArray,List.set_cons_zero,List.set_cons_succ]))
 refine vectors_laid (ds:=[127,132,137,18,19,20]) (f:=75) (vs:=[⟨4,15,18,127,18,#[.agg #[.int .i64 p1, .int .i64 p2, .int .i64 p3], .agg #[.int .i64 a1, .int .i64 a2, .int .i64 a3]],d1,d2,d3⟩,⟨9,16,19,132,19,#[.agg #[.int .i64 q1, .int .i64 q2, .int .i64 q3], .agg #[.int .i64 a1, .int .i64 a2, .int .i64 a3]],f1,f2,f3⟩,⟨14,17,20,137,20,#[.agg #[.int .i64 s1, .int .i64 s2, .int .i64 s3], .agg #[.int .i64 a1, .int .i64 a2, .int .i64 a3]],g1,g2,g3⟩]) (B:=wa.heap.size) ?hv (by simp) (by simp) (by simp) ?hac ?hB ?hS ?hcalls ?hQ ?hsz ?hl ?hl2 ?hfuel ?hsl
 case hv =>
  intro v hv
  rcases List.mem_cons.1 hv with rfl | hv
  ·refine ⟨by simp,by simp,by simp,by simp,⟨_,rfl,rfl,rfl,fun V W=>?_⟩,⟨_,rfl,rfl,rfl,fun a W=>?_⟩,⟨_,rfl,rfl,rfl,by kernel_rfl,by kernel_rfl,fun a W b g1 g2 g3=>?_⟩⟩
   ·go_simp
    constructor <;> (rw [canon_get,if_neg (by simp)]; simp)
   ·go_simp
    rfl
   ·simp only [Vj.row] at g1 g2
    have t0:=g3.cell 0 rfl
    have t1:=g3.cell 1 rfl
    have t2:=g3.cell 2 rfl
    have r0:=g3.fro 0
    have r1:=g3.fro 1
    have r2:=g3.fro 2
    refine ⟨_,_,?_, .inl rfl,rfl⟩
    go_simp
  rcases List.mem_cons.1 hv with rfl | hv
  ·refine ⟨by simp,by simp,by simp,by simp,⟨_,rfl,rfl,rfl,fun V W=>?_⟩,⟨_,rfl,rfl,rfl,fun a W=>?_⟩,⟨_,rfl,rfl,rfl,by kernel_rfl,by kernel_rfl,fun a W b g1 g2 g3=>?_⟩⟩
   ·go_simp
    constructor <;> (rw [canon_get,if_neg (by simp)]; simp)
   ·go_simp
    rfl
   ·simp only [Vj.row] at g1 g2
    have t0:=g3.cell 0 rfl
    have t1:=g3.cell 1 rfl
    have t2:=g3.cell 2 rfl
    have r0:=g3.fro 0
    have r1:=g3.fro 1
    have r2:=g3.fro 2
    refine ⟨_,_,?_, .inl rfl,rfl⟩
    go_simp
  obtain rfl:=List.mem_singleton.1 hv
  ·refine ⟨by simp,by simp,by simp,by simp,⟨_,rfl,rfl,rfl,fun V W=>?_⟩,⟨_,rfl,rfl,rfl,fun a W=>?_⟩,⟨_,rfl,rfl,rfl,by kernel_rfl,by kernel_rfl,fun a W b g1 g2 g3=>?_⟩⟩
   ·go_simp
    constructor <;> (rw [canon_get,if_neg (by simp)]; simp)
   ·go_simp
    rfl
   ·simp only [Vj.row] at g1 g2
    have t0:=g3.cell 0 rfl
    have t1:=g3.cell 1 rfl
    have t2:=g3.cell 2 rfl
    have r0:=g3.fro 0
    have r1:=g3.fro 1
    have r2:=g3.fro 2
    refine ⟨_,_,?_, .inl rfl,rfl⟩
    go_simp
 case hac=>exact acB_spec (by kernel_rfl)
 case hB=>exact Nat.le_refl _
 case hsz=>simp
 case hS =>
  intro W hW
  have hW' : Below wa.heap.size wa W:=(Below.drew (Below.refl _ _)).trans hW
  exact ⟨⟨(hW'.cell l3).trans a0,(hW'.cell l3).trans a1',(hW'.cell l3).trans a2'⟩,⟨(hW'.cell (p:=⟨ad.block,ad.off + 3,none⟩) la).trans c30,(hW'.cell (p:=⟨ad.block,ad.off + 3 + 1,none⟩) la).trans c31,(hW'.cell (p:=⟨ad.block,ad.off + 3 + 2,none⟩) la).trans c32⟩,⟨(hW'.cell (p:=⟨ad.block,ad.off + 6,none⟩) la).trans c60,(hW'.cell (p:=⟨ad.block,ad.off + 6 + 1,none⟩) la).trans c61,(hW'.cell (p:=⟨ad.block,ad.off + 6 + 2,none⟩) la).trans c62⟩,⟨(hW'.cell (p:=⟨ad.block,ad.off + 9,none⟩) la).trans c90,(hW'.cell (p:=⟨ad.block,ad.off + 9 + 1,none⟩) la).trans c91,(hW'.cell (p:=⟨ad.block,ad.off + 9 + 2,none⟩) la).trans c92⟩⟩
 case hcalls =>
  intro v hv W hW
  rcases List.mem_cons.1 hv with rfl | hv
  ·exact HMd.out W
  rcases List.mem_cons.1 hv with rfl | hv
  ·exact HMf.out W
  obtain rfl:=List.mem_singleton.1 hv
  exact HMg.out W
 case hl=>exact hlB_spec (by kernel_rfl)
 case hl2=>simp
 case hfuel=>simp [left]
 case hsl=>simp
 case hQ =>
  intro V W hW hV ⟨g,hg⟩ hrest
  have m1 : ∀ {α : Type} {x y z : α},x ∈ [x,y,z]:=by simp
  have m2 : ∀ {α : Type} {x y z : α},y ∈ [x,y,z]:=by simp
  have m3 : ∀ {α : Type} {x y z : α},z ∈ [x,y,z]:=by simp
  have e127:=hV _ m1
  have e132:=hV _ m2
  have e137:=hV _ m3
  obtain ⟨e18,_,k18⟩:=hg _ m1
  obtain ⟨e19,_,k19⟩:=hg _ m2
  obtain ⟨e20,_,k20⟩:=hg _ m3
  dsimp only [Vj.row] at e127 e132 e137 e18 e19 e20 k18 k19 k20
  simp only [canon,List.foldl_cons,List.foldl_nil]
  rw [e127,e132,e137,e18,e19,e20]
  simp only [List.setIfInBounds_toArray,List.set_cons_zero,List.set_cons_succ]
  generalize g 18 = k1 at *
  generalize g 19 = k2 at *
  generalize g 20 = k3 at *
  have hW' : Below wa.heap.size wa W:=(Below.drew (Below.refl _ _)).trans hW
  have hBW : Below w.heap.size w W:=hBa.trans (hW'.mono hBa.size)
  have yu:=xu.below hW' l2
  clear hrest hV hg e127 e132 e137 e18 e19 e20 hW hW' xu xa a0 a1' a2' c30 c31 c32 c60 c61 c62 c90 c91 c92 hHeld HMu HMd HMf HMg H0 H3 H6 H9 hB1 hBa l2 l3 la hsza m1 m2 m3
  have HK : Hid (∀ W',Below W.heap.size W W' → (W'.cell? ⟨w1.heap.size,0,none⟩ = some (.int .i64 u1) ∧ W'.cell? ⟨w1.heap.size,1,none⟩ = some (.int .i64 u2) ∧ W'.cell? ⟨w1.heap.size,2,none⟩ = some (.int .i64 u3)) ∧ (W'.cell? ⟨k1,0,none⟩ = some (.int .i64 d1) ∧ W'.cell? ⟨k1,1,none⟩ = some (.int .i64 d2) ∧ W'.cell? ⟨k1,2,none⟩ = some (.int .i64 d3)) ∧ (W'.cell? ⟨k2,0,none⟩ = some (.int .i64 f1) ∧ W'.cell? ⟨k2,1,none⟩ = some (.int .i64 f2) ∧ W'.cell? ⟨k2,2,none⟩ = some (.int .i64 f3)) ∧ (W'.cell? ⟨k3,0,none⟩ = some (.int .i64 g1) ∧ W'.cell? ⟨k3,1,none⟩ = some (.int .i64 g2) ∧ W'.cell? ⟨k3,2,none⟩ = some (.int .i64 g3))):=fun W' hb'=>by
   have z1:=yu.below hb' yu.lt
   have z2:=k18.below hb' k18.lt
   have z3:=k19.below hb' k19.lt
   have z4:=k20.below hb' k20.lt
   exact ⟨⟨z1.cell 0 rfl,z1.cell 1 rfl,z1.cell 2 rfl⟩,⟨z2.cell 0 rfl,z2.cell 1 rfl,z2.cell 2 rfl⟩,⟨z3.cell 0 rfl,z3.cell 1 rfl,z3.cell 2 rfl⟩,⟨z4.cell 0 rfl,z4.cell 1 rfl,z4.cell 2 rfl⟩⟩
  have t1:=yu.lt
  have t2:=k18.lt
  have t3:=k19.lt
  have t4:=k20.lt
  obtain ⟨⟨u0,u1',u2'⟩,⟨d0,d1',d2'⟩,⟨f0,f1',f2'⟩,⟨g0,g1',g2'⟩⟩:=HK.out W (Below.refl _ _)
  clear yu k18 k19 k20
  go_wp2
  have hR1 : Below W.heap.size W W:=Below.refl _ _
  go_region_held3 (fun w'=>(w'.cell? ⟨w1.heap.size,0,none⟩ = some (.int .i64 u1) ∧ w'.cell? ⟨w1.heap.size,1,none⟩ = some (.int .i64 u2) ∧ w'.cell? ⟨w1.heap.size,2,none⟩ = some (.int .i64 u3)) ∧ (w'.cell? ⟨k1,0,none⟩ = some (.int .i64 d1) ∧ w'.cell? ⟨k1,1,none⟩ = some (.int .i64 d2) ∧ w'.cell? ⟨k1,2,none⟩ = some (.int .i64 d3)) ∧ (w'.cell? ⟨k2,0,none⟩ = some (.int .i64 f1) ∧ w'.cell? ⟨k2,1,none⟩ = some (.int .i64 f2) ∧ w'.cell? ⟨k2,2,none⟩ = some (.int .i64 f3)) ∧ (w'.cell? ⟨k3,0,none⟩ = some (.int .i64 g1) ∧ w'.cell? ⟨k3,1,none⟩ = some (.int .i64 g2) ∧ w'.cell? ⟨k3,2,none⟩ = some (.int .i64 g3)))
   (first | go_keep | (refine ⟨⟨?_,?_,?_⟩,⟨?_,?_,?_⟩,⟨?_,?_,?_⟩,⟨?_,?_,?_⟩⟩ <;> first | assumption | go_keep))
   (first | (go_at_call 82; ((with_reducible refine (cross_b (A:=1000) (B:=1000) (a:=d1) (x:=f1) _ Hd.out Hf.out (by omega)).mono ?_); rintro e w2 ⟨n1,n2,n3,rfl,HN,hv2,hb2,hz2⟩); clear hz2; have hR2 : Below W.heap.size W w2:=hR1.trans (Below.mono (Below.trans bw hb2) hR1.size); have r2:=hR2.size; obtain ⟨⟨c0,c1,c2⟩,⟨c3,c4,c5⟩,⟨c6,c7,c8⟩,⟨c9,c10,c11⟩⟩:=HK.out w2 hR2) | (go_at_call 46; ((with_reducible refine (times_b (A:=2000000) (B:=1000) (a:=n1) _ hv2 Hg.out (by omega)).mono ?_); rintro e w3 ⟨y,rfl,HY,hv3,hb3,hz3⟩); clear hz3; have hR3 : Below W.heap.size W w3:=hR2.trans (Below.mono (Below.trans bw hb3) hR2.size); have r3:=hR3.size; obtain ⟨⟨c0,c1,c2⟩,⟨c3,c4,c5⟩,⟨c6,c7,c8⟩,⟨c9,c10,c11⟩⟩:=HK.out w3 hR3))
  all_goals
   have hyb : -6000000000 ≤ y ∧ y ≤ 6000000000:=by have:=hv3; unfold ab at this; omega
   have hB3 : Below w.heap.size w w3:=hBW.trans (hR3.mono hBW.size)
   have q1' : w1.heap.size < w3.heap.size:=by omega
   have q2' : k1 < w3.heap.size:=by omega
   have q3' : k2 < w3.heap.size:=by omega
   have q4' : k3 < w3.heap.size:=by omega
   have HE3:=Lib.hid (fun e1 e2 e3 pp h1 h2 h3 qq m1 m2 m3 rr=>HE2.out n1 n2 n3 y e1 e2 e3 pp h1 h2 h3 qq m1 m2 m3 rr HN.out HY.out)
   clear HE2 hv2 hv3 HN HY t1 t2 t3 t4 u0 u1' u2' d0 d1' d2' f0 f1' f2' g0 g1' g2' hb2 hb3
   obtain ⟨hyb1,hyb2⟩:=hyb
   by_cases hy0 : y = 0
   ·have hyn : (y == 0) = true:=by rw [hy0]; rfl
    have HY0:=Lib.hid hy0
    clear hy0
    go_wp2
    go_ret2
    refine w_none (by rw [HE3.out _ _ _ _ _ _ _ _ _ _ _ _ ⟨rfl,rfl,rfl⟩ rfl ⟨rfl,rfl,rfl⟩ rfl ⟨rfl,rfl,rfl⟩ rfl,if_pos HY0.out]) (by omega) (by omega) ?_
    exact bw
   ·have hyn : (y == 0) = false:=by rw [beq_eq_false_iff_ne]; exact hy0
    have HY0:=Lib.hid hy0
    clear hy0
    go_wp2
    go_region_held3 (fun w'=>(w'.cell? ⟨w1.heap.size,0,none⟩ = some (.int .i64 u1) ∧ w'.cell? ⟨w1.heap.size,1,none⟩ = some (.int .i64 u2) ∧ w'.cell? ⟨w1.heap.size,2,none⟩ = some (.int .i64 u3)) ∧ (w'.cell? ⟨k1,0,none⟩ = some (.int .i64 d1) ∧ w'.cell? ⟨k1,1,none⟩ = some (.int .i64 d2) ∧ w'.cell? ⟨k1,2,none⟩ = some (.int .i64 d3)) ∧ (w'.cell? ⟨k2,0,none⟩ = some (.int .i64 f1) ∧ w'.cell? ⟨k2,1,none⟩ = some (.int .i64 f2) ∧ w'.cell? ⟨k2,2,none⟩ = some (.int .i64 f3)) ∧ (w'.cell? ⟨k3,0,none⟩ = some (.int .i64 g1) ∧ w'.cell? ⟨k3,1,none⟩ = some (.int .i64 g2) ∧ w'.cell? ⟨k3,2,none⟩ = some (.int .i64 g3)))
     (first | go_keep | (refine ⟨⟨?_,?_,?_⟩,⟨?_,?_,?_⟩,⟨?_,?_,?_⟩,⟨?_,?_,?_⟩⟩ <;> first | assumption | go_keep))
     (first | (go_at_call 82; ((with_reducible refine (cross_b (A:=1000) (B:=1000) (a:=u1) (x:=f1) _ Hu.out Hf.out (by omega)).mono ?_); rintro e w4 ⟨e1,e2,e3,rfl,HC1,hv4,hb4,hz4⟩); clear hz4; have hR4 : Below W.heap.size W w4:=hR3.trans (Below.mono (Below.trans bw hb4) hR3.size); have r4:=hR4.size; obtain ⟨⟨c0,c1,c2⟩,⟨c3,c4,c5⟩,⟨c6,c7,c8⟩,⟨c9,c10,c11⟩⟩:=HK.out w4 hR4) | (go_at_call 82; ((with_reducible refine (cross_b (A:=1000) (B:=1000) (a:=d1) (x:=u1) _ Hd.out Hu.out (by omega)).mono ?_); rintro e w6 ⟨h1,h2,h3,rfl,HC2,hv6,hb6,hz6⟩); clear hz6; have hR6 : Below W.heap.size W w6:=hR5.trans (Below.mono (Below.trans bw hb6) hR5.size); have r6:=hR6.size; obtain ⟨⟨c0,c1,c2⟩,⟨c3,c4,c5⟩,⟨c6,c7,c8⟩,⟨c9,c10,c11⟩⟩:=HK.out w6 hR6) | (go_at_call 82; ((with_reducible refine (cross_b (A:=1000) (B:=1000) (a:=d1) (x:=f1) _ Hd.out Hf.out (by omega)).mono ?_); rintro e w8 ⟨m1,m2,m3,rfl,HC3,hv8,hb8,hz8⟩); clear hz8; have hR8 : Below W.heap.size W w8:=hR7.trans (Below.mono (Below.trans bw hb8) hR7.size); have r8:=hR8.size; obtain ⟨⟨c0,c1,c2⟩,⟨c3,c4,c5⟩,⟨c6,c7,c8⟩,⟨c9,c10,c11⟩⟩:=HK.out w8 hR8) | (go_at_call 46; ((with_reducible refine (times_b (A:=2000000) (B:=1000) (a:=e1) _ hv4 Hg.out (by omega)).mono ?_); rintro e w5 ⟨pp,rfl,HP,hv5,hb5,hz5⟩); clear hz5; have hR5 : Below W.heap.size W w5:=hR4.trans (Below.mono (Below.trans bw hb5) hR4.size); have r5:=hR5.size; obtain ⟨⟨c0,c1,c2⟩,⟨c3,c4,c5⟩,⟨c6,c7,c8⟩,⟨c9,c10,c11⟩⟩:=HK.out w5 hR5) | (go_at_call 46; ((with_reducible refine (times_b (A:=2000000) (B:=1000) (a:=h1) _ hv6 Hg.out (by omega)).mono ?_); rintro e w7 ⟨qq,rfl,HQ,hv7,hb7,hz7⟩); clear hz7; have hR7 : Below W.heap.size W w7:=hR6.trans (Below.mono (Below.trans bw hb7) hR6.size); have r7:=hR7.size; obtain ⟨⟨c0,c1,c2⟩,⟨c3,c4,c5⟩,⟨c6,c7,c8⟩,⟨c9,c10,c11⟩⟩:=HK.out w7 hR7) | (go_at_call 46; ((with_reducible refine (times_b (A:=2000000) (B:=1000) (a:=m1) _ hv8 Hu.out (by omega)).mono ?_); rintro e w9 ⟨rr,rfl,HRR,hv9,hb9,hz9⟩); clear hz9; have hR9 : Below W.heap.size W w9:=hR8.trans (Below.mono (Below.trans bw hb9) hR8.size); have r9:=hR9.size; obtain ⟨⟨c0,c1,c2⟩,⟨c3,c4,c5⟩,⟨c6,c7,c8⟩,⟨c9,c10,c11⟩⟩:=HK.out w9 hR9))
    all_goals
     have HE4:=Lib.hid (HE3.out _ _ _ pp _ _ _ qq _ _ _ rr HC1.out HP.out HC2.out HQ.out HC3.out HRR.out)
     have hpb : -6000000000 ≤ pp ∧ pp ≤ 6000000000:=by have:=hv5; unfold ab at this; omega
     have hqb : -6000000000 ≤ qq ∧ qq ≤ 6000000000:=by have:=hv7; unfold ab at this; omega
     have hrb : -6000000000 ≤ rr ∧ rr ≤ 6000000000:=by have:=hv9; unfold ab at this; omega
     have hB9 : Below w.heap.size w w9:=hBW.trans (hR9.mono hBW.size)
     have hz9:=hB9.size
     clear HC1 HC2 HC3 HP HQ HRR HE3 hv4 hv5 hv6 hv7 hv8 hv9 HK hR1 hR2 hR3 hR4 hR5 hR6 hR7 hR8 hR9 hb4 hb5 hb6 hb7 hb8 hb9 c0 c1 c2 c3 c4 c5 c6 c7 c8 c9 c10 c11 Hu Hd Hf Hg
     obtain ⟨hpb1,hpb2⟩:=hpb
     obtain ⟨hqb1,hqb2⟩:=hqb
     obtain ⟨hrb1,hrb2⟩:=hrb
     by_cases hyl : y < 0
     ·have HYL:=Lib.hid hyl
      go_wp2
      go_ret2
      refine w_end (l:=[-y - -pp - -qq - -rr, -pp, -qq, -rr]) ?hE rfl ?hL (by omega) (by omega) ?hB
      case hE=>rw [HE4.out,if_neg HY0.out,if_pos HYL.out]; rfl
      case hL=>exact Lies.fresh rfl (by simp) (by simp) (by simp [ints])
      case hB=>exact bw
     ·have HYL:=Lib.hid hyl
      go_wp2
      go_ret2
      refine w_end (l:=[y - pp - qq - rr,pp,qq,rr]) ?hE rfl ?hL (by omega) (by omega) ?hB
      case hE=>rw [HE4.out,if_neg HY0.out,if_neg (by have:=HYL.out; omega)]; rfl
      case hL=>exact Lies.fresh rfl (by simp) (by simp) rfl
      case hB=>exact bw
end Go.Proofs.Ytkjceegmmhnajaa

namespace Go.Proofs.Ytkjceegmmhnajaa
open Go.RowKit
section
variable {P : Program} {ops : Array Oper} {Q : Exit → Act → World → Prop} {S : World → Prop}
def putCP (T : Array Value) (kc kp : Nat) (v u : Value) : Array Value:=(T.setIfInBounds kc v).setIfInBounds kp u
theorem box_laid {fuel : Nat} {listed : Array Bool} {T args R Z : Array Value} {f : FuncId} {ty : TypeId} {w0 : World} (c p s kc kp : Nat) (hkk : kc ≠ kp)
  (hcall : ∃ o,ops[c]? = some o ∧ o.guard = none ∧ o.dst = some kc ∧ (∀ w,(execOp (Act.eval { tmps:=T,defers:=[] }) o).run P w = .ok (.enter f args) w) ∧ ∀ u w,(execOp (Act.eval { tmps:=T.setIfInBounds kp u,defers:=[] }) o).run P w = .ok (.enter f args) w)
  (halloc : ∃ o,ops[p]? = some o ∧ o.guard = none ∧ o.dst = some kp ∧ ∀ (a : Act) w,(execOp a.eval o).run P w = .ok (.value (.pointer (some ⟨w.heap.size,0,none⟩))) (w.alloc (.cells Z ty)))
  (hstore : ∃ o,ops[s]? = some o ∧ o.guard = none ∧ o.dst = none ∧ ∀ w g,Bk w g ty Z → ∃ w',(execOp (Act.eval { tmps:=putCP T kc kp (.agg R) (.pointer (some ⟨g,0,none⟩)),defers:=[] }) o).run P w = .ok .skip w' ∧ Bk w' g ty R ∧ ∀ (B : Nat) (v : World),B ≤ g → Below B v w → Below B v w')
  (hr0 : Region.ready .any ops listed = [c,p]) (hr1 : Region.ready .any ops (listed.setIfInBounds c true) = [p]) (hr2 : Region.ready .any ops (listed.setIfInBounds p true) = [c]) (hr3 : Region.ready .any ops ((listed.setIfInBounds c true).setIfInBounds p true) = [s]) (hr4 : Region.ready .any ops ((listed.setIfInBounds p true).setIfInBounds c true) = [s])
  (hr5 : Region.ready .any ops (((listed.setIfInBounds c true).setIfInBounds p true).setIfInBounds s true) = []) (hr6 : Region.ready .any ops (((listed.setIfInBounds p true).setIfInBounds c true).setIfInBounds s true) = [])
  (hS : ∀ W,Below w0.heap.size w0 W → S W) (hC : ∀ W,Below w0.heap.size w0 W → Calls P f args W fun e w'=>e = .returned (.agg R) ∧ Below W.heap.size W w')
  (hK : ∀ g W,Below w0.heap.size w0 W → w0.heap.size ≤ g → Bk W g ty R → Q .normal { tmps:=putCP T kc kp (.agg R) (.pointer (some ⟨g,0,none⟩)),defers:=[] } W) : wpAnyH P .any ops Q S (fuel + 3) listed { tmps:=T,defers:=[] } w0:=by
 obtain ⟨oc,c1,c2,c3,c4,c5⟩:=hcall
 obtain ⟨op,p1,p2,p3,p4⟩:=halloc
 obtain ⟨os,s1,s2,s3,s4⟩:=hstore
 have fin : ∀ (l : Array Bool) (g : Nat) (W : World),Region.ready .any ops l = [s] → Region.ready .any ops (l.setIfInBounds s true) = [] → Below w0.heap.size w0 W → w0.heap.size ≤ g → Bk W g ty Z → wpAnyH P .any ops Q S (fuel + 1) l { tmps:=putCP T kc kp (.agg R) (.pointer (some ⟨g,0,none⟩)),defers:=[] } W:=fun l g W h1 h2 hb hg hk=>by
  refine wpAnyH_all h1 (by simp) fun j hj=>?_
  obtain rfl : j = s:=by simpa using hj
  obtain ⟨w',q1,q2,q3⟩:=s4 W g hk
  refine held_plain s1 s2 (oper_skip q1 ?_)
  rw [s3]
  have hb':=q3 _ _ hg hb
  refine ⟨hS _ hb',?_⟩
  cases fuel with
  | zero=>exact ⟨h2,hK g _ hb' hg q2⟩
  | succ n=>exact ⟨fun _=>hK g _ hb' hg q2,by rw [h2]; simp⟩
 refine wpAnyH_all hr0 (by simp) fun j hj=>?_
 have hj' : j = c ∨ j = p:=by simpa using hj
 rcases hj' with rfl | rfl
 ·refine held_plain c1 c2 (oper_call (c4 w0) (hC w0 (Below.refl _ _)) fun e w1 ⟨he,hb1⟩=>⟨_,he,hS _ hb1,?_⟩)
  refine wpAnyH_all hr1 (by simp) fun j hj=>?_
  obtain rfl : j = p:=by simpa using hj
  refine held_plain p1 p2 (oper_run (p4 _ w1) ?_)
  have hb2 : Below w0.heap.size w0 (w1.alloc (.cells Z ty)):=hb1.alloc hb1.size _
  refine ⟨hS _ hb2,?_⟩
  rw [c3,p3]
  exact fin _ w1.heap.size _ hr3 hr5 hb2 hb1.size (Bk.new _ _ _)
 ·refine held_plain p1 p2 (oper_run (p4 _ w0) ?_)
  have hb1 : Below w0.heap.size w0 (w0.alloc (.cells Z ty)):=(Below.refl _ _).alloc (Nat.le_refl _) _
  refine ⟨hS _ hb1,?_⟩
  refine wpAnyH_all hr2 (by simp) fun j hj=>?_
  obtain rfl : j = c:=by simpa using hj
  have kz : Bk (w0.alloc (.cells Z ty)) w0.heap.size ty Z:=Bk.new _ _ _
  refine held_plain c1 c2 (oper_call (by rw [p3]; exact c5 _ _) (hC _ hb1) fun e w1 ⟨he,hb2⟩=>⟨_,he,hS _ (hb1.trans (hb2.mono hb1.size)),?_⟩)
  rw [c3,p3]
  have e : (T.setIfInBounds kp (.pointer (some ⟨w0.heap.size,0,none⟩))).setIfInBounds kc (.agg R) = putCP T kc kp (.agg R) (.pointer (some ⟨w0.heap.size,0,none⟩)):=by
   unfold putCP; rw [Array.setIfInBounds_comm _ _ (fun h=>hkk h.symm)]
  show wpAnyH P .any ops Q S (fuel + 1) _ { tmps:=(T.setIfInBounds kp (.pointer (some ⟨w0.heap.size,0,none⟩))).setIfInBounds kc (.agg R),defers:=[] } w1
  rw [e]
  exact fin _ w0.heap.size _ hr4 hr6 (hb1.trans (hb2.mono hb1.size)) (Nat.le_refl _) (kz.below hb2 kz.lt)
end
end Go.Proofs.Ytkjceegmmhnajaa
