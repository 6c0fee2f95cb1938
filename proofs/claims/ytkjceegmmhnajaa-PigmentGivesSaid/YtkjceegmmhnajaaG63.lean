/- A region that draws its order,from any point on: an invariant over the set of operations that are done. -/
import Derived.Deep.RegionHeld3
import Derived.Deep.DeepCutAuto
import Derived.Deep.RegionHeld
import Derived.Orders
import Derived.Test.YtkjceegmmhnajaaG54
import Derived.Test.YtkjceegmmhnajaaG61

set_option linter.unusedVariables false
set_option linter.unusedSimpArgs false

namespace Go.Proofs.Ytkjceegmmhnajaa
open Go.RowKit

structure Vc where
 x : Int
 y : Int
 z : Int
 deriving DecidableEq
def Vc.cells (v : Vc) : List Value:=[.int .i64 v.x, .int .i64 v.y, .int .i64 v.z]
def vecsC (l : List Vc) : List Value:=l.flatMap Vc.cells
abbrev Vc.agg (v : Vc) : Value:=.agg #[.int .i64 v.x, .int .i64 v.y, .int .i64 v.z]
def Vc.sub (a b : Vc) : Vc:=⟨a.x - b.x,a.y - b.y,a.z - b.z⟩
def Vc.dot (a b : Vc) : Int:=a.x * b.x + a.y * b.y + a.z * b.z
def Vc.crs (a b : Vc) : Vc:=⟨a.y * b.z - a.z * b.y,a.z * b.x - a.x * b.z,a.x * b.y - a.y * b.x⟩
def Vc.mul (a : Vc) (n : Int) : Vc:=⟨a.x * n,a.y * n,a.z * n⟩

def pwts : List Vc → Vc → Option (List Int)
 | [a],w=>if w = a then some [1] else none
 | [a,b],w=>let u:=w.sub a; let d:=b.sub a; let y:=d.dot d; let x:=u.dot d
  if y ≠ 0 ∧ u.mul y = d.mul x then some [y - x,x] else none
 | [a,b,c],w=>let u:=w.sub a; let d:=b.sub a; let f:=c.sub a; let n:=d.crs f; let y:=n.dot n
  if y = 0 ∨ u.dot n ≠ 0 then none else
   let x:=(u.crs f).dot n; let z:=(d.crs u).dot n; let g : Int:=gcdL [x,y,z]
   some [(y - x - z).tdiv g,x.tdiv g,z.tdiv g]
 | [a,b,c,e],w=>let u:=w.sub a; let d:=b.sub a; let f:=c.sub a; let g:=e.sub a; let y:=(d.crs f).dot g
  if y = 0 then none else
   let p:=(u.crs f).dot g; let q:=(d.crs u).dot g; let r:=(d.crs f).dot u
   if y < 0 then some [-y - -p - -q - -r, -p, -q, -r] else some [y - p - q - r,p,q,r]
 | _,_=>none

def WEnd (ws : Option (List Int)) (w : World) (e : Ending) (w' : World) : Prop:=∃ (A : Option Addr) (n c : Nat) (b : Bool),e = .returned (.tuple #[.slice A n c, .bool b]) ∧
 (match ws with | none=>b = false | some l=>b = true ∧ n = l.length ∧ Lies w' w'.heap.size A (ints l)) ∧ n ≤ c ∧ c ≤ 1000 ∧ Below w.heap.size w w'
def shadeV (v : Vc) : Prop:=(0 ≤ v.x ∧ v.x ≤ 1000) ∧ (0 ≤ v.y ∧ v.y ≤ 1000) ∧ (0 ≤ v.z ∧ v.z ≤ 1000)
theorem shadeV_vb {v : Vc} (h : shadeV v) : vb 1000 v.x v.y v.z:=by unfold shadeV at h; unfold vb ab; omega

theorem vb_sub {a b : Vc} (h : shadeV a) (k : shadeV b) : vb 1000 (a.x - b.x) (a.y - b.y) (a.z - b.z):=by unfold shadeV at h k; unfold vb ab; omega

theorem w_end {ws : Option (List Int)} {l : List Int} {b : Bool} {A : Option Addr} {n c : Nat} {w w' : World} (hE : ws = if b = true then some l else none) (hn : n = l.length) (hL : Lies w' w'.heap.size A (ints l)) (hc : n ≤ c) (hc2 : c ≤ 1000) (hb : Below w.heap.size w w') :
  WEnd ws w (.returned (.tuple #[.slice A n c, .bool b])) w':=by
 refine ⟨A,n,c,b,rfl,?_,hc,hc2,hb⟩
 subst hE
 cases b
 ·exact rfl
 ·exact ⟨rfl,hn,hL⟩

theorem w_none {ws : Option (List Int)} {A : Option Addr} {n c : Nat} {w w' : World} (hE : ws = none) (hc : n ≤ c) (hc2 : c ≤ 1000) (hb : Below w.heap.size w w') :
  WEnd ws w (.returned (.tuple #[.slice A n c, .bool false])) w':=by
 subst hE
 exact ⟨A,n,c,false,rfl,rfl,hc,hc2,hb⟩

set_option maxRecDepth 100000 in
set_option maxHeartbeats 1000000 in
theorem weights1 (a x : Vc) (ad : Addr) (c : Nat) (w : World) (hb : ad.block < w.heap.size) (h0 : w.cell? ad = some (.int .i64 a.x)) (h1 : w.cell? ⟨ad.block,ad.off + 1,none⟩ = some (.int .i64 a.y)) (h2 : w.cell? ⟨ad.block,ad.off + 2,none⟩ = some (.int .i64 a.z)) (ha : shadeV a) (hx : shadeV x) :
  Calls Try.prog 86 #[.slice (some ad) 1 c,x.agg] w (WEnd (pwts [a] x) w):=by
 have hv:=shadeV_vb ha
 have hu:=shadeV_vb hx
 obtain ⟨a1,a2,a3⟩:=a
 obtain ⟨x1,x2,x3⟩:=x
 have HE : Hid (pwts [⟨a1,a2,a3⟩] ⟨x1,x2,x3⟩ = if x1 = a1 ∧ x2 = a2 ∧ x3 = a3 then some [1] else none):=by show _ = _; simp [pwts]
 clear ha hx
 dsimp only at *
 have q84:=eq84
 go_enter Try.func86,Try.ntmps86
 go_wp2_with (go_at_call 75; refine (minus_b _ (by with_reducible assumption) (by with_reducible assumption) (by omega)).mono ?_; rintro e w1 ⟨r,s,t,rfl,HR,hv1,hb1,hz1⟩; obtain ⟨hc1,hf1⟩:=bcell hb1; (try simp at hz1))
 go_region
 go_wp2
 go_ret2
 refine w_end (l:=[1]) ?_ rfl (Lies.fresh rfl (by simp [hz1]) (by simp [hz1]) rfl) (by omega) (by omega) ?_
 ·rw [HE.out]; simp
 ·have hB : Below w.heap.size w w1:=Below.trans (by repeat (first | with_reducible exact Below.refl _ _ | with_reducible assumption | with_reducible refine Below.drew ?_ | with_reducible refine below_drewN ?_ _ | (with_reducible refine Below.alloc ?_ ?_ _; rotate_left; (try simp) <;> omega) | (with_reducible refine Below.setCell ?_ ?_ _; rotate_left; (try simp) <;> omega))) (hb1.mono (by first | omega | (simp; omega) | simp))
  exact (by repeat (first | with_reducible exact Below.refl _ _ | with_reducible assumption | with_reducible refine Below.drew ?_ | with_reducible refine below_drewN ?_ _ | (with_reducible refine Below.alloc ?_ ?_ _; rotate_left; (try simp) <;> omega) | (with_reducible refine Below.setCell ?_ ?_ _; rotate_left; (try simp) <;> omega)))
end Go.Proofs.Ytkjceegmmhnajaa

namespace Go.Proofs.Ytkjceegmmhnajaa
open Go.RowKit

def vecAt (w : World) (ad : Addr) (v : Vc) : Prop:=w.cell? ad = some (.int .i64 v.x) ∧ w.cell? ⟨ad.block,ad.off + 1,none⟩ = some (.int .i64 v.y) ∧ w.cell? ⟨ad.block,ad.off + 2,none⟩ = some (.int .i64 v.z)
theorem vecAt.below {w w' : World} {ad : Addr} {v : Vc} {B : Nat} (h : vecAt w ad v) (hb : Below B w w') (hB : ad.block < B) : vecAt w' ad v :=
 ⟨(hb.cell hB).trans h.1,(hb.cell (p:=⟨ad.block,ad.off + 1,none⟩) hB).trans h.2.1,(hb.cell (p:=⟨ad.block,ad.off + 2,none⟩) hB).trans h.2.2⟩
abbrev C3 (w : World) (b : Nat) (x y z : Int) : Prop:=w.cell? ⟨b,0,none⟩ = some (.int .i64 x) ∧ w.cell? ⟨b,1,none⟩ = some (.int .i64 y) ∧ w.cell? ⟨b,2,none⟩ = some (.int .i64 z)

theorem Lies.via {W W' : World} {b : Nat} {t : TypeId} {cs : Array Value} {l : List Value} (h : Bk W b t cs) (hb : Below W.heap.size W W') (hl : l = cs.toList) : Lies W' W'.heap.size (some ⟨b,0,none⟩) l:=by
 subst hl
 have h':=h.below hb h.lt
 exact h'.lies h'.lt

set_option maxRecDepth 100000 in
set_option maxHeartbeats 2000000 in
theorem weights2 (a p x : Vc) (ad : Addr) (c : Nat) (w : World) (hb : ad.block < w.heap.size) (h0 : vecAt w ad a) (h3 : vecAt w ⟨ad.block,ad.off + 3,none⟩ p) (ha : shadeV a) (hp : shadeV p) (hx : shadeV x) :
  Calls Try.prog 86 #[.slice (some ad) 2 c,x.agg] w (WEnd (pwts [a,p] x) w):=by
 have hv:=shadeV_vb ha
 have hvp:=shadeV_vb hp
 have hu:=shadeV_vb hx
 have q84:=eq84
 obtain ⟨a1,a2,a3⟩:=a
 obtain ⟨p1,p2,p3⟩:=p
 obtain ⟨x1,x2,x3⟩:=x
 have HE : Hid (∀ u1 u2 u3 d1 d2 d3 y z : Int,u1 = x1 - a1 ∧ u2 = x2 - a2 ∧ u3 = x3 - a3 → d1 = p1 - a1 ∧ d2 = p2 - a2 ∧ d3 = p3 - a3 → y = d1 * d1 + d2 * d2 + d3 * d3 → z = u1 * d1 + u2 * d2 + u3 * d3 →
   pwts [⟨a1,a2,a3⟩,⟨p1,p2,p3⟩] ⟨x1,x2,x3⟩ = if y ≠ 0 ∧ (u1 * y = d1 * z ∧ u2 * y = d2 * z ∧ u3 * y = d3 * z) then some [y - z,z] else none):=by
  rintro _ _ _ _ _ _ _ _ ⟨rfl,rfl,rfl⟩ ⟨rfl,rfl,rfl⟩ rfl rfl
  simp only [pwts,Vc.sub,Vc.dot,Vc.mul,Vc.mk.injEq]
 have H3:=Lib.hid h3
 unfold vecAt at h0 h3
 obtain ⟨h00,h01,h02⟩:=h0
 obtain ⟨h30,h31,h32⟩:=h3
 dsimp only at *
 have hk : ∀ b o,b < w.heap.size + 1 → b < w.heap.size + 1 + 1:=fun b o h=>by omega
 clear ha hp hx hk
 go_enter Try.func86,Try.ntmps86
 go_wp2_with (go_at_call 75; refine (minus_b (A:=1000) (B:=1000) _ (by with_reducible assumption) (by with_reducible assumption) (by omega)).mono ?_; rintro e w1 ⟨u1,u2,u3,rfl,HU,hvu,hb1,hz1⟩; obtain ⟨hc1,hf1⟩:=bcell hb1; have hs1:=hb1.size; (try simp at hs1); clear hz1; have hB1 : Below w.heap.size w w1:=(Below.trans bw (hb1.mono (by first | omega | (simp; omega) | simp))))
 have g1 : ad.block < w1.heap.size:=by omega
 obtain ⟨k30,k31,k32⟩:=H3.out.below hB1 hb
 have hBu : Below w.heap.size w (w1.alloc (.cells #[.int .i64 u1, .int .i64 u2, .int .i64 u3] 84)):=bw
 have bu:=Bk.new w1 84 #[.int .i64 u1, .int .i64 u2, .int .i64 u3]
 have ba : Bk (w1.alloc (.cells #[.int .i64 u1, .int .i64 u2, .int .i64 u3] 84)) (w.heap.size + 1) 84 #[.int .i64 a1, .int .i64 a2, .int .i64 a3]:=by
  have h:=Bk.new (w.alloc (.cells #[.int .i64 x1, .int .i64 x2, .int .i64 x3] 84)) 84 #[.int .i64 a1, .int .i64 a2, .int .i64 a3]
  rw [World.size_alloc] at h
  exact (h.below hb1 (by simp)).alloc _
 have HBA:=Lib.hid ba
 have HBU:=Lib.hid bu
 have HBB:=Lib.hid hBu
 clear ba bu hBu
 have HK:=Lib.hid (H3.out.below HBB.out hb)
 go_upto_region 7 with fail
 have hsa : w.heap.size + 1 < w1.heap.size + 1:=by omega
 have hsz : (w1.alloc (.cells #[.int .i64 u1, .int .i64 u2, .int .i64 u3] 84)).heap.size = w1.heap.size + 1:=by simp
 have HSZ:=Lib.hid hsz; clear hsz
 generalize w1.alloc (.cells #[.int .i64 u1, .int .i64 u2, .int .i64 u3] 84) = wa at *
 have r0 : w.heap.size < wa.heap.size:=by rw [HSZ.out]; omega
 have r1 : w.heap.size + 1 < wa.heap.size:=by rw [HSZ.out]; omega
 have r2 : w1.heap.size < wa.heap.size:=by rw [HSZ.out]; omega
 have r3 : ad.block < wa.heap.size:=by rw [HSZ.out]; omega
 have e1 : ¬ w.heap.size + 1 = wa.heap.size:=by rw [HSZ.out]; omega
 have e2 : ¬ w1.heap.size = wa.heap.size:=by rw [HSZ.out]; omega
 have e3 : ¬ ad.block = wa.heap.size:=by rw [HSZ.out]; omega
 clear k30 k31 k32 h00 h01 h02 h30 h31 h32 hc1 hf1 hs1 g1 hsa hb1 hB1
 obtain ⟨k30,k31,k32⟩:=HK.out
 have hBa:=HBB.out
 have k00:=HBA.out.cell 0 rfl
 have k01:=HBA.out.cell 1 rfl
 have k02:=HBA.out.cell 2 rfl
 go_cut [8] (fun s8 wx=>∃ (g : Nat) (d1 d2 d3 : Int),s8 = .pointer (some ⟨g,0,none⟩) ∧ Hid (d1 = p1 - a1 ∧ d2 = p2 - a2 ∧ d3 = p3 - a3) ∧ vb (1000 + 1000) d1 d2 d3 ∧ Below w.heap.size w wx ∧ (Bk wx (w.heap.size + 1) 84 #[.int .i64 a1, .int .i64 a2, .int .i64 a3] ∧ Bk wx w1.heap.size 84 #[.int .i64 u1, .int .i64 u2, .int .i64 u3] ∧ Bk wx g 84 #[.int .i64 d1, .int .i64 d2, .int .i64 d3]))
 case first =>
  go_region_held3 (fun w'=>w'.cell? ⟨w.heap.size + 1,0,none⟩ = some (.int .i64 a1) ∧ w'.cell? ⟨w.heap.size + 1,1,none⟩ = some (.int .i64 a2) ∧ w'.cell? ⟨w.heap.size + 1,2,none⟩ = some (.int .i64 a3) ∧ w'.cell? ⟨ad.block,ad.off + 3,none⟩ = some (.int .i64 p1) ∧ w'.cell? ⟨ad.block,ad.off + 3 + 1,none⟩ = some (.int .i64 p2) ∧ w'.cell? ⟨ad.block,ad.off + 3 + 2,none⟩ = some (.int .i64 p3))
   (((try dsimp only); (repeat' apply And.intro) <;> (first | (with_reducible assumption) | go_keep | (rw [World.cell?_alloc_past _ _ _ (by first | omega | (simp; omega))]; first | (with_reducible assumption) | go_keep) | ((repeat rw [World.cell?_setCell_other _ _ _ _ (by simp <;> omega)]); first | (with_reducible assumption) | go_keep))))
   (first | (go_at_call 75; refine (minus_b (A:=1000) (B:=1000) _ (by with_reducible assumption) (by with_reducible assumption) (by omega)).mono ?_; rintro e w2 ⟨d1,d2,d3,rfl,HD,hvd,hb2,hz2⟩; obtain ⟨hc2,hf2⟩:=bcell hb2; have hs2:=hb2.size; (try simp at hs2); clear hz2; have hB2 : Below w.heap.size w w2:=(Below.trans bw (hb2.mono (by first | omega | (simp; omega) | simp))); obtain ⟨m30,m31,m32⟩:=H3.out.below hB2 hb; have hwa2 : Below wa.heap.size wa w2:=(Below.trans bw (hb2.mono (by first | omega | (simp; omega) | simp))); have ta:=HBA.out.below hwa2 r1; have tu:=HBU.out.below hwa2 r2; have ta0:=ta.cell 0 rfl; have ta1:=ta.cell 1 rfl; have ta2:=ta.cell 2 rfl; have v1 : w.heap.size + 1 < w2.heap.size:=(by omega); have v2 : ad.block < w2.heap.size:=(by omega)))
  all_goals
   go_wp2_with fail
   go_meet
   have zd : ∀ v : Value,Bk (wa.alloc (.cells #[.int .i64 0, .int .i64 0, .int .i64 0] 84)) wa.heap.size 84 #[.int .i64 0, .int .i64 0, .int .i64 0]:=fun _=>Bk.new _ _ _
   first
    | exact ⟨w2.heap.size,d1,d2,d3,rfl,HD,hvd,bw,bkw,bkw,bkw⟩
    | exact ⟨wa.heap.size,d1,d2,d3,rfl,HD,hvd,bw,bkw,bkw,(((((zd undef).drew.below hb2 (by simp)).set 0 _).set 1 _).set 2 _)⟩
 case rest =>
  obtain ⟨g,d1,d2,d3,rfl,HD,hvd,hBx,xa,xu,xd⟩:=hcut
  clear HBA HBU HBB HK HSZ r0 r1 r2 r3 e1 e2 e3 k30 k31 k32 k00 k01 k02 hBa H3 hb hv hvp hu
  have la:=xa.lt
  have lu:=xu.lt
  have ld:=xd.lt
  have RC : ∀ (W : World) (b o : Nat),Below wc.heap.size wc W → b < wc.heap.size → W.cell? ⟨b,o,none⟩ = wc.cell? ⟨b,o,none⟩:=fun W b o h hb=>h.cell (p:=⟨b,o,none⟩) hb
  have d0:=xd.cell 0 rfl
  have d1':=xd.cell 1 rfl
  have d2':=xd.cell 2 rfl
  have u0:=xu.cell 0 rfl
  have u1':=xu.cell 1 rfl
  have u2':=xu.cell 2 rfl
  go_wp2_with fail
  refine (times_b (a:=d1) _ hvd hvd (by omega)).mono ?_
  rintro e w2 ⟨y,rfl,HY,hvy,hb2,hz2⟩; clear hz2
  have hs2:=hb2.size
  have hW2 : Below wc.heap.size wc w2:=(hb2.mono (Nat.le_refl _))
  go_wp2_with fail
  refine (times_b (a:=u1) _ hvu hvd (by omega)).mono ?_
  rintro e w3 ⟨z,rfl,HZ,hvz,hb3,hz3⟩; clear hz3
  have hs3:=hb3.size
  have hW3 : Below wc.heap.size wc w3:=hW2.trans (hb3.mono hs2)
  have hyb : -12000000 ≤ y ∧ y ≤ 12000000:=by have:=hvy; unfold ab at this; omega
  have hzb : -12000000 ≤ z ∧ z ≤ 12000000:=by have:=hvz; unfold ab at this; omega
  obtain ⟨hy1,hy2⟩:=hyb
  obtain ⟨hzb1,hzb2⟩:=hzb
  have HE2:=Lib.hid (HE.out _ _ _ _ _ _ _ _ HU.out HD.out HY.out HZ.out)
  clear HE HU HD HY HZ
  have hBw : Below w.heap.size w w3:=hBx.trans (hW3.mono (by omega))
  have WYZ : Hid (IntKind.i64.wrap (y - z) = y - z):=IntWalk.i64_in _ (by omega)
  by_cases hy0 : y = 0
  ·have hyn : (y != 0) = false:=by rw [hy0]; rfl
   have HY0:=Lib.hid hy0; clear hy0
   go_wp2
   go_region
   all_goals
    go_wp2
    go_ret2
    exact w_none (by rw [HE2.out,if_neg (by intro h; exact h.1 HY0.out)]) (by omega) (by omega) bw
  ·have hyn : (y != 0) = true:=by rw [bne_iff_ne]; exact hy0
   have HY0:=Lib.hid hy0; clear hy0
   go_wp2
   go_region_held3 (fun w'=>w'.cell? ⟨w1.heap.size,0,none⟩ = some (.int .i64 u1) ∧ w'.cell? ⟨w1.heap.size,1,none⟩ = some (.int .i64 u2) ∧ w'.cell? ⟨w1.heap.size,2,none⟩ = some (.int .i64 u3) ∧ w'.cell? ⟨g,0,none⟩ = some (.int .i64 d1) ∧ w'.cell? ⟨g,1,none⟩ = some (.int .i64 d2) ∧ w'.cell? ⟨g,2,none⟩ = some (.int .i64 d3))
    (((try dsimp only); (repeat' apply And.intro) <;> (first | (with_reducible assumption) | go_keep | (rw [World.cell?_alloc_past _ _ _ (by first | omega | (simp; omega))]; first | (with_reducible assumption) | go_keep))))
    (first | (go_at_call 77; ((with_reducible refine (scaled_b (a:=u1) _ hvu hvy (by omega)).mono ?_); rintro e w4 ⟨s1,s2,s3,rfl,HS,_,hb4,hz4⟩); clear hz4; have hs4:=hb4.size; (try simp at hs4); have hW4 : Below wc.heap.size wc w4:=(Below.trans bw (hb4.mono (by first | omega | (simp; omega) | simp)))) | (go_at_call 77; ((with_reducible refine (scaled_b (a:=d1) _ hvd hvz (by omega)).mono ?_); rintro e w5 ⟨t1,t2,t3,rfl,HT,_,hb5,hz5⟩); clear hz5; have hs5:=hb5.size; (try simp at hs5); have hW5 : Below wc.heap.size wc w5:=(Below.trans bw (hb5.mono (by first | omega | (simp; omega) | simp)))))
   all_goals
    go_wp2
    go_ret2
    have hB5 : Below w.heap.size w w5:=hBx.trans (hW5.mono (by omega))
    refine w_end (l:=[y - z,z]) ?hE rfl ?hL (by omega) (by omega) bw
    case hE =>
     rw [HE2.out,← HS.out.1,← HS.out.2.1,← HS.out.2.2,← HT.out.1,← HT.out.2.1,← HT.out.2.2]
     have:=HY0.out
     simp [this]
    case hL =>
     first
      | exact Lies.fresh rfl (by simp) (by simp) (by rw [WYZ.out]; rfl)
      | exact Lies.via (cs:=#[.int .i64 (IntKind.i64.wrap (y - z)), .int .i64 z]) (t:=3) (by repeat (first | with_reducible exact Bk.new _ _ _ | with_reducible refine Bk.drew ?_ | (refine Bk.below ?_ hb4 ?_; rotate_left; (first | omega | (simp; omega) | simp)))) hb5 (by rw [WYZ.out]; rfl)
end Go.Proofs.Ytkjceegmmhnajaa

namespace Go.Proofs.Ytkjceegmmhnajaa
open Go.RowKit

section
variable {P : Program} {ops : Array Oper} {Q : Exit → Act → World → Prop} {S : World → Prop}

def left (listed : Array Bool) : Nat:=(listed.toList.filter (fun b=>!b)).length

theorem left_set : ∀ (l : List Bool) (i : Nat),l[i]? = some false → ((l.set i true).filter (fun b=>!b)).length + 1 = (l.filter (fun b=>!b)).length
 | [],i,h=>by simp at h
 | b :: l,0,h=>by simp at h; subst h; simp
 | b :: l,i + 1,h=>by
  have:=left_set l i (by simpa using h)
  cases b <;> simp at * <;> omega

theorem wpAnyH_inv (hac : ∀ (i : Nat) (o : Oper),ops[i]? = some o → ∀ e ∈ o.after,e.on < i) (Inv : (Nat → Bool) → Act → World → Prop)
  (hstep : ∀ (done : Nat → Bool) (a : Act) (w : World) (i : Nat) (o : Oper),ops[i]? = some o → done i = false → (∀ e ∈ o.after,Region.binds .any e = true → done e.on = true) → Inv done a w →
   wpOp P ops Q i (fun a' w'=>S w' ∧ Inv (fun j=>done j || j == i) a' w') a w)
  (hend : ∀ (done : Nat → Bool) (a : Act) (w : World),(∀ i < ops.size,done i = true) → Inv done a w → Q .normal a w) :
  ∀ (fuel : Nat) (listed : Array Bool) (a : Act) (w : World),listed.size = ops.size → left listed ≤ fuel → Inv (fun j=>listed.getD j false) a w → wpAnyH P .any ops Q S fuel listed a w:=by
 have hall : ∀ listed : Array Bool,listed.size = ops.size → Region.ready .any ops listed = [] → ∀ i,i < ops.size → listed.getD i false = true:=by
  intro listed hsz hr i
  induction i using Nat.strongRecOn with
  | _ i ih =>
   intro hi
   cases hd : listed.getD i false
   ·have hmem : i ∈ Region.ready .any ops listed:=by
     refine mem_ready.2 ⟨?_,ops[i],Array.getElem?_eq_getElem hi,fun e he _=>?_⟩
     ·simp [hsz,hi] at hd ⊢; exact hd
     ·have:=hac i _ (Array.getElem?_eq_getElem hi) e he
      exact ih e.on this (by omega)
    rw [hr] at hmem; cases hmem
   ·rfl
 have hstepL : ∀ (listed : Array Bool) (a : Act) (w : World) (i : Nat),listed.size = ops.size → i ∈ Region.ready .any ops listed → Inv (fun j=>listed.getD j false) a w →
   wpOp P ops Q i (fun a' w'=>S w' ∧ Inv (fun j=>(listed.setIfInBounds i true).getD j false) a' w') a w ∧ left (listed.setIfInBounds i true) + 1 = left listed:=by
  intro listed a w i hsz hi hinv
  obtain ⟨h1,o,ho,h2⟩:=mem_ready.1 hi
  have hlt : i < ops.size:=(Array.getElem?_eq_some_iff.1 ho).1
  have hd : listed.getD i false = false:=by simp [hsz,hlt] at h1 ⊢; exact h1
  have hfun : (fun j=>(listed.setIfInBounds i true).getD j false) = (fun j=>listed.getD j false || j == i):=by
   funext j
   by_cases hj : i = j
   ·subst hj; simp [hsz,hlt]
   ·rw [getD_set_ne false hj]; have : (j == i) = false:=by rw [beq_eq_false_iff_ne]; exact fun e=>hj e.symm
    simp [this]
  rw [hfun]
  refine ⟨hstep _ a w i o ho hd h2 hinv,?_⟩
  have hl : listed.toList[i]? = some false:=by
   have hi' : i < listed.size:=by omega
   simp [hi'] at hd ⊢; exact hd
  have:=left_set listed.toList i hl
  unfold left
  rw [Array.toList_setIfInBounds]; exact this
 intro fuel
 induction fuel with
 | zero =>
  intro listed a w hsz hl hinv
  have hr : Region.ready .any ops listed = []:=by
   rcases hrd : Region.ready .any ops listed with _ | ⟨i,r⟩
   ·rfl
   ·have:=(hstepL listed a w i hsz (by rw [hrd]; simp) hinv).2
    omega
  exact ⟨hr,hend _ a w (hall listed hsz hr) hinv⟩
 | succ fuel ih =>
  intro listed a w hsz hl hinv
  refine ⟨fun hr=>hend _ a w (hall listed hsz hr) hinv,fun i hi=>?_⟩
  obtain ⟨h1,h2⟩:=hstepL listed a w i hsz hi hinv
  exact wpOp_mono (fun a' w' h=>⟨h.1,ih _ a' w' (by simp [hsz]) (by omega) h.2⟩) h1

theorem held_plain {K : Act → World → Prop} {a : Act} {w : World} {i : Nat} {o : Oper} (ho : ops[i]? = some o) (hg : o.guard = none) (h : o.wp P a w K Q) : wpOp P ops Q i K a w:=by
 unfold wpOp
 rw [ho]
 have hw : Region.wanted o (yielded ops a.tmps) = true:=by simp [Region.wanted,hg]
 simp only [hw,if_true]
 exact .inl h
theorem oper_run {K : Act → World → Prop} {a : Act} {w : World} {o : Oper} {v : Value} {w' : World} (hr : (execOp a.eval o).run P w = .ok (.value v) w') (h : K (a.put o.dst v) w') : o.wp P a w K Q:=by
 unfold Oper.wp; rw [hr]; exact h
theorem oper_skip {K : Act → World → Prop} {a : Act} {w : World} {o : Oper} {w' : World} (hr : (execOp a.eval o).run P w = .ok .skip w') (h : K (a.put o.dst undef) w') : o.wp P a w K Q:=by
 unfold Oper.wp; rw [hr]; exact h
theorem oper_call {K : Act → World → Prop} {a : Act} {w : World} {o : Oper} {f : FuncId} {args : Array Value} (hr : (execOp a.eval o).run P w = .ok (.enter f args) w) {R : Ending → World → Prop} (hc : Calls P f args w R) (h : ∀ e w',R e w' → ∃ v,e = .returned v ∧ K (a.put o.dst v) w') : o.wp P a w K Q:=by
 unfold Oper.wp; rw [hr]
 refine hc.mono fun e w' hR=>?_
 obtain ⟨v,rfl,hk⟩:=h e w' hR
 exact hk
end
end Go.Proofs.Ytkjceegmmhnajaa

namespace Go.Proofs.Ytkjceegmmhnajaa
open Go.RowKit

def canon (t0 : Array Value) (ds : List Nat) (V : Nat → Value) : Array Value:=ds.foldl (fun t d=>t.setIfInBounds d (V d)) t0
theorem canon_size (ds : List Nat) (V : Nat → Value) : ∀ t0 : Array Value,(canon t0 ds V).size = t0.size:=by
 induction ds with
 | nil=>intro t0; rfl
 | cons d ds ih=>intro t0; simp only [canon,List.foldl_cons] at *; rw [ih]; simp
theorem canon_get (ds : List Nat) (V : Nat → Value) (k : Nat) : ∀ t0 : Array Value,(canon t0 ds V)[k]? = if k ∈ ds ∧ k < t0.size then some (V k) else t0[k]?:=by
 induction ds with
 | nil=>intro t0; simp [canon]
 | cons d ds ih =>
  intro t0
  simp only [canon,List.foldl_cons] at *
  rw [ih]
  simp only [Array.size_setIfInBounds,List.mem_cons]
  by_cases h1 : k < t0.size
  ·by_cases h2 : k ∈ ds
   ·simp [h1,h2]
   ·by_cases h3 : k = d
    ·subst h3; simp [h1,h2]
    ·have : d ≠ k:=fun e=>h3 e.symm
     rw [if_neg (fun h=>h2 h.1),if_neg (fun h=>by rcases h.1 with h | h; exact h3 h; exact h2 h),Array.getElem?_setIfInBounds_ne this]
  ·have h4 : (t0.setIfInBounds d (V d))[k]? = none:=Array.getElem?_eq_none (by simp; omega)
   have h5 : t0[k]? = none:=Array.getElem?_eq_none (by omega)
   simp [h1,h4,h5]
def updV (V : Nat → Value) (d : Nat) (v : Value) : Nat → Value:=fun k=>if k = d then v else V k
theorem updV_same (V : Nat → Value) (d : Nat) (v : Value) : updV V d v d = v:=if_pos rfl
theorem updV_other (V : Nat → Value) {d k : Nat} (v : Value) (h : k ≠ d) : updV V d v k = V k:=if_neg h
theorem canon_set {t0 : Array Value} {ds : List Nat} {V : Nat → Value} {d : Nat} (v : Value) (hd : d ∈ ds) : (canon t0 ds V).setIfInBounds d v = canon t0 ds (updV V d v):=by
 apply Array.ext_getElem?
 intro k
 rw [canon_get]
 by_cases h : d = k
 ·subst h
  by_cases hs : d < t0.size
  ·rw [Array.getElem?_setIfInBounds_self_of_lt (by rw [canon_size]; exact hs)]; simp [hd,hs,updV]
  ·rw [Array.getElem?_eq_none (by simp [canon_size]; omega)]; simp [hs]
 ·rw [Array.getElem?_setIfInBounds_ne h,canon_get]
  simp only [updV,if_neg (fun e : k = d=>h e.symm)]
theorem canon_start (t0 : Array Value) (ds : List Nat) : canon t0 ds (fun k=>t0.getD k undef) = t0:=by
 apply Array.ext_getElem?
 intro k
 rw [canon_get]
 split
 ·rename_i h; simp [h.2]
 ·rfl
theorem canon_at {t0 : Array Value} {ds : List Nat} {V : Nat → Value} {k : Nat} (hk : k ∈ ds) (hs : k < t0.size) : (canon t0 ds V).getD k undef = V k:=by
 have:=canon_get ds V k t0
 rw [if_pos ⟨hk,hs⟩] at this
 rw [Array.getD_eq_getD_getElem?,this]; rfl
structure Vj where
 c : Nat
 p : Nat
 s : Nat
 kc : Nat
 kp : Nat
 args : Array Value
 x : Int
 y : Int
 z : Int
def Vj.row (v : Vj) : Array Value:=#[.int .i64 v.x, .int .i64 v.y, .int .i64 v.z]
def zero3 : Array Value:=#[.int .i64 0, .int .i64 0, .int .i64 0]

section
variable {P : Program} {ops : Array Oper} {Q : Exit → Act → World → Prop} {S : World → Prop}
structure VjOk (P : Program) (ops : Array Oper) (T : Array Value) (ds : List Nat) (f : FuncId) (v : Vj) : Prop where
 kc : v.kc ∈ ds
 kp : v.kp ∈ ds
 kcl : v.kc < T.size
 kpl : v.kp < T.size
 call : ∃ o,ops[v.c]? = some o ∧ o.guard = none ∧ o.dst = some v.kc ∧ ∀ V w,(execOp (Act.eval { tmps:=canon T ds V,defers:=[] }) o).run P w = .ok (.enter f v.args) w
 alloc : ∃ o,ops[v.p]? = some o ∧ o.guard = none ∧ o.dst = some v.kp ∧ ∀ (a : Act) w,(execOp a.eval o).run P w = .ok (.value (.pointer (some ⟨w.heap.size,0,none⟩))) (w.alloc (.cells zero3 84))
 store : ∃ o,ops[v.s]? = some o ∧ o.guard = none ∧ o.dst = none ∧ (o.after.any fun e=>e.on == v.c && Region.binds .any e) = true ∧ (o.after.any fun e=>e.on == v.p && Region.binds .any e) = true ∧
  ∀ (a : Act) w b,a.tmps.getD v.kp undef = .pointer (some ⟨b,0,none⟩) → a.tmps.getD v.kc undef = .agg v.row → Bk w b 84 zero3 →
   ∃ w' nx,(execOp a.eval o).run P w = .ok nx w' ∧ (nx = .skip ∨ ∃ u,nx = .value u) ∧ w' = ((w.setCell ⟨b,0,none⟩ (.int .i64 v.x)).setCell ⟨b,1,none⟩ (.int .i64 v.y)).setCell ⟨b,2,none⟩ (.int .i64 v.z)

theorem dep_of {o : Oper} {k : Nat} (h : (o.after.any fun e=>e.on == k && Region.binds .any e) = true) : ∃ e ∈ o.after,e.on = k ∧ Region.binds .any e = true:=by
 rw [Array.any_eq_true'] at h
 obtain ⟨e,he,h⟩:=h
 rw [Bool.and_eq_true,beq_iff_eq] at h
 exact ⟨e,he,h.1,h.2⟩
def acB (ops : Array Oper) : Bool:=(List.range ops.size).all fun i=>match ops[i]? with | some o=>o.after.all (fun e=>decide (e.on < i)) | none=>true
theorem acB_spec {ops : Array Oper} (h : acB ops = true) (i : Nat) (o : Oper) (ho : ops[i]? = some o) : ∀ e ∈ o.after,e.on < i:=by
 have hi : i < ops.size:=(Array.getElem?_eq_some_iff.1 ho).1
 have:=List.all_eq_true.1 h i (by simpa using hi)
 rw [ho] at this
 intro e he
 simpa using Array.all_eq_true'.1 this e he
def hlB (n : Nat) (listed : Array Bool) (vs : List Vj) : Bool:=(List.range n).all fun i=>listed.getD i false || vs.any fun v=>i == v.c || (i == v.p || i == v.s)
theorem hlB_spec {n : Nat} {listed : Array Bool} {vs : List Vj} (h : hlB n listed vs = true) (i : Nat) (hi : i < n) (hf : listed.getD i false = false) : ∃ v ∈ vs,i = v.c ∨ i = v.p ∨ i = v.s:=by
 have:=List.all_eq_true.1 h i (by simpa using hi)
 rw [hf,Bool.false_or,List.any_eq_true] at this
 obtain ⟨v,hv,h⟩:=this
 simp only [Bool.or_eq_true,beq_iff_eq] at h
 exact ⟨v,hv,h⟩
theorem bk_set3 {w : World} {b : Nat} {v : Vj} (h : Bk w b 84 zero3) : Bk (((w.setCell ⟨b,0,none⟩ (.int .i64 v.x)).setCell ⟨b,1,none⟩ (.int .i64 v.y)).setCell ⟨b,2,none⟩ (.int .i64 v.z)) b 84 v.row:=((h.set 0 _).set 1 _).set 2 _
theorem bk_far3 {w : World} {b g : Nat} {t : TypeId} {cs : Array Value} {v : Vj} (h : Bk w g t cs) (hne : g ≠ b) : Bk (((w.setCell ⟨b,0,none⟩ (.int .i64 v.x)).setCell ⟨b,1,none⟩ (.int .i64 v.y)).setCell ⟨b,2,none⟩ (.int .i64 v.z)) g t cs :=
 ((h.far hne _).far hne _).far hne _

theorem vectors_laid {T : Array Value} {ds : List Nat} {f : FuncId} {vs : List Vj} (hv : ∀ v ∈ vs,VjOk P ops T ds f v) (hd : vs.Pairwise fun a b=>a.c ≠ b.c ∧ a.p ≠ b.p ∧ a.s ≠ b.s ∧ a.kc ≠ b.kc ∧ a.kp ≠ b.kp) (hcp : ∀ a ∈ vs,∀ b ∈ vs,a.kc ≠ b.kp)
  (hpos : ∀ a ∈ vs,∀ b ∈ vs,a.c ≠ b.p ∧ a.c ≠ b.s ∧ a.p ≠ b.s)
  (hac : ∀ (i : Nat) (o : Oper),ops[i]? = some o → ∀ e ∈ o.after,e.on < i) {w0 : World} {B : Nat} (hB : B ≤ w0.heap.size) (hS : ∀ W,Below B w0 W → S W) (hcalls : ∀ v ∈ vs,∀ W,Below B w0 W → Calls P f v.args W fun e w'=>e = .returned (.agg v.row) ∧ Below W.heap.size W w')
  (hQ : ∀ V W,Below B w0 W → (∀ v ∈ vs,V v.kc = .agg v.row) → (∃ g : Nat → Nat,(∀ v ∈ vs,V v.kp = .pointer (some ⟨g v.kp,0,none⟩) ∧ B ≤ g v.kp ∧ Bk W (g v.kp) 84 v.row)) → (∀ k,(∀ v ∈ vs,k ≠ v.kc ∧ k ≠ v.kp) → V k = T.getD k undef) → Q .normal { tmps:=canon T ds V,defers:=[] } W)
  {listed : Array Bool} (hsz : listed.size = ops.size) (hl : ∀ i,i < ops.size → listed.getD i false = false → ∃ v ∈ vs,i = v.c ∨ i = v.p ∨ i = v.s) (hl2 : ∀ v ∈ vs,listed.getD v.c false = false ∧ listed.getD v.p false = false ∧ listed.getD v.s false = false)
  {fuel : Nat} (hfuel : left listed ≤ fuel) (hsl : ∀ v ∈ vs,v.c < ops.size ∧ v.p < ops.size ∧ v.s < ops.size) : wpAnyH P .any ops Q S fuel listed { tmps:=T,defers:=[] } w0:=by
 have hdiff : ∀ a ∈ vs,∀ b ∈ vs,(a.c = b.c ∨ a.p = b.p ∨ a.s = b.s ∨ a.kc = b.kc ∨ a.kp = b.kp) → a = b:=by
  intro a ha b hb h
  obtain ⟨i,hi,rfl⟩:=List.mem_iff_getElem.1 ha
  obtain ⟨j,hj,rfl⟩:=List.mem_iff_getElem.1 hb
  rw [List.pairwise_iff_getElem] at hd
  rcases Nat.lt_trichotomy i j with hlt | heq | hlt
  ·have:=hd i j hi hj hlt; omega
  ·subst heq; rfl
  ·have:=hd j i hj hi hlt; omega
 let Inv : (Nat → Bool) → Act → World → Prop:=fun D a w=>Below B w0 w ∧ (∀ i,i < ops.size → listed.getD i false = true → D i = true) ∧ ∃ V : Nat → Value,a = { tmps:=canon T ds V,defers:=[] } ∧ (∀ v ∈ vs,D v.c = true → V v.kc = .agg v.row) ∧ (∀ v ∈ vs,D v.s = true → D v.c = true ∧ D v.p = true) ∧
  (∃ g : Nat → Nat,(∀ v ∈ vs,D v.p = true → V v.kp = .pointer (some ⟨g v.kp,0,none⟩) ∧ B ≤ g v.kp ∧ g v.kp < w.heap.size ∧ Bk w (g v.kp) 84 (bif D v.s then v.row else zero3)) ∧ (∀ u ∈ vs,∀ v ∈ vs,D u.p = true → D v.p = true → g u.kp = g v.kp → u = v)) ∧
  (∀ k,(∀ v ∈ vs,k ≠ v.kc ∧ k ≠ v.kp) → V k = T.getD k undef)
 refine wpAnyH_inv hac Inv ?_ ?_ fuel listed _ w0 hsz hfuel ?_
 ·intro D a w i o ho hDi hdep ⟨hb,hold,V,ha,hc,hst,⟨g,hg,hgi⟩,hrest⟩
  subst ha
  have hi : i < ops.size:=(Array.getElem?_eq_some_iff.1 ho).1
  have hnl : listed.getD i false = false:=by
   cases hx : listed.getD i false with
   | false=>rfl
   | true=>have:=hold i hi hx; rw [hDi] at this; cases this
  have hbs:=hb.size
  obtain ⟨v,hvm,hiv⟩:=hl i hi hnl
  have ok:=hv v hvm
  have hold' : ∀ i',∀ i,i < ops.size → listed.getD i false = true → (D i || i == i') = true:=fun i' i h1 h2=>by rw [hold i h1 h2]; rfl
  rcases hiv with rfl | rfl | rfl
  ·-- a call
   obtain ⟨o',e1,e2,e3,e4⟩:=ok.call
   rw [ho] at e1; cases e1
   refine held_plain ho e2 (oper_call (e4 V w) (hcalls v hvm w hb) fun e w' ⟨he,hb'⟩=>⟨_,he,?_⟩)
   have hb2 : Below B w0 w':=hb.trans (hb'.mono (by omega))
   refine ⟨hS w' hb2,hb2,hold' _,updV V v.kc (.agg v.row),?_,fun u hu h=>?_,fun u hu h=>?_,⟨g,fun u hu h=>?_,fun u hu u2 hu2 h1 h2 h3=>?_⟩,fun k hk=>?_⟩
   ·rw [e3]
    simp only [Act.put,canon_set _ ok.kc]
   ·by_cases huv : u = v
    ·subst huv; exact updV_same _ _ _
    ·have hne : u.kc ≠ v.kc:=fun e=>huv (hdiff u hu v hvm (by simp [e]))
     have hcne : u.c ≠ v.c:=fun e=>huv (hdiff u hu v hvm (by simp [e]))
     rw [updV_other _ _ hne]
     refine hc u hu ?_
     simpa [hcne] using h
   ·have hne : u.s ≠ v.c:=fun e=>(hpos v hvm u hu).2.1 e.symm
    have h1 : D u.s = true:=by simpa [hne] using h
    obtain ⟨h2,h3⟩:=hst u hu h1
    exact ⟨by simp [h2],by simp [h3]⟩
   ·have hne : u.p ≠ v.c:=fun e=>(hpos v hvm u hu).1 e.symm
    have hne2 : u.s ≠ v.c:=fun e=>(hpos v hvm u hu).2.1 e.symm
    have h1 : D u.p = true:=by simpa [hne] using h
    obtain ⟨g1,g2,g3,g4⟩:=hg u hu h1
    have hds : (D u.s || u.s == v.c) = D u.s:=by simp [hne2]
    dsimp only
    rw [hds]
    have hkne : u.kp ≠ v.kc:=fun e=>hcp v hvm u hu e.symm
    rw [updV_other _ _ hkne]
    exact ⟨g1,g2,Nat.lt_of_lt_of_le g3 hb'.size,g4.below hb' g3⟩
   ·have n1 : u.p ≠ v.c:=fun e=>(hpos v hvm u hu).1 e.symm
    have n2 : u2.p ≠ v.c:=fun e=>(hpos v hvm u2 hu2).1 e.symm
    exact hgi u hu u2 hu2 (by simpa [n1] using h1) (by simpa [n2] using h2) h3
   ·rw [updV_other _ _ (hk v hvm).1]; exact hrest k hk
  ·-- a block
   obtain ⟨o',e1,e2,e3,e4⟩:=ok.alloc
   rw [ho] at e1; cases e1
   refine held_plain ho e2 (oper_run (e4 _ w) ?_)
   have hb2 : Below B w0 (w.alloc (.cells zero3 84)):=hb.alloc (by omega) _
   refine ⟨hS _ hb2,hb2,hold' _,updV V v.kp (.pointer (some ⟨w.heap.size,0,none⟩)),?_,fun u hu h=>?_,fun u hu h=>?_,⟨fun k=>if k = v.kp then w.heap.size else g k,fun u hu h=>?_,fun u hu u2 hu2 h1 h2 h3=>?_⟩,fun k hk=>?_⟩
   ·rw [e3]
    simp only [Act.put,canon_set _ ok.kp]
   ·have hkne : u.kc ≠ v.kp:=hcp u hu v hvm
    have hne : u.c ≠ v.p:=(hpos u hu v hvm).1
    rw [updV_other _ _ hkne]
    exact hc u hu (by simpa [hne] using h)
   ·have hne : u.s ≠ v.p:=fun e=>(hpos v hvm u hu).2.2 e.symm
    have h1 : D u.s = true:=by simpa [hne] using h
    obtain ⟨h2,h3⟩:=hst u hu h1
    exact ⟨by simp [h2],by simp [h3]⟩
   ·have hne2 : u.s ≠ v.p:=fun e=>(hpos v hvm u hu).2.2 e.symm
    have hds : (D u.s || u.s == v.p) = D u.s:=by simp [hne2]
    dsimp only
    rw [hds]
    by_cases huv : u = v
    ·subst huv
     have hns : D u.s = false:=by
      cases hx : D u.s with
      | false=>rfl
      | true=>have:=(hst u hu hx).2; rw [hDi] at this; cases this
     rw [hns]
     refine ⟨by rw [updV_same,if_pos rfl],by rw [if_pos rfl]; omega,by rw [if_pos rfl,World.size_alloc]; omega,?_⟩
     rw [if_pos rfl]
     exact Bk.new w 84 zero3
    ·have hkn : u.kp ≠ v.kp:=fun e=>huv (hdiff u hu v hvm (by simp [e]))
     have hpn : u.p ≠ v.p:=fun e=>huv (hdiff u hu v hvm (by simp [e]))
     obtain ⟨g1,g2,g3,g4⟩:=hg u hu (by simpa [hpn] using h)
     rw [updV_other _ _ hkn,if_neg hkn]
     exact ⟨g1,g2,by rw [World.size_alloc]; omega,g4.alloc _⟩
   ·by_cases huv : u = v
    ·by_cases huv2 : u2 = v
     ·rw [huv,huv2]
     ·exfalso
      have hkn : u2.kp ≠ v.kp:=fun e=>huv2 (hdiff u2 hu2 v hvm (by simp [e]))
      have hpn : u2.p ≠ v.p:=fun e=>huv2 (hdiff u2 hu2 v hvm (by simp [e]))
      obtain ⟨_,_,g3,_⟩:=hg u2 hu2 (by simpa [hpn] using h2)
      subst huv
      simp only [if_pos,if_neg hkn] at h3
      omega
    ·have hkn : u.kp ≠ v.kp:=fun e=>huv (hdiff u hu v hvm (by simp [e]))
     have hpn : u.p ≠ v.p:=fun e=>huv (hdiff u hu v hvm (by simp [e]))
     have h1' : D u.p = true:=by simpa [hpn] using h1
     by_cases huv2 : u2 = v
     ·exfalso
      obtain ⟨_,_,g3,_⟩:=hg u hu h1'
      subst huv2
      simp only [if_pos,if_neg hkn] at h3
      omega
     ·have hkn2 : u2.kp ≠ v.kp:=fun e=>huv2 (hdiff u2 hu2 v hvm (by simp [e]))
      have hpn2 : u2.p ≠ v.p:=fun e=>huv2 (hdiff u2 hu2 v hvm (by simp [e]))
      simp only [if_neg hkn,if_neg hkn2] at h3
      exact hgi u hu u2 hu2 h1' (by simpa [hpn2] using h2) h3
   ·rw [updV_other _ _ (hk v hvm).2]; exact hrest k hk
  ·-- a store
   obtain ⟨o',e1,e2,e3,hdc,hdp,e4⟩:=ok.store
   obtain ⟨ec,hec,hec1,hec2⟩:=dep_of hdc
   obtain ⟨ep,hep,hep1,hep2⟩:=dep_of hdp
   rw [ho] at e1; cases e1
   have dc : D v.c = true:=by rw [← hec1]; exact hdep ec hec hec2
   have dp : D v.p = true:=by rw [← hep1]; exact hdep ep hep hep2
   obtain ⟨g1,g2,g3,g4⟩:=hg v hvm dp
   have hzero : Bk w (g v.kp) 84 zero3:=by
    rw [hDi] at g4
    exact g4
   obtain ⟨w',nx,hrun,hnx,hw'⟩:=e4 { tmps:=canon T ds V,defers:=[] } w (g v.kp) (by rw [canon_at ok.kp ok.kpl]; exact g1) (by rw [canon_at ok.kc ok.kcl]; exact hc v hvm dc) hzero
   have hb2 : Below B w0 w':=by
    rw [hw']
    exact ((hb.setCell (p:=⟨g v.kp,0,none⟩) g2 _).setCell (p:=⟨g v.kp,1,none⟩) g2 _).setCell (p:=⟨g v.kp,2,none⟩) g2 _
   have hsize : w'.heap.size = w.heap.size:=by rw [hw']; simp
   have fin : S w' ∧ Inv (fun j=>D j || j == v.s) { tmps:=canon T ds V,defers:=[] } w':=by
    refine ⟨hS w' hb2,hb2,hold' _,V,rfl,fun u hu h=>?_,fun u hu h=>?_,⟨g,fun u hu h=>?_,fun u hu u2 hu2 h1 h2 h3=>?_⟩,hrest⟩
    ·have hne : u.c ≠ v.s:=(hpos u hu v hvm).2.1
     exact hc u hu (by simpa [hne] using h)
    ·by_cases huv : u = v
     ·subst huv; exact ⟨by simp [dc],by simp [dp]⟩
     ·have hne : u.s ≠ v.s:=fun e=>huv (hdiff u hu v hvm (by simp [e]))
      have h1 : D u.s = true:=by simpa [hne] using h
      obtain ⟨h2,h3⟩:=hst u hu h1
      exact ⟨by simp [h2],by simp [h3]⟩
    ·have hne : u.p ≠ v.s:=(hpos u hu v hvm).2.2
     have h1 : D u.p = true:=by simpa [hne] using h
     obtain ⟨k1,k2,k3,k4⟩:=hg u hu h1
     refine ⟨k1,k2,by rw [hsize]; exact k3,?_⟩
     by_cases huv : u = v
     ·subst huv
      have : (D u.s || u.s == u.s) = true:=by simp
      dsimp only
      rw [this,hw']
      exact bk_set3 hzero
     ·have hsn : u.s ≠ v.s:=fun e=>huv (hdiff u hu v hvm (by simp [e]))
      have : (D u.s || u.s == v.s) = D u.s:=by simp [hsn]
      dsimp only
      rw [this,hw']
      exact bk_far3 k4 (fun e=>huv (hgi u hu v hvm h1 dp e))
    ·have n1 : u.p ≠ v.s:=(hpos u hu v hvm).2.2
     have n2 : u2.p ≠ v.s:=(hpos u2 hu2 v hvm).2.2
     exact hgi u hu u2 hu2 (by simpa [n1] using h1) (by simpa [n2] using h2) h3
   rcases hnx with rfl | ⟨x,rfl⟩
   ·refine held_plain ho e2 (oper_skip hrun ?_)
    rw [e3]; exact fin
   ·refine held_plain ho e2 (oper_run hrun ?_)
    rw [e3]; exact fin
 ·intro D a w hall ⟨hb,_,V,ha,hc,_,⟨g,hg,_⟩,hrest⟩
  subst ha
  refine hQ V w hb (fun v hvm=>hc v hvm (hall _ (hsl v hvm).1)) ⟨g,fun v hvm=>?_⟩ hrest
  obtain ⟨g1,g2,_,g4⟩:=hg v hvm (hall _ (hsl v hvm).2.1)
  rw [hall _ (hsl v hvm).2.2] at g4
  exact ⟨g1,g2,g4⟩
 ·refine ⟨Below.refl _ _,fun i _ h=>h,fun k=>T.getD k undef,by rw [canon_start],fun v hvm h=>?_,fun v hvm h=>?_,⟨fun _=>0,fun v hvm h=>?_,fun u hu u2 _ h=>?_⟩,fun _ _=>rfl⟩
  ·dsimp only at h; rw [(hl2 v hvm).1] at h; cases h
  ·dsimp only at h; rw [(hl2 v hvm).2.2] at h; cases h
  ·dsimp only at h; rw [(hl2 v hvm).2.1] at h; cases h
  ·dsimp only at h; rw [(hl2 u hu).2.1] at h; cases h
end
end Go.Proofs.Ytkjceegmmhnajaa
