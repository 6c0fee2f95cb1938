/- pigment.recipe,whole. -/
import Derived.Laws.OwnMore
import Derived.Tactics
import Derived.Test.YtkjceegmmhnajaaG61
import Derived.Test.YtkjceegmmhnajaaG62
import Derived.Test.YtkjceegmmhnajaaG84
import Derived.Test.YtkjceegmmhnajaaG85
import Derived.Test.YtkjceegmmhnajaaG86
import Derived.Test.YtkjceegmmhnajaaG87

set_option linter.unusedVariables false
set_option linter.unusedSimpArgs false

namespace Go.Proofs.Ytkjceegmmhnajaa
open Go.RowKit

def vbS (N : Nat) (v : Vc) : Prop:=vb N v.x v.y v.z
theorem vbS_crs {A B : Nat} {u v : Vc} (h : vbS A u) (k : vbS B v) : vbS (A * B + A * B) (u.crs v) :=
 ⟨ab_sub (ab_mul h.2.1 k.2.2) (ab_mul h.2.2 k.2.1),ab_sub (ab_mul h.2.2 k.1) (ab_mul h.1 k.2.2),ab_sub (ab_mul h.1 k.2.1) (ab_mul h.2.1 k.1)⟩
theorem ab_dotS {A B : Nat} {u v : Vc} (h : vbS A u) (k : vbS B v) : ab (A * B + A * B + A * B) (u.dot v):=ab_add (ab_add (ab_mul h.1 k.1) (ab_mul h.2.1 k.2.1)) (ab_mul h.2.2 k.2.2)
theorem ab_tdiv {A : Nat} {a g : Int} (h : ab A a) : ab A (a.tdiv g):=by
 have h1 : (a.tdiv g).natAbs ≤ a.natAbs:=by rw [Int.natAbs_tdiv]; exact Nat.div_le_self _ _
 unfold ab at *
 omega
theorem pwts_bd : ∀ {pts : List Vc} {x : Vc} {ws : List Int},pwts pts x = some ws → (∀ p ∈ pts,shadeV p) → shadeV x → ws.length = pts.length ∧ ∀ v ∈ ws,ab 100000000000000 v
 | [],_,_,h,_,_=>by simp [pwts] at h
 | [a],x,ws,h,_,_=>by
  simp only [pwts] at h
  split at h
  ·cases h; exact ⟨rfl,fun v hv=>by rw [List.mem_singleton.1 hv]; unfold ab; omega⟩
  ·cases h
 | [a,b],x,ws,h,hs,hx=>by
  have hu : vbS 1000 (x.sub a):=vb_sub hx (hs a (by simp))
  have hd : vbS 1000 (b.sub a):=vb_sub (hs b (by simp)) (hs a (by simp))
  simp only [pwts] at h
  generalize x.sub a = u at *
  generalize b.sub a = d at *
  split at h
  ·cases h
   refine ⟨rfl,fun v hv=>?_⟩
   have hv' : v = d.dot d - u.dot d ∨ v = u.dot d:=by simpa using hv
   rcases hv' with rfl | rfl
   ·exact ab_mono (ab_sub (ab_dotS hd hd) (ab_dotS hu hd)) (by omega)
   ·exact ab_mono (ab_dotS hu hd) (by omega)
  ·cases h
 | [a,b,c],x,ws,h,hs,hx=>by
  have hu : vbS 1000 (x.sub a):=vb_sub hx (hs a (by simp))
  have hd : vbS 1000 (b.sub a):=vb_sub (hs b (by simp)) (hs a (by simp))
  have hf : vbS 1000 (c.sub a):=vb_sub (hs c (by simp)) (hs a (by simp))
  simp only [pwts] at h
  generalize x.sub a = u at *
  generalize b.sub a = d at *
  generalize c.sub a = f at *
  have hn:=vbS_crs hd hf
  have q1:=ab_dotS hn hn
  have q2:=ab_dotS (vbS_crs hu hf) hn
  have q3:=ab_dotS (vbS_crs hd hu) hn
  split at h
  ·cases h
  ·cases h
   refine ⟨rfl,fun v hv=>?_⟩
   generalize (gcdL [(u.crs f).dot (d.crs f),(d.crs f).dot (d.crs f),(d.crs u).dot (d.crs f)] : Int) = g at *
   have hv' : v = ((d.crs f).dot (d.crs f) - (u.crs f).dot (d.crs f) - (d.crs u).dot (d.crs f)).tdiv g ∨ v = ((u.crs f).dot (d.crs f)).tdiv g ∨ v = ((d.crs u).dot (d.crs f)).tdiv g:=by simpa using hv
   rcases hv' with rfl | rfl | rfl
   ·exact ab_mono (ab_tdiv (ab_sub (ab_sub q1 q2) q3)) (by omega)
   ·exact ab_mono (ab_tdiv q2) (by omega)
   ·exact ab_mono (ab_tdiv q3) (by omega)
 | [a,b,c,e],x,ws,h,hs,hx=>by
  have hu : vbS 1000 (x.sub a):=vb_sub hx (hs a (by simp))
  have hd : vbS 1000 (b.sub a):=vb_sub (hs b (by simp)) (hs a (by simp))
  have hf : vbS 1000 (c.sub a):=vb_sub (hs c (by simp)) (hs a (by simp))
  have hg : vbS 1000 (e.sub a):=vb_sub (hs e (by simp)) (hs a (by simp))
  simp only [pwts] at h
  generalize x.sub a = u at *
  generalize b.sub a = d at *
  generalize c.sub a = f at *
  generalize e.sub a = g at *
  have q1:=ab_dotS (vbS_crs hd hf) hg
  have q2:=ab_dotS (vbS_crs hu hf) hg
  have q3:=ab_dotS (vbS_crs hd hu) hg
  have q4:=ab_dotS (vbS_crs hd hf) hu
  generalize (d.crs f).dot g = y at *
  generalize (u.crs f).dot g = p at *
  generalize (d.crs u).dot g = q at *
  generalize (d.crs f).dot u = r at *
  unfold ab at q1 q2 q3 q4
  simp only [Nat.reduceMul,Nat.reduceAdd] at q1 q2 q3 q4
  split at h
  ·cases h
  ·split at h
   ·cases h
    refine ⟨rfl,fun v hv=>?_⟩
    have hv' : v = -y - -p - -q - -r ∨ v = -p ∨ v = -q ∨ v = -r:=by simpa using hv
    unfold ab
    rcases hv' with rfl | rfl | rfl | rfl <;> omega
   ·cases h
    refine ⟨rfl,fun v hv=>?_⟩
    have hv' : v = y - p - q - r ∨ v = p ∨ v = q ∨ v = r:=by simpa using hv
    unfold ab
    rcases hv' with rfl | rfl | rfl | rfl <;> omega
 | _ :: _ :: _ :: _ :: _ :: _,_,_,h,_,_=>by simp [pwts] at h
def natI (L : List Nat) : List Int:=L.map fun i : Nat=>(i : Int)
theorem nats_ints (L : List Nat) : nats L = ints (natI L):=by simp [nats,ints,natI]
theorem natI_len (L : List Nat) : (natI L).length = L.length:=by simp [natI]
def rcpF (l : List Tn) (x : Vc) (L : List Nat) : Option (List Pt):=match pwts (ptsOf l (natI L)) x with
 | some ws=>if ws.any notPos = true then none else some (mkParts (natI L) ws)
 | none=>none
def RecR (r : Option (List Pt)) (w : World) (e : Ending) (w' : World) : Prop:=match r with
 | none=>e = .returned (.tuple #[.agg #[.slice none 0 0], .bool false]) ∧ Below w.heap.size w w'
 | some ps=>RecE ps w e w'
theorem recipe_any (l : List Tn) (L : List Nat) (x y z : Int) (At A : Option Addr) (ct c : Nat) (w : World) (hlt : Lies w w.heap.size At (tintsC l)) (hl : Lies w w.heap.size A (nats L)) (h4 : 1 ≤ L.length ∧ L.length ≤ 4) (hr : ∀ i ∈ L,i < l.length) (hm2 : l.length ≤ 1000)
  (hsh : ∀ t ∈ l,shIn t.a t.b t.c) (hx : shIn x y z) : Calls Try.prog 69 #[.slice At l.length ct, .slice A L.length c, .agg #[.int .i64 x, .int .i64 y, .int .i64 z]] w (RecR (rcpF l ⟨x,y,z⟩ L) w):=by
 have hl':=hl
 rw [nats_ints] at hl'
 have h4' : 1 ≤ (natI L).length ∧ (natI L).length ≤ 4:=by rw [natI_len]; exact h4
 have hr' : ∀ i ∈ natI L,0 ≤ i ∧ i < l.length:=fun i hi=>by
  unfold natI at hi
  obtain ⟨j,hj,rfl⟩:=List.mem_map.1 hi
  have:=hr j hj
  omega
 have hpts : ∀ p ∈ ptsOf l (natI L),shadeV p:=fun p hp=>by
  unfold ptsOf at hp
  obtain ⟨i,hi,rfl⟩:=List.mem_map.1 hp
  obtain ⟨h1,h2⟩:=hr' i hi
  have h3 : i.toNat < l.length:=by omega
  rw [List.getElem?_eq_getElem h3]
  exact hsh _ (List.getElem_mem h3)
 unfold rcpF
 cases hws : pwts (ptsOf l (natI L)) ⟨x,y,z⟩ with
 | none =>
  have:=recipe_none l (natI L) x y z At A ct c w hlt hl' h4' hr' hm2 hsh hx (fun ws h=>by rw [hws] at h; cases h)
  rw [natI_len] at this
  exact this
 | some ws =>
  dsimp only
  obtain ⟨b1,b2⟩:=pwts_bd hws hpts hx
  by_cases ha : ws.any notPos = true
  ·rw [if_pos ha]
   have:=recipe_none l (natI L) x y z At A ct c w hlt hl' h4' hr' hm2 hsh hx (fun ws' h=>by rw [hws] at h; cases h; exact ha)
   rw [natI_len] at this
   exact this
  ·rw [if_neg ha]
   have:=recipe_some l (natI L) x y z At A ct c w hlt hl' h4' hr' hm2 hsh hx ws hws (Bool.eq_false_iff.2 ha) (fun v hv=>by have:=b2 v hv; unfold ab at this; omega) (by rw [b1]; simp [ptsOf])
   rw [natI_len] at this
   exact this
end Go.Proofs.Ytkjceegmmhnajaa

namespace Go.Proofs.Ytkjceegmmhnajaa
open Go.RowKit

theorem rweights_any : ∀ (pts : List Vc) (x : Vc) (A : Option Addr) (c : Nat) (w : World) (_ : Lies w w.heap.size A (vecsC pts)) (_ : 1 ≤ pts.length ∧ pts.length ≤ 4) (_ : ∀ p ∈ pts,shadeV p) (_ : shadeV x),
  Calls Try.prog 80 #[.slice A pts.length c,x.agg] w (WEnd (rpw pts x) w)
 | [],_,_,_,_,_,h,_,_=>absurd h.1 (by simp)
 | [a],x,A,c,w,hl,_,hs,hx=>by
  obtain ⟨ad,rfl,hb,hc⟩:=hl (by simp [vecsC,Vc.cells])
  exact rweights1 a x ad c w hb (vec_at0 hc a rfl rfl rfl) (hs a (by simp)) hx
 | [a,p],x,A,c,w,hl,_,hs,hx=>by
  obtain ⟨ad,rfl,hb,hc⟩:=hl (by simp [vecsC,Vc.cells])
  exact rweights2 a p x ad c w hb (vec_at0 hc a rfl rfl rfl) (vec_at hc 3 p (by omega) rfl rfl rfl) (hs a (by simp)) (hs p (by simp)) hx
 | [a,p,q],x,A,c,w,hl,_,hs,hx=>by
  obtain ⟨ad,rfl,hb,hc⟩:=hl (by simp [vecsC,Vc.cells])
  exact rweights3 a p q x ad c w hb (vec_at0 hc a rfl rfl rfl) (vec_at hc 3 p (by omega) rfl rfl rfl) (vec_at hc 6 q (by omega) rfl rfl rfl) (hs a (by simp)) (hs p (by simp)) (hs q (by simp)) hx
 | [a,p,q,s],x,A,c,w,hl,_,hs,hx=>by
  obtain ⟨ad,rfl,hb,hc⟩:=hl (by simp [vecsC,Vc.cells])
  exact rweights4 a p q s x ad c w hb (vec_at0 hc a rfl rfl rfl) (vec_at hc 3 p (by omega) rfl rfl rfl) (vec_at hc 6 q (by omega) rfl rfl rfl) (vec_at hc 9 s (by omega) rfl rfl rfl) (hs a (by simp)) (hs p (by simp)) (hs q (by simp)) (hs s (by simp)) hx
 | _ :: _ :: _ :: _ :: _ :: _,_,_,_,_,_,h,_,_=>absurd h.2 (by simp)

theorem rpw_bd : ∀ {pts : List Vc} {x : Vc} {ws : List Int},rpw pts x = some ws → (∀ p ∈ pts,shadeV p) → shadeV x → ws.length = pts.length ∧ ∀ v ∈ ws,ab 100000000000000 v
 | [],_,_,h,_,_=>by simp [rpw] at h
 | [a],x,ws,h,_,_=>by
  simp only [rpw] at h
  split at h
  ·cases h; exact ⟨rfl,fun v hv=>by rw [List.mem_singleton.1 hv]; unfold ab; omega⟩
  ·cases h
 | [a,b],x,ws,h,hs,hx=>by
  have hu : vbS 1000 (x.sub a):=vb_sub hx (hs a (by simp))
  have hd : vbS 1000 (b.sub a):=vb_sub (hs b (by simp)) (hs a (by simp))
  simp only [rpw] at h
  generalize x.sub a = u at *
  generalize b.sub a = d at *
  split at h
  ·cases h
   refine ⟨rfl,fun v hv=>?_⟩
   have hv' : v = d.dot d - d.dot u ∨ v = d.dot u:=by simpa using hv
   rcases hv' with rfl | rfl
   ·exact ab_mono (ab_sub (ab_dotS hd hd) (ab_dotS hd hu)) (by omega)
   ·exact ab_mono (ab_dotS hd hu) (by omega)
  ·cases h
 | [a,b,c],x,ws,h,hs,hx=>by
  have hu : vbS 1000 (x.sub a):=vb_sub hx (hs a (by simp))
  have hd : vbS 1000 (b.sub a):=vb_sub (hs b (by simp)) (hs a (by simp))
  have hf : vbS 1000 (c.sub a):=vb_sub (hs c (by simp)) (hs a (by simp))
  simp only [rpw] at h
  generalize x.sub a = u at *
  generalize b.sub a = d at *
  generalize c.sub a = f at *
  have hn:=vbS_crs hd hf
  have q1:=ab_dotS hn hn
  have q2:=ab_dotS hn (vbS_crs hu hf)
  have q3:=ab_dotS hn (vbS_crs hd hu)
  split at h
  ·cases h
   refine ⟨rfl,fun v hv=>?_⟩
   have hv' : v = (d.crs f).dot (d.crs f) - (d.crs f).dot (u.crs f) - (d.crs f).dot (d.crs u) ∨ v = (d.crs f).dot (u.crs f) ∨ v = (d.crs f).dot (d.crs u):=by simpa using hv
   rcases hv' with rfl | rfl | rfl
   ·exact ab_mono (ab_sub (ab_sub q1 q2) q3) (by omega)
   ·exact ab_mono q2 (by omega)
   ·exact ab_mono q3 (by omega)
  ·cases h
 | [a,b,c,e],x,ws,h,hs,hx=>by
  have hu : vbS 1000 (x.sub a):=vb_sub hx (hs a (by simp))
  have hd : vbS 1000 (b.sub a):=vb_sub (hs b (by simp)) (hs a (by simp))
  have hf : vbS 1000 (c.sub a):=vb_sub (hs c (by simp)) (hs a (by simp))
  have hg : vbS 1000 (e.sub a):=vb_sub (hs e (by simp)) (hs a (by simp))
  simp only [rpw] at h
  generalize x.sub a = u at *
  generalize b.sub a = d at *
  generalize c.sub a = f at *
  generalize e.sub a = g at *
  have q1:=ab_dotS (vbS_crs hd hf) hg
  have q2:=ab_dotS (vbS_crs hu hf) hg
  have q3:=ab_dotS (vbS_crs hd hu) hg
  have q4:=ab_dotS (vbS_crs hd hf) hu
  generalize (d.crs f).dot g = y at *
  generalize (u.crs f).dot g = p at *
  generalize (d.crs u).dot g = q at *
  generalize (d.crs f).dot u = r at *
  unfold ab at q1 q2 q3 q4
  simp only [Nat.reduceMul,Nat.reduceAdd] at q1 q2 q3 q4
  split at h
  ·cases h
   refine ⟨rfl,fun v hv=>?_⟩
   have hv' : v = p + q + r - y ∨ v = -p ∨ v = -q ∨ v = -r:=by simpa using hv
   unfold ab
   rcases hv' with rfl | rfl | rfl | rfl <;> omega
  ·split at h
   ·cases h
    refine ⟨rfl,fun v hv=>?_⟩
    have hv' : v = y - p - q - r ∨ v = p ∨ v = q ∨ v = r:=by simpa using hv
    unfold ab
    rcases hv' with rfl | rfl | rfl | rfl <;> omega
   ·cases h
 | _ :: _ :: _ :: _ :: _ :: _,_,_,h,_,_=>by simp [rpw] at h
def resOf (L : List Int) : Option (List Int) → Option (List Pt)
 | some ws=>if ws.any notPos = true then none else some (mkParts L ws)
 | none=>none
def rrcpF (l : List Tn) (x : Vc) (L : List Nat) : Option (List Pt):=resOf (natI L) (rpw (ptsOf l (natI L)) x)
theorem gcdL_take {ws : List Int} {k : Nat} (h : k < ws.length) : gcdL (ws.take (k + 1)) = Nat.gcd (gcdL (ws.take k)) ws[k].natAbs:=by
 unfold gcdL
 rw [List.take_succ_eq_append_getElem h,List.foldl_append]; rfl
end Go.Proofs.Ytkjceegmmhnajaa

namespace Go.Proofs.Ytkjceegmmhnajaa
open Go.RowKit

theorem info37 : (Try.prog.info? 37).map (fun i=>(i.zero,i.size,i.bytes)) = some (some (.agg #[.int .i64 0, .int .i64 0, .int .i64 0]),3,24):=by kernel_rfl

theorem and_held {a b c : Prop} (h : a ∧ b) (k : c) : (a ∧ b) ∧ c:=⟨h,k⟩

set_option maxRecDepth 100000 in
set_option maxHeartbeats 2000000 in
theorem rrecipe_all (l : List Tn) (L : List Int) (x y z : Int) (At A : Option Addr) (ct c : Nat) (w : World) (hlt : Lies w w.heap.size At (tintsC l)) (hl : Lies w w.heap.size A (ints L)) (h4 : 1 ≤ L.length ∧ L.length ≤ 4) (hr : ∀ i ∈ L,0 ≤ i ∧ i < l.length) (hm2 : l.length ≤ 1000)
  (hsh : ∀ t ∈ l,shIn t.a t.b t.c) (hx : shIn x y z) (r : Option (List Int)) (hws : rpw (ptsOf l L) ⟨x,y,z⟩ = r) (hbd : ∀ ws,r = some ws → ws.length = L.length ∧ ∀ v ∈ ws, -3000000000000000000 ≤ v ∧ v ≤ 3000000000000000000) :
  Calls Try.prog 52 #[.slice At l.length ct, .slice A L.length c, .agg #[.int .i64 x, .int .i64 y, .int .i64 z]] w (RecR (resOf L r) w):=by
 obtain ⟨i0,hi0,hz0,hz1,hz2⟩:=info_parts info37
 have I37:=Lib.hid (And.intro hi0 (And.intro hz0 (And.intro hz1 hz2))); clear hi0 hz0 hz1 hz2
 have hlen : (ptsOf l L).length = L.length:=by simp [ptsOf]
 have hpts : ∀ p ∈ ptsOf l L,shadeV p:=fun p hp=>by
  unfold ptsOf at hp
  obtain ⟨i,hi,rfl⟩:=List.mem_map.1 hp
  obtain ⟨h1,h2⟩:=hr i hi
  have h3 : i.toNat < l.length:=by omega
  rw [List.getElem?_eq_getElem h3]
  exact hsh _ (List.getElem_mem h3)
 have HWt : Hid (∀ W A' c',Lies W W.heap.size A' (vecsC (ptsOf l L)) → Calls Try.prog 80 #[.slice A' L.length c', .agg #[.int .i64 x, .int .i64 y, .int .i64 z]] W (WEnd (rpw (ptsOf l L) ⟨x,y,z⟩) W)):=fun W A' c' h=>by
  have:=rweights_any (ptsOf l L) ⟨x,y,z⟩ A' c' W h (by omega) hpts hx
  rw [hlen] at this
  exact this
 have HLi : Hid (∀ W,Below w.heap.size w W → Lies W w.heap.size A (ints L)):=fun W hb=>hl.below hb (Nat.le_refl _)
 have HBD:=Lib.hid hbd
 rw [hws] at HWt
 have HR:=Lib.hid hr
 clear hws hbd hr hsh hx hpts hlen
 obtain ⟨j0,hj0,hy0,hy1,hy2⟩:=info_parts info64
 have I64:=Lib.hid (And.intro hj0 (And.intro hy0 (And.intro hy1 hy2))); clear hj0 hy0 hy1 hy2
 go_enter Try.func52,Try.ntmps52
 go_wp2
 go_loopw [8,9] (fun v s wr=>∃ k : Nat,k ≤ L.length ∧ s = .int .i64 k ∧ wr.ownsRow (w.heap.size + 1 + 1) 37 3 v k (vecsC (ptsOf l (L.take k))) ∧ Below w.heap.size w wr ∧ (Bk wr w.heap.size 37 #[.int .i64 x, .int .i64 y, .int .i64 z] ∧ Bk wr (w.heap.size + 1) 25 #[.slice none 0 0])) (fun _ s _=>L.length - (intOf s).toNat)
 case atStart =>
  have h2:=Bk.new (w.alloc (.cells #[.int .i64 x, .int .i64 y, .int .i64 z] 37)) 25 #[.slice none 0 0]
  rw [World.size_alloc] at h2
  exact ⟨0,by omega,rfl,World.ownsRow_nil _ _ _ _,(by repeat (first | with_reducible exact Below.refl _ _ | with_reducible assumption | with_reducible refine Below.drew ?_ | with_reducible refine below_drewN ?_ _ | (with_reducible refine Below.alloc ?_ ?_ _; rotate_left; (try simp) <;> omega) | (with_reducible refine Below.setCell ?_ ?_ _; rotate_left; (try simp) <;> omega))),(Bk.new _ _ _).alloc _,h2⟩
 case round =>
  obtain ⟨k,hk,rfl,hown,hbw,hbx,hby⟩:=hrel
  have hbs:=hbw.size
  have lx:=hbx.lt
  have ly:=hby.lt
  by_cases hlk : k < L.length
  ·obtain ⟨aA,uA,rfl,_,huA,hcA⟩:=(hl.below hbw (Nat.le_refl _)).at_ (k:=k) (by simpa [ints] using hlk)
   obtain rfl : uA = .int .i64 L[k]:=by simp [ints,List.getElem?_eq_getElem hlk] at huA; exact huA.symm
   obtain ⟨hi1,hi2⟩:=HR.out _ (List.getElem_mem hlk)
   have hin : L[k].toNat < l.length:=by omega
   obtain ⟨ad,rfl,_,c0,c1,c2,c3,c4⟩:=tint_at (hlt.below hbw (Nat.le_refl _)) hin
   have HP:=Lib.hid (ptsOf_take hlk hin)
   have hkI : (k : Int) < (L.length : Int):=by omega
   have hkN : 0 ≤ (k : Int):=by omega
   clear hl hlt huA
   generalize l[L[k].toNat].a = ta at *
   generalize l[L[k].toNat].b = tb at *
   generalize l[L[k].toNat].c = tc at *
   go_wp2_with (at_builtin; refine wpList_append_own _ rfl (.tmp 22) (.tmp 31) 114 rfl (w.heap.size + 1 + 1) 37 i0 (.agg #[.int .i64 0, .int .i64 0, .int .i64 0]) 3 24 Try.underlying114 I37.out.1 I37.out.2.1 I37.out.2.2.1 I37.out.2.2.2 rfl (by decide) _ k (vecsC (ptsOf l (L.take k))) rfl (hown.alloc _) ⟨wr.heap.size,0,none⟩ 1 1 [.int .i64 ta, .int .i64 tb, .int .i64 tc] rfl rfl ?c1 ?c2 ?c3 ?c4 ?c5 ?_)
   case c1=>exact cell_three_new _ _ _ _ _
   case c2=>intro u hu; simp at hu; rcases hu with rfl | rfl | rfl <;> rfl
   case c3=>unfold maxLen; omega
   case c4=>omega
   case c5=>simp; omega
   intro v' w1 hown' hgrow _
   rw [HP.out] at hown'
   have hrow : ∀ g,Value.ownBlock u8 = some g → w.heap.size + 1 + 1 ≤ g:=fun g hg=>by
    rcases hown.2 with ⟨e,_⟩ | ⟨g',_,_,e,hge,_⟩
    ·rw [e] at hg; simp [Value.ownBlock] at hg
    ·rw [e] at hg; simp [Value.ownBlock] at hg; omega
   have hb1 : Below w.heap.size w w1:=Below.grown (w:=wr.alloc _) (by repeat (first | with_reducible exact Below.refl _ _ | with_reducible assumption | with_reducible refine Below.drew ?_ | with_reducible refine below_drewN ?_ _ | (with_reducible refine Below.alloc ?_ ?_ _; rotate_left; (try simp) <;> omega) | (with_reducible refine Below.setCell ?_ ?_ _; rotate_left; (try simp) <;> omega))) hgrow (by simp; omega) (fun g hg=>by have:=hrow g hg; omega)
   have nx:=(hbx.alloc (.cells #[.int .i64 ta, .int .i64 tb, .int .i64 tc] 37)).grown hgrow (fun e=>by have:=hrow _ e.symm; omega)
   have ny:=(hby.alloc (.cells #[.int .i64 ta, .int .i64 tb, .int .i64 tc] 37)).grown hgrow (fun e=>by have:=hrow _ e.symm; omega)
   clear hgrow hown hrow
   go_wp2
   go_roundw
   case rel=>exact ⟨k + 1,by omega,by go_num,hown',hb1,nx,ny⟩
   case measure=>simp [intOf]; omega
  ·obtain rfl : k = L.length:=by omega
   rw [List.take_length] at hown
   have hform : ∃ A2 c2,u8 = .slice A2 L.length c2:=by
    rcases hown.2 with h | ⟨g',c2,_,h,_⟩
    ·exact absurd h.2 (by omega)
    ·exact ⟨_,_,h⟩
   obtain ⟨A2,c2,rfl⟩:=hform
   have HL:=Lib.hid (ownsRow_lies hown)
   have x0:=hbx.cell 0 rfl
   have x1:=hbx.cell 1 rfl
   have x2:=hbx.cell 2 rfl
   clear hown hl hlt
   go_wp2_with fail
   refine (HWt.out _ _ _ HL.out).mono ?_
   rintro e w3 ⟨A3,n3,c3,b3,rfl,hb3r,hn3,hc3,hb3⟩
   have hB3 : Below w.heap.size w w3:=hbw.trans (hb3.mono hbw.size)
   have ny:=hby.below hb3 hby.lt
   have hnl:=ny.lt
   have xy:=ny.cell 0 rfl
   have fy:=ny.fro 0
   cases r with
   | none =>
    obtain rfl : b3 = false:=hb3r
    go_wp2
    have s9:=ny.set 0 (.slice none 0 0)
    have hb9:=hB3.setCell (p:=⟨w.heap.size + 1,0,none⟩) (by simp) (.slice none 0 0)
    have xs9:=s9.cell 0 rfl
    generalize w3.setCell ⟨w.heap.size + 1,0,none⟩ (.slice none 0 0) = w9 at *
    refine bodyPost_ret (v:=.tuple #[.agg #[.slice none 0 0], .bool false]) (by simp [results,Try.results52,go_sem,xs9]) rfl ?_
    exact ⟨rfl,hb9⟩
   | some ws =>
    obtain ⟨rfl,rfl,hL3⟩:=hb3r
    obtain ⟨hwl,hbd⟩:=HBD.out ws rfl
    have HWL:=Lib.hid hwl
    have HBB:=Lib.hid hbd
    have hwl4 : ws.length ≤ 4:=by omega
    clear HBD hbd HWt HL I37 x0 x1 x2
    go_wp2
    have HNO : Hid (∀ k (h : k < ws.length),ws[k] ≤ 0 → resOf L (some ws) = none):=fun k h h0=>by
     show (if _ then _ else _) = _
     rw [if_pos (List.any_eq_true.2 ⟨ws[k],List.getElem_mem h,by unfold notPos; simpa using h0⟩)]
    have HYS : Hid ((∀ v ∈ ws,0 < v) → (ws.any notPos = false ∧ resOf L (some ws) = some (mkParts L ws))):=fun h=>by
     have e : ws.any notPos = false:=by
      cases hx : ws.any notPos with
      | false=>rfl
      | true =>
       obtain ⟨v,hv,hn⟩:=List.any_eq_true.1 hx
       unfold notPos at hn
       simp at hn
       have:=h v hv
       omega
     refine ⟨e,?_⟩
     show (if _ then _ else _) = _
     rw [e]; rfl
    go_loopw [12,13] (fun g s wr=>∃ k : Nat,k ≤ ws.length ∧ s = .int .i64 (k : Int) ∧ g = .int .i64 (gcdL (ws.take k) : Nat) ∧ gcdL (ws.take k) ≤ 3000000000000000000 ∧ Hid (∀ v ∈ ws.take k,0 < v) ∧ wr = w3) (fun _ s _=>ws.length - (intOf s).toNat)
    case atStart=>exact ⟨0,Nat.zero_le _,rfl,rfl,by simp [gcdL],fun v hv=>by simp at hv,rfl⟩
    case round =>
     obtain ⟨k,hk,rfl,rfl,hgb,hpo,hw9⟩:=hrel
     obtain rfl : w3 = wr:=hw9.symm
     by_cases hlk : k < ws.length
     ·obtain ⟨aW,uW,rfl,hbW,huW,hcW⟩:=(hL3).at_ (k:=k) (by simpa [ints] using hlk)
      obtain rfl : uW = .int .i64 ws[k]:=by simp [ints,List.getElem?_eq_getElem hlk] at huW; exact huW.symm
      have hvb:=HBB.out _ (List.getElem_mem hlk)
      have hkI : (k : Int) < (ws.length : Int):=by omega
      have hk0 : 0 ≤ (k : Int):=by omega
      by_cases hp : ws[k] ≤ 0
      ·have HN0:=Lib.hid (HNO.out k hlk hp)
       clear huW
       generalize ws[k] = wk at *
       go_wp2
       have s9:=ny.set 0 (.slice none 0 0)
       have hb9:=hB3.setCell (p:=⟨w.heap.size + 1,0,none⟩) (by simp) (.slice none 0 0)
       have xs9:=s9.cell 0 rfl
       generalize w3.setCell ⟨w.heap.size + 1,0,none⟩ (.slice none 0 0) = w9 at *
       refine bodyPost_ret (v:=.tuple #[.agg #[.slice none 0 0], .bool false]) (by simp [results,Try.results52,go_sem,xs9]) rfl ?_
       rw [HN0.out]
       exact ⟨rfl,hb9⟩
      ·have hpp : 0 < ws[k]:=by omega
       have HG:=Lib.hid (gcdL_take hlk)
       have HP2 : Hid (∀ v ∈ ws.take (k + 1),0 < v):=fun v hv=>by
        rw [List.take_succ_eq_append_getElem hlk] at hv
        rcases List.mem_append.1 hv with h | h
        ·exact hpo.out v h
        ·rw [List.mem_singleton.1 h]; exact hpp
       have hgb2 : gcdL (ws.take (k + 1)) ≤ 3000000000000000000:=by
        have h1 : gcdL (ws.take (k + 1)) ≤ ws[k].natAbs:=by rw [HG.out]; exact Nat.le_of_dvd (by omega) (Nat.gcd_dvd_right ..)
        omega
       have HCG : Hid (∀ W,Calls Try.prog 66 #[.int .i64 (gcdL (ws.take k) : Nat), .int .i64 ws[k]] W fun e w'=>e = .returned (.int .i64 (gcdL (ws.take (k + 1)) : Nat)) ∧ W = w'):=fun W=>by
        have h:=rgcd_any (gcdL (ws.take k) : Nat) ws[k] W (by unfold bigP; omega) (by unfold bigP; omega)
        have e : ((Int.gcd (gcdL (ws.take k) : Nat) ws[k] : Nat) : Int) = (gcdL (ws.take (k + 1)) : Nat):=by rw [HG.out]; rfl
        rw [e] at h
        exact h
       clear huW hpo
       generalize ws[k] = wk at *
       generalize gcdL (ws.take k) = g0 at *
       generalize hg1 : gcdL (ws.take (k + 1)) = g1 at *
       go_wp2_with (go_at_call 66; refine (HCG.out _).mono ?_; rintro e w4 ⟨rfl,rfl⟩)
       go_roundw
       case rel=>exact ⟨k + 1,by omega,by go_num,by rw [hg1],by rw [hg1]; exact hgb2,HP2,(by first | rfl | trivial)⟩
       case measure=>simp [intOf]; omega
     ·obtain rfl : k = ws.length:=by omega
      rw [List.take_length] at hgb hpo
      rw [List.take_length]
      obtain ⟨hnp,hres⟩:=HYS.out hpo.out
      have HPO:=Lib.hid hnp
      have HRES:=Lib.hid hres
      have HPV:=hpo
      clear hnp hres hpo HNO HYS
      generalize hg : (gcdL ws : Int) = g at *
      have HG:=Lib.hid hg
      clear hg
      have hgp : 0 < g:=by rw [← HG.out]; exact gcd_pos HPO.out (by rw [HWL.out]; omega)
      have hg0 : ¬ g = 0:=by omega
      have hgz : (g == 0) = false:=by rw [beq_eq_false_iff_ne]; omega
      have HML : Hid ((mkParts L ws).length = L.length):=by show _ = _; unfold mkParts; rw [List.length_zipWith,HWL.out]; exact Nat.min_self _
      have HMS : Hid (∀ k (h : k < L.length) (h2 : k < ws.length),partsC ((mkParts L ws).take k) ++ [.int .i64 L[k], .int .i64 (ws[k].tdiv g)] = partsC ((mkParts L ws).take (k + 1))):=fun k h h2=>by
       have h3 : k < (mkParts L ws).length:=by rw [HML.out]; exact h
       rw [List.take_succ_eq_append_getElem h3]
       have e1 : (mkParts L ws)[k]'h3 = ⟨L[k],ws[k].tdiv g⟩:=by rw [← HG.out]; simp only [mkParts,List.getElem_zipWith]
       rw [e1]
       simp [partsC,Pt.cells]
      have hwl1 : ws.length ≤ L.length:=by rw [HWL.out]; exact Nat.le_refl _
      have hwl2 : L.length ≤ ws.length:=by rw [HWL.out]; exact Nat.le_refl _
      have hirr0 : ¬ (ws.length : Int) < (ws.length : Int):=by omega
      have b14 : Bk (w3.alloc (.cells #[.slice none 0 0] 25)) w3.heap.size 25 #[.slice none 0 0]:=Bk.new _ _ _
      have hb0 : Below w3.heap.size w3 (w3.alloc (.cells #[.slice none 0 0] 25)):=(Below.refl _ _).alloc (Nat.le_refl _) _
      have HBW : Hid (∀ W,Below w3.heap.size w3 W → Below w.heap.size w W):=fun W hb=>hB3.trans (hb.mono hB3.size)
      have HKY : Hid (∀ W,Below w3.heap.size w3 W → Bk W (w.heap.size + 1) 25 #[.slice none 0 0]):=fun W hb=>ny.below hb hnl
      have HL5 : Hid (∀ W,Below w3.heap.size w3 W → Lies W w3.heap.size A3 (ints ws)):=fun W hb=>hL3.below hb (Nat.le_refl _)
      have hz5:=hB3.size
      clear ny hB3 hbw hbx hby hL3 xy fy hb3
      go_wp2
      go_loopw [15] (fun y wr2=>∃ (k : Nat) (v : Value),k ≤ L.length ∧ y = .int .i64 (k : Int) ∧ Below w3.heap.size w3 wr2 ∧ Bk wr2 w3.heap.size 25 #[v] ∧ wr2.ownsRow (w3.heap.size + 1) 64 2 v k (partsC ((mkParts L ws).take k))) (fun y _=>L.length - (intOf y).toNat)
      case atStart=>exact ⟨0, .slice none 0 0,Nat.zero_le _,rfl,hb0,b14,World.ownsRow_nil _ _ _ _⟩
      case round =>
      clear hb0 b14
      obtain ⟨k,v,hk,rfl,hbw,h14,hown⟩:=hrel
      obtain ⟨Av,cv,rfl,_,_⟩:=ownsSlice hown
      have hbs:=hbw.size
      have l14:=h14.lt
      have x14:=h14.cell 0 rfl
      have f14:=h14.fro 0
      by_cases hlk : k < L.length
      ·have hkw : k < ws.length:=by omega
       obtain ⟨aA,uA,rfl,_,huA,hcA⟩:=(HLi.out wr (HBW.out wr hbw)).at_ (k:=k) (by simpa [ints] using hlk)
       obtain rfl : uA = .int .i64 L[k]:=by simp [ints,List.getElem?_eq_getElem hlk] at huA; exact huA.symm
       obtain ⟨aW,uW,rfl,hbW,huW,hcW⟩:=(HL5.out wr hbw).at_ (k:=k) (by simpa [ints] using hkw)
       obtain rfl : uW = .int .i64 ws[k]:=by simp [ints,List.getElem?_eq_getElem hkw] at huW; exact huW.symm
       have HSN:=Lib.hid (HMS.out k hlk hkw)
       have hv1:=HBB.out ws[k] (List.getElem_mem hkw)
       have hv2:=HPV.out ws[k] (List.getElem_mem hkw)
       have hkI : (k : Int) < (L.length : Int):=by omega
       have hkJ : (k : Int) < (ws.length : Int):=by omega
       have hk0 : 0 ≤ (k : Int):=by omega
       have HCW : Hid (∀ W,Below w3.heap.size w3 W → W.cell? (aA.add k) = some (.int .i64 L[k]) ∧ W.cell? (aW.add k) = some (.int .i64 ws[k])):=fun W hb=>by
        obtain ⟨a',u',e',_,hu',hc'⟩:=(HL5.out W hb).at_ (k:=k) (by simpa [ints] using hkw)
        cases e'
        simp [ints,List.getElem?_eq_getElem hkw] at hu'
        obtain ⟨a2,u2,e2,_,hu2,hc2⟩:=(HLi.out W (HBW.out W hb)).at_ (k:=k) (by simpa [ints] using hlk)
        cases e2
        simp [ints,List.getElem?_eq_getElem hlk] at hu2
        rw [hu',hu2]; exact ⟨hc2,hc'⟩
       clear huA huW
       generalize L[k] = ti at *
       generalize ws[k] = wi at *
       have hquo0 : Hid (IntKind.i64.wrap (wi.tdiv g) = wi.tdiv g):=IntWalk.i64_in _ (by
        have h1 : 0 ≤ wi.tdiv g:=Int.tdiv_nonneg (by omega) (by omega)
        have h2 : wi.tdiv g ≤ wi:=by
         have:=Int.tdiv_le_self g (show 0 ≤ wi by omega)
         exact this
        omega)
       have hquo:=hquo0.out
       go_upto_region 20 with fail
       have h146:=h14.drew
       have hown6 : wr.drew.ownsRow (w3.heap.size + 1) 64 2 (.slice Av k cv) k (partsC ((mkParts L ws).take k)):=own_drew hown
       have hb6 : Below w3.heap.size w3 wr.drew:=hbw.drew
       have hc6:=HCW.out _ hb6
       have x146:=h146.cell 0 rfl
       have f146:=h146.fro 0
       have hz6:=hb6.size
       have hz66:=h146.lt
       clear x14 f14 h14 hcA hown
       refine wp_region_held_drew (S:=(fun w'=>w'.cell? (aA.add k) = some (.int .i64 ti) ∧ w'.cell? (aW.add k) = some (.int .i64 wi))) (by kernel_rfl) ?_ (fun hHeld=>?_)
       ·exact hc6
       generalize wr.drew = w6 at *
       have hb_w6:=hb6
       have hz_w6:=hb6.size
       refine tk 0 66 ?_
       refine tk 2 68 ?_
       refine tk 3 69 ?_
       refine tk 4 70 ?_
       refine tk 5 71 ?_
       refine tk 6 72 ?_
       refine tk 7 73 ?_
       refine tk 8 74 ?_
       refine tk 9 75 ?_
       refine tk 10 76 ?_
       refine tk 11 77 ?_
       refine tk 12 78 ?_
       clear hquo hHeld hc6 hcW
       refine held_two 1 13 ⟨some 67, .load 23 (.tmp 66),23,_,_,none⟩ ⟨some 79, .buildSlice 23 1 #[(0, .tmp 78)],23,_,_,none⟩ rfl rfl (by kernel_rfl) (by rfl) (by rfl) ?_ ?_
       ·unfold Oper.wp
        go_simp
        refine and_held (HCW.out _ hb_w6) ?_
        (try simp only [Act.put,List.setIfInBounds_toArray,List.set_cons_zero,List.set_cons_succ])
        refine held_one 13 ⟨some 79, .buildSlice 23 1 #[(0, .tmp 78)],23,_,_,none⟩ rfl (by kernel_rfl) (by rfl) ?_
        unfold Oper.wp
        go_simp
        have hb6b : Below w3.heap.size w3 (w6.alloc (.cells #[.int .i64 ti, .int .i64 (wi.tdiv g)] 64)):=hb_w6.alloc hz_w6 _
        have bx:=Bk.new w6 64 #[.int .i64 ti, .int .i64 (wi.tdiv g)]
        have hown6b:=hown6.alloc (.cells #[.int .i64 ti, .int .i64 (wi.tdiv g)] 64)
        have h146b:=h146.alloc (.cells #[.int .i64 ti, .int .i64 (wi.tdiv g)] 64)
        have x146b:=h146b.cell 0 rfl
        refine and_held (HCW.out _ hb6b) ?_
        (try simp only [Act.put,List.setIfInBounds_toArray,List.set_cons_zero,List.set_cons_succ])
        generalize w6.alloc (.cells #[.int .i64 ti, .int .i64 (wi.tdiv g)] 64) = w6b at *
        have hb_w6b:=hb6b
        have hz_w6b:=hb6b.size
        refine held_one 14 ⟨some 80, .call { callee:=.builtin .append,args:=#[.tmp 67, .tmp 79],argTypes:=#[23,23] },23,_,_,none⟩ rfl (by kernel_rfl) (by rfl) ?_
        refine wp_append_own _ (.tmp 67) (.tmp 79) 23 rfl (w3.heap.size + 1) 64 j0 (.agg #[.int .i64 0, .int .i64 0]) 2 16 Try.underlying23 I64.out.1 I64.out.2.1 I64.out.2.2.1 I64.out.2.2.2 rfl (by decide) (.slice Av k cv) k (partsC ((mkParts L ws).take k)) rfl hown6b ⟨w6.heap.size,0,none⟩ 1 1 [.int .i64 ti, .int .i64 (wi.tdiv g)] rfl rfl (bk_cells bx) ?_ ?_ ?_ ?_ ?_
        ·intro u hu; simp at hu; rcases hu with rfl | rfl <;> rfl
        ·unfold maxLen; omega
        ·omega
        ·have:=h146b.lt; omega
        intro v7 w7 ow7 hg7 _
        obtain ⟨A7,c7,rfl,_,_⟩:=ownsSlice ow7
        have hb7 : Below w3.heap.size w3 w7:=below_row hb_w6b hown6b hg7 (by omega) hz_w6b
        have h147 : Bk w7 w3.heap.size 25 #[.slice Av k cv]:=h146b.grown hg7 (own_ne hown6b (by omega))
        have x147:=h147.cell 0 rfl
        have f147:=h147.fro 0
        refine ⟨HCW.out _ hb7,?_⟩
        (try simp only [Act.put,List.setIfInBounds_toArray,List.set_cons_zero,List.set_cons_succ])
        have hHeld:=HCW.out _ hb7
        refine tk 15 81 ?_
        clear hHeld
        rw [HSN.out] at ow7
        have h148:=h147.set 0 (.slice A7 (k + 1) c7)
        have ow8 : (w7.setCell ⟨w3.heap.size,0,none⟩ (.slice A7 (k + 1) c7)).ownsRow (w3.heap.size + 1) 64 2 (.slice A7 (k + 1) c7) (k + 1) (partsC ((mkParts L ws).take (k + 1))):=own_setCell ow7 (by omega)
        have hb8:=hb7.setCell (p:=⟨w3.heap.size,0,none⟩) (Nat.le_refl _) (.slice A7 (k + 1) c7)
        refine held_one 16 ⟨none, .store 23 (.tmp 81) (.tmp 80),0,_,_,none⟩ rfl (by kernel_rfl) (by rfl) ?_
        unfold Oper.wp
        go_simp
        refine and_held (HCW.out _ hb8) ?_
        (try simp only [Act.put,List.setIfInBounds_toArray,List.set_cons_zero,List.set_cons_succ])
        refine wpAnyH_done (by kernel_rfl) ?_ _
        clear hg7 x146 x147 f146 f147 h146 h146b h147 hown6 hown6b
        go_wp2
        go_roundw
        case rel=>exact ⟨k + 1, .slice A7 (k + 1) c7,by omega,by go_num,hb8,h148,ow8⟩
        case measure=>simp [intOf] <;> omega
       ·unfold Oper.wp
        go_simp
        have hb6b : Below w3.heap.size w3 (w6.alloc (.cells #[.int .i64 ti, .int .i64 (wi.tdiv g)] 64)):=hb_w6.alloc hz_w6 _
        have bx:=Bk.new w6 64 #[.int .i64 ti, .int .i64 (wi.tdiv g)]
        have hown6b:=hown6.alloc (.cells #[.int .i64 ti, .int .i64 (wi.tdiv g)] 64)
        have h146b:=h146.alloc (.cells #[.int .i64 ti, .int .i64 (wi.tdiv g)] 64)
        have x146b:=h146b.cell 0 rfl
        refine and_held (HCW.out _ hb6b) ?_
        (try simp only [Act.put,List.setIfInBounds_toArray,List.set_cons_zero,List.set_cons_succ])
        generalize w6.alloc (.cells #[.int .i64 ti, .int .i64 (wi.tdiv g)] 64) = w6b at *
        have hb_w6b:=hb6b
        have hz_w6b:=hb6b.size
        refine held_one 1 ⟨some 67, .load 23 (.tmp 66),23,_,_,none⟩ rfl (by kernel_rfl) (by rfl) ?_
        unfold Oper.wp
        go_simp
        refine and_held (HCW.out _ hb_w6b) ?_
        (try simp only [Act.put,List.setIfInBounds_toArray,List.set_cons_zero,List.set_cons_succ])
        refine held_one 14 ⟨some 80, .call { callee:=.builtin .append,args:=#[.tmp 67, .tmp 79],argTypes:=#[23,23] },23,_,_,none⟩ rfl (by kernel_rfl) (by rfl) ?_
        refine wp_append_own _ (.tmp 67) (.tmp 79) 23 rfl (w3.heap.size + 1) 64 j0 (.agg #[.int .i64 0, .int .i64 0]) 2 16 Try.underlying23 I64.out.1 I64.out.2.1 I64.out.2.2.1 I64.out.2.2.2 rfl (by decide) (.slice Av k cv) k (partsC ((mkParts L ws).take k)) rfl hown6b ⟨w6.heap.size,0,none⟩ 1 1 [.int .i64 ti, .int .i64 (wi.tdiv g)] rfl rfl (bk_cells bx) ?_ ?_ ?_ ?_ ?_
        ·intro u hu; simp at hu; rcases hu with rfl | rfl <;> rfl
        ·unfold maxLen; omega
        ·omega
        ·have:=h146b.lt; omega
        intro v7 w7 ow7 hg7 _
        obtain ⟨A7,c7,rfl,_,_⟩:=ownsSlice ow7
        have hb7 : Below w3.heap.size w3 w7:=below_row hb_w6b hown6b hg7 (by omega) hz_w6b
        have h147 : Bk w7 w3.heap.size 25 #[.slice Av k cv]:=h146b.grown hg7 (own_ne hown6b (by omega))
        have x147:=h147.cell 0 rfl
        have f147:=h147.fro 0
        refine ⟨HCW.out _ hb7,?_⟩
        (try simp only [Act.put,List.setIfInBounds_toArray,List.set_cons_zero,List.set_cons_succ])
        have hHeld:=HCW.out _ hb7
        refine tk 15 81 ?_
        clear hHeld
        rw [HSN.out] at ow7
        have h148:=h147.set 0 (.slice A7 (k + 1) c7)
        have ow8 : (w7.setCell ⟨w3.heap.size,0,none⟩ (.slice A7 (k + 1) c7)).ownsRow (w3.heap.size + 1) 64 2 (.slice A7 (k + 1) c7) (k + 1) (partsC ((mkParts L ws).take (k + 1))):=own_setCell ow7 (by omega)
        have hb8:=hb7.setCell (p:=⟨w3.heap.size,0,none⟩) (Nat.le_refl _) (.slice A7 (k + 1) c7)
        refine held_one 16 ⟨none, .store 23 (.tmp 81) (.tmp 80),0,_,_,none⟩ rfl (by kernel_rfl) (by rfl) ?_
        unfold Oper.wp
        go_simp
        refine and_held (HCW.out _ hb8) ?_
        (try simp only [Act.put,List.setIfInBounds_toArray,List.set_cons_zero,List.set_cons_succ])
        refine wpAnyH_done (by kernel_rfl) ?_ _
        clear hg7 x146 x147 f146 f147 h146 h146b h147 hown6 hown6b
        go_wp2
        go_roundw
        case rel=>exact ⟨k + 1, .slice A7 (k + 1) c7,by omega,by go_num,hb8,h148,ow8⟩
        case measure=>simp [intOf] <;> omega
      ·obtain rfl : k = L.length:=by omega
       have hirr : ¬ (L.length : Int) < (ws.length : Int):=by omega
       have ny9:=HKY.out wr hbw
       have y9:=ny9.cell 0 rfl
       have fy9:=ny9.fro 0
       rw [show (mkParts L ws).take L.length = mkParts L ws by rw [← HML.out]; exact List.take_length] at hown
       go_wp2
       have s9:=ny9.set 0 (.slice Av L.length cv)
       have ow9 : (wr.setCell ⟨w.heap.size + 1,0,none⟩ (.slice Av L.length cv)).ownsRow (w3.heap.size + 1) 64 2 (.slice Av L.length cv) L.length (partsC (mkParts L ws)):=own_setCell hown (by have:=ny9.lt; omega)
       have hb9:=(HBW.out wr hbw).setCell (p:=⟨w.heap.size + 1,0,none⟩) (by simp) (.slice Av L.length cv)
       have xs9:=s9.cell 0 rfl
       generalize wr.setCell ⟨w.heap.size + 1,0,none⟩ (.slice Av L.length cv) = w9 at *
       refine bodyPost_ret (v:=.tuple #[.agg #[.slice Av L.length cv], .bool true]) (by simp [results,Try.results52,go_sem,xs9]) rfl ?_
       rw [HRES.out]
       exact ⟨_,rfl,by rw [HML.out]; exact own_more ow9 (by omega),hb9⟩
end Go.Proofs.Ytkjceegmmhnajaa

namespace Go.Proofs.Ytkjceegmmhnajaa
open LPX

def fromL (a : Nat) (M : List Nat) : Nat:=match M.getLast? with | some x=>x + 1 | none=>a
def extL (n a : Nat) (M : List Nat) : List (List Nat):=(List.range' (fromL a M) (n - fromL a M)).map fun x=>M ++ [x]
theorem extL_cons (n a i : Nat) (M : List Nat) : extL n a (i :: M) = (extL n (i + 1) M).map (i :: ·):=by
 have e : fromL a (i :: M) = fromL (i + 1) M:=by
  unfold fromL
  cases M with
  | nil=>rfl
  | cons x r=>rw [List.getLast?_cons_cons]; cases h : (x :: r).getLast? with
   | none=>simp at h
   | some y=>rfl
 unfold extL
 rw [e,List.map_map]
 rfl
theorem chs_ext (n : Nat) : ∀ (k a : Nat),chs n (k + 1) a = (chs n k a).flatMap (extL n a)
 | 0,a=>by
  simp only [chs,List.flatMap_cons,List.flatMap_nil,List.append_nil,List.map_cons,List.map_nil]
  unfold extL fromL
  simp only [List.getLast?_nil,List.nil_append]
  rw [List.map_eq_flatMap]
 | k + 1,a=>by
  have ih:=fun a=>chs_ext n k a
  rw [show chs n (k + 1 + 1) a = (List.range' a (n - a)).flatMap fun i=>(chs n (k + 1) (i + 1)).map (i :: ·) from rfl]
  rw [show chs n (k + 1) a = (List.range' a (n - a)).flatMap fun i=>(chs n k (i + 1)).map (i :: ·) from rfl]
  rw [List.flatMap_assoc]
  congr 1
  funext i
  rw [ih,List.map_flatMap,List.flatMap_map]
  congr 1
  funext M
  rw [extL_cons]
theorem flat_len {α β : Type} {f : α → List β} {c : Nat} : ∀ {l : List α},(∀ x ∈ l,(f x).length ≤ c) → (l.flatMap f).length ≤ l.length * c
 | [],_=>by simp
 | x :: r,h=>by
  have h1:=h x (by simp)
  have h2:=flat_len (l:=r) (fun y hy=>h y (List.mem_cons_of_mem _ hy))
  rw [List.flatMap_cons,List.length_append,List.length_cons,Nat.succ_mul]
  omega
theorem chs_len (n : Nat) : ∀ (k a : Nat),(chs n k a).length ≤ n ^ k
 | 0,_=>by simp [chs]
 | k + 1,a=>by
  rw [show chs n (k + 1) a = (List.range' a (n - a)).flatMap fun i=>(chs n k (i + 1)).map (i :: ·) from rfl]
  have h:=flat_len (l:=List.range' a (n - a)) (f:=fun i=>(chs n k (i + 1)).map (i :: ·)) (c:=n ^ k) (fun i _=>by rw [List.length_map]; exact chs_len n k (i + 1))
  rw [List.length_range'] at h
  rw [Nat.pow_succ,Nat.mul_comm (n ^ k) n]
  exact Nat.le_trans h (Nat.mul_le_mul_right _ (by omega))
theorem chs_bd {n k : Nat} (hn : n ≤ 12) (hk : k ≤ 4) : (chs n k 0).length ≤ 20736:=by
 have h1:=chs_len n k 0
 have h2 : n ^ k ≤ 12 ^ k:=Nat.pow_le_pow_left hn k
 have h3 : 12 ^ k ≤ 12 ^ 4:=Nat.pow_le_pow_right (by omega) hk
 have h4 : (12 : Nat) ^ 4 = 20736:=by decide
 omega
theorem ext_pre {n i j : Nat} (h : j < (chs n i 0).length) (x : Nat) (hx : x ≤ n) : ((chs n i 0).take j).flatMap (extL n 0) ++ ((List.range' (fromL 0 (chs n i 0)[j]) (x - fromL 0 (chs n i 0)[j])).map fun x=>(chs n i 0)[j] ++ [x]) <+: chs n (i + 1) 0:=by
 rw [chs_ext]
 have e : chs n i 0 = (chs n i 0).take j ++ (chs n i 0)[j] :: (chs n i 0).drop (j + 1):=by rw [List.getElem_cons_drop,List.take_append_drop]
 generalize hM : (chs n i 0)[j] = M at *
 generalize ht : (chs n i 0).take j = t at *
 rw [e,List.flatMap_append,List.flatMap_cons]
 refine (List.prefix_append_right_inj _).2 ?_
 refine List.IsPrefix.trans ?_ (List.prefix_append _ _)
 unfold extL
 by_cases hf : fromL 0 M ≤ x
 ·obtain ⟨d,rfl⟩ : ∃ d,x = fromL 0 M + d:=⟨x - fromL 0 M,by omega⟩
  obtain ⟨f,hf2⟩ : ∃ f,n = fromL 0 M + d + f:=⟨n - (fromL 0 M + d),by omega⟩
  rw [hf2,show fromL 0 M + d - fromL 0 M = d by omega,show fromL 0 M + d + f - fromL 0 M = d + f by omega,← List.range'_append_1,List.map_append]
  exact List.prefix_append _ _
 ·rw [show x - fromL 0 M = 0 by omega]
  exact List.nil_prefix
end Go.Proofs.Ytkjceegmmhnajaa

namespace Go.Proofs.Ytkjceegmmhnajaa
open Go.RowKit LPX

theorem ownsRow_below {w w' : World} {base B : Nat} {e : TypeId} {size n : Nat} {v : Value} {xs : List Value} (h : w.ownsRow base e size v n xs) (hb : Below B w w') (hB : w.heap.size ≤ B) : w'.ownsRow base e size v n xs:=by
 refine ⟨h.1,?_⟩
 rcases h.2 with h2 | ⟨g,cap,cur,h1,h2,h3,h4⟩
 ·exact .inl h2
 ·have hg : g < w.heap.size:=(Array.getElem?_eq_some_iff.1 h3).1
  exact .inr ⟨g,cap,cur,h1,h2,(hb.block g (by omega)).trans h3,h4⟩
theorem wpList_append_any {P : Program} {w : World} {ops : Array Oper} {rest : List Oper} {o : Oper} {a : Act} {Q : Exit → Act → World → Prop} (hgd : o.guard = none) (s x : Operand) (t : TypeId)
  (ho : o.op = .call { callee:=.builtin .append,args:=#[s,x],argTypes:=#[t,t] })
  (base : Nat) (e : TypeId) (i : TypeInfo) (z : Value) (size bytes : Nat) (ht : P.underlying t = some (.slice e)) (hi : P.info? e = some i) (hz : i.zero = some z)
  (hsize : i.size = size) (hby : i.bytes = bytes) (hzs : z.cells.size = size) (hsz : 0 < size)
  (v : Value) (n : Nat) (xs : List Value) (hs : a.eval s = v) (hown : w.ownsRow base e size v n xs)
  (B : Nat) (A : Option Addr) (m c : Nat) (news : List Value) (hx : a.eval x = .slice A m c) (hl : news.length = m * size) (hr : Lies w B A news) (h1 : ∀ u ∈ news,u.oneCell' = true)
  (h63 : n + m ≤ maxLen) (hbytes : (n + m) * bytes ≤ 140737488355328) (hbase : base ≤ w.heap.size)
  (h : ∀ v' w',w'.ownsRow base e size v' (n + m) (xs ++ news) → w.grownBy w' v.ownBlock → wpList P ops Q rest (a.put o.dst v') w') : wpList P ops Q (o :: rest) a w:=by
 cases A with
 | some ad =>
  refine wpList_append_own w hgd s x t ho base e i z size bytes ht hi hz hsize hby hzs hsz v n xs hs hown ad m c news hx hl (fun j u hj=>?_) h1 h63 hbytes hbase (fun v' w' h2 h3 _=>h v' w' h2 h3)
  obtain ⟨ad2,e2,_,hc⟩:=hr (by intro e; rw [e] at hj; simp at hj)
  cases e2; exact hc j u hj
 | none =>
  have hn : news = []:=Classical.byContradiction fun hne=>by
   obtain ⟨ad,e,_⟩:=hr hne
   cases e
  subst hn
  have hm : m = 0:=by
   rcases Nat.eq_zero_or_pos m with h0 | h0
   ·exact h0
   ·have:=Nat.mul_pos h0 hsz; simp at hl; omega
  subst hm
  refine wpList_plain hgd fun K hK=>?_
  have hrun : (Builtin.append_ #[t,t] o.type #[v, .slice none 0 c]).run P w = .ok v w:=by
   rcases hown.2 with ⟨rfl,rfl⟩ | ⟨g,cap,cur,rfl,_,_,hnc,_⟩
   ·simp [Builtin.append_,run_underlying ht,sizeOf,typeInfo,hi,Builtin.lenOf,Builtin.firstCells]
   ·simp [Builtin.append_,run_underlying ht,sizeOf,typeInfo,hi,Builtin.lenOf,Builtin.firstCells,hnc,storeCells]
  unfold Oper.wp
  simp [execOp,ho,resolve,invoke,builtin,hs,hx,hrun,Result.andThen]
  exact hK _ _ (h v w (by simpa using hown) (World.grownBy.refl w _))

theorem own_kept {W W' : World} {b b' e e' size size' n n' : Nat} {v v' : Value} {xs xs' : List Value} (h : W.ownsRow b e size v n xs) (h' : W.ownsRow b' e' size' v' n' xs') (hne : e ≠ e') (hg : W.grownBy W' v'.ownBlock) : W'.ownsRow b e size v n xs:=by
 refine h.kept hg ?_
 rcases h.2 with ⟨rfl,_⟩ | ⟨g,cap,cur,rfl,_,hgg,_⟩
 ·exact .inl rfl
 ·refine .inr fun ex=>?_
  rcases h'.2 with ⟨rfl,_⟩ | ⟨g',cap',cur',rfl,_,hgg',_⟩
  ·simp [Value.ownBlock] at ex
  ·simp [Value.ownBlock] at ex
   subst ex
   rw [hgg] at hgg'
   cases hgg'
   exact hne rfl
def RowL (W : World) (b : Nat) (z : Value × List Nat) : Prop:=W.ownsRow b 3 1 z.1 z.2.length (nats z.2)
theorem RowL.below {W W' : World} {b : Nat} {z : Value × List Nat} (h : RowL W b z) (hb : Below W.heap.size W W') : RowL W' b z:=ownsRow_below h hb (Nat.le_refl _)
theorem info77 : (Try.prog.info? 77).map (fun i=>(i.zero,i.size,i.bytes)) = some (some (.slice none 0 0),1,24):=by kernel_rfl
theorem fromL_zero {M : List Nat} (h : M.length = 0) : fromL 0 M = 0:=by
 rw [List.eq_nil_of_length_eq_zero h]; rfl
theorem fromL_last {M : List Nat} {i : Nat} (h : M.length = i + 1) : fromL 0 M = M[i] + 1:=by
 have e : M.getLast? = some M[i]:=by rw [List.getLast?_eq_getElem?]; simp [h]
 unfold fromL
 rw [e]

set_option maxRecDepth 100000 in
set_option maxHeartbeats 2000000 in
theorem rchoices_any (n k : Nat) (w : World) (hn : n ≤ 12) (hk4 : k ≤ 4) : Calls Try.prog 51 #[.int .i64 (n : Int), .int .i64 (k : Int)] w fun e w'=>Below w.heap.size w w' ∧ ∃ (v : Value) (zs : List (Value × List Nat)),e = .returned v ∧ zs.map Prod.snd = chs n k 0 ∧ w'.ownsRow w.heap.size 77 1 v zs.length (zs.map Prod.fst) ∧ ∀ z ∈ zs,RowL w' w.heap.size z:=by
 obtain ⟨i0,hi0,hz0,hz1,hz2⟩:=info_parts info3
 have I3:=Lib.hid (And.intro hi0 (And.intro hz0 (And.intro hz1 hz2))); clear hi0 hz0 hz1 hz2
 obtain ⟨i7,hi0,hz0,hz1,hz2⟩:=info_parts info77
 have I7:=Lib.hid (And.intro hi0 (And.intro hz0 (And.intro hz1 hz2))); clear hi0 hz0 hz1 hz2
 go_enter Try.func51,Try.ntmps51
 go_wp2
 go_loopw [5,6] (fun ov iv wr=>∃ (i : Nat) (zs : List (Value × List Nat)),i ≤ k ∧ iv = .int .i64 (i : Int) ∧ Hid (zs.map Prod.snd = chs n i 0) ∧ wr.ownsRow w.heap.size 77 1 ov zs.length (zs.map Prod.fst) ∧ Hid (∀ z ∈ zs,RowL wr w.heap.size z) ∧ Below w.heap.size w wr) (fun _ iv _=>k - (intOf iv).toNat)
 case atStart =>
  refine ⟨0,[(.slice none 0 0,[])],Nat.zero_le _,rfl,rfl,?_,fun z hz=>?_,(by repeat (first | with_reducible exact Below.refl _ _ | with_reducible assumption | with_reducible refine Below.drew ?_ | with_reducible refine below_drewN ?_ _ | (with_reducible refine Below.alloc ?_ ?_ _; rotate_left; (try simp) <;> omega) | (with_reducible refine Below.setCell ?_ ?_ _; rotate_left; (try simp) <;> omega)))⟩
  ·exact World.ownsRow_lit w #[.slice none 0 0] 1 (Nat.le_refl _) (by unfold maxLen; omega) rfl
  ·rw [List.mem_singleton.1 hz]; exact World.ownsRow_nil _ _ _ _
 case round =>
  obtain ⟨i,zs,hik,rfl,HZ,hown,HZR,hbw⟩:=hrel
  obtain ⟨Ao,co,rfl,_,_⟩:=ownsSlice hown
  by_cases hlt : i < k
  ·have hiI : (i : Int) < (k : Int):=by omega
   have hzl : zs.length = (chs n i 0).length:=by rw [← HZ.out,List.length_map]
   have hz20 : zs.length ≤ 20736:=by rw [hzl]; exact chs_bd hn (by omega)
   have hmem : Hid (∀ z ∈ zs,z.2.length = i ∧ ∀ x ∈ z.2,x < n):=fun z hz=>by
    have h1 : z.2 ∈ chs n i 0:=by rw [← HZ.out]; exact List.mem_map.2 ⟨z,hz,rfl⟩
    obtain ⟨m1,_,m3⟩:=(mem_chs _ _ _ _).1 h1
    exact ⟨m1,fun x hx=>(m3 x hx).2⟩
   have hadd0 : IntKind.i64.wrap ((i : Int) + 1) = (i : Int) + 1:=IntWalk.i64_in _ (by omega)
   have HIL:=Lib.hid hzl
   clear hzl
   obtain ⟨wo,rfl⟩ : ∃ x,x = wr:=⟨_,rfl⟩
   go_wp2
   go_loopw [7,8] (fun nv jv wr2=>∃ (j : Nat) (ys : List (Value × List Nat)),j ≤ zs.length ∧ jv = .int .i64 (j : Int) ∧ Hid (ys.map Prod.snd = ((chs n i 0).take j).flatMap (extL n 0)) ∧ wr2.ownsRow wo.heap.size 77 1 nv ys.length (ys.map Prod.fst) ∧ Hid (∀ z ∈ ys,RowL wr2 w.heap.size z) ∧ wr2.ownsRow w.heap.size 77 1 (.slice Ao zs.length co) zs.length (zs.map Prod.fst) ∧ Hid (∀ z ∈ zs,RowL wr2 w.heap.size z) ∧ Below w.heap.size w wr2 ∧ Below wo.heap.size wo wr2) (fun _ jv _=>zs.length - (intOf jv).toNat)
   case atStart=>exact ⟨0,[],Nat.zero_le _,rfl,rfl,World.ownsRow_nil _ _ _ _,(fun z hz=>by cases hz),hown,HZR,hbw,Below.refl _ _⟩
   case round =>
    obtain ⟨j,ys,hj,rfl,HY,hnv,HYR,hown2,HZR2,hbw2,hbr2⟩:=hrel
    obtain ⟨wq,rfl⟩ : ∃ x,x = wr:=⟨_,rfl⟩
    obtain ⟨An,cn,rfl,_,_⟩:=ownsSlice hnv
    by_cases hjl : j < zs.length
    ·have hjI : (j : Int) < (zs.length : Int):=by omega
     have hj0 : 0 ≤ (j : Int):=by omega
     have hadd1 : IntKind.i64.wrap ((j : Int) + 1) = (j : Int) + 1:=IntWalk.i64_in _ (by omega)
     obtain ⟨ad,uj,rfl,_,hu,hc⟩:=(ownsRow_lies hown2).at_ (k:=j) (by simpa using hjl)
     have hzj:=HZR2.out zs[j] (List.getElem_mem hjl)
     obtain ⟨hml,hmx⟩:=hmem.out zs[j] (List.getElem_mem hjl)
     have hMc : Hid (∃ h : j < (chs n i 0).length,(chs n i 0)[j] = zs[j].2):=by
      refine ⟨by rw [← HZ.out,List.length_map]; exact hjl,?_⟩
      simp only [← HZ.out,List.getElem_map]
     obtain ⟨vj,M,hzE⟩ : ∃ v M,zs[j] = (v,M):=⟨_,_,rfl⟩
     rw [hzE] at hzj hml hmx hMc
     obtain rfl : vj = uj:=by simpa [List.getElem?_eq_getElem hjl,hzE] using hu
     have HZJ:=Lib.hid hzE
     unfold RowL at hzj
     dsimp only at hzj hml hmx hMc
     clear hu hzE
     obtain ⟨Al,cl,rfl,_,_⟩:=ownsSlice hzj
     have hfn : fromL 0 M ≤ n:=by
      rcases Nat.eq_zero_or_pos i with h0 | h0
      ·rw [fromL_zero (by omega)]; omega
      ·obtain ⟨i',rfl⟩ : ∃ i',i = i' + 1:=⟨i - 1,by omega⟩
       rw [fromL_last hml]
       have:=hmx M[i'] (List.getElem_mem (by omega))
       omega
     have Hml:=Lib.hid hml
     have Hmx:=Lib.hid hmx
     clear hml hmx
     go_upto_if 24 with fail
     go_cut [9] (fun s9 wx=>s9 = .int .i64 (fromL 0 M : Nat) ∧ wx = wq)
     case first =>
      rcases Nat.eq_zero_or_pos i with h0 | h0
      ·subst h0
       have hf0:=fromL_zero Hml.out
       go_wp2_with fail
       go_meet
       exact ⟨by rw [hf0]; rfl,rfl⟩
      ·obtain ⟨i',rfl⟩ : ∃ i',i = i' + 1:=⟨i - 1,by omega⟩
       have hml:=Hml.out
       have hlt' : i' < M.length:=by omega
       obtain ⟨a2,u2,rfl,_,hu2,hc2⟩:=(ownsRow_lies hzj).at_ (k:=i') (by rw [nats_len]; exact hlt')
       obtain rfl : u2 = .int .i64 (M[i'] : Nat):=by simp [nats,List.getElem?_eq_getElem hlt'] at hu2; exact hu2.symm
       have hmx:=Hmx.out M[i'] (List.getElem_mem hlt')
       have hfe : fromL 0 M = M[i']'hlt' + 1:=fromL_last hml
       have hgt : (0 : Int) < ((i' + 1 : Nat) : Int):=by omega
       have hsb : ((i' + 1 : Nat) : Int) - 1 = (i' : Int):=by omega
       have hlI : (i' : Int) < (M.length : Int):=by omega
       have hlI0 : 0 ≤ (i' : Int):=by omega
       have HFE:=Lib.hid hfe
       clear hml hfe hu2
       generalize hmv : M[i'] = mv at *
       have hwr : IntKind.i64.wrap ((mv : Int) + 1) = (mv : Int) + 1:=IntWalk.i64_in _ (by omega)
       clear hmv
       go_wp2_with fail
       go_meet
       exact ⟨by rw [HFE.out]; rfl,rfl⟩
     case rest =>
      obtain ⟨rfl,hwc⟩:=hcut
      obtain rfl : wq = wc:=hwc.symm
      obtain ⟨hjc,hMj⟩:=hMc.out
      have HPR : Hid (∀ x,x ≤ n → ((chs n i 0).take j).flatMap (extL n 0) ++ ((List.range' (fromL 0 M) (x - fromL 0 M)).map fun x=>M ++ [x]) <+: chs n (i + 1) 0):=fun x hx=>by
       have:=ext_pre hjc x hx
       rw [hMj] at this
       exact this
      have HTK : Hid (((chs n i 0).take (j + 1)).flatMap (extL n 0) = ((chs n i 0).take j).flatMap (extL n 0) ++ ((List.range' (fromL 0 M) (n - fromL 0 M)).map fun x=>M ++ [x])):=by
       show _ = _
       rw [List.take_succ_eq_append_getElem hjc,List.flatMap_append,hMj]
       simp [extL]
      have hml4 : M.length ≤ 4:=by rw [Hml.out]; omega
      have hAd : ad.block < wo.heap.size:=by
       rcases hown.2 with ⟨h,_⟩ | ⟨g,cap,cur,h,_,hg,_⟩
       ·cases h
       ·cases h; exact (Array.getElem?_eq_some_iff.1 hg).1
      clear hMc hjc hMj hc hzj
      generalize hP : ((chs n i 0).take j).flatMap (extL n 0) = P at *
      generalize hf : fromL 0 M = f at *
      clear hP hf
      go_wp2
      go_loopw [7,10] (fun nv xv wr3=>∃ (x : Nat) (xs : List (Value × List Nat)),f ≤ x ∧ x ≤ n ∧ xv = .int .i64 (x : Int) ∧ Hid (xs.map Prod.snd = P ++ (List.range' f (x - f)).map fun x=>M ++ [x]) ∧ wr3.ownsRow wo.heap.size 77 1 nv xs.length (xs.map Prod.fst) ∧ Hid (∀ z ∈ xs,RowL wr3 w.heap.size z) ∧ wr3.ownsRow w.heap.size 77 1 (.slice (some ad) zs.length co) zs.length (zs.map Prod.fst) ∧ Hid (∀ z ∈ zs,RowL wr3 w.heap.size z) ∧ Below w.heap.size w wr3 ∧ Below wo.heap.size wo wr3) (fun _ xv _=>n - (intOf xv).toNat)
      case atStart=>exact ⟨f,ys,Nat.le_refl _,hfn,rfl,by show _ = _; rw [HY.out,Nat.sub_self]; simp,hnv,HYR,hown2,HZR2,hbw2,hbr2⟩
      case round =>
       obtain ⟨x,xs,hfx,hxn,rfl,HXS,hnv3,HXR,hown3,HZR3,hbw3,hbr3⟩:=hrel
       obtain ⟨wp,rfl⟩ : ∃ x,x = wr:=⟨_,rfl⟩
       obtain ⟨Am,cm,rfl,_,_⟩:=ownsSlice hnv3
       have hxs2 : xs.length ≤ 20736:=by
        have h1:=(HPR.out x hxn).length_le
        rw [← HXS.out,List.length_map] at h1
        exact Nat.le_trans h1 (chs_bd hn (by omega))
       by_cases hxl : x < n
       ·have hxI : (x : Int) < (n : Int):=by omega
        have haddx : IntKind.i64.wrap ((x : Int) + 1) = (x : Int) + 1:=IntWalk.i64_in _ (by omega)
        obtain ⟨ad2,u2,e2,had2,hu2,hc2⟩:=(ownsRow_lies hown3).at_ (k:=j) (by simpa using hjl)
        cases e2
        obtain rfl : u2 = .slice Al M.length cl:=by
         have h1 : (zs.map Prod.fst)[j]? = some (.slice Al M.length cl):=by rw [List.getElem?_map,List.getElem?_eq_getElem hjl,HZJ.out]; rfl
         rw [h1] at hu2
         exact (Option.some.inj hu2).symm
        have hz3:=HZR3.out zs[j] (List.getElem_mem hjl)
        rw [HZJ.out] at hz3
        unfold RowL at hz3
        dsimp only at hz3
        have hb0 : Below wp.heap.size wp (wp.alloc (.cells #[] 3)):=(Below.refl _ _).alloc (Nat.le_refl _) _
        have HL0:=Lib.hid ((ownsRow_lies hz3).below hb0 (Nat.le_refl _))
        have HO0 : Hid ((wp.alloc (.cells #[] 3)).ownsRow wp.heap.size 3 1 (.slice (some ⟨wp.heap.size,0,none⟩) 0 0) 0 []):=World.ownsRow_made wp #[] 0 (Nat.le_refl _) (by unfold maxLen; omega) rfl
        have hc3:=(hb0.cell (p:=ad.add j) (by rw [add_block]; exact had2)).trans hc2
        clear hz3 hu2 hc2
        go_wp2_with (at_builtin; refine wpList_append_any rfl (.tmp 41) (.tmp 45) 77 rfl wp.heap.size 3 i0 (.int .i64 0) 1 8 Try.underlying77 I3.out.1 I3.out.2.1 I3.out.2.2.1 I3.out.2.2.2 rfl (by decide) _ 0 [] rfl HO0.out wp.heap.size Al M.length cl (nats M) rfl (by rw [nats_len]; omega) HL0.out ?d1 ?d3 ?d4 ?d5 ?_)
        case d1=>intro u hu; unfold nats at hu; obtain ⟨_,_,rfl⟩:=List.mem_map.1 hu; rfl
        case d3=>unfold maxLen; omega
        case d4=>omega
        case d5=>exact hb0.size
        intro v6 w6 ow6 hg6
        replace ow6 : w6.ownsRow wp.heap.size 3 1 v6 M.length (nats M):=by simpa using ow6
        have hb6 : Below wp.heap.size wp w6:=below_row hb0 HO0.out hg6 (Nat.le_refl _) hb0.size
        obtain ⟨A6,c6,rfl,_,_⟩:=ownsSlice ow6
        have hz6:=hb6.size
        clear hg6 hc3
        go_wp2_with (at_builtin; refine wpList_append_own _ rfl (.tmp 46) (.tmp 48) 77 rfl wp.heap.size 3 i0 (.int .i64 0) 1 8 Try.underlying77 I3.out.1 I3.out.2.1 I3.out.2.2.1 I3.out.2.2.2 rfl (by decide) (.slice A6 M.length c6) M.length (nats M) rfl (ow6.alloc _) ⟨w6.heap.size,0,none⟩ 1 1 [.int .i64 (x : Int)] rfl rfl ?e1 ?e2 ?e3 ?e4 ?e5 ?_)
        case e1=>exact bk_cells (Bk.new w6 3 #[.int .i64 (x : Int)])
        case e2=>intro u hu; simp at hu; subst hu; rfl
        case e3=>unfold maxLen; omega
        case e4=>omega
        case e5=>simp; omega
        intro v9 w9 ow9 hg9 _
        rw [nats_snoc] at ow9
        obtain ⟨A9,c9,rfl,_,_⟩:=ownsSlice ow9
        have hb6a : Below wp.heap.size wp (w6.alloc (.cells #[.int .i64 (x : Int)] 3)):=hb6.alloc hz6 _
        have hb9 : Below wp.heap.size wp w9:=below_row hb6a (ow6.alloc _) hg9 (Nat.le_refl _) hb6a.size
        have hz9:=hb9.size
        have hnv9:=ownsRow_below hnv3 hb9 (Nat.le_refl _)
        have hwz:=hbw3.size
        have hoz:=hbr3.size
        have hwo:=hbw.size
        clear hg9
        go_wp2_with (at_builtin; refine wpList_append_own _ rfl (.tmp 40) (.tmp 50) 89 rfl wo.heap.size 77 i7 (.slice none 0 0) 1 24 Try.underlying89 I7.out.1 I7.out.2.1 I7.out.2.2.1 I7.out.2.2.2 rfl (by decide) (.slice Am xs.length cm) xs.length (xs.map Prod.fst) rfl (hnv9.alloc _) ⟨w9.heap.size,0,none⟩ 1 1 [(Value.slice A9 (M.length + 1) c9)] rfl rfl ?f1 ?f2 ?f3 ?f4 ?f5 ?_)
        case f1=>exact bk_cells (Bk.new w9 77 #[(Value.slice A9 (M.length + 1) c9)])
        case f2=>intro u hu; simp at hu; subst hu; rfl
        case f3=>unfold maxLen; omega
        case f4=>omega
        case f5=>simp; omega
        intro vB wB owB hgB _
        have hb9a : Below wp.heap.size wp (w9.alloc (.cells #[(Value.slice A9 (M.length + 1) c9)] 77)):=hb9.alloc hz9 _
        have HXR' : Hid (∀ z ∈ xs ++ [((Value.slice A9 (M.length + 1) c9),M ++ [x])],RowL wB w.heap.size z):=fun z hz=>by
         rcases List.mem_append.1 hz with h | h
         ·exact own_kept ((HXR.out z h).below hb9a) (hnv9.alloc _) (by decide) hgB
         ·rw [List.mem_singleton.1 h]
          have h9:=own_kept ((own_more ow9 (show w.heap.size ≤ wp.heap.size by omega)).alloc (.cells #[(Value.slice A9 (M.length + 1) c9)] 77)) (hnv9.alloc _) (by decide) hgB
          unfold RowL
          simpa using h9
        have HZR' : Hid (∀ z ∈ zs,RowL wB w.heap.size z):=fun z hz=>own_kept ((HZR3.out z hz).below hb9a) (hnv9.alloc _) (by decide) hgB
        have hownB : wB.ownsRow w.heap.size 77 1 (.slice (some ad) zs.length co) zs.length (zs.map Prod.fst):=by
         refine (ownsRow_below hown3 hb9a (Nat.le_refl _)).kept hgB (.inr fun e=>?_)
         have h1:=(hnv9.lt (Value.ownBlock (.slice (some ad) zs.length co) |>.getD 0) (by rw [← e]; rfl)).1
         simp [Value.ownBlock] at h1
         omega
        have hbwB : Below w.heap.size w wB:=below_row (hbw3.trans (hb9a.mono hwz)) (hnv9.alloc _) hgB (by omega) (by simp; omega)
        have hbrB : Below wo.heap.size wo wB:=below_row (hbr3.trans (hb9a.mono hoz)) (hnv9.alloc _) hgB (Nat.le_refl _) (by simp; omega)
        have HXS' : Hid ((xs ++ [((Value.slice A9 (M.length + 1) c9),M ++ [x])]).map Prod.snd = P ++ (List.range' f (x + 1 - f)).map fun x=>M ++ [x]):=by
         show _ = _
         rw [List.map_append,HXS.out,show x + 1 - f = (x - f) + 1 by omega,List.range'_1_concat,List.map_append,List.append_assoc]
         simp [show f + (x - f) = x by omega]
        have howB : wB.ownsRow wo.heap.size 77 1 vB (xs ++ [((Value.slice A9 (M.length + 1) c9),M ++ [x])]).length ((xs ++ [((Value.slice A9 (M.length + 1) c9),M ++ [x])]).map Prod.fst):=by
         simpa using owB
        clear hgB owB hnv9 hnv3 hown3 ow9 ow6 hb9a hb9 hb6a hb6 hb0
        go_wp2
        go_roundw
        case rel=>exact ⟨x + 1,xs ++ [((Value.slice A9 (M.length + 1) c9),M ++ [x])],by omega,by omega,by go_num,HXS',howB,HXR',hownB,HZR',hbwB,hbrB⟩
        case measure=>simp [intOf] <;> omega
       ·obtain rfl : x = n:=by omega
        have hirr : ¬ (x : Int) < (x : Int):=by omega
        have HYN : Hid (xs.map Prod.snd = ((chs x i 0).take (j + 1)).flatMap (extL x 0)):=by show _ = _; rw [HXS.out,HTK.out]
        go_wp2
        go_roundw
        case rel=>exact ⟨j + 1,xs,by omega,by go_num,HYN,hnv3,HXR,hown3,HZR3,hbw3,hbr3⟩
        case measure=>simp [intOf] <;> omega
    ·obtain rfl : j = zs.length:=by omega
     have hirr : ¬ (zs.length : Int) < (zs.length : Int):=by omega
     have HYN : Hid (ys.map Prod.snd = chs n (i + 1) 0):=by
      show _ = _
      rw [HY.out,HIL.out,List.take_length,← chs_ext]
     have hz1:=hbw.size
     go_wp2
     go_roundw
     case rel=>exact ⟨i + 1,ys,by omega,by go_num,HYN,own_more hnv (by omega),HYR,hbw2⟩
     case measure=>simp [intOf] <;> omega
  ·obtain rfl : i = k:=by omega
   have hirr : ¬ (i : Int) < (i : Int):=by omega
   go_wp2
   go_ret
   exact ⟨hbw,_,rfl,zs,HZ.out,hown,fun a b h=>HZR.out (a,b) h⟩
end Go.Proofs.Ytkjceegmmhnajaa
