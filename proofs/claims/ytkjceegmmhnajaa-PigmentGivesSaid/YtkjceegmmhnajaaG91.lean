/- solved: its spec,the bounds of what it reckons; append onto one's own row as one operation. -/
import Derived.Test.YtkjceegmmhnajaaG62
import Derived.Test.YtkjceegmmhnajaaG90

set_option linter.unusedVariables false
set_option linter.unusedSimpArgs false

namespace Go.Proofs.Ytkjceegmmhnajaa
open Go.RowKit

theorem wp_append_own {P : Program} (w : World) {o : Oper} {a : Act} {K : Act → World → Prop} {Q : Exit → Act → World → Prop} (s x : Operand) (t : TypeId) (hop : o.op = Op.call { callee:=Callee.builtin Builtin.append,args:=#[s,x],argTypes:=#[t,t] })
  (e : TypeId) (i : TypeInfo) (z : Value) (size bytes : Nat) (h1 : P.underlying t = some (.slice e)) (h2 : P.info? e = some i) (h3 : i.zero = some z) (h4 : i.size = size) (h5 : i.bytes = bytes) (h6 : z.cells.size = size) (h7 : 0 < size)
  (base : Nat) (v : Value) (n : Nat) (olds : List Value) (hs : a.eval s = v) (hown : w.ownsRow base e size v n olds) (ad : Addr) (m c : Nat) (news : List Value) (hx : a.eval x = .slice (some ad) m c) (hn : news.length = m * size) (hc : ∀ j u,news[j]? = some u → w.cell? (ad.add j) = some u) (h1c : ∀ u ∈ news,u.oneCell' = true)
  (b1 : n + m ≤ maxLen) (b2 : (n + m) * bytes ≤ 140737488355328) (hbase : base ≤ w.heap.size)
  (hK : ∀ v' w',w'.ownsRow base e size v' (n + m) (olds ++ news) → w.grownBy w' v.ownBlock → K (a.put o.dst v') w') : o.wp P a w K Q:=by
 obtain ⟨v',w',hrun,r1,r2,_⟩:=run_append_own (P:=P) w base t o.type e i z size bytes h1 h2 h3 h4 h5 h6 h7 v n olds hown ad m c news hn hc h1c b1 b2 hbase
 unfold Oper.wp
 simp [execOp,hop,resolve,invoke,builtin,hs,hx,hrun,Result.andThen]
 exact hK v' w' r1 r2

theorem slpC_bd : ∀ {ds : List Vc} {ps : List Int} {v : Vc} {e : Int},slpC ds ps = some (v,e) → (∀ d ∈ ds,vb 1000 d.x d.y d.z) → (∀ p ∈ ps,ab 10000 p) → e ≠ 0 ∧ ab 6000000000 e ∧ vb 60000000000 v.x v.y v.z
 | [],[],v,e,h,_,_=>by
  simp only [slpC] at h; cases h
  have z : ab 60000000000 0:=⟨by omega,by omega⟩
  exact ⟨by omega,⟨by omega,by omega⟩,z,z,z⟩
 | [d],[p],v,e,h,hd,hp=>by
  obtain ⟨b1,b2,b3⟩:=hd d (by simp)
  have b4:=hp p (by simp)
  simp only [slpC] at h
  unfold ab at *
  split at h
  ·cases h; refine ⟨by assumption,⟨by omega,by omega⟩,⟨by dsimp only; omega,by dsimp only; omega⟩,⟨by dsimp only; omega,by dsimp only; omega⟩,⟨by dsimp only; omega,by dsimp only; omega⟩⟩
  ·split at h
   ·cases h; refine ⟨by assumption,⟨by omega,by omega⟩,⟨by dsimp only; omega,by dsimp only; omega⟩,⟨by dsimp only; omega,by dsimp only; omega⟩,⟨by dsimp only; omega,by dsimp only; omega⟩⟩
   ·split at h
    ·cases h; refine ⟨by assumption,⟨by omega,by omega⟩,⟨by dsimp only; omega,by dsimp only; omega⟩,⟨by dsimp only; omega,by dsimp only; omega⟩,⟨by dsimp only; omega,by dsimp only; omega⟩⟩
    ·cases h
 | [d,f],[p,q],v,e,h,hd,hp=>by
  obtain ⟨b1,b2,b3⟩:=hd d (by simp)
  obtain ⟨c1,c2,c3⟩:=hd f (by simp)
  have b4:=hp p (by simp)
  have b5:=hp q (by simp)
  have z : ab 60000000000 0:=⟨by omega,by omega⟩
  simp only [slpC] at h
  split at h
  ·cases h; exact ⟨by assumption,ab_mono (ab_sub (ab_mul b1 c2) (ab_mul b2 c1)) (by omega),ab_mono (ab_sub (ab_mul b4 c2) (ab_mul b2 b5)) (by omega),ab_mono (ab_sub (ab_mul b1 b5) (ab_mul b4 c1)) (by omega),z⟩
  ·split at h
   ·cases h; exact ⟨by assumption,ab_mono (ab_sub (ab_mul b1 c3) (ab_mul b3 c1)) (by omega),ab_mono (ab_sub (ab_mul b4 c3) (ab_mul b3 b5)) (by omega),z,ab_mono (ab_sub (ab_mul b1 b5) (ab_mul b4 c1)) (by omega)⟩
   ·split at h
    ·cases h; exact ⟨by assumption,ab_mono (ab_sub (ab_mul b2 c3) (ab_mul b3 c2)) (by omega),z,ab_mono (ab_sub (ab_mul b4 c3) (ab_mul b3 b5)) (by omega),ab_mono (ab_sub (ab_mul b2 b5) (ab_mul b4 c2)) (by omega)⟩
    ·cases h
 | [d,f,g],[p,q,r],v,e,h,hd,hp=>by
  obtain ⟨b1,b2,b3⟩:=hd d (by simp)
  obtain ⟨c1,c2,c3⟩:=hd f (by simp)
  obtain ⟨g1,g2,g3⟩:=hd g (by simp)
  have b4:=hp p (by simp)
  have b5:=hp q (by simp)
  have b6:=hp r (by simp)
  have det : ∀ {A B C D E F G H I : Nat} {a1 a2 a3 x1 x2 x3 y1 y2 y3 : Int},ab A a1 → ab B a2 → ab C a3 → ab D x1 → ab E x2 → ab F x3 → ab G y1 → ab H y2 → ab I y3 → ab ((B * F + C * E) * G + (C * D + A * F) * H + (A * E + B * D) * I) (((⟨a1,a2,a3⟩ : Vc).crs ⟨x1,x2,x3⟩).dot ⟨y1,y2,y3⟩):=fun h1 h2 h3 h4 h5 h6 h7 h8 h9 =>
   ab_add (ab_add (ab_mul (ab_sub (ab_mul h2 h6) (ab_mul h3 h5)) h7) (ab_mul (ab_sub (ab_mul h3 h4) (ab_mul h1 h6)) h8)) (ab_mul (ab_sub (ab_mul h1 h5) (ab_mul h2 h4)) h9)
  simp only [slpC] at h
  split at h
  ·cases h
   exact ⟨by assumption,ab_mono (det b1 b2 b3 c1 c2 c3 g1 g2 g3) (by omega),ab_mono (det b4 b2 b3 b5 c2 c3 b6 g2 g3) (by omega),ab_mono (det b1 b4 b3 c1 b5 c3 g1 b6 g3) (by omega),ab_mono (det b1 b2 b4 c1 c2 b5 g1 g2 b6) (by omega)⟩
  ·cases h
 | [],_ :: _,_,_,h,_,_=>by simp [slpC] at h
 | [_],[],_,_,h,_,_=>by simp [slpC] at h
 | [_],_ :: _ :: _,_,_,h,_,_=>by simp [slpC] at h
 | [_,_],[],_,_,h,_,_=>by simp [slpC] at h
 | [_,_],[_],_,_,h,_,_=>by simp [slpC] at h
 | [_,_],_ :: _ :: _ :: _,_,_,h,_,_=>by simp [slpC] at h
 | [_,_,_],[],_,_,h,_,_=>by simp [slpC] at h
 | [_,_,_],[_],_,_,h,_,_=>by simp [slpC] at h
 | [_,_,_],[_,_],_,_,h,_,_=>by simp [slpC] at h
 | [_,_,_],_ :: _ :: _ :: _ :: _,_,_,h,_,_=>by simp [slpC] at h
 | _ :: _ :: _ :: _ :: _,_,_,_,h,_,_=>by simp [slpC] at h

def redD (pa : Int) (a y : Vc) (e : Int) : Du :=
 let g : Int:=gcdL [e,y.x,y.y,y.z]
 let z : Vc:=⟨y.x.tdiv g,y.y.tdiv g,y.z.tdiv g⟩
 ⟨e.tdiv g * pa - z.dot a,z.x,z.y,z.z,e.tdiv g⟩
def posD (pa : Int) (a y : Vc) (e : Int) : Du:=if e < 0 then redD pa a (y.mul (-1)) (-e) else redD pa a y e
def ptN (l : List Tn) (j : Nat) : Vc:=match l[j]? with | some t=>⟨t.a,t.b,t.c⟩ | none=>⟨0,0,0⟩
def prN (l : List Tn) (j : Nat) : Int:=match l[j]? with | some t=>t.price | none=>0
theorem ptN_at {l : List Tn} {k : Nat} (h : k < l.length) : ptN l k = ⟨l[k].a,l[k].b,l[k].c⟩:=by unfold ptN; rw [List.getElem?_eq_getElem h]
theorem prN_at {l : List Tn} {k : Nat} (h : k < l.length) : prN l k = l[k].price:=by unfold prN; rw [List.getElem?_eq_getElem h]
def difL (l : List Tn) (i : Nat) (R : List Nat) : List Vc:=R.map fun j=>(ptN l j).sub (ptN l i)
def difP (l : List Tn) (i : Nat) (R : List Nat) : List Int:=R.map fun j=>prN l j - prN l i
def solC (l : List Tn) : List Nat → Option Du
 | []=>none
 | i :: R=>match slpC (difL l i R) (difP l i R) with
  | none=>none
  | some (y,e)=>some (posD (prN l i) (ptN l i) y e)
theorem ab_tdiv1 {N : Nat} {x g : Int} (h : ab N x) (hg : 1 ≤ g) : ab N (x.tdiv g):=by
 have h1 : (x.tdiv g).natAbs ≤ x.natAbs:=by
  rw [Int.natAbs_tdiv]; exact Nat.div_le_self _ _
 unfold ab at *; omega
theorem gcd_first {e : Int} {r : List Int} (he : 1 ≤ e) : 1 ≤ (gcdL (e :: r) : Int) ∧ 1 ≤ e.tdiv (gcdL (e :: r) : Int):=by
 have hd:=gcdL_dvd (e :: r) e (by simp)
 have hp : 0 < gcdL (e :: r):=Nat.pos_of_dvd_of_pos hd (by omega)
 refine ⟨by omega,?_⟩
 have h1:=(tdiv_pos (v:=e) hp hd).1
 rcases Int.lt_or_le 0 (e.tdiv (gcdL (e :: r) : Int)) with h | h
 ·omega
 ·have:=h1 h; omega
theorem redD_ok {pa : Int} {a y : Vc} {e : Int} (hp : 0 ≤ pa ∧ pa ≤ 10000) (ha : shadeV a) (hy : vb 60000000000 y.x y.y y.z) (he : 1 ≤ e ∧ e ≤ 6000000000) : okDu (redD pa a y e):=by
 obtain ⟨g1,g2⟩:=gcd_first (r:=[y.x,y.y,y.z]) he.1
 have hb : ab 6000000000 (e.tdiv (gcdL [e,y.x,y.y,y.z] : Int)):=ab_tdiv1 ⟨by omega,by omega⟩ g1
 obtain ⟨a1,a2,a3⟩:=shadeV_vb ha
 have z1:=ab_tdiv1 hy.1 g1
 have z2:=ab_tdiv1 hy.2.1 g1
 have z3:=ab_tdiv1 hy.2.2 g1
 have hpp : ab 10000 pa:=⟨by omega,by omega⟩
 have n0:=ab_sub (ab_mul hb hpp) (ab_add (ab_add (ab_mul z1 a1) (ab_mul z2 a2)) (ab_mul z3 a3))
 unfold okDu redD numOk
 dsimp only
 unfold Vc.dot
 dsimp only
 unfold ab at *
 refine ⟨⟨by omega,by omega⟩,⟨by omega,by omega⟩,⟨by omega,by omega⟩,⟨by omega,by omega⟩,by omega,by omega⟩
theorem posD_ok {pa : Int} {a y : Vc} {e : Int} (hp : 0 ≤ pa ∧ pa ≤ 10000) (ha : shadeV a) (hy : vb 60000000000 y.x y.y y.z) (he : ab 6000000000 e) (h0 : e ≠ 0) : okDu (posD pa a y e):=by
 unfold posD
 unfold ab at he
 split
 ·refine redD_ok hp ha ⟨?_,?_,?_⟩ (by omega)
  ·have:=hy.1; unfold Vc.mul ab at *; dsimp only; omega
  ·have:=hy.2.1; unfold Vc.mul ab at *; dsimp only; omega
  ·have:=hy.2.2; unfold Vc.mul ab at *; dsimp only; omega
 ·exact redD_ok hp ha hy (by omega)
theorem tin_price {l : List Tn} (hoff : ∀ t ∈ l,offTint t = false) {k : Nat} (h : k < l.length) : shadeV (ptN l k) ∧ 0 ≤ prN l k ∧ prN l k ≤ 10000:=by
 rw [ptN_at h,prN_at h]
 obtain ⟨_,h1,h2,h3,h4⟩:=offTint_no (hoff _ (List.getElem_mem h))
 exact ⟨⟨h1,h2,h3⟩,h4⟩
theorem dif_bd {l : List Tn} (hoff : ∀ t ∈ l,offTint t = false) {i : Nat} (hi : i < l.length) {R : List Nat} (hR : ∀ j ∈ R,j < l.length) : (∀ d ∈ difL l i R,vb 1000 d.x d.y d.z) ∧ ∀ p ∈ difP l i R,ab 10000 p:=by
 refine ⟨fun d hd=>?_,fun p hp=>?_⟩
 ·obtain ⟨j,hj,rfl⟩:=List.mem_map.1 hd
  exact vb_sub (tin_price hoff (hR j hj)).1 (tin_price hoff hi).1
 ·obtain ⟨j,hj,rfl⟩:=List.mem_map.1 hp
  have h1:=(tin_price hoff (hR j hj)).2
  have h2:=(tin_price hoff hi).2
  unfold ab; omega
theorem solC_ok {l : List Tn} (hoff : ∀ t ∈ l,offTint t = false) {L : List Nat} (hL : ∀ i ∈ L,i < l.length) {d : Du} (h : solC l L = some d) : okDu d:=by
 cases L with
 | nil=>cases h
 | cons i R =>
  simp only [solC] at h
  split at h
  ·cases h
  ·rename_i y e hs
   cases h
   obtain ⟨b1,b2⟩:=dif_bd hoff (hL i (by simp)) (fun j hj=>hL j (List.mem_cons_of_mem _ hj))
   obtain ⟨c1,c2,c3⟩:=slpC_bd hs b1 b2
   obtain ⟨t1,t2⟩:=tin_price hoff (hL i (by simp))
   exact posD_ok t2 t1 c3 c2 c1
end Go.Proofs.Ytkjceegmmhnajaa

namespace Go.Proofs.Ytkjceegmmhnajaa
open Go.RowKit LPX

theorem wall_cons (p : Pt) (ps : List Pt) : wall (p :: ps) = p.w + wall ps:=by
 have h : ∀ (l : List Pt) (s : Int),l.foldl (fun s p=>s + p.w) s = s + l.foldl (fun s p=>s + p.w) 0:=fun l=>by
  induction l with
  | nil=>intro s; simp
  | cons q l ih=>intro s; simp only [List.foldl_cons]; rw [ih (s + q.w),ih (0 + q.w)]; omega
 unfold wall
 simp only [List.foldl_cons]
 rw [h]; omega
theorem wsum_cons (f : Tn → Int) (l : List Tn) (p : Pt) (ps : List Pt) : wsum f l (p :: ps) = p.w * tv f l p.t + wsum f l ps:=by
 have h : ∀ (m : List Pt) (s : Int),m.foldl (fun s p=>s + p.w * tv f l p.t) s = s + m.foldl (fun s p=>s + p.w * tv f l p.t) 0:=fun m=>by
  induction m with
  | nil=>intro s; simp
  | cons q m ih=>intro s; simp only [List.foldl_cons]; rw [ih (s + q.w * tv f l q.t),ih (0 + q.w * tv f l q.t)]; omega
 unfold wsum
 simp only [List.foldl_cons]
 rw [h]; omega
theorem zip_sums (f : Tn → Int) (l : List Tn) (g : Nat) : ∀ (L : List Nat) (ws : List Int),L.length = ws.length → (∀ v ∈ ws,g ∣ v.natAbs) →
  (g : Int) * wall (List.zipWith (fun i v=>(⟨i,v.tdiv g⟩ : Pt)) (natI L) ws) = ws.sum ∧ (g : Int) * wsum f l (List.zipWith (fun i v=>(⟨i,v.tdiv g⟩ : Pt)) (natI L) ws) = dotL ws (L.map fun i : Nat=>tv f l (i : Int))
 | [],[],_,_=>by simp [natI,wall,wsum,dotL]
 | i :: L,v :: ws,hl,hd=>by
  obtain ⟨h1,h2⟩:=zip_sums f l g L ws (by simpa using hl) (fun u hu=>hd u (by simp [hu]))
  have hv : (g : Int) * v.tdiv g = v:=Int.mul_tdiv_cancel' (Int.ofNat_dvd_left.2 (hd v (by simp)))
  have e : List.zipWith (fun i v=>(⟨i,v.tdiv g⟩ : Pt)) (natI (i :: L)) (v :: ws) = ⟨(i : Int),v.tdiv g⟩ :: List.zipWith (fun i v=>(⟨i,v.tdiv g⟩ : Pt)) (natI L) ws:=rfl
  rw [e,wall_cons,wsum_cons]
  constructor
  ·rw [Int.mul_add,h1,hv]; simp
  ·show _ = v * tv f l (i : Int) + dotL ws (L.map fun i : Nat=>tv f l (i : Int))
   rw [Int.mul_add,h2,← Int.mul_assoc,hv]
 | [],_ :: _,h,_=>by simp at h
 | _ :: _,[],h,_=>by simp at h
theorem tv_pr (l : List Tn) (i : Nat) : tv Tn.price l (i : Int) = prN l i:=by
 unfold tv prN
 simp only [Int.toNat_natCast]
 cases l[i]? <;> rfl
theorem tv_x (l : List Tn) (i : Nat) : tv (sel 0) l (i : Int) = (ptV l i).x:=by
 unfold tv ptV
 simp only [Int.toNat_natCast]
 cases l[i]? <;> rfl
theorem tv_y (l : List Tn) (i : Nat) : tv (sel 1) l (i : Int) = (ptV l i).y:=by
 unfold tv ptV
 simp only [Int.toNat_natCast]
 cases l[i]? <;> rfl
theorem tv_z (l : List Tn) (i : Nat) : tv (sel 2) l (i : Int) = (ptV l i).z:=by
 unfold tv ptV
 simp only [Int.toNat_natCast]
 cases l[i]? <;> rfl
theorem dot_minus (c : Int) : ∀ (L : List Nat) (ws : List Int) (s : Nat → Int),L.length = ws.length → dotL ws (L.map fun i=>c - s i) = c * ws.sum - dotL ws (L.map s)
 | [],[],_,_=>by simp [dotL]
 | i :: L,v :: ws,s,h=>by
  have ih:=dot_minus c L ws s (by simpa using h)
  show v * (c - s i) + dotL ws (L.map fun i=>c - s i) = c * (v :: ws).sum - (v * s i + dotL ws (L.map s))
  rw [ih,List.sum_cons]; grind
 | [],_ :: _,_,h=>by simp at h
 | _ :: _,[],_,h=>by simp at h
theorem notPos_all {ws : List Int} : ws.any notPos = false ↔ ∀ v ∈ ws,0 < v:=by
 rw [List.any_eq_false]
 unfold notPos
 simp only [decide_eq_true_iff]
 exact ⟨fun h v hv=>by have:=h v hv; omega,fun h v hv=>by have:=h v hv; omega⟩
theorem rrcp_some {l : List Tn} {x : Vc} {L : List Nat} {ps : List Pt} : rrcpF l x L = some ps ↔ ∃ ws,recW (ptV l) (vV x) L = some ws ∧ ps = mkParts (natI L) ws:=by
 unfold rrcpF
 rw [rpw_rwts,pts_map]
 constructor
 ·intro h
  cases hr : rwts (L.map (ptV l)) (vV x) with
  | none=>rw [hr] at h; cases h
  | some ws =>
   rw [hr] at h
   simp only [resOf] at h
   split at h
   ·cases h
   ·rename_i hn
    cases h
    exact ⟨ws,recW_iff.2 ⟨hr,notPos_all.1 (by simpa using hn)⟩,rfl⟩
 ·rintro ⟨ws,h1,rfl⟩
  obtain ⟨h2,h3⟩:=recW_iff.1 h1
  rw [h2]
  simp only [resOf]
  rw [notPos_all.2 h3]; rfl
theorem pairwise_at {L : List Nat} (h : L.Pairwise (· < ·)) {i : Nat} (hi : i < L.length) (h0 : 0 < i) : L[i - 1] < L[i]:=by
 rw [List.pairwise_iff_getElem] at h
 exact h (i - 1) i (by omega) hi (by omega)
structure RcpOk (l : List Tn) (x : Vc) (L : List Nat) (ws : List Int) (ps : List Pt) : Prop where
 mem : L ∈ allc l.length
 rec_ : recW (ptV l) (vV x) L = some ws
 ok : recP l.length ps
 gives : rgiveB l ps x.x x.y x.z = true
 cost : ∃ g : Int,1 ≤ g ∧ g * wall ps = ws.sum ∧ g * wsum Tn.price l ps = costL (prN l) L ws
theorem rec_ok {l : List Tn} {x : Vc} (hoff : ∀ t ∈ l,offTint t = false) (hx : shadeV x) {L : List Nat} {ws : List Int} (hL : L ∈ allc l.length) (h : recW (ptV l) (vV x) L = some ws) : RcpOk l x L ws (mkParts (natI L) ws):=by
 obtain ⟨h1,h2⟩:=recW_iff.1 h
 obtain ⟨hn,hpw,hlt⟩:=mem_allc.1 hL
 obtain ⟨hlen,_,_⟩:=rwts_len h1
 rw [List.length_map] at hlen
 have hd:=gcdL_dvd ws
 obtain ⟨v0,hv0⟩ : ∃ v,v ∈ ws:=by
  cases ws with
  | nil=>rw [List.length_nil] at hlen; omega
  | cons v _=>exact ⟨v,by simp⟩
 have hg : 0 < gcdL ws:=Nat.pos_of_dvd_of_pos (hd v0 hv0) (by have:=h2 v0 hv0; omega)
 have hpts : ∀ p ∈ ptsOf l (natI L),shadeV p:=fun p hp=>by
  unfold ptsOf natI at hp
  rw [List.map_map] at hp
  obtain ⟨i,hi,rfl⟩:=List.mem_map.1 hp
  have h3:=hlt i hi
  simp only [Function.comp,Int.toNat_natCast]
  rw [List.getElem?_eq_getElem h3]
  exact offTint_sh (hoff _ (List.getElem_mem h3))
 have hrp : rpw (ptsOf l (natI L)) x = some ws:=by rw [rpw_rwts,pts_map]; exact h1
 have hsm:=rpw_red hrp hpts hx h2
 have hz:=fun f=>zip_sums f l (gcdL ws) L ws hlen hd
 have hpl : (mkParts (natI L) ws).length = L.length:=by simp [mkParts,natI,hlen]
 have hat : ∀ i (hi : i < (mkParts (natI L) ws).length),(mkParts (natI L) ws)[i] = ⟨((L[i]'(by omega) : Nat) : Int),(ws[i]'(by omega)).tdiv (gcdL ws : Nat)⟩:=fun i hi=>by
  simp [mkParts,natI]
 refine ⟨hL,h,⟨by rw [hpl]; exact hn,fun i hi=>?_,?_⟩,?_,(gcdL ws : Int),by omega,(hz Tn.price).1,?_⟩
 ·have hi' : i < L.length:=by omega
  have hiw : i < ws.length:=by omega
  unfold okPt
  rw [hat i hi]
  dsimp only
  refine ⟨⟨by omega,by have:=hlt _ (List.getElem_mem hi'); omega⟩,fun h0=>?_,?_,hsm _ (List.getElem_mem hiw)⟩
  ·rw [hat (i - 1) (by omega)]
   have:=pairwise_at hpw hi' h0
   dsimp only
   omega
  ·have h5:=h2 _ (List.getElem_mem hiw)
   have h6:=(tdiv_pos hg (hd _ (List.getElem_mem hiw))).1
   rcases Int.lt_or_le 0 ((ws[i]).tdiv (gcdL ws : Nat)) with h7 | h7
   ·omega
   ·have:=h6 h7; omega
 ·have e : weightsOf (mkParts (natI L) ws) = ws.map fun v=>v.tdiv (gcdL ws : Nat):=by
   apply List.ext_getElem
   ·simp [weightsOf,hpl,hlen]
   ·intro i h1 h2
    simp only [weightsOf,List.getElem_map]
    rw [hat i (by simpa [weightsOf] using h1)]
  rw [e]
  have hgen : ∀ (m : List Int) (g : Nat) (s : Nat),0 < g → g ∣ s → (∀ v ∈ m,g ∣ v.natAbs) → (m.map fun v=>v.tdiv (g : Nat)).foldl (fun a n=>Nat.gcd a n.natAbs) (s / g) = m.foldl (fun a n=>Nat.gcd a n.natAbs) s / g:=fun m=>by
   induction m with
   | nil=>intro g s _ _ _; rfl
   | cons v m ih =>
    intro g s hg hs hm
    simp only [List.map_cons,List.foldl_cons]
    have hv:=hm v (by simp)
    have e1 : (v.tdiv (g : Nat)).natAbs = v.natAbs / g:=by rw [Int.natAbs_tdiv]; simp; rfl
    rw [e1,Nat.gcd_div hs hv,ih g (Nat.gcd s v.natAbs) hg (Nat.dvd_gcd hs hv) (fun u hu=>hm u (by simp [hu]))]
  have:=hgen ws (gcdL ws) 0 hg (Nat.dvd_zero _) hd
  rw [Nat.zero_div] at this
  unfold gcdL at this ⊢
  rw [this,Nat.div_self]
  exact hg
 ·obtain ⟨s1,s2,s3⟩:=rwts_sum h1
  rw [List.map_map] at s1 s2 s3
  have z1:=dot_minus x.x L ws (fun i=>(ptV l i).x) hlen
  have z2:=dot_minus x.y L ws (fun i=>(ptV l i).y) hlen
  have z3:=dot_minus x.z L ws (fun i=>(ptV l i).z) hlen
  have r1 : x.x * ws.sum = dotL ws (L.map fun i=>(ptV l i).x):=by
   have : dotL ws (L.map fun i=>x.x - (ptV l i).x) = 0:=s1
   omega
  have r2 : x.y * ws.sum = dotL ws (L.map fun i=>(ptV l i).y):=by
   have : dotL ws (L.map fun i=>x.y - (ptV l i).y) = 0:=s2
   omega
  have r3 : x.z * ws.sum = dotL ws (L.map fun i=>(ptV l i).z):=by
   have : dotL ws (L.map fun i=>x.z - (ptV l i).z) = 0:=s3
   omega
  have q1:=(hz (sel 0)).2
  have q2:=(hz (sel 1)).2
  have q3:=(hz (sel 2)).2
  have qw:=(hz Tn.price).1
  simp only [tv_x] at q1
  simp only [tv_y] at q2
  simp only [tv_z] at q3
  have hgI : (gcdL ws : Int) ≠ 0:=by omega
  unfold rgiveB
  simp only [Bool.and_eq_true,decide_eq_true_iff]
  refine ⟨Int.eq_of_mul_eq_mul_left hgI ?_,Int.eq_of_mul_eq_mul_left hgI ?_,Int.eq_of_mul_eq_mul_left hgI ?_⟩
  ·show (gcdL ws : Int) * wsum (sel 0) l (mkParts (natI L) ws) = (gcdL ws : Int) * (x.x * wall (mkParts (natI L) ws))
   rw [show (gcdL ws : Int) * (x.x * wall (mkParts (natI L) ws)) = x.x * ((gcdL ws : Int) * wall (mkParts (natI L) ws)) by grind]
   exact q1.trans (r1.symm.trans (by rw [← qw]; rfl))
  ·show (gcdL ws : Int) * wsum (sel 1) l (mkParts (natI L) ws) = (gcdL ws : Int) * (x.y * wall (mkParts (natI L) ws))
   rw [show (gcdL ws : Int) * (x.y * wall (mkParts (natI L) ws)) = x.y * ((gcdL ws : Int) * wall (mkParts (natI L) ws)) by grind]
   exact q2.trans (r2.symm.trans (by rw [← qw]; rfl))
  ·show (gcdL ws : Int) * wsum (sel 2) l (mkParts (natI L) ws) = (gcdL ws : Int) * (x.z * wall (mkParts (natI L) ws))
   rw [show (gcdL ws : Int) * (x.z * wall (mkParts (natI L) ws)) = x.z * ((gcdL ws : Int) * wall (mkParts (natI L) ws)) by grind]
   exact q3.trans (r3.symm.trans (by rw [← qw]; rfl))
 ·have:=(hz Tn.price).2
  simp only [tv_pr] at this
  exact this
theorem allR_iff {l : List Tn} {x : Vc} {ps : List Pt} : ps ∈ allR l x ↔ ∃ L ∈ allc l.length,∃ ws,recW (ptV l) (vV x) L = some ws ∧ ps = mkParts (natI L) ws:=by
 rw [all_same]
 unfold rallR
 rw [List.mem_filterMap]
 constructor
 ·rintro ⟨L,hL,h⟩
  obtain ⟨ws,h1,h2⟩:=rrcp_some.1 h
  exact ⟨L,hL,ws,h1,h2⟩
 ·rintro ⟨L,hL,ws,h1,h2⟩
  exact ⟨L,hL,rrcp_some.2 ⟨ws,h1,h2⟩⟩
end Go.Proofs.Ytkjceegmmhnajaa

namespace Go.Proofs.Ytkjceegmmhnajaa
open Go.RowKit LPX

def priL (l : List Tn) (ps : List Pt) : Int × Int:=lowest (wsum Tn.price l ps) (wall ps)
def lessQ (l : List Tn) (r q : List Pt) : Bool:=decide ((priL l r).1 * (priL l q).2 < (priL l q).1 * (priL l r).2)
def stepB (l : List Tn) (b : Option (List Pt)) (r : List Pt) : Option (List Pt):=match b with
 | none=>some r
 | some q=>if lessQ l r q = true then some r else some q
def bestF (l : List Tn) (rs : List (List Pt)) : Option (List Pt):=rs.foldl (stepB l) none
theorem bestF_snoc (l : List Tn) (rs : List (List Pt)) (r : List Pt) : bestF l (rs ++ [r]) = stepB l (bestF l rs) r:=by
 unfold bestF; rw [List.foldl_append]; rfl
theorem stepB_some (l : List Tn) (b : Option (List Pt)) (r : List Pt) : ∃ q,stepB l b r = some q ∧ (q = r ∨ b = some q):=by
 unfold stepB
 cases b with
 | none=>exact ⟨r,rfl, .inl rfl⟩
 | some q =>
  dsimp only
  split
  ·exact ⟨r,rfl, .inl rfl⟩
  ·exact ⟨q,rfl, .inr rfl⟩
theorem lessQ_iff {l : List Tn} {r q : List Pt} (hr : 1 ≤ wall r) (hq : 1 ≤ wall q) : lessQ l r q = true ↔ wsum Tn.price l r * wall q < wsum Tn.price l q * wall r:=by
 unfold lessQ priL
 rw [decide_eq_true_iff]
 obtain ⟨g,g1,e1,e2⟩:=lowest_parts (wsum Tn.price l r) (wall r) hr
 obtain ⟨h,h1,f1,f2⟩:=lowest_parts (wsum Tn.price l q) (wall q) hq
 generalize lowest (wsum Tn.price l r) (wall r) = R at *
 generalize lowest (wsum Tn.price l q) (wall q) = S at *
 have hgh : 0 < g * h:=Int.mul_pos (by omega) (by omega)
 have k1 : wsum Tn.price l r * wall q = (g * h) * (R.1 * S.2):=by rw [e1,f2]; grind
 have k2 : wsum Tn.price l q * wall r = (g * h) * (S.1 * R.2):=by rw [f1,e2]; grind
 rw [k1,k2]
 exact ⟨fun hh=>Int.mul_lt_mul_of_pos_left hh hgh,fun hh=>Int.lt_of_mul_lt_mul_left hh (by omega)⟩
theorem rev_ind {α : Type} {P : List α → Prop} (h0 : P []) (h1 : ∀ l a,P l → P (l ++ [a])) : ∀ l,P l:=by
 have key : ∀ (n : Nat) (l : List α),l.length = n → P l:=fun n=>by
  induction n with
  | zero=>intro l h; rw [List.eq_nil_of_length_eq_zero h]; exact h0
  | succ n ih =>
   intro l h
   have hne : l ≠ []:=fun e=>by subst e; simp at h
   rw [← List.dropLast_concat_getLast hne]
   exact h1 _ _ (ih _ (by simp [h]))
 exact fun l=>key _ l rfl
theorem bestF_ok {l : List Tn} : ∀ (rs : List (List Pt)),(∀ r ∈ rs,1 ≤ wall r) → (bestF l rs = none → rs = []) ∧ ∀ b,bestF l rs = some b → b ∈ rs ∧ ∀ r ∈ rs,wsum Tn.price l b * wall r ≤ wsum Tn.price l r * wall b:=by
 refine rev_ind ?_ ?_
 ·intro _; exact ⟨fun _=>rfl,fun b h=>by cases h⟩
 ·intro rs r ih hw
  obtain ⟨i1,i2⟩:=ih (fun q hq=>hw q (by simp [hq]))
  have hr:=hw r (by simp)
  rw [bestF_snoc]
  refine ⟨fun h=>?_,fun b hb=>?_⟩
  ·obtain ⟨q,hq,_⟩:=stepB_some l (bestF l rs) r
   rw [hq] at h; cases h
  ·cases hbf : bestF l rs with
   | none =>
    rw [hbf] at hb
    cases hb
    have:=i1 hbf
    subst this
    exact ⟨by simp,fun q hq=>by simp at hq; subst hq; exact Int.le_refl _⟩
   | some q =>
    obtain ⟨m1,m2⟩:=i2 q hbf
    have hq:=hw q (by simp [m1])
    rw [hbf] at hb
    simp only [stepB] at hb
    split at hb
    ·rename_i hl
     cases hb
     have hlt:=(lessQ_iff hr hq).1 hl
     refine ⟨by simp,fun s hs=>?_⟩
     rcases List.mem_append.1 hs with hs | hs
     ·have h1:=m2 s hs
      have hsw:=hw s (by simp [hs])
      have k1 : wsum Tn.price l r * wall q * wall s ≤ wsum Tn.price l q * wall r * wall s:=Int.mul_le_mul_of_nonneg_right (by omega) (by omega)
      have k2 : wsum Tn.price l q * wall s * wall r ≤ wsum Tn.price l s * wall q * wall r:=Int.mul_le_mul_of_nonneg_right h1 (by omega)
      have k3 : wall q * (wsum Tn.price l r * wall s) ≤ wall q * (wsum Tn.price l s * wall r):=by
       have q1 : wall q * (wsum Tn.price l r * wall s) = wsum Tn.price l r * wall q * wall s:=by grind
       have q2 : wall q * (wsum Tn.price l s * wall r) = wsum Tn.price l s * wall q * wall r:=by grind
       have q3 : wsum Tn.price l q * wall r * wall s = wsum Tn.price l q * wall s * wall r:=by grind
       omega
      exact Int.le_of_mul_le_mul_left k3 (by omega)
     ·simp at hs; subst hs; exact Int.le_refl _
    ·rename_i hl
     cases hb
     refine ⟨by simp [m1],fun s hs=>?_⟩
     rcases List.mem_append.1 hs with hs | hs
     ·exact m2 s hs
     ·simp at hs; subst hs
      have:=mt (lessQ_iff hr hq).2 hl
      omega
theorem slp_same : ∀ (ds : List Vc) (ps : List Int),slp (ds.map vV) ps = (slpC ds ps).map fun r=>(vV r.1,r.2)
 | [],[]=>rfl
 | [d],[p]=>by
  simp only [List.map,slp,slpC]
  show (if d.x ≠ 0 then _ else if d.y ≠ 0 then _ else if d.z ≠ 0 then _ else _) = _
  by_cases h1 : d.x ≠ 0
  ·rw [if_pos h1,if_pos h1]; rfl
  ·rw [if_neg h1,if_neg h1]
   by_cases h2 : d.y ≠ 0
   ·rw [if_pos h2,if_pos h2]; rfl
   ·rw [if_neg h2,if_neg h2]
    by_cases h3 : d.z ≠ 0
    ·rw [if_pos h3,if_pos h3]; rfl
    ·rw [if_neg h3,if_neg h3]; rfl
 | [d,f],[p,q]=>by
  simp only [List.map,slp,slpC]
  show (if d.x * f.y - d.y * f.x ≠ 0 then _ else if d.x * f.z - d.z * f.x ≠ 0 then _ else if d.y * f.z - d.z * f.y ≠ 0 then _ else _) = _
  by_cases h1 : d.x * f.y - d.y * f.x ≠ 0
  ·rw [if_pos h1,if_pos h1]; rfl
  ·rw [if_neg h1,if_neg h1]
   by_cases h2 : d.x * f.z - d.z * f.x ≠ 0
   ·rw [if_pos h2,if_pos h2]; rfl
   ·rw [if_neg h2,if_neg h2]
    by_cases h3 : d.y * f.z - d.z * f.y ≠ 0
    ·rw [if_pos h3,if_pos h3]; rfl
    ·rw [if_neg h3,if_neg h3]; rfl
 | [d,f,g],[p,q,r]=>by
  simp only [List.map,slp,slpC]
  show (if (d.crs f).dot g ≠ 0 then _ else _) = _
  by_cases h1 : (d.crs f).dot g ≠ 0
  ·rw [if_pos h1,if_pos h1]; rfl
  ·rw [if_neg h1,if_neg h1]; rfl
 | [],_ :: _=>rfl
 | [_],[]=>rfl
 | [_],_ :: _ :: _=>rfl
 | [_,_],[]=>rfl
 | [_,_],[_]=>rfl
 | [_,_],_ :: _ :: _ :: _=>rfl
 | [_,_,_],[]=>rfl
 | [_,_,_],[_]=>rfl
 | [_,_,_],[_,_]=>rfl
 | [_,_,_],_ :: _ :: _ :: _ :: _=>rfl
 | _ :: _ :: _ :: _ :: _,_=>by simp [slp,slpC]
theorem pt_vV (l : List Tn) (i : Nat) : vV (ptN l i) = ptV l i:=by
 unfold ptN ptV vV
 cases l[i]? <;> rfl
theorem gcd_div4 {e a b c : Int} (he : 1 ≤ e) : (gcdL [e,a,b,c] : Int) * e.tdiv (gcdL [e,a,b,c] : Nat) = e ∧ (gcdL [e,a,b,c] : Int) * a.tdiv (gcdL [e,a,b,c] : Nat) = a ∧ (gcdL [e,a,b,c] : Int) * b.tdiv (gcdL [e,a,b,c] : Nat) = b ∧ (gcdL [e,a,b,c] : Int) * c.tdiv (gcdL [e,a,b,c] : Nat) = c:=by
 have h:=gcdL_dvd [e,a,b,c]
 exact ⟨Int.mul_tdiv_cancel' (Int.ofNat_dvd_left.2 (h e (by simp))),Int.mul_tdiv_cancel' (Int.ofNat_dvd_left.2 (h a (by simp))),Int.mul_tdiv_cancel' (Int.ofNat_dvd_left.2 (h b (by simp))),Int.mul_tdiv_cancel' (Int.ofNat_dvd_left.2 (h c (by simp)))⟩
theorem redD_at {pa : Int} {a y : Vc} {e : Int} (he : 1 ≤ e) : ∃ g : Int,1 ≤ g ∧ g * (redD pa a y e).den = e ∧ ∀ u v w : Int,g * atD (redD pa a y e) u v w = (e * pa - y.dot a) + (y.x * u + y.y * v + y.z * w):=by
 obtain ⟨h0,h1,h2,h3⟩:=gcd_div4 (a:=y.x) (b:=y.y) (c:=y.z) he
 have hg:=(gcd_first (r:=[y.x,y.y,y.z]) he).1
 refine ⟨(gcdL [e,y.x,y.y,y.z] : Int),hg,h0,fun u v w=>?_⟩
 unfold redD atD Vc.dot
 dsimp only
 generalize ((gcdL [e,y.x,y.y,y.z] : Nat) : Int) = g at *
 generalize e.tdiv g = de at *
 generalize y.x.tdiv g = z1 at *
 generalize y.y.tdiv g = z2 at *
 generalize y.z.tdiv g = z3 at *
 rw [← h0,← h1,← h2,← h3]
 grind
theorem solC_solD {l : List Tn} {i : Nat} {R : List Nat} {y : LPX.Du} (h : solD ((i :: R).map (ptV l)) ((i :: R).map (prN l)) = some y) : ∃ d,solC l (i :: R) = some d ∧ ∃ g : Int,1 ≤ g ∧ g * d.den = y.d ∧ ∀ u v w : Int,g * atD d u v w = y.at_ ⟨u,v,w⟩:=by
 simp only [List.map_cons,solD] at h
 have e1 : (R.map (ptV l)).map (fun b=>b.sub (ptV l i)) = (difL l i R).map vV:=by
  unfold difL
  rw [List.map_map,List.map_map]
  refine List.map_congr_left fun j _=>?_
  simp only [Function.comp]
  rw [vV_sub,pt_vV,pt_vV]
 have e2 : (R.map (prN l)).map (fun q=>q - prN l i) = difP l i R:=by
  unfold difP
  rw [List.map_map]; rfl
 rw [e1,e2,slp_same] at h
 unfold solC
 dsimp only
 cases hs : slpC (difL l i R) (difP l i R) with
 | none=>rw [hs] at h; cases h
 | some r =>
  obtain ⟨o,e⟩:=r
  rw [hs] at h
  simp only [Option.map_some] at h
  have he0 : e ≠ 0:=by
   have:=slp_same (difL l i R) (difP l i R)
   rw [hs] at this
   exact (slp_vals this).1
  refine ⟨_,rfl,?_⟩
  unfold posD
  split at h
  ·rename_i hneg
   cases h
   rw [if_pos hneg]
   obtain ⟨g,g1,g2,g3⟩:=redD_at (pa:=prN l i) (a:=ptN l i) (y:=o.mul (-1)) (e:=-e) (by omega)
   refine ⟨g,g1,g2,fun u v w=>?_⟩
   rw [g3,← pt_vV]; rfl
  ·rename_i hneg
   cases h
   rw [if_neg hneg]
   obtain ⟨g,g1,g2,g3⟩:=redD_at (pa:=prN l i) (a:=ptN l i) (y:=o) (e:=e) (by omega)
   refine ⟨g,g1,g2,fun u v w=>?_⟩
   rw [g3,← pt_vV]; rfl
end Go.Proofs.Ytkjceegmmhnajaa

namespace Go.Proofs.Ytkjceegmmhnajaa
open Go.RowKit LPX

theorem lowest_cop (a b : Int) (hb : 1 ≤ b) : Nat.gcd (lowest a b).1.natAbs (lowest a b).2.natAbs = 1 ∧ 1 ≤ (lowest a b).2:=by
 obtain ⟨g,g1,e1,e2⟩:=lowest_parts a b hb
 have hG : 0 < Int.gcd a b:=Int.gcd_pos_of_ne_zero_right _ (by omega)
 have k : ∀ v : Int,(v.tdiv (Int.gcd a b : Nat)).natAbs = v.natAbs / Int.gcd a b:=fun v=>by rw [Int.natAbs_tdiv]; simp; rfl
 refine ⟨?_,?_⟩
 ·show Nat.gcd (a.tdiv (Int.gcd a b : Nat)).natAbs (b.tdiv (Int.gcd a b : Nat)).natAbs = 1
  rw [k,k]
  show Nat.gcd (a.natAbs / Nat.gcd a.natAbs b.natAbs) (b.natAbs / Nat.gcd a.natAbs b.natAbs) = 1
  rw [Nat.gcd_div (Nat.gcd_dvd_left _ _) (Nat.gcd_dvd_right _ _)]
  exact Nat.div_self hG
 ·rcases Int.lt_or_le 0 (lowest a b).2 with h | h
  ·omega
  ·have : (lowest a b).2 * g ≤ 0:=Int.mul_nonpos_of_nonpos_of_nonneg h (by omega)
   omega
theorem lowest_eq {a b c d : Int} (hb : 1 ≤ b) (hd : 1 ≤ d) (h : a * d = c * b) : lowest a b = lowest c d:=by
 obtain ⟨g,g1,e1,e2⟩:=lowest_parts a b hb
 obtain ⟨k,k1,f1,f2⟩:=lowest_parts c d hd
 obtain ⟨c1,p1⟩:=lowest_cop a b hb
 obtain ⟨c2,p2⟩:=lowest_cop c d hd
 generalize lowest a b = A at *
 generalize lowest c d = B at *
 obtain ⟨A1,A2⟩:=A
 obtain ⟨B1,B2⟩:=B
 dsimp only at *
 have hx : A1 * B2 = B1 * A2:=by
  have : (g * k) * (A1 * B2) = (g * k) * (B1 * A2):=by
   have q1 : (g * k) * (A1 * B2) = (A1 * g) * (B2 * k):=by grind
   have q2 : (g * k) * (B1 * A2) = (B1 * k) * (A2 * g):=by grind
   rw [q1,q2,← e1,← e2,← f1,← f2]; exact h
  exact Int.eq_of_mul_eq_mul_left (by have:=Int.mul_pos (show 0 < g by omega) (show 0 < k by omega); omega) this
 have hn : A1.natAbs * B2.natAbs = B1.natAbs * A2.natAbs:=by rw [← Int.natAbs_mul,← Int.natAbs_mul,hx]
 have d1 : A2.natAbs ∣ B2.natAbs:=Nat.Coprime.dvd_of_dvd_mul_left (show Nat.Coprime A2.natAbs A1.natAbs by rw [Nat.Coprime,Nat.gcd_comm]; exact c1) ⟨B1.natAbs,by rw [hn,Nat.mul_comm]⟩
 have d2 : B2.natAbs ∣ A2.natAbs:=Nat.Coprime.dvd_of_dvd_mul_left (show Nat.Coprime B2.natAbs B1.natAbs by rw [Nat.Coprime,Nat.gcd_comm]; exact c2) ⟨A1.natAbs,by rw [← hn,Nat.mul_comm]⟩
 have e : A2 = B2:=by have:=Nat.dvd_antisymm d1 d2; omega
 subst e
 have : A1 = B1:=Int.eq_of_mul_eq_mul_right (by omega) hx
 rw [this]
theorem ptVat {l : List Tn} {k : Nat} (h : k < l.length) : ptV l k = ⟨l[k].a,l[k].b,l[k].c⟩:=by unfold ptV; rw [List.getElem?_eq_getElem h]
theorem sum_pos : ∀ {ws : List Int},(∀ v ∈ ws,0 < v) → 1 ≤ ws.length → 0 < ws.sum
 | [],_,h=>by simp at h
 | [v],h,_=>by simpa using h v (by simp)
 | v :: u :: ws,h,_=>by
  have:=sum_pos (ws:=u :: ws) (fun a ha=>h a (by simp at ha ⊢; exact .inr ha)) (by simp)
  have hv:=h v (by simp)
  rw [List.sum_cons]; omega
theorem RcpOk.pos {l : List Tn} {x : Vc} {L : List Nat} {ws : List Int} {ps : List Pt} (h : RcpOk l x L ws ps) : 0 < ws.sum ∧ 1 ≤ wall ps:=by
 obtain ⟨h1,h2⟩:=recW_iff.1 h.rec_
 have hl:=rwts_len h1
 rw [List.length_map] at hl
 have hs:=sum_pos h2 (by omega)
 obtain ⟨g,g1,e1,_⟩:=h.cost
 refine ⟨hs,?_⟩
 rcases Int.lt_or_le 0 (wall ps) with h3 | h3
 ·omega
 ·have : g * wall ps ≤ 0:=Int.mul_nonpos_of_nonneg_of_nonpos (by omega) h3
  omega
theorem allR_ok {l : List Tn} {x : Vc} (hoff : ∀ t ∈ l,offTint t = false) (hx : shadeV x) {ps : List Pt} (h : ps ∈ allR l x) : ∃ L ws,RcpOk l x L ws ps:=by
 obtain ⟨L,hL,ws,h1,rfl⟩:=allR_iff.1 h
 exact ⟨L,ws,rec_ok hoff hx hL h1⟩
theorem dual_ex {l : List Tn} {x : Vc} (hoff : ∀ t ∈ l,offTint t = false) (hx : shadeV x) (hn : 1 ≤ l.length) {b : List Pt} (hb : bestF l (allR l x) = some b) :
  ∃ L ∈ allc l.length,∃ d,solC l L = some d ∧ belowB d l = true ∧ sameF (lowest (atD d x.x x.y x.z) d.den) (priL l b) = true:=by
 have hw : ∀ r ∈ allR l x,1 ≤ wall r:=fun r hr=>by
  obtain ⟨L,ws,h⟩:=allR_ok hoff hx hr
  exact h.pos.2
 obtain ⟨hbm,hmin⟩:=(bestF_ok (allR l x) hw).2 b hb
 obtain ⟨LB,bw,hB⟩:=allR_ok hoff hx hbm
 obtain ⟨gb,gb1,eb1,eb2⟩:=hB.cost
 obtain ⟨pb,qb⟩:=hB.pos
 have hp : ∀ i,i < l.length → 0 ≤ prN l i:=fun i hi=>(tin_price hoff hi).2.1
 obtain ⟨L,hL,y,h1,h2,h3⟩:=dual_found (n:=l.length) (s:=ptV l) (p:=prN l) (x:=vV x) (by omega) hp hB.mem hB.rec_ (fun L hL ws hws=>by
  have hR:=rec_ok hoff hx hL hws
  obtain ⟨gr,gr1,er1,er2⟩:=hR.cost
  have hm:=hmin _ (allR_iff.2 ⟨L,hL,ws,hws,rfl⟩)
  have e : costL (prN l) LB bw * ws.sum = (gb * gr) * (wsum Tn.price l b * wall (mkParts (natI L) ws)):=by rw [← eb2,← er1]; grind
  have e' : costL (prN l) L ws * bw.sum = (gb * gr) * (wsum Tn.price l (mkParts (natI L) ws) * wall b):=by rw [← er2,← eb1]; grind
  rw [e,e']
  exact Int.mul_le_mul_of_nonneg_left hm (Int.mul_nonneg (by omega) (by omega)))
 refine ⟨L,hL,?_⟩
 obtain ⟨hLn,_,_⟩:=mem_allc.1 hL
 cases L with
 | nil=>simp at hLn
 | cons i R =>
  obtain ⟨d,hd,g,g1,g2,g3⟩:=solC_solD h1
  have hok:=solC_ok hoff (mem_allc.1 hL).2.2 hd
  refine ⟨d,hd,?_,?_⟩
  ·unfold belowB
   rw [Bool.not_eq_true',List.any_eq_false]
   intro t ht
   obtain ⟨k,hk,rfl⟩:=List.mem_iff_getElem.1 ht
   unfold over
   simp only [decide_eq_true_iff]
   have hf:=h2.2 k hk
   rw [ptVat hk,← g2,← g3,prN_at hk] at hf
   intro hlt
   have : g * (d.den * l[k].price) < g * atD d l[k].a l[k].b l[k].c:=Int.mul_lt_mul_of_pos_left hlt (by omega)
   have e : g * d.den * l[k].price = g * (d.den * l[k].price):=by grind
   omega
  ·have hat : atD d x.x x.y x.z * wall b = wsum Tn.price l b * d.den:=by
    have e1 : y.at_ (vV x) = g * atD d x.x x.y x.z:=(g3 x.x x.y x.z).symm
    rw [e1,← g2,← eb1,← eb2] at h3
    have h4 : (g * gb) * (atD d x.x x.y x.z * wall b) = (g * gb) * (wsum Tn.price l b * d.den):=by grind
    exact Int.eq_of_mul_eq_mul_left (by have:=Int.mul_pos (show 0 < g by omega) (show 0 < gb by omega); omega) h4
   unfold priL
   rw [lowest_eq (by have:=hok.2.2.2.2.1; exact this) qb hat]
   unfold sameF; simp
end Go.Proofs.Ytkjceegmmhnajaa
