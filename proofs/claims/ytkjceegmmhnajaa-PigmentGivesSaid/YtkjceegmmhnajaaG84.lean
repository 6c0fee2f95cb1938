/- What the weights say; the normals that part; the slopes. Plain mathematics. -/
import Derived.Deep.CutRange
import Derived.RangeFuncWrites
import Derived.OrdersHeld
import Derived.OrdersIn
import Derived.ArgAppend
import Derived.IntWalk
import Derived.Lib.Hide
import Derived.Deep.DeepCutAuto
import Derived.Shelf.Abstract
import Derived.RangeFuncNested
import Derived.RangeFuncBound
import Derived.RangeFuncCalls
import Derived.RangeFuncLeaves
import Derived.OwnWalkIn
import Derived.TacticsInMore
import Derived.LoopNIn
import Derived.LoopIn
import Derived.Test.YtkjceegmmhnajaaG60
import Derived.Test.YtkjceegmmhnajaaG61
import Derived.Test.YtkjceegmmhnajaaG62
import Derived.Test.YtkjceegmmhnajaaG64
import Derived.Test.YtkjceegmmhnajaaG82
import Derived.Test.YtkjceegmmhnajaaG83

set_option linter.unusedVariables false
set_option linter.unusedSimpArgs false

namespace Go.Proofs.Ytkjceegmmhnajaa.LPX

def wl : List Nat → List Int → Nat → Int
 | i :: L,a :: ws=>fun t=>a * e i t + 1 * wl L ws t
 | _,_=>fun _=>0
def dotL : List Int → List Int → Int
 | a :: l,b :: m=>a * b + dotL l m
 | _,_=>0
theorem sm_wl (n : Nat) (g : Nat → Int) : ∀ (L : List Nat) (ws : List Int),(∀ i ∈ L,i < n) → sm n (wl L ws) g = dotL ws (L.map g)
 | [],ws,_=>by
  cases ws <;> exact sm_zero n fun i _=>rfl
 | i :: L,[],_=>sm_zero n fun i _=>rfl
 | i :: L,a :: ws,h=>by
  show sm n (fun t=>a * e i t + 1 * wl L ws t) g = a * g i + dotL ws (L.map g)
  rw [sm_lin,sm_e i g n (h i (by simp)),sm_wl n g L ws (fun j hj=>h j (by simp [hj]))]
  simp
theorem wl_mem : ∀ (L : List Nat) (ws : List Int) (t : Nat),wl L ws t ≠ 0 → t ∈ L
 | [],ws,t,h=>absurd rfl h
 | i :: L,[],t,h=>absurd rfl h
 | i :: L,a :: ws,t,h=>by
  by_cases h1 : e i t = 0
  ·have : wl L ws t ≠ 0:=fun h2=>h (by show a * e i t + 1 * wl L ws t = 0; rw [h1,h2]; simp)
   exact List.mem_cons_of_mem _ (wl_mem L ws t this)
  ·rw [e_ne h1]; simp
theorem wl_nn : ∀ (L : List Nat) (ws : List Int) (t : Nat),(∀ v ∈ ws,0 < v) → 0 ≤ wl L ws t ∧ (L.length = ws.length → t ∈ L → 0 < wl L ws t)
 | [],ws,t,_=>⟨Int.le_refl _,fun _ h=>by cases h⟩
 | i :: L,[],t,_=>⟨Int.le_refl _,fun h=>by simp at h⟩
 | i :: L,a :: ws,t,h=>by
  have ih:=wl_nn L ws t (fun v hv=>h v (by simp [hv]))
  have ha:=h a (by simp)
  have he : 0 ≤ e i t:=by unfold e; split <;> omega
  have h1 : 0 ≤ a * e i t:=Int.mul_nonneg (by omega) he
  refine ⟨by show 0 ≤ a * e i t + 1 * wl L ws t; omega,fun hl ht=>?_⟩
  show 0 < a * e i t + 1 * wl L ws t
  rcases List.mem_cons.1 ht with rfl | ht
  ·rw [e_self]; omega
  ·have:=ih.2 (by simpa using hl) ht
   omega
section
variable {n : Nat} {s : Nat → V} {x : V}
theorem rwts_len : ∀ {ps : List V} {ws : List Int},rwts ps x = some ws → ps.length = ws.length ∧ 1 ≤ ps.length ∧ ps.length ≤ 4
 | [],_,h=>by cases h
 | [a],ws,h=>by
  simp only [rwts] at h
  split at h <;> cases h; simp
 | [a,b],ws,h=>by
  simp only [rwts] at h
  split at h <;> cases h; simp
 | [a,b,c],ws,h=>by
  simp only [rwts] at h
  split at h <;> cases h; simp
 | [a,b,c,d],ws,h=>by
  simp only [rwts] at h
  split at h
  ·cases h
  ·split at h <;> cases h <;> simp
 | _ :: _ :: _ :: _ :: _ :: _,_,h=>by cases h
theorem rwts_sum : ∀ {ps : List V} {ws : List Int},rwts ps x = some ws → dotL ws (ps.map fun a=>x.x - a.x) = 0 ∧ dotL ws (ps.map fun a=>x.y - a.y) = 0 ∧ dotL ws (ps.map fun a=>x.z - a.z) = 0
 | [],_,h=>by cases h
 | [a],ws,h=>by
  simp only [rwts] at h
  split at h
  ·rename_i hx; cases h; subst hx; simp [dotL]
  ·cases h
 | [a,b],ws,h=>by
  simp only [rwts] at h
  split at h
  ·rename_i hx
   cases h
   have hc:=hx.2
   have b1 : x.x - b.x = (x.sub a).x - (b.sub a).x ∧ x.y - b.y = (x.sub a).y - (b.sub a).y ∧ x.z - b.z = (x.sub a).z - (b.sub a).z:=by unfold V.sub; refine ⟨?_,?_,?_⟩ <;> simp only <;> omega
   have b2 : x.x - a.x = (x.sub a).x ∧ x.y - a.y = (x.sub a).y ∧ x.z - a.z = (x.sub a).z:=⟨rfl,rfl,rfl⟩
   simp only [List.map,dotL]
   rw [b1.1,b1.2.1,b1.2.2,b2.1,b2.2.1,b2.2.2]
   generalize b.sub a = d at *
   generalize x.sub a = u at *
   obtain ⟨h1,h2,h3⟩:=eq0 hc
   have g1 : d.dot d * u.x - u.dot d * d.x = d.z * (d.crs u).y - d.y * (d.crs u).z:=by simp only [V.dot,V.crs]; grind
   have g2 : d.dot d * u.y - u.dot d * d.y = d.x * (d.crs u).z - d.z * (d.crs u).x:=by simp only [V.dot,V.crs]; grind
   have g3 : d.dot d * u.z - u.dot d * d.z = d.y * (d.crs u).x - d.x * (d.crs u).y:=by simp only [V.dot,V.crs]; grind
   rw [h2,h3] at g1; rw [h1,h3] at g2; rw [h1,h2] at g3
   simp only [Int.mul_zero,Int.sub_self] at g1 g2 g3
   generalize d.dot d = y at *
   generalize u.dot d = z at *
   refine ⟨?_,?_,?_⟩ <;> grind
  ·cases h
 | [a,b,c],ws,h=>by
  simp only [rwts] at h
  split at h
  ·rename_i hx
   cases h
   have hc:=hx.2
   have b1 : ∀ b : V,x.x - b.x = (x.sub a).x - (b.sub a).x ∧ x.y - b.y = (x.sub a).y - (b.sub a).y ∧ x.z - b.z = (x.sub a).z - (b.sub a).z:=fun b=>by unfold V.sub; refine ⟨?_,?_,?_⟩ <;> simp only <;> omega
   have b2 : x.x - a.x = (x.sub a).x ∧ x.y - a.y = (x.sub a).y ∧ x.z - a.z = (x.sub a).z:=⟨rfl,rfl,rfl⟩
   simp only [List.map,dotL]
   rw [(b1 b).1,(b1 b).2.1,(b1 b).2.2,(b1 c).1,(b1 c).2.1,(b1 c).2.2,b2.1,b2.2.1,b2.2.2]
   clear b1 b2 hx
   generalize b.sub a = d at *
   generalize c.sub a = f at *
   generalize x.sub a = u at *
   have i1 : (d.crs f).dot (d.crs f) * u.x = (u.crs f).dot (d.crs f) * d.x + (d.crs u).dot (d.crs f) * f.x + u.dot (d.crs f) * (d.crs f).x:=by simp only [V.dot,V.crs]; grind
   have i2 : (d.crs f).dot (d.crs f) * u.y = (u.crs f).dot (d.crs f) * d.y + (d.crs u).dot (d.crs f) * f.y + u.dot (d.crs f) * (d.crs f).y:=by simp only [V.dot,V.crs]; grind
   have i3 : (d.crs f).dot (d.crs f) * u.z = (u.crs f).dot (d.crs f) * d.z + (d.crs u).dot (d.crs f) * f.z + u.dot (d.crs f) * (d.crs f).z:=by simp only [V.dot,V.crs]; grind
   rw [hc] at i1 i2 i3
   generalize (d.crs f).dot (d.crs f) = y at *
   generalize (u.crs f).dot (d.crs f) = p at *
   generalize (d.crs u).dot (d.crs f) = q at *
   refine ⟨?_,?_,?_⟩ <;> grind
  ·cases h
 | [a,b,c,e],ws,h=>by
  have b1 : ∀ b : V,x.x - b.x = (x.sub a).x - (b.sub a).x ∧ x.y - b.y = (x.sub a).y - (b.sub a).y ∧ x.z - b.z = (x.sub a).z - (b.sub a).z:=fun b=>by unfold V.sub; refine ⟨?_,?_,?_⟩ <;> simp only <;> omega
  have b2 : x.x - a.x = (x.sub a).x ∧ x.y - a.y = (x.sub a).y ∧ x.z - a.z = (x.sub a).z:=⟨rfl,rfl,rfl⟩
  simp only [rwts] at h
  simp only [List.map]
  rw [(b1 b).1,(b1 b).2.1,(b1 b).2.2,(b1 c).1,(b1 c).2.1,(b1 c).2.2,(b1 e).1,(b1 e).2.1,(b1 e).2.2,b2.1,b2.2.1,b2.2.2]
  clear b1 b2
  generalize b.sub a = d at *
  generalize c.sub a = f at *
  generalize e.sub a = g at *
  generalize x.sub a = u at *
  have i1 : (d.crs f).dot g * u.x = (u.crs f).dot g * d.x + (d.crs u).dot g * f.x + (d.crs f).dot u * g.x:=by simp only [V.dot,V.crs]; grind
  have i2 : (d.crs f).dot g * u.y = (u.crs f).dot g * d.y + (d.crs u).dot g * f.y + (d.crs f).dot u * g.y:=by simp only [V.dot,V.crs]; grind
  have i3 : (d.crs f).dot g * u.z = (u.crs f).dot g * d.z + (d.crs u).dot g * f.z + (d.crs f).dot u * g.z:=by simp only [V.dot,V.crs]; grind
  generalize (d.crs f).dot g = y at *
  generalize (u.crs f).dot g = p at *
  generalize (d.crs u).dot g = q at *
  generalize (d.crs f).dot u = r at *
  split at h
  ·cases h
  ·split at h
   ·cases h
    simp only [dotL]
    refine ⟨?_,?_,?_⟩ <;> grind
   ·cases h
    simp only [dotL]
    refine ⟨?_,?_,?_⟩ <;> grind
 | _ :: _ :: _ :: _ :: _ :: _,_,h=>by cases h
theorem wts_mix {L : List Nat} {ws : List Int} (hL : ∀ i ∈ L,i < n) (h : rwts (L.map s) x = some ws) (hp : ∀ v ∈ ws,0 < v) : NN n (wl L ws) ∧ nv n s x (wl L ws) = ⟨0,0,0⟩ ∧ (∀ i,i < n → 0 < wl L ws i → i ∈ L) ∧ ∀ g,sm n (wl L ws) g = dotL ws (L.map g):=by
 obtain ⟨h1,h2,h3⟩:=rwts_len h
 rw [List.length_map] at h1 h2
 have hs:=fun g=>sm_wl n g L ws hL
 refine ⟨⟨fun i _=>(wl_nn L ws i hp).1,D_pos n (fun i _=>(wl_nn L ws i hp).1) ?_⟩,?_,fun i _ h0=>wl_mem L ws i (by omega),hs⟩
 ·cases hLc : L with
  | nil=>rw [hLc] at h2; simp at h2
  | cons i r=>exact ⟨i,hL i (by rw [hLc]; simp),by rw [← hLc]; exact (wl_nn L ws i hp).2 h1 (by rw [hLc]; simp)⟩
 ·obtain ⟨a1,a2,a3⟩:=rwts_sum h
  have key : ∀ (c : V → Int),sm n (wl L ws) (fun i=>c x * one i + (-1) * c (s i)) = dotL ws ((L.map s).map fun a=>c x - c a):=fun c=>by
   rw [hs,List.map_map]
   congr 1
   refine List.map_congr_left fun i _=>?_
   simp only [one,Function.comp]; omega
  have k1:=key V.x
  have k2:=key V.y
  have k3:=key V.z
  rw [sm_glin] at k1 k2 k3
  have f1 : sm n (wl L ws) (fun i=>(s i).x) = (M n s (wl L ws)).x:=rfl
  have f2 : sm n (wl L ws) (fun i=>(s i).y) = (M n s (wl L ws)).y:=rfl
  have f3 : sm n (wl L ws) (fun i=>(s i).z) = (M n s (wl L ws)).z:=rfl
  have f4 : sm n (wl L ws) one = D n (wl L ws):=rfl
  unfold nv
  rw [a1] at k1; rw [a2] at k2; rw [a3] at k3
  rw [f4] at k1 k2 k3
  have q : ∀ a : Int,D n (wl L ws) * a = a * D n (wl L ws):=fun a=>Int.mul_comm _ _
  refine V.ext' ?_ ?_ ?_
  ·show D n (wl L ws) * x.x - (M n s (wl L ws)).x = 0
   rw [q]; omega
  ·show D n (wl L ws) * x.y - (M n s (wl L ws)).y = 0
   rw [q]; omega
  ·show D n (wl L ws) * x.z - (M n s (wl L ws)).z = 0
   rw [q]; omega
theorem dot_diff (m a b : V) : m.dot (a.sub b) = m.dot a - m.dot b:=by unfold V.dot V.sub; grind
end
def slp : List V → List Int → Option (V × Int)
 | [],[]=>some (⟨0,0,0⟩,1)
 | [d],[p]=>if d.x ≠ 0 then some (⟨p,0,0⟩,d.x) else if d.y ≠ 0 then some (⟨0,p,0⟩,d.y) else if d.z ≠ 0 then some (⟨0,0,p⟩,d.z) else none
 | [d,f],[p,q] =>
  if d.x * f.y - d.y * f.x ≠ 0 then some (⟨p * f.y - d.y * q,d.x * q - p * f.x,0⟩,d.x * f.y - d.y * f.x)
  else if d.x * f.z - d.z * f.x ≠ 0 then some (⟨p * f.z - d.z * q,0,d.x * q - p * f.x⟩,d.x * f.z - d.z * f.x)
  else if d.y * f.z - d.z * f.y ≠ 0 then some (⟨0,p * f.z - d.z * q,d.y * q - p * f.y⟩,d.y * f.z - d.z * f.y)
  else none
 | [d,f,g],[p,q,r]=>if (d.crs f).dot g ≠ 0 then some (⟨((⟨p,d.y,d.z⟩ : V).crs ⟨q,f.y,f.z⟩).dot ⟨r,g.y,g.z⟩,((⟨d.x,p,d.z⟩ : V).crs ⟨f.x,q,f.z⟩).dot ⟨g.x,r,g.z⟩,((⟨d.x,d.y,p⟩ : V).crs ⟨f.x,f.y,q⟩).dot ⟨g.x,g.y,r⟩⟩,(d.crs f).dot g) else none
 | _,_=>none
theorem slp_vals : ∀ {ds : List V} {ps : List Int} {o : V} {e : Int},slp ds ps = some (o,e) → e ≠ 0 ∧ ds.length = ps.length ∧ ds.map (fun d=>o.dot d) = ps.map (fun p=>p * e)
 | [],[],o,e,h=>by simp only [slp] at h; cases h; simp
 | [d],[p],o,e,h=>by
  simp only [slp] at h
  split at h
  ·rename_i h1; cases h; refine ⟨h1,rfl,?_⟩; simp [V.dot]
  ·split at h
   ·rename_i h1; cases h; refine ⟨h1,rfl,?_⟩; simp [V.dot]
   ·split at h
    ·rename_i h1; cases h; refine ⟨h1,rfl,?_⟩; simp [V.dot]
    ·cases h
 | [d,f],[p,q],o,e,h=>by
  simp only [slp] at h
  split at h
  ·rename_i h1; cases h; refine ⟨h1,rfl,?_⟩; simp only [V.dot,List.map,List.cons.injEq,and_true]; exact ⟨by grind,by grind⟩
  ·split at h
   ·rename_i h1; cases h; refine ⟨h1,rfl,?_⟩; simp only [V.dot,List.map,List.cons.injEq,and_true]; exact ⟨by grind,by grind⟩
   ·split at h
    ·rename_i h1; cases h; refine ⟨h1,rfl,?_⟩; simp only [V.dot,List.map,List.cons.injEq,and_true]; exact ⟨by grind,by grind⟩
    ·cases h
 | [d,f,g],[p,q,r],o,e,h=>by
  simp only [slp] at h
  split at h
  ·rename_i h1; cases h; refine ⟨h1,rfl,?_⟩; simp only [V.dot,V.crs,List.map,List.cons.injEq,and_true]; exact ⟨by grind,by grind,by grind⟩
  ·cases h
 | [],_ :: _,_,_,h=>by cases h
 | [_],[],_,_,h=>by cases h
 | [_],_ :: _ :: _,_,_,h=>by cases h
 | [_,_],[],_,_,h=>by cases h
 | [_,_],[_],_,_,h=>by cases h
 | [_,_],_ :: _ :: _ :: _,_,_,h=>by cases h
 | [_,_,_],[],_,_,h=>by cases h
 | [_,_,_],[_],_,_,h=>by cases h
 | [_,_,_],[_,_],_,_,h=>by cases h
 | [_,_,_],_ :: _ :: _ :: _ :: _,_,_,h=>by cases h
 | _ :: _ :: _ :: _ :: _,_,_,_,h=>by cases h
theorem slp_free : ∀ {a : V} {rest : List V} (ps : List Int),rest.length = ps.length → FreeP (a :: rest) → ∃ o e,slp (rest.map (fun b=>b.sub a)) ps = some (o,e)
 | a,[],[],_,_=>⟨_,_,rfl⟩
 | a,[b],[p],_,h=>by
  have h : (b.sub a).dot (b.sub a) ≠ 0:=h
  simp only [List.map,slp]
  generalize b.sub a = d at *
  by_cases h1 : d.x ≠ 0
  ·exact ⟨_,_,if_pos h1⟩
  ·by_cases h2 : d.y ≠ 0
   ·exact ⟨_,_,by rw [if_neg h1,if_pos h2]⟩
   ·by_cases h3 : d.z ≠ 0
    ·exact ⟨_,_,by rw [if_neg h1,if_neg h2,if_pos h3]⟩
    ·exfalso
     have e1 : d.x = 0:=Classical.byContradiction h1
     have e2 : d.y = 0:=Classical.byContradiction h2
     have e3 : d.z = 0:=Classical.byContradiction h3
     exact h (by unfold V.dot; rw [e1,e2,e3]; rfl)
 | a,[b,c],[p,q],_,h=>by
  have h : ((b.sub a).crs (c.sub a)).dot ((b.sub a).crs (c.sub a)) ≠ 0:=h
  simp only [List.map,slp]
  generalize b.sub a = d at *
  generalize c.sub a = f at *
  by_cases h1 : d.x * f.y - d.y * f.x ≠ 0
  ·exact ⟨_,_,if_pos h1⟩
  ·by_cases h2 : d.x * f.z - d.z * f.x ≠ 0
   ·exact ⟨_,_,by rw [if_neg h1,if_pos h2]⟩
   ·by_cases h3 : d.y * f.z - d.z * f.y ≠ 0
    ·exact ⟨_,_,by rw [if_neg h1,if_neg h2,if_pos h3]⟩
    ·exfalso
     have e1 : d.x * f.y - d.y * f.x = 0:=Classical.byContradiction h1
     have e2 : d.x * f.z - d.z * f.x = 0:=Classical.byContradiction h2
     have e3 : d.y * f.z - d.z * f.y = 0:=Classical.byContradiction h3
     refine h ?_
     have e4 : d.crs f = ⟨0,0,0⟩:=by unfold V.crs; refine V.ext' ?_ ?_ ?_ <;> simp only <;> omega
     rw [e4]; rfl
 | a,[b,c,g],[p,q,r],_,h=>by
  have h : ((b.sub a).crs (c.sub a)).dot (g.sub a) ≠ 0:=h
  simp only [List.map,slp]
  exact ⟨_,_,if_pos h⟩
 | _,[],_ :: _,h,_=>by simp at h
 | _,[_],[],h,_=>by simp at h
 | _,[_],_ :: _ :: _,h,_=>by simp at h
 | _,[_,_],[],h,_=>by simp at h
 | _,[_,_],[_],h,_=>by simp at h
 | _,[_,_],_ :: _ :: _ :: _,h,_=>by simp at h
 | _,[_,_,_],[],h,_=>by simp at h
 | _,[_,_,_],[_],h,_=>by simp at h
 | _,[_,_,_],[_,_],h,_=>by simp at h
 | _,[_,_,_],_ :: _ :: _ :: _ :: _,h,_=>by simp at h
 | _,_ :: _ :: _ :: _ :: _,_,_,h=>h.elim
end Go.Proofs.Ytkjceegmmhnajaa.LPX

namespace Go.Proofs.Ytkjceegmmhnajaa.LPX

def solD : List V → List Int → Option Du
 | a :: rest,pa :: rp=>match slp (rest.map fun b=>b.sub a) (rp.map fun q=>q - pa) with
  | none=>none
  | some (o,e)=>if e < 0 then some ⟨-e * pa - (o.mul (-1)).dot a,o.mul (-1), -e⟩ else some ⟨e * pa - o.dot a,o,e⟩
 | _,_=>none
theorem vals_at {a : V} {pa : Int} {o : V} {e : Int} : ∀ {rest : List V} {rp : List Int},(rest.map fun b=>b.sub a).map (fun d=>o.dot d) = (rp.map fun q=>q - pa).map (fun q=>q * e) → rest.length = rp.length ∧ rest.map (fun b=>o.dot b) = rp.map (fun q=>o.dot a + (q - pa) * e)
 | [],[],_=>⟨rfl,rfl⟩
 | b :: rest,q :: rp,h=>by
  simp only [List.map,List.cons.injEq] at h ⊢
  have ih:=vals_at (rest:=rest) (rp:=rp) h.2
  refine ⟨by simp [ih.1],?_,ih.2⟩
  have:=h.1
  rw [dot_diff] at this
  omega
 | [],_ :: _,h=>by simp at h
 | _ :: _,[],h=>by simp at h
theorem solD_ok {ps : List V} {prs : List Int} {y : Du} (h : solD ps prs = some y) : 0 < y.d ∧ ps.length = prs.length ∧ ps.map (fun b=>y.at_ b) = prs.map (fun q=>y.d * q):=by
 match ps,prs,h with
 | a :: rest,pa :: rp,h =>
  simp only [solD] at h
  split at h
  ·cases h
  ·rename_i o e hs
   obtain ⟨h1,h2,h3⟩:=slp_vals hs
   obtain ⟨h4,h5⟩:=vals_at h3
   split at h
   ·rename_i hneg
    cases h
    refine ⟨by show 0 < -e; omega,by simp [h4],?_⟩
    have hat : ∀ b : V,(⟨-e * pa - (o.mul (-1)).dot a,o.mul (-1), -e⟩ : Du).at_ b = -e * pa + o.dot a - o.dot b:=fun b=>by unfold Du.at_ V.mul V.dot; grind
    simp only [List.map,List.cons.injEq,hat]
    refine ⟨by omega,?_⟩
    have e1 : rest.map (fun b=>-e * pa + o.dot a - o.dot b) = (rest.map (fun b=>o.dot b)).map (fun t=>-e * pa + o.dot a - t):=by rw [List.map_map]; rfl
    rw [e1,h5,List.map_map]
    refine List.map_congr_left fun q _=>?_
    simp only [Function.comp]; grind
   ·rename_i hneg
    cases h
    refine ⟨by show 0 < e; omega,by simp [h4],?_⟩
    have hat : ∀ b : V,(⟨e * pa - o.dot a,o,e⟩ : Du).at_ b = e * pa - o.dot a + o.dot b:=fun b=>rfl
    simp only [List.map,List.cons.injEq,hat]
    refine ⟨by omega,?_⟩
    have e1 : rest.map (fun b=>e * pa - o.dot a + o.dot b) = (rest.map (fun b=>o.dot b)).map (fun t=>e * pa - o.dot a + t):=by rw [List.map_map]; rfl
    rw [e1,h5,List.map_map]
    refine List.map_congr_left fun q _=>?_
    simp only [Function.comp]; grind
theorem solD_free {ps : List V} {prs : List Int} (hl : ps.length = prs.length) (h : FreeP ps) : ∃ y,solD ps prs = some y:=by
 match ps,prs,hl,h with
 | a :: rest,pa :: rp,hl,h =>
  obtain ⟨o,e,hs⟩:=slp_free (rp.map fun q=>q - pa) (by simpa using hl) h
  simp only [solD,hs]
  split
  ·exact ⟨_,rfl⟩
  ·exact ⟨_,rfl⟩
 | [],_,_,h=>exact h.elim
theorem dotL_one : ∀ {L : List Nat} {ws : List Int},L.length = ws.length → dotL ws (L.map one) = ws.sum
 | [],[],_=>rfl
 | i :: L,a :: ws,h=>by
  show a * one i + dotL ws (L.map one) = _
  rw [dotL_one (by simpa using h)]
  simp [one]
 | [],_ :: _,h=>by simp at h
 | _ :: _,[],h=>by simp at h
theorem sm_mono {w f g : Nat → Int} : ∀ n,(∀ i,i < n → 0 ≤ w i) → (∀ i,i < n → f i ≤ g i) → sm n w f ≤ sm n w g
 | 0,_,_=>Int.le_refl _
 | n + 1,hw,h=>by
  have ih:=sm_mono (w:=w) n (fun i hi=>hw i (by omega)) (fun i hi=>h i (by omega))
  have:=Int.mul_le_mul_of_nonneg_left (h n (by omega)) (hw n (by omega))
  simp only [sm]; omega
theorem sm_scale (w g : Nat → Int) (k : Int) (n : Nat) : sm n w (fun i=>k * g i) = k * sm n w g:=by
 have:=sm_glin k 0 w g g n
 rw [show (fun i=>k * g i) = (fun i=>k * g i + 0 * g i) from by funext i; simp]
 rw [this]; simp
section
variable {n : Nat} {s : Nat → V} {p : Nat → Int} {x : V}
theorem weak {y : Du} (hy : Feas n s p y) {w : Nat → Int} (hw : NN n w) (hz : nv n s x w = ⟨0,0,0⟩) : y.at_ x * D n w ≤ y.d * sm n w p:=by
 have h1:=at_mix hz y
 have h2 : sm n w (fun i=>y.at_ (s i)) ≤ sm n w (fun i=>y.d * p i):=sm_mono n hw.1 hy.2
 rw [h1,sm_scale,Int.mul_comm] at h2
 exact h2
theorem cheap_found (hn : 0 < n) (hp : ∀ i,i < n → 0 ≤ p i) (hmix : ∃ w,NN n w ∧ nv n s x w = ⟨0,0,0⟩) :
  ∃ L : List Nat,L.Sublist (List.range n) ∧ (1 ≤ L.length ∧ L.length ≤ 4) ∧ ∃ y,solD (L.map s) (L.map p) = some y ∧ Feas n s p y
   ∧ (∃ (L0 : List Nat) (ws : List Int),L0.Sublist (List.range n) ∧ (1 ≤ L0.length ∧ L0.length ≤ 4) ∧ rwts (L0.map s) x = some ws ∧ (∀ v ∈ ws,0 < v) ∧ y.at_ x * ws.sum = y.d * dotL ws (L0.map p))
   ∧ ∀ (L0 : List Nat) (ws : List Int),(∀ i ∈ L0,i < n) → rwts (L0.map s) x = some ws → (∀ v ∈ ws,0 < v) → y.at_ x * ws.sum ≤ y.d * dotL ws (L0.map p):=by
 obtain ⟨z,hz1,⟨L,l1,l2,l3,l4⟩,w,w1,w2,w3⟩:=dual_opt hn hmix hp
 have hLn : ∀ i ∈ L,i < n:=fun i hi=>List.mem_range.1 (l1.subset hi)
 obtain ⟨y,hy⟩:=solD_free (prs:=L.map p) (by simp) l2
 obtain ⟨y1,_,y3⟩:=solD_ok hy
 have yt : ∀ i ∈ L,y.at_ (s i) = y.d * p i:=fun i hi=>by
  rw [List.map_map,List.map_map] at y3
  have:=List.map_inj_left.1 y3 i hi
  exact this
 have hag:=agree (y:=z) (y':=y) hLn l2 l4 (fun i hi=>by
  have t1:=l3 i hi
  unfold tight at t1
  rw [t1,yt i hi]; grind) hmix
 have hzd:=hz1.1
 have hF : Feas n s p y:=⟨y1,fun i hi=>by
  have e1:=hag.1 i hi
  have e2:=hz1.2 i hi
  have e3 : y.d * z.at_ (s i) ≤ y.d * (z.d * p i):=Int.mul_le_mul_of_nonneg_left e2 (by omega)
  have e4 : z.d * y.at_ (s i) ≤ z.d * (y.d * p i):=by
   have q : y.d * (z.d * p i) = z.d * (y.d * p i):=by grind
   omega
  exact Int.le_of_mul_le_mul_left e4 hzd⟩
 have hlen:=free_len l2
 rw [List.length_map] at hlen
 have conv : ∀ (L0 : List Nat) (ws : List Int),(∀ i ∈ L0,i < n) → rwts (L0.map s) x = some ws → (∀ v ∈ ws,0 < v) → NN n (wl L0 ws) ∧ nv n s x (wl L0 ws) = ⟨0,0,0⟩ ∧ D n (wl L0 ws) = ws.sum ∧ sm n (wl L0 ws) p = dotL ws (L0.map p):=fun L0 ws h1 h2 h3=>by
  obtain ⟨m1,m2,_,m4⟩:=wts_mix h1 h2 h3
  have hl:=(rwts_len h2).1
  rw [List.length_map] at hl
  exact ⟨m1,m2,by unfold D; rw [m4,dotL_one hl],m4 p⟩
 refine ⟨L,l1,hlen,y,hy,hF,?_,fun L0 ws h1 h2 h3=>?_⟩
 ·obtain ⟨L0,g1,g2,g3,ws,g4,g5⟩:=mix_found w1 w2
  have hL0 : ∀ i ∈ L0,i < n:=fun i hi=>List.mem_range.1 (g1.subset hi)
  obtain ⟨m1,m2,m3,m4⟩:=conv L0 ws hL0 g4 g5
  refine ⟨L0,ws,g1,g2,g4,g5,?_⟩
  have e1:=at_mix m2 z
  have e2 : sm n (wl L0 ws) (fun i=>z.at_ (s i)) = sm n (wl L0 ws) (fun i=>z.d * p i):=sm_congr n fun i hi=>by
   by_cases h0 : wl L0 ws i = 0
   ·rw [h0]; simp
   ·have:=w3 i hi (g3 i (wl_mem L0 ws i h0))
    unfold tight at this
    rw [this]
  rw [e2,sm_scale,m3,m4] at e1
  have e3:=hag.2
  have e4 : z.d * (y.at_ x * ws.sum) = z.d * (y.d * dotL ws (L0.map p)):=by
   have q1 : z.d * (y.at_ x * ws.sum) = (z.d * y.at_ x) * ws.sum:=by grind
   have q2 : z.d * (y.d * dotL ws (L0.map p)) = y.d * (z.d * dotL ws (L0.map p)):=by grind
   have e3' : z.d * y.at_ x = y.d * z.at_ x:=by grind
   rw [q1,q2,e3',e1]; grind
  exact Int.eq_of_mul_eq_mul_left (by omega) e4
 ·obtain ⟨m1,m2,m3,m4⟩:=conv L0 ws h1 h2 h3
  have:=weak hF m1 m2
  rw [m3,m4] at this
  exact this
end
end Go.Proofs.Ytkjceegmmhnajaa.LPX

namespace Go.Proofs.Ytkjceegmmhnajaa.LPX

def chs (n : Nat) : Nat → Nat → List (List Nat)
 | 0,_=>[[]]
 | k + 1,a=>(List.range' a (n - a)).flatMap fun i=>(chs n k (i + 1)).map (i :: ·)
theorem mem_chs (n : Nat) : ∀ (k a : Nat) (L : List Nat),L ∈ chs n k a ↔ L.length = k ∧ L.Pairwise (· < ·) ∧ ∀ i ∈ L,a ≤ i ∧ i < n
 | 0,a,L=>by
  simp only [chs,List.mem_singleton]
  constructor
  ·rintro rfl; simp
  ·intro h; exact List.length_eq_zero_iff.1 h.1
 | k + 1,a,L=>by
  simp only [chs,List.mem_flatMap,List.mem_range'_1,List.mem_map]
  constructor
  ·rintro ⟨i,⟨h1,h2⟩,M,hM,rfl⟩
   obtain ⟨g1,g2,g3⟩:=(mem_chs n k (i + 1) M).1 hM
   refine ⟨by simp [g1],List.pairwise_cons.2 ⟨fun j hj=>by have:=g3 j hj; omega,g2⟩,fun j hj=>?_⟩
   rcases List.mem_cons.1 hj with rfl | hj
   ·omega
   ·have:=g3 j hj; omega
  ·rintro ⟨h1,h2,h3⟩
   cases L with
   | nil=>simp at h1
   | cons i M =>
    have h4:=List.pairwise_cons.1 h2
    have h5:=h3 i (by simp)
    exact ⟨i,by omega,M,(mem_chs n k (i + 1) M).2 ⟨by simpa using h1,h4.2,fun j hj=>by have:=h4.1 j hj; have:=h3 j (by simp [hj]); omega⟩,rfl⟩
def allc (n : Nat) : List (List Nat):=chs n 1 0 ++ (chs n 2 0 ++ (chs n 3 0 ++ chs n 4 0))
theorem mem_allc {n : Nat} {L : List Nat} : L ∈ allc n ↔ (1 ≤ L.length ∧ L.length ≤ 4) ∧ L.Pairwise (· < ·) ∧ ∀ i ∈ L,i < n:=by
 unfold allc
 simp only [List.mem_append,mem_chs]
 constructor
 ·rintro (⟨h1,h2,h3⟩ | ⟨h1,h2,h3⟩ | ⟨h1,h2,h3⟩ | ⟨h1,h2,h3⟩) <;> exact ⟨by omega,h2,fun i hi=>(h3 i hi).2⟩
 ·rintro ⟨h1,h2,h3⟩
  have h4 : ∀ i ∈ L,0 ≤ i ∧ i < n:=fun i hi=>⟨Nat.zero_le _,h3 i hi⟩
  have : L.length = 1 ∨ L.length = 2 ∨ L.length = 3 ∨ L.length = 4:=by omega
  rcases this with h | h | h | h
  ·exact .inl ⟨h,h2,h4⟩
  ·exact .inr (.inl ⟨h,h2,h4⟩)
  ·exact .inr (.inr (.inl ⟨h,h2,h4⟩))
  ·exact .inr (.inr (.inr ⟨h,h2,h4⟩))
theorem sub_range {n : Nat} {L : List Nat} (h : L.Sublist (List.range n)) : L.Pairwise (· < ·) ∧ ∀ i ∈ L,i < n :=
 ⟨List.Pairwise.sublist h List.pairwise_lt_range,fun i hi=>List.mem_range.1 (h.subset hi)⟩
section
variable {n : Nat} {s : Nat → V} {p : Nat → Int} {x : V}
def recW (s : Nat → V) (x : V) (L : List Nat) : Option (List Int):=match rwts (L.map s) x with
 | some ws=>if ws.all (fun v=>decide (0 < v)) then some ws else none
 | none=>none
theorem recW_iff {L : List Nat} {ws : List Int} : recW s x L = some ws ↔ rwts (L.map s) x = some ws ∧ ∀ v ∈ ws,0 < v:=by
 unfold recW
 cases h : rwts (L.map s) x with
 | none=>simp
 | some vs =>
  dsimp only
  by_cases ha : vs.all (fun v=>decide (0 < v)) = true
  ·rw [if_pos ha]
   constructor
   ·intro e; cases e; exact ⟨rfl,fun v hv=>by simpa using List.all_eq_true.1 ha v hv⟩
   ·intro e; exact e.1
  ·rw [if_neg ha]
   constructor
   ·intro e; cases e
   ·intro e
    have e1:=e.1
    cases e1
    exact absurd (List.all_eq_true.2 fun v hv=>by simpa using e.2 v hv) ha
theorem reach_iff : (∃ L ∈ allc n,∃ ws,recW s x L = some ws) ↔ ∃ w,NN n w ∧ nv n s x w = ⟨0,0,0⟩:=by
 constructor
 ·rintro ⟨L,hL,ws,h⟩
  obtain ⟨h1,h2⟩:=recW_iff.1 h
  obtain ⟨m1,m2,_⟩:=wts_mix (mem_allc.1 hL).2.2 h1 h2
  exact ⟨_,m1,m2⟩
 ·rintro ⟨w,hw,hz⟩
  obtain ⟨L,h1,h2,_,ws,h4,h5⟩:=mix_found hw hz
  obtain ⟨g1,g2⟩:=sub_range h1
  exact ⟨L,mem_allc.2 ⟨h2,g1,g2⟩,ws,recW_iff.2 ⟨h4,h5⟩⟩
def costL (p : Nat → Int) (L : List Nat) (ws : List Int) : Int:=dotL ws (L.map p)
theorem dual_found (hn : 0 < n) (hp : ∀ i,i < n → 0 ≤ p i) {B : List Nat} {bw : List Int} (hB : B ∈ allc n) (hb : recW s x B = some bw) (hmin : ∀ L ∈ allc n,∀ ws,recW s x L = some ws → costL p B bw * ws.sum ≤ costL p L ws * bw.sum) :
  ∃ L ∈ allc n,∃ y,solD (L.map s) (L.map p) = some y ∧ Feas n s p y ∧ y.at_ x * bw.sum = y.d * costL p B bw:=by
 obtain ⟨L,h1,h2,y,h3,h4,⟨L0,ws,g1,g2,g3,g4,g5⟩,h6⟩:=cheap_found (s:=s) (x:=x) hn hp (reach_iff.1 ⟨B,hB,bw,hb⟩)
 obtain ⟨k1,k2⟩:=sub_range h1
 obtain ⟨k3,k4⟩:=sub_range g1
 refine ⟨L,mem_allc.2 ⟨h2,k1,k2⟩,y,h3,h4,?_⟩
 obtain ⟨b1,b2⟩:=recW_iff.1 hb
 have e1:=h6 B bw (mem_allc.1 hB).2.2 b1 b2
 have e2:=hmin L0 (mem_allc.2 ⟨g2,k3,k4⟩) ws (recW_iff.2 ⟨g3,g4⟩)
 have hw : 0 < ws.sum:=by
  have h0:=wts_mix k4 g3 g4
  have hl:=(rwts_len g3).1
  rw [List.length_map] at hl
  have:=h0.1.2
  unfold D at this
  rw [h0.2.2.2,dotL_one hl] at this
  exact this
 have hbw : 0 < bw.sum:=by
  have h0:=wts_mix (mem_allc.1 hB).2.2 b1 b2
  have hl:=(rwts_len b1).1
  rw [List.length_map] at hl
  have:=h0.1.2
  unfold D at this
  rw [h0.2.2.2,dotL_one hl] at this
  exact this
 have hd:=h4.1
 unfold costL at *
 have e3 : y.d * (dotL bw (B.map p) * ws.sum) ≤ y.d * (dotL ws (L0.map p) * bw.sum):=Int.mul_le_mul_of_nonneg_left e2 (by omega)
 have q1 : y.d * (dotL ws (L0.map p) * bw.sum) = (y.at_ x * bw.sum) * ws.sum:=by rw [← Int.mul_assoc,← g5]; grind
 have q2 : y.d * (dotL bw (B.map p) * ws.sum) = (y.d * dotL bw (B.map p)) * ws.sum:=by rw [Int.mul_assoc]
 rw [q1,q2] at e3
 have e4:=Int.le_of_mul_le_mul_right e3 hw
 omega
end
end Go.Proofs.Ytkjceegmmhnajaa.LPX

namespace Go.Proofs.Ytkjceegmmhnajaa
open Go.RowKit

theorem callsIn_round {n l : Nat} {P : Program} {f : FuncId} {args : Array Value} {w : World} {R : Ending → World → Prop} (h : Calls P f args w R) : CallsIn (Fence.wide.inRound l) n P f args w R:=(callsIn_wide (n:=n)).2 h
theorem opIn_round {n l : Nat} {P : Program} {o : Oper} {a : Act} {w : World} {K : Act → World → Prop} {Q : Exit → Act → World → Prop} (hd : ∀ c,o.op ≠ .defer c) (h : o.wp P a w K Q) : o.wpIn (Fence.wide.inRound l) n P a w K Q:=by
 refine ⟨fun _ _=>trivial,?_⟩
 rw [Oper.semAt_eq _ _ _ hd]
 unfold Oper.wp at h
 generalize (execOp a.eval o).run P w = r at *
 cases r with
 | ok x w' =>
  cases x <;> simp only [Oper.upon,Oper.uponIn] at h ⊢ <;>
   first
    | exact h
    | exact ⟨fun h0=>(by cases h0),callsIn_round h⟩
    | exact ⟨fun h0=>(by cases h0),fun c cs _=>let ⟨v,w',r,s⟩:=h c cs; ⟨v,w',r,stepsIn_wide.2 s⟩⟩
    | exact h.elim
 | halt x w'=>cases x <;> simp only [Oper.upon,Oper.uponIn] at h ⊢ <;> first | exact h | exact h.elim
theorem opsIn_round {n l : Nat} {P : Program} {ops : Array Oper} {Q : Exit → Act → World → Prop} (hd : ∀ (i : Nat) o,ops[i]? = some o → ∀ c,o.op ≠ .defer c) (hL : ¬ LetsOut Q) : ∀ (is : List Nat) (a : Act) (w : World),wpOps P ops Q is a w → wpOpsIn (Fence.wide.inRound l) n P ops Q is a w
 | [],_,_,h=>h
 | i :: rest,a,w,h=>by
  unfold wpOps at h
  unfold wpOpsIn
  cases ho : ops[i]? with
  | none =>
   rw [ho] at h
   exact opsIn_round hd hL rest a w h
  | some o =>
   rw [ho] at h
   dsimp only at h ⊢
   by_cases hw : Region.wanted o (yielded ops a.tmps) = true
   ·rw [if_pos hw] at h ⊢
    rcases h with h | ⟨_,h⟩
    ·exact Oper.wpIn_mono (fun a w h=>opsIn_round hd hL rest a w h) (opIn_round (hd i o ho) h)
    ·exact absurd h hL
   ·rw [if_neg hw] at h ⊢
    exact ⟨fun _ _=>trivial,opsIn_round hd hL rest _ _ h⟩
def noDefer (ops : Array Oper) : Bool:=ops.all fun o=>match o.op with | .defer _=>false | _=>true
theorem noDefer_at {ops : Array Oper} (h : noDefer ops = true) (i : Nat) (o : Oper) (ho : ops[i]? = some o) : ∀ c,o.op ≠ .defer c:=by
 intro c
 obtain ⟨hi,rfl⟩:=Array.getElem?_eq_some_iff.1 ho
 have:=Array.all_eq_true.1 h i hi
 intro e
 rw [e] at this
 cases this
theorem wpIn_region_round {n l : Nat} {P : Program} {id : Nat} {ops : Array Oper} {Q : Exit → Act → World → Prop} {S : World → Prop} {a : Act} {w : World} (hm : P.follows .mixedOrders = true) (hdf : noDefer ops = true) (hL : ¬ LetsOut Q) (hS : S w.drew)
  (h : S w.drew → wpAnyH P .any ops Q S ops.size (Array.replicate ops.size false) a w.drew) : (Code.region id ops true).wpIn (Fence.wide.inRound l) n P Q a w :=
 wpIn_region_draw fun t=>by
  simp only [Region.schedule,hm,Bool.true_or,if_true]
  exact opsIn_round (noDefer_at hdf) hL _ _ _ (wpAny_sound ops.size t _ a _ (wpAny_of_held _ _ _ _ (h hS)))
end Go.Proofs.Ytkjceegmmhnajaa

namespace Go.Proofs.Ytkjceegmmhnajaa
open Go.RowKit LPX

structure KpC (own : Nat → Prop) (W W' : World) : Prop where
 size : W.heap.size ≤ W'.heap.size
 keep : ∀ g o,W.heap[g]? = some o → o.isCells = true → ¬ own g → W'.heap[g]? = some o
section
variable {own : Nat → Prop} {W W' W'' : World}
theorem KpC.refl (W : World) : KpC own W W:=⟨Nat.le_refl _,fun _ _ h _ _=>h⟩
theorem KpC.trans (h : KpC own W W') (k : KpC own W' W'') : KpC own W W'':=⟨Nat.le_trans h.size k.size,fun g o h1 h2 h3=>k.keep g o (h.keep g o h1 h2 h3) h2 h3⟩
theorem KpC.putObj {l : Nat} {o : Obj} (o' : Obj) (h : W.heap[l]? = some o) (ho : o.isCells = false) : KpC own W (W.putObj l o') :=
 ⟨by simp,fun g x h1 h2 _=>by
  have hne : g ≠ l:=fun e=>by subst e; rw [h] at h1; cases h1; rw [ho] at h2; cases h2
  rw [World.putObj_heap_other hne]; exact h1⟩
theorem KpC.cell (h : KpC own W W') {p : Addr} {v : Value} (hc : W.cell? p = some v) (hp : ¬ own p.block) : W'.cell? p = some v:=by
 obtain ⟨o,ho,hcl⟩ : ∃ o,W.heap[p.block]? = some o ∧ o.isCells = true:=by
  unfold World.cell? at hc
  cases hx : W.heap[p.block]? with
  | none=>rw [hx] at hc; cases hc
  | some o =>
   rw [hx] at hc
   refine ⟨o,rfl,?_⟩
   cases o <;> first | rfl | (simp at hc)
 have:=h.keep _ _ ho hcl hp
 unfold World.cell? at hc ⊢
 rw [this]; rw [ho] at hc; exact hc
theorem KpC.lies (h : KpC own W W') {B : Nat} {A : Option Addr} {cs : List Value} (hl : Lies W B A cs) (ho : ∀ ad,A = some ad → ¬ own ad.block) : Lies W' B A cs:=fun hne=>by
 obtain ⟨ad,e,hb,hc⟩:=hl hne
 exact ⟨ad,e,hb,fun j u hu=>h.cell (hc j u hu) (by rw [add_block]; exact ho _ e)⟩
theorem KpC.of_below (h : Below W.heap.size W W') : KpC own W W':=⟨h.size,fun g o h1 _ _=>(h.block g (Array.getElem?_eq_some_iff.1 h1).1).trans h1⟩
end
theorem grown_below {W W' : World} (h : Below W.heap.size W W') : W.grownBy W' none:=⟨h.os,h.tape,h.output,h.size,fun k hk _=>h.block k hk⟩

def nats (L : List Nat) : List Value:=L.map fun i : Nat=>Value.int .i64 (i : Int)
theorem nats_len (L : List Nat) : (nats L).length = L.length:=by simp [nats]
theorem nats_snoc (L : List Nat) (i : Nat) : nats L ++ [Value.int .i64 (i : Int)] = nats (L ++ [i]):=by simp [nats]
structure El where
 L : List Nat
 A : Option Addr
 c : Nat
def El.v (x : El) : Value:=.slice x.A x.L.length x.c
def El.At (x : El) (W : World) : Prop:=Lies W W.heap.size x.A (nats x.L) ∧ (x.A = none → x.L = [] ∧ x.c = 0) ∧ x.L.length ≤ x.c
theorem El.At.below {x : El} {W W' : World} (h : x.At W) (hb : Below W.heap.size W W') : x.At W':=⟨(h.1.below hb (Nat.le_refl _)).more hb.size,h.2⟩

theorem ownsSlice {w : World} {b : Nat} {e : TypeId} {size n : Nat} {v : Value} {xs : List Value} (h : w.ownsRow b e size v n xs) : ∃ A c,v = .slice A n c ∧ n ≤ c ∧ c ≤ maxLen:=by
 rcases h.2 with ⟨rfl,rfl⟩ | ⟨g,cap,cur,rfl,_,_,h1,h2,_⟩
 ·exact ⟨none,0,rfl,Nat.le_refl _,Nat.zero_le _⟩
 ·exact ⟨_,_,rfl,h1,h2⟩
theorem own_some {w : World} {b : Nat} {e : TypeId} {size n c : Nat} {A : Option Addr} {xs : List Value} (h : w.ownsRow b e size (.slice A n c) n xs) (hn : 0 < n) : ∃ g,A = some ⟨g,0,none⟩ ∧ b ≤ g:=by
 rcases h.2 with ⟨h1,h2⟩ | ⟨g,cap,cur,h1,h2,_⟩
 ·omega
 ·cases h1; exact ⟨g,rfl,h2⟩
theorem bk_cells {w : World} {b : Nat} {t : TypeId} {C : Array Value} (h : Bk w b t C) : ∀ j u,C.toList[j]? = some u → w.cell? ((⟨b,0,none⟩ : Addr).add j) = some u:=fun j u hj=>by
 obtain ⟨ad,e,_,hc⟩:=(h.lies (B:=b + 1) (Nat.lt_succ_self b)) (by intro e; rw [e] at hj; simp at hj)
 cases e; exact hc j u hj
theorem held_two {P : Program} {ops : Array Oper} {Q : Exit → Act → World → Prop} {S : World → Prop} {fuel : Nat} {listed : Array Bool} {a : Act} {w : World} (i j : Nat) (o p : Oper) (ho : ops[i]? = some o) (hp : ops[j]? = some p) (hr : Region.ready .any ops listed = [i,j])
  (hw : Region.wanted o (yielded ops a.tmps) = true) (hv : Region.wanted p (yielded ops a.tmps) = true) (h : o.wp P a w (fun a' w'=>S w' ∧ wpAnyH P .any ops Q S fuel (listed.setIfInBounds i true) a' w') Q) (h2 : p.wp P a w (fun a' w'=>S w' ∧ wpAnyH P .any ops Q S fuel (listed.setIfInBounds j true) a' w') Q) : wpAnyH P .any ops Q S (fuel + 1) listed a w:=by
 refine wpAnyH_all hr (by simp) fun k hk=>?_
 have hk' : k = i ∨ k = j:=by simpa using hk
 rcases hk' with rfl | rfl
 ·unfold wpOp
  rw [ho]
  dsimp only
  rw [if_pos hw]
  exact .inl h
 ·unfold wpOp
  rw [hp]
  dsimp only
  rw [if_pos hv]
  exact .inl h2
theorem held_one {P : Program} {ops : Array Oper} {Q : Exit → Act → World → Prop} {S : World → Prop} {fuel : Nat} {listed : Array Bool} {a : Act} {w : World} (i : Nat) (o : Oper) (ho : ops[i]? = some o) (hr : Region.ready .any ops listed = [i])
  (hw : Region.wanted o (yielded ops a.tmps) = true) (h : o.wp P a w (fun a' w'=>S w' ∧ wpAnyH P .any ops Q S fuel (listed.setIfInBounds i true) a' w') Q) : wpAnyH P .any ops Q S (fuel + 1) listed a w:=by
 refine wpAnyH_all hr (by simp) fun j hj=>?_
 obtain rfl : j = i:=by simpa using hj
 unfold wpOp
 rw [ho]
 dsimp only
 rw [if_pos hw]
 exact .inl h

set_option maxHeartbeats 400000 in
theorem clip_any (A : Option Addr) (n c : Nat) (w : World) (hn : n ≤ c) (hA : A = none → n = 0) (hc : c ≤ maxLen) : Calls Try.prog 74 #[.slice A n c] w fun e w'=>e = .returned (.slice A n n) ∧ w' = w:=by
 have h0 : (0 : Int) ≤ (n : Int):=by omega
 have h1 : (n : Int) ≤ (c : Int):=by omega
 cases A with
 | none =>
  obtain rfl:=hA rfl
  go_enter Try.func74,Try.ntmps74
  go_wp2
  go_ret
  exact ⟨by simp,rfl⟩
 | some ad =>
  go_enter Try.func74,Try.ntmps74
  go_wp2
  go_ret
  exact ⟨by simp,rfl⟩
theorem wp_call {P : Program} {o : Oper} {a : Act} {w : World} {f : FuncId} {args : Array Value} {R : Ending → World → Prop} {K : Act → World → Prop} {Q : Exit → Act → World → Prop} (he : (execOp a.eval o).run P w = .ok (.enter f args) w) (hc : Calls P f args w R)
  (h : ∀ e w',R e w' → ∃ v,e = .returned v ∧ K (a.put o.dst v) w') : o.wp P a w K Q:=by
 unfold Oper.wp
 rw [he]
 exact hc.mono fun e w' hR=>by obtain ⟨v,rfl,hk⟩:=h e w' hR; exact hk
theorem wp_append_grows {P : Program} (w : World) {o : Oper} {a : Act} {K : Act → World → Prop} {Q : Exit → Act → World → Prop} (s x : Operand) (t : TypeId) (hop : o.op = Op.call { callee:=Callee.builtin Builtin.append,args:=#[s,x],argTypes:=#[t,t] })
  (e : TypeId) (i : TypeInfo) (z : Value) (size bytes : Nat) (h1 : P.underlying t = some (.slice e)) (h2 : P.info? e = some i) (h3 : i.zero = some z) (h4 : i.size = size) (h5 : i.bytes = bytes) (h6 : z.cells.size = size) (h7 : 0 < size)
  (ao : Option Addr) (n cap : Nat) (olds : List Value) (hs : a.eval s = .slice ao n cap) (hnone : ao = none → n = 0 ∧ cap = 0) (hlo : olds.length = n * size) (holds : ∀ b,ao = some b → ∀ j u,olds[j]? = some u → w.cell? (b.add j) = some u)
  (ad : Addr) (m c : Nat) (news : List Value) (hx : a.eval x = .slice (some ad) m c) (hn : news.length = m * size) (hc : ∀ j u,news[j]? = some u → w.cell? (ad.add j) = some u) (h1c : ∀ u ∈ news,u.oneCell' = true)
  (hfull : cap < n + m) (b1 : n + m ≤ maxLen) (b2 : (n + m) * bytes ≤ 140737488355328)
  (hK : ∀ v' w',w'.ownsRow w.heap.size e size v' (n + m) (olds ++ news) → w.grownBy w' none → K (a.put o.dst v') w') : o.wp P a w K Q:=by
 cases ao with
 | some b =>
  obtain ⟨v',w',hrun,r1,r2⟩:=run_append_arg_grows (P:=P) w t o.type e i z size bytes h1 h2 h3 h4 h5 h6 h7 b n cap olds hlo (holds b rfl) ad m c news hn hc hfull b1 b2
  unfold Oper.wp
  simp [execOp,hop,resolve,invoke,builtin,hs,hx,hrun,Result.andThen]
  exact hK v' w' r1 r2
 | none =>
  obtain ⟨rfl,rfl⟩:=hnone rfl
  obtain rfl : olds = []:=List.eq_nil_of_length_eq_zero (by simpa using hlo)
  obtain ⟨v',w',hrun,r1,r2,_⟩:=run_append_own (P:=P) w w.heap.size t o.type e i z size bytes h1 h2 h3 h4 h5 h6 h7 (.slice none 0 0) 0 [] (World.ownsRow_nil w _ e size) ad m c news hn hc h1c b1 b2 (Nat.le_refl _)
  unfold Oper.wp
  simp [execOp,hop,resolve,invoke,builtin,hs,hx,hrun,Result.andThen]
  exact hK v' w' r1 r2
end Go.Proofs.Ytkjceegmmhnajaa

namespace Go.Proofs.Ytkjceegmmhnajaa
open Go.RowKit

def rpw : List Vc → Vc → Option (List Int)
 | [a],w=>if w = a then some [1] else none
 | [a,b],w=>let x:=w.sub a; let u:=b.sub a; let c:=u.crs x; let n:=u.dot u
  if 0 < n ∧ c = ⟨0,0,0⟩ then some [n - u.dot x,u.dot x] else none
 | [a,b,c],w=>let x:=w.sub a; let u:=b.sub a; let v:=c.sub a; let n:=u.crs v; let p:=n.dot (x.crs v); let q:=n.dot (u.crs x)
  if n ≠ ⟨0,0,0⟩ ∧ n.dot x = 0 then some [n.dot n - p - q,p,q] else none
 | [a,b,c,e],w=>let x:=w.sub a; let u:=b.sub a; let v:=c.sub a; let n:=u.crs v; let g:=e.sub a; let d:=n.dot g; let p:=(x.crs v).dot g; let q:=(u.crs x).dot g; let r:=n.dot x
  if d < 0 then some [p + q + r - d, -p, -q, -r] else if 0 < d then some [d - p - q - r,p,q,r] else none
 | _,_=>none

set_option maxRecDepth 100000 in
theorem eq37 (a b c x y z : Int) (w : World) : (Op.equalIn 10000 37 (.agg #[.int .i64 a, .int .i64 b, .int .i64 c]) (.agg #[.int .i64 x, .int .i64 y, .int .i64 z])).run Try.prog w = .ok (a == x && (b == y && c == z)) w:=by
 obtain ⟨i0,hi0,hz0,hz1,hz2⟩:=info_parts info3
 rw [run_equalIn_array w 9999 _ _ Try.underlying37 hi0,cells3]
 simp [Op.eqItems,part,List.range_succ,go_sem,Try.underlying3]
 by_cases h1 : a = x <;> by_cases h2 : b = y <;> by_cases h3 : c = z <;> simp [h1,h2,h3]

abbrev vG (a b c : Int) : Value:=.agg #[.int .i64 a, .int .i64 b, .int .i64 c]
theorem minus_pre {a b c x y z : Int} (h : vb 1000 (a - x) (b - y) (c - z)) : ∃ r s t : Int,Hid (r = a - x ∧ s = b - y ∧ t = c - z) ∧ vb 1000 r s t ∧ Hid (∀ W,Calls Try.prog 91 #[.agg #[.int .i64 a, .int .i64 b, .int .i64 c], .agg #[.int .i64 x, .int .i64 y, .int .i64 z]] W fun e w'=>e = .returned (.agg #[.int .i64 r, .int .i64 s, .int .i64 t]) ∧ Below W.heap.size W w') :=
 ⟨_,_,_,⟨rfl,rfl,rfl⟩,h,fun W=>rminus_any _ _ _ _ _ _ W (ab_big h.1 (by omega)) (ab_big h.2.1 (by omega)) (ab_big h.2.2 (by omega))⟩
theorem crs_pre {A B : Nat} {a b c x y z : Int} (h : vb A a b c) (k : vb B x y z) (hAB : A * B + A * B ≤ 3050000000000000000) : ∃ r s t : Int,Hid (r = b * z - c * y ∧ s = c * x - a * z ∧ t = a * y - b * x) ∧ vb (A * B + A * B) r s t ∧ Hid (∀ W,Calls Try.prog 92 #[.agg #[.int .i64 a, .int .i64 b, .int .i64 c], .agg #[.int .i64 x, .int .i64 y, .int .i64 z]] W fun e w'=>e = .returned (.agg #[.int .i64 r, .int .i64 s, .int .i64 t]) ∧ Below W.heap.size W w') :=
 ⟨_,_,_,⟨rfl,rfl,rfl⟩,⟨ab_sub (ab_mul h.2.1 k.2.2) (ab_mul h.2.2 k.2.1),ab_sub (ab_mul h.2.2 k.1) (ab_mul h.1 k.2.2),ab_sub (ab_mul h.1 k.2.1) (ab_mul h.2.1 k.1)⟩,fun W=>(rcross_b W h k hAB).mono (by
  rintro e w' ⟨r,s,t,rfl,HE,hv,hb,_⟩
  obtain ⟨rfl,rfl,rfl⟩:=HE.out
  exact ⟨rfl,hb⟩)⟩
theorem dot_pre {A B : Nat} {a b c x y z : Int} (h : vb A a b c) (k : vb B x y z) (hAB : A * B + A * B + A * B ≤ 3050000000000000000) : ∃ r : Int,Hid (r = a * x + b * y + c * z) ∧ ab (A * B + A * B + A * B) r ∧ Hid (∀ W,Calls Try.prog 50 #[.agg #[.int .i64 a, .int .i64 b, .int .i64 c], .agg #[.int .i64 x, .int .i64 y, .int .i64 z]] W fun e w'=>e = .returned (.int .i64 r) ∧ Below W.heap.size W w') :=
 ⟨_,rfl,ab_add (ab_add (ab_mul h.1 k.1) (ab_mul h.2.1 k.2.1)) (ab_mul h.2.2 k.2.2),fun W=>(dot_b W h k hAB).mono (by
  rintro e w' ⟨r,rfl,HE,hv,hb,_⟩
  obtain rfl:=HE.out
  exact ⟨rfl,hb⟩)⟩
end Go.Proofs.Ytkjceegmmhnajaa

namespace Go.Proofs.Ytkjceegmmhnajaa
open Go.RowKit

theorem eq64 (d : Nat) (a b x y : Int) (w : World) : (Op.equalIn (d + 2) 64 (.agg #[.int .i64 a, .int .i64 b]) (.agg #[.int .i64 x, .int .i64 y])).run Try.prog w = .ok (a == x && b == y) w:=by
 rw [run_equalIn_agg w (d + 1) 64 _ _ (by kernel_rfl) (by kernel_rfl)]
 simp [go_sem,Program.fieldsOf,Try.underlying64,Op.eqFields,part,Try.underlying3]
 by_cases g1 : a = x <;> by_cases g2 : b = y <;> simp [g1,g2]
set_option maxRecDepth 100000 in
set_option maxHeartbeats 1000000 in
theorem sameRec_any (ps : List Pt) (A B : Option Addr) (c d : Nat) (w : World) (hA : Lies w w.heap.size A (partsC ps)) (hB : Lies w w.heap.size B (partsC ps)) (hm : ps.length ≤ 1000) :
  Calls Try.prog 22 #[.agg #[.slice A ps.length c], .agg #[.slice B ps.length d]] w (ShEnd true w):=by
 obtain ⟨w2,hw2⟩ : ∃ v,v = (w.alloc (.cells #[.slice A ps.length c] 25)).alloc (.cells #[.slice B ps.length d] 25):=⟨_,rfl⟩
 have k0 : Bk w2 w.heap.size 25 #[.slice A ps.length c]:=by rw [hw2]; exact (Bk.new _ _ _).alloc _
 have k1 : Bk w2 (w.heap.size + 1) 25 #[.slice B ps.length d]:=by rw [hw2]; simpa using Bk.new (w.alloc (.cells #[.slice A ps.length c] 25)) 25 #[.slice B ps.length d]
 have hb2 : Below w.heap.size w w2:=by rw [hw2]; exact (by repeat (first | with_reducible exact Below.refl _ _ | with_reducible assumption | with_reducible refine Below.drew ?_ | with_reducible refine below_drewN ?_ _ | (with_reducible refine Below.alloc ?_ ?_ _; rotate_left; (try simp) <;> omega) | (with_reducible refine Below.setCell ?_ ?_ _; rotate_left; (try simp) <;> omega)))
 have E64:=eq64 9998
 have HA:=Lib.hid hA
 have HB:=Lib.hid hB
 clear hA hB
 go_enter Try.func22,Try.ntmps22
 go_upto_region 1 with fail
 rw [← hw2]
 clear hw2
 have x0:=k0.cell 0 rfl
 have x1:=k1.cell 0 rfl
 have l1:=k1.lt
 go_wp2
 go_loopw [5] (fun y wr=>∃ k : Nat,k ≤ ps.length ∧ y = .int .i64 k ∧ (Below w.heap.size w wr ∧ (Bk wr w.heap.size 25 #[.slice A ps.length c] ∧ Bk wr (w.heap.size + 1) 25 #[.slice B ps.length d]))) (fun y _=>ps.length - (intOf y).toNat)
 case atStart=>exact ⟨0,Nat.zero_le _,rfl,hb2,k0,k1⟩
 case round =>
  clear hb2 k0 k1 x0 x1 l1
  obtain ⟨k,hk,rfl,hb,k0,k1⟩:=hrel
  have x0:=k0.cell 0 rfl
  have x1:=k1.cell 0 rfl
  have l1:=k1.lt
  by_cases hlt : k < ps.length
  ·have hkI : (k : Int) < (ps.length : Int):=by omega
   have hk0 : 0 ≤ (k : Int):=by omega
   have hwk : IntKind.i64.wrap ((k : Int) + 1) = (k : Int) + 1:=IntWalk.i64_in _ (by omega)
   obtain ⟨a1,rfl,_,p0,p1⟩:=part_at (HA.out.below hb (Nat.le_refl _)) hlt
   obtain ⟨b1,rfl,_,q0,q1⟩:=part_at (HB.out.below hb (Nat.le_refl _)) hlt
   generalize ps[k].t = t at *
   generalize ps[k].w = v at *
   go_upto_region 6 with fail
   refine wp_region_held_drew (S:=fun V=>(V.cell? ⟨w.heap.size,0,none⟩ = some (.slice (some a1) ps.length c) ∧ V.cell? ⟨w.heap.size + 1,0,none⟩ = some (.slice (some b1) ps.length d)) ∧ ((V.cell? (a1.add (k * 2)) = some (.int .i64 t) ∧ V.cell? ⟨(a1.add (k * 2)).block,(a1.add (k * 2)).off + 1,none⟩ = some (.int .i64 v)) ∧ (V.cell? (b1.add (k * 2)) = some (.int .i64 t) ∧ V.cell? ⟨(b1.add (k * 2)).block,(b1.add (k * 2)).off + 1,none⟩ = some (.int .i64 v)))) (by kernel_rfl) ⟨⟨x0,x1⟩,⟨p0,p1⟩,q0,q1⟩ (fun hHeld=>?_)
   replace hb:=hb.drew
   replace k0:=k0.drew
   replace k1:=k1.drew
   clear x0 x1 p0 p1 q0 q1
   generalize wr.drew = w6 at *
   refine tk 0 20 ?_
   refine tk 1 21 ?_
   refine tk 2 22 ?_
   refine tk 3 23 ?_
   refine tk 4 24 ?_
   refine tk 5 25 ?_
   refine tk 6 26 ?_
   refine tk 7 27 ?_
   refine tk 8 28 ?_
   refine tk 9 29 ?_
   refine tk 10 30 ?_
   refine wpAnyH_done (by kernel_rfl) ?_ _
   clear hHeld
   go_wp2
   go_roundw
   case rel=>exact ⟨k + 1,by omega,by go_num,hb,k0,k1⟩
   case measure=>simp [intOf] <;> omega
  ·obtain rfl : k = ps.length:=by omega
   have hirr : ¬ (ps.length : Int) < (ps.length : Int):=by omega
   go_wp2
   go_ret
   exact ⟨rfl,hb⟩
end Go.Proofs.Ytkjceegmmhnajaa
