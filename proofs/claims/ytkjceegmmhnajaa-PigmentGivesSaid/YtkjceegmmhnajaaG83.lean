/- The nearest mixture parts a point from all points that do not mix it. Plain mathematics. -/
import Derived.Test.YtkjceegmmhnajaaG82

set_option linter.unusedVariables false
set_option linter.unusedSimpArgs false

namespace Go.Proofs.Ytkjceegmmhnajaa.LPX

section
variable {n : Nat} {s : Nat → V} {x : V}
theorem le_trans' {a b c : Nat → Int} (hb : NN n b) (h1 : le n s x a b) (h2 : le n s x b c) : le n s x a c:=by
 unfold le at *
 have hB:=hb.2
 have sq : ∀ t : Int,0 ≤ t * t:=fun t=>by
  rcases Int.le_total 0 t with h | h
  ·exact Int.mul_nonneg h h
  ·exact Int.mul_nonneg_of_nonpos_of_nonpos h h
 have hA:=sq (D n a)
 have hC:=sq (D n c)
 have hBB : 0 < D n b * D n b:=Int.mul_pos hB hB
 generalize (nv n s x a).dot (nv n s x a) = p at *
 generalize (nv n s x b).dot (nv n s x b) = q at *
 generalize (nv n s x c).dot (nv n s x c) = r at *
 generalize D n a * D n a = da at *
 generalize D n b * D n b = db at *
 generalize D n c * D n c = dc at *
 have e1 : p * db * dc ≤ q * da * dc:=Int.mul_le_mul_of_nonneg_right h1 hC
 have e2 : q * dc * da ≤ r * db * da:=Int.mul_le_mul_of_nonneg_right h2 hA
 have e3 : (p * dc) * db ≤ (r * da) * db:=by
  have q1 : p * db * dc = (p * dc) * db:=by grind
  have q2 : q * da * dc = q * dc * da:=by grind
  have q3 : r * db * da = (r * da) * db:=by grind
  omega
 exact Int.le_of_mul_le_mul_right e3 hBB
theorem dot_comb (a c : V) (α β : Int) : (⟨α * a.x + β * c.x,α * a.y + β * c.y,α * a.z + β * c.z⟩ : V).dot ⟨α * a.x + β * c.x,α * a.y + β * c.y,α * a.z + β * c.z⟩ = α * α * a.dot a + 2 * α * β * a.dot c + β * β * c.dot c:=by unfold V.dot; grind
theorem move {w c : Nat → Int} {α β : Int} (hw : NN n w) (hc : 0 < D n c) (ho : (∃ h,∀ i,i < n → (0 < w i ∨ c i ≠ 0) → (nv n s x c).dot (s i) = h)) (hα : 0 ≤ α) (hβ : 0 ≤ β) : le n s x (fun i=>α * w i + β * c i) w:=by
 obtain ⟨h,ho⟩:=ho
 have a1 : (nv n s x c).dot (M n s w) = h * D n w:=by rw [dot_M]; exact sm_eq n fun i hi h0=>ho i hi (.inl (by have:=hw.1 i hi; omega))
 have a2 : (nv n s x c).dot (M n s c) = h * D n c:=by rw [dot_M]; exact sm_eq n fun i hi h0=>ho i hi (.inr h0)
 have c1:=dot_nv n s x (nv n s x c) w
 have c2:=dot_nv n s x (nv n s x c) c
 rw [a1] at c1; rw [a2] at c2
 have c5 : (nv n s x c).dot (nv n s x w) = (nv n s x w).dot (nv n s x c):=by unfold V.dot; grind
 rw [c5] at c1
 unfold le
 rw [nv_lin,D_lin,dot_comb]
 have hsq:=dot_self (⟨D n c * (nv n s x w).x + (- D n w) * (nv n s x c).x,D n c * (nv n s x w).y + (- D n w) * (nv n s x c).y,D n c * (nv n s x w).z + (- D n w) * (nv n s x c).z⟩ : V)
 rw [dot_comb] at hsq
 have hD:=hw.2
 generalize (nv n s x w).dot (nv n s x w) = p at *
 generalize (nv n s x w).dot (nv n s x c) = q at *
 generalize (nv n s x c).dot (nv n s x c) = r at *
 generalize (nv n s x c).dot x = u at *
 generalize D n w = d at *
 generalize D n c = y at *
 have k1 : y * q = d * r:=by rw [c1,c2]; grind
 have k2 : 0 ≤ y * y * p - d * d * r:=by
  have : y * y * p + 2 * y * (-d) * q + (-d) * (-d) * r = y * y * p - d * d * r:=by grind
  omega
 have k3 : 0 ≤ y * p - d * q:=by
  have e1 : y * (y * p - d * q) = y * y * p - d * d * r:=by grind
  rw [← e1] at k2
  exact Classical.byContradiction fun hn=>by
   have : y * (y * p - d * q) < 0:=Int.mul_neg_of_pos_of_neg hc (by omega)
   omega
 have m1 : 0 ≤ 2 * α * β * d * (y * p - d * q):=Int.mul_nonneg (Int.mul_nonneg (Int.mul_nonneg (by omega) hβ) (by omega)) k3
 have m2 : 0 ≤ β * β * (y * y * p - d * d * r):=Int.mul_nonneg (Int.mul_nonneg hβ hβ) k2
 have e3 : p * ((α * d + β * y) * (α * d + β * y)) - (α * α * p + 2 * α * β * q + β * β * r) * (d * d) = 2 * α * β * d * (y * p - d * q) + β * β * (y * y * p - d * d * r):=by grind
 omega
theorem le_scaled {w w' : Nat → Int} {a : Int} (hD : D n w' = a * D n w) (hv : nv n s x w' = ⟨a * (nv n s x w).x,a * (nv n s x w).y,a * (nv n s x w).z⟩) : le n s x w' w:=by
 unfold le
 rw [hD,hv]
 refine Int.le_of_eq ?_
 unfold V.dot; grind
theorem minor : ∀ (w : Nat → Int),NN n w → ∃ w',NN n w' ∧ Orth n s x w' ∧ le n s x w' w
 | w,hw=>by
  obtain ⟨w1,a,h1,ha,hs,hD,hv,hF⟩:=carath (s:=s) (cnt n w) w (Nat.le_refl _) hw
  have hl1:=le_scaled (x:=x) hD (hv x)
  have hLn : ∀ i ∈ suppL n w1,i < n:=fun i hi=>(mem_supp.1 hi).1
  obtain ⟨c,hc1,hc2,⟨h,hc3⟩,_⟩:=bary (n:=n) (s:=s) x hLn hF
  have hcs : ∀ i,i < n → c i ≠ 0 → 0 < w1 i:=fun i _ h=>(mem_supp.1 (hc2 i h)).2
  have ho : ∃ h,∀ i,i < n → (0 < w1 i ∨ c i ≠ 0) → (nv n s x c).dot (s i) = h:=⟨h,fun i hi h0=>hc3 i (mem_supp.2 ⟨hi,h0.elim id (hcs i hi)⟩)⟩
  by_cases hneg : ∀ i,i < n → 0 ≤ c i
  ·refine ⟨c,⟨hneg,hc1⟩,⟨h,fun i hi h0=>hc3 i (hc2 i (by omega))⟩,le_trans' h1 ?_ hl1⟩
   have:=move (α:=0) (β:=1) h1 hc1 ho (by omega) (by omega)
   have e1 : (fun i=>0 * w1 i + 1 * c i) = c:=by funext i; simp
   rw [e1] at this
   exact this
  ·obtain ⟨i1,hi1⟩ : ∃ i,¬ (i < n → 0 ≤ c i):=Classical.byContradiction fun h=>hneg fun i=>Classical.byContradiction fun h2=>h ⟨i,h2⟩
   have hi1n : i1 < n:=Classical.byContradiction fun h=>hi1 fun h2=>absurd h2 h
   have hi1c : c i1 < 0:=by
    have : ¬ 0 ≤ c i1:=fun h=>hi1 fun _=>h
    omega
   have hi1w:=hcs i1 hi1n (by omega)
   obtain ⟨i0,hi0,hp0,hmin⟩:=min_ratio (fun i=>0 < w1 i) c w1 n (fun i _ h=>h) ⟨i1,hi1n,hi1w⟩
   have hc0 : c i0 < 0:=by
    have e1:=hmin i1 hi1n hi1w
    have e2 : c i1 * w1 i0 < 0:=Int.mul_neg_of_neg_of_pos hi1c hp0
    exact Classical.byContradiction fun hn=>by
     have : 0 ≤ c i0 * w1 i1:=Int.mul_nonneg (by omega) (by omega)
     omega
   have hnn : ∀ i,i < n → 0 ≤ (- c i0) * w1 i + w1 i0 * c i:=fun i hi=>by
    by_cases hw1 : 0 < w1 i
    ·have:=hmin i hi hw1
     have e1 : (- c i0) * w1 i + w1 i0 * c i = c i * w1 i0 - c i0 * w1 i:=by grind
     omega
    ·have hci : c i = 0:=Classical.byContradiction fun h=>hw1 (hcs i hi h)
     have hwi : w1 i = 0:=by have:=h1.1 i hi; omega
     rw [hci,hwi]; simp
   have hD' : 0 < D n (fun i=>(- c i0) * w1 i + w1 i0 * c i):=by
    rw [D_lin]
    have e1 : 0 < (- c i0) * D n w1:=Int.mul_pos (by omega) h1.2
    have e2 : 0 < w1 i0 * D n c:=Int.mul_pos hp0 hc1
    omega
   have hsub : ∀ i,i < n → 0 < (- c i0) * w1 i + w1 i0 * c i → 0 < w1 i:=fun i hi h=>by
    by_cases hci : c i = 0
    ·rw [hci] at h
     have:=h1.1 i hi
     by_cases h2 : w1 i = 0
     ·rw [h2] at h; simp at h
     ·omega
    ·exact hcs i hi hci
   have hlt : cnt n (fun i=>(- c i0) * w1 i + w1 i0 * c i) < cnt n w:=by
    have e1:=cnt_lt n hsub ⟨i0,hi0,hp0,by
     have : (- c i0) * w1 i0 + w1 i0 * c i0 = 0:=by grind
     show ¬ 0 < (- c i0) * w1 i0 + w1 i0 * c i0
     omega⟩
    have e2:=cnt_le n hs
    omega
   obtain ⟨w2,g1,g2,g3⟩:=minor (fun i=>(- c i0) * w1 i + w1 i0 * c i) ⟨hnn,hD'⟩
   exact ⟨w2,g1,g2,le_trans' ⟨hnn,hD'⟩ g3 (le_trans' h1 (move h1 hc1 ho (by omega) (by omega)) hl1)⟩
termination_by w=>cnt n w
theorem le_total' (a b : Nat → Int) : le n s x a b ∨ le n s x b a:=Int.le_total _ _
theorem min_cand : ∀ k,k ≤ n → ∀ b : Nat → Prop,(∃ w,NN n w ∧ Orth n s x w ∧ ∀ i,k ≤ i → i < n → (0 < w i ↔ b i)) →
  ∃ w0,(NN n w0 ∧ Orth n s x w0 ∧ ∀ i,k ≤ i → i < n → (0 < w0 i ↔ b i)) ∧ ∀ w,NN n w → Orth n s x w → (∀ i,k ≤ i → i < n → (0 < w i ↔ b i)) → le n s x w0 w
 | 0,_,b,h=>by
  obtain ⟨w,h1,h2,h3⟩:=h
  exact ⟨w,⟨h1,h2,h3⟩,fun w' g1 g2 g3=>same h1 g1 h2 g2 fun i hi=>(h3 i (Nat.zero_le _) hi).trans (g3 i (Nat.zero_le _) hi).symm⟩
 | k + 1,hk,b,h=>by
  let up:=fun (p : Prop) (i : Nat)=>(i = k ∧ p) ∨ (i ≠ k ∧ b i)
  have hup : ∀ (p : Prop) (w : Nat → Int),((0 < w k ↔ p) ∧ ∀ i,k + 1 ≤ i → i < n → (0 < w i ↔ b i)) ↔ ∀ i,k ≤ i → i < n → (0 < w i ↔ up p i):=fun p w=>by
   constructor
   ·intro ⟨h1,h2⟩ i hi hin
    show 0 < w i ↔ (i = k ∧ p) ∨ (i ≠ k ∧ b i)
    by_cases e : i = k
    ·subst e; simp [h1]
    ·simp [e,h2 i (by omega) hin]
   ·intro h1
    refine ⟨?_,fun i hi hin=>?_⟩
    ·have : 0 < w k ↔ (k = k ∧ p) ∨ (k ≠ k ∧ b k):=h1 k (Nat.le_refl _) (by omega)
     simpa using this
    ·have : 0 < w i ↔ (i = k ∧ p) ∨ (i ≠ k ∧ b i):=h1 i (by omega) hin
     rw [this]
     have e : i ≠ k:=by omega
     simp [e]
  have part : ∀ p : Prop,(∃ w,NN n w ∧ Orth n s x w ∧ (0 < w k ↔ p) ∧ ∀ i,k + 1 ≤ i → i < n → (0 < w i ↔ b i)) → ∃ w0,(NN n w0 ∧ Orth n s x w0 ∧ (0 < w0 k ↔ p) ∧ ∀ i,k + 1 ≤ i → i < n → (0 < w0 i ↔ b i)) ∧ ∀ w,NN n w → Orth n s x w → (0 < w k ↔ p) → (∀ i,k + 1 ≤ i → i < n → (0 < w i ↔ b i)) → le n s x w0 w:=fun p ⟨w,h1,h2,h3,h4⟩=>by
   obtain ⟨w0,⟨g1,g2,g3⟩,g4⟩:=min_cand k (by omega) (up p) ⟨w,h1,h2,(hup p w).1 ⟨h3,h4⟩⟩
   have g5:=(hup p w0).2 g3
   exact ⟨w0,⟨g1,g2,g5.1,g5.2⟩,fun w' k1 k2 k3 k4=>g4 w' k1 k2 ((hup p w').1 ⟨k3,k4⟩)⟩
  by_cases hT : ∃ w,NN n w ∧ Orth n s x w ∧ (0 < w k ↔ True) ∧ ∀ i,k + 1 ≤ i → i < n → (0 < w i ↔ b i)
  ·obtain ⟨w1,⟨a1,a2,a3,a4⟩,a5⟩:=part True hT
   by_cases hFa : ∃ w,NN n w ∧ Orth n s x w ∧ (0 < w k ↔ False) ∧ ∀ i,k + 1 ≤ i → i < n → (0 < w i ↔ b i)
   ·obtain ⟨w2,⟨b1,b2,b3,b4⟩,b5⟩:=part False hFa
    rcases le_total' (n:=n) (s:=s) (x:=x) w1 w2 with hle | hle
    ·refine ⟨w1,⟨a1,a2,a4⟩,fun w g1 g2 g3=>?_⟩
     by_cases hw : 0 < w k
     ·exact a5 w g1 g2 (by simp [hw]) g3
     ·exact le_trans' b1 hle (b5 w g1 g2 (by simp [hw]) g3)
    ·refine ⟨w2,⟨b1,b2,b4⟩,fun w g1 g2 g3=>?_⟩
     by_cases hw : 0 < w k
     ·exact le_trans' a1 hle (a5 w g1 g2 (by simp [hw]) g3)
     ·exact b5 w g1 g2 (by simp [hw]) g3
   ·refine ⟨w1,⟨a1,a2,a4⟩,fun w g1 g2 g3=>?_⟩
    by_cases hw : 0 < w k
    ·exact a5 w g1 g2 (by simp [hw]) g3
    ·exact absurd ⟨w,g1,g2,by simp [hw],g3⟩ hFa
  ·obtain ⟨w,h1,h2,h3⟩:=h
   have hw0 : ¬ 0 < w k:=fun hw=>hT ⟨w,h1,h2,by simp [hw],h3⟩
   obtain ⟨w2,⟨b1,b2,b3,b4⟩,b5⟩:=part False ⟨w,h1,h2,by simp [hw0],h3⟩
   refine ⟨w2,⟨b1,b2,b4⟩,fun w' g1 g2 g3=>?_⟩
   by_cases hw : 0 < w' k
   ·exact absurd ⟨w',g1,g2,by simp [hw],g3⟩ hT
   ·exact b5 w' g1 g2 (by simp [hw]) g3
theorem near (hn : 0 < n) : (∃ w,NN n w ∧ nv n s x w = ⟨0,0,0⟩) ∨ ∃ w,NN n w ∧ Orth n s x w ∧ ∀ k,k < n → (nv n s x w).dot (s k) < (nv n s x w).dot x:=by
 have h0 : NN n (e 0):=⟨fun i _=>by unfold e; split <;> omega,by rw [D_e hn]; omega⟩
 obtain ⟨wa,ha1,ha2,_⟩:=minor (s:=s) (x:=x) (e 0) h0
 obtain ⟨w,⟨h1,h2,_⟩,h3⟩:=min_cand (s:=s) (x:=x) n (Nat.le_refl n) (fun _=>True) ⟨wa,ha1,ha2,fun i h1 h2=>by omega⟩
 by_cases hz : nv n s x w = ⟨0,0,0⟩
 ·exact .inl ⟨w,h1,hz⟩
 ·refine .inr ⟨w,h1,h2,fun k hk=>?_⟩
  obtain ⟨h,ho⟩:=h2
  have hk2 : ¬ h < (nv n s x w).dot (s k):=fun hlt=>by
   obtain ⟨w',g1,g2⟩:=nearer hk h1 ho hlt
   obtain ⟨w2,k1,k2,k3⟩:=minor (s:=s) (x:=x) w' g1
   exact g2 (le_trans' k1 (h3 w2 k1 k2 (fun i a b=>by omega)) k3)
  have a1 : (nv n s x w).dot (M n s w) = h * D n w:=by rw [dot_M]; exact sm_eq n fun i hi h0=>ho i hi (by have:=h1.1 i hi; omega)
  have c1:=dot_nv n s x (nv n s x w) w
  rw [a1] at c1
  have c2:=dot_self (nv n s x w)
  have c3:=dot_ne hz
  have e1 : D n w * (nv n s x w).dot x - h * D n w = D n w * ((nv n s x w).dot x - h):=by grind
  have hD:=h1.2
  have : 0 < (nv n s x w).dot x - h:=Classical.byContradiction fun hn=>by
   have : D n w * ((nv n s x w).dot x - h) ≤ 0:=Int.mul_nonpos_of_nonneg_of_nonpos (by omega) (by omega)
   omega
  omega
end
end Go.Proofs.Ytkjceegmmhnajaa.LPX

namespace Go.Proofs.Ytkjceegmmhnajaa.LPX

theorem min_gen {α : Type} (C : α → Prop) (mark : α → Nat → Prop) (le : α → α → Prop) (n : Nat) (tot : ∀ a b,le a b ∨ le b a) (tr : ∀ a b c,C a → C b → C c → le a b → le b c → le a c)
  (same : ∀ a b,C a → C b → (∀ i,i < n → (mark a i ↔ mark b i)) → le a b) : ∀ k,k ≤ n → ∀ b : Nat → Prop,(∃ a,C a ∧ ∀ i,k ≤ i → i < n → (mark a i ↔ b i)) →
  ∃ a0,(C a0 ∧ ∀ i,k ≤ i → i < n → (mark a0 i ↔ b i)) ∧ ∀ a,C a → (∀ i,k ≤ i → i < n → (mark a i ↔ b i)) → le a0 a
 | 0,_,b,h=>by
  obtain ⟨w,h1,h3⟩:=h
  exact ⟨w,⟨h1,h3⟩,fun w' g1 g3=>same w w' h1 g1 fun i hi=>(h3 i (Nat.zero_le _) hi).trans (g3 i (Nat.zero_le _) hi).symm⟩
 | k + 1,hk,b,h=>by
  let up:=fun (p : Prop) (i : Nat)=>(i = k ∧ p) ∨ (i ≠ k ∧ b i)
  have hup : ∀ (p : Prop) (w : α),((mark w k ↔ p) ∧ ∀ i,k + 1 ≤ i → i < n → (mark w i ↔ b i)) ↔ ∀ i,k ≤ i → i < n → (mark w i ↔ up p i):=fun p w=>by
   constructor
   ·intro ⟨h1,h2⟩ i hi hin
    show mark w i ↔ (i = k ∧ p) ∨ (i ≠ k ∧ b i)
    by_cases e : i = k
    ·subst e; simp [h1]
    ·simp [e,h2 i (by omega) hin]
   ·intro h1
    refine ⟨?_,fun i hi hin=>?_⟩
    ·have : mark w k ↔ (k = k ∧ p) ∨ (k ≠ k ∧ b k):=h1 k (Nat.le_refl _) (by omega)
     simpa using this
    ·have : mark w i ↔ (i = k ∧ p) ∨ (i ≠ k ∧ b i):=h1 i (by omega) hin
     rw [this]
     have e : i ≠ k:=by omega
     simp [e]
  have part : ∀ p : Prop,(∃ w,C w ∧ (mark w k ↔ p) ∧ ∀ i,k + 1 ≤ i → i < n → (mark w i ↔ b i)) → ∃ w0,(C w0 ∧ (mark w0 k ↔ p) ∧ ∀ i,k + 1 ≤ i → i < n → (mark w0 i ↔ b i)) ∧ ∀ w,C w → (mark w k ↔ p) → (∀ i,k + 1 ≤ i → i < n → (mark w i ↔ b i)) → le w0 w:=fun p ⟨w,h1,h3,h4⟩=>by
   obtain ⟨w0,⟨g1,g3⟩,g4⟩:=min_gen C mark le n tot tr same k (by omega) (up p) ⟨w,h1,(hup p w).1 ⟨h3,h4⟩⟩
   have g5:=(hup p w0).2 g3
   exact ⟨w0,⟨g1,g5.1,g5.2⟩,fun w' k1 k3 k4=>g4 w' k1 ((hup p w').1 ⟨k3,k4⟩)⟩
  by_cases hT : ∃ w,C w ∧ (mark w k ↔ True) ∧ ∀ i,k + 1 ≤ i → i < n → (mark w i ↔ b i)
  ·obtain ⟨w1,⟨a1,a3,a4⟩,a5⟩:=part True hT
   by_cases hFa : ∃ w,C w ∧ (mark w k ↔ False) ∧ ∀ i,k + 1 ≤ i → i < n → (mark w i ↔ b i)
   ·obtain ⟨w2,⟨b1,b3,b4⟩,b5⟩:=part False hFa
    rcases tot w1 w2 with hle | hle
    ·refine ⟨w1,⟨a1,a4⟩,fun w g1 g3=>?_⟩
     by_cases hw : mark w k
     ·exact a5 w g1 (by simp [hw]) g3
     ·exact tr _ _ _ a1 b1 g1 hle (b5 w g1 (by simp [hw]) g3)
    ·refine ⟨w2,⟨b1,b4⟩,fun w g1 g3=>?_⟩
     by_cases hw : mark w k
     ·exact tr _ _ _ b1 a1 g1 hle (a5 w g1 (by simp [hw]) g3)
     ·exact b5 w g1 (by simp [hw]) g3
   ·refine ⟨w1,⟨a1,a4⟩,fun w g1 g3=>?_⟩
    by_cases hw : mark w k
    ·exact a5 w g1 (by simp [hw]) g3
    ·exact absurd ⟨w,g1,by simp [hw],g3⟩ hFa
  ·obtain ⟨w,h1,h3⟩:=h
   have hw0 : ¬ mark w k:=fun hw=>hT ⟨w,h1,by simp [hw],h3⟩
   obtain ⟨w2,⟨b1,b3,b4⟩,b5⟩:=part False ⟨w,h1,by simp [hw0],h3⟩
   refine ⟨w2,⟨b1,b4⟩,fun w' g1 g3=>?_⟩
   by_cases hw : mark w' k
   ·exact absurd ⟨w',g1,by simp [hw],g3⟩ hT
   ·exact b5 w' g1 (by simp [hw]) g3
structure Du where
 a : Int
 v : V
 d : Int
def Du.at_ (y : Du) (u : V) : Int:=y.a + y.v.dot u
def Feas (n : Nat) (s : Nat → V) (p : Nat → Int) (y : Du) : Prop:=0 < y.d ∧ ∀ i,i < n → y.at_ (s i) ≤ y.d * p i
def tight (s : Nat → V) (p : Nat → Int) (y : Du) (i : Nat) : Prop:=y.at_ (s i) = y.d * p i
theorem at_sum (n : Nat) (s : Nat → V) (y : Du) (w : Nat → Int) : sm n w (fun i=>y.at_ (s i)) = y.a * D n w + y.v.dot (M n s w):=by
 unfold Du.at_
 rw [show (fun i=>y.a + y.v.dot (s i)) = (fun i=>y.a * one i + 1 * y.v.dot (s i)) from by funext i; simp [one]]
 rw [sm_glin,dot_M]; unfold D; simp
theorem at_mix {n : Nat} {s : Nat → V} {x : V} {w : Nat → Int} (h : nv n s x w = ⟨0,0,0⟩) (y : Du) : sm n w (fun i=>y.at_ (s i)) = D n w * y.at_ x:=by
 rw [at_sum]
 obtain ⟨h1,h2,h3⟩:=M_of_nv h
 unfold Du.at_ V.dot
 rw [h1,h2,h3]; grind
section
variable {n : Nat} {s : Nat → V} {p : Nat → Int} {x : V}
theorem step {y : Du} {z : Du} (hy : Feas n s p y) (hj : ∃ j,j < n ∧ 0 < z.at_ (s j)) (hz : ∀ j,j < n → tight s p y j → z.at_ (s j) ≤ 0) (hx : 0 ≤ z.at_ x) :
  ∃ y',Feas n s p y' ∧ y.at_ x * y'.d ≤ y'.at_ x * y.d ∧ (0 < z.at_ x → y.at_ x * y'.d < y'.at_ x * y.d) ∧ (∃ i,i < n ∧ ¬ tight s p y i ∧ tight s p y' i) ∧ ∀ i,i < n → tight s p y i → z.at_ (s i) = 0 → tight s p y' i:=by
 obtain ⟨i0,hi0,hp0,hmin⟩:=min_ratio (fun i=>0 < z.at_ (s i)) (fun i=>y.d * p i - y.at_ (s i)) (fun i=>z.at_ (s i)) n (fun i _ h=>h) hj
 have ht0 : ¬ tight s p y i0:=fun h=>by have:=hz i0 hi0 h; omega
 have hs0 : 0 < y.d * p i0 - y.at_ (s i0):=by
  have:=hy.2 i0 hi0
  unfold tight at ht0
  omega
 generalize hg : y.d * p i0 - y.at_ (s i0) = g at *
 generalize hb : z.at_ (s i0) = b at *
 have hat : ∀ u,(⟨b * y.a + g * z.a,⟨b * y.v.x + g * z.v.x,b * y.v.y + g * z.v.y,b * y.v.z + g * z.v.z⟩,b * y.d⟩ : Du).at_ u = b * y.at_ u + g * z.at_ u:=fun u=>by
  unfold Du.at_ V.dot; grind
 refine ⟨⟨b * y.a + g * z.a,⟨b * y.v.x + g * z.v.x,b * y.v.y + g * z.v.y,b * y.v.z + g * z.v.z⟩,b * y.d⟩,⟨Int.mul_pos hp0 hy.1,fun i hi=>?_⟩,?_,fun hxp=>?_,⟨i0,hi0,ht0,?_⟩,fun i hi hti hzi=>?_⟩
 ·rw [hat]
  show _ ≤ b * y.d * p i
  have h0:=hy.2 i hi
  by_cases hzi : 0 < z.at_ (s i)
  ·have h1:=hmin i hi hzi
   have e1 : (y.d * p i - y.at_ (s i)) * b = b * y.d * p i - b * y.at_ (s i):=by grind
   omega
  ·have h1 : 0 ≤ b * (y.d * p i - y.at_ (s i)):=Int.mul_nonneg (by omega) (by omega)
   have h2 : 0 ≤ g * (- z.at_ (s i)):=Int.mul_nonneg (by omega) (by omega)
   have e1 : b * (y.d * p i - y.at_ (s i)) = b * y.d * p i - b * y.at_ (s i):=by grind
   have e2 : g * (- z.at_ (s i)) = - (g * z.at_ (s i)):=by grind
   omega
 ·rw [hat]
  show y.at_ x * (b * y.d) ≤ (b * y.at_ x + g * z.at_ x) * y.d
  have h1 : 0 ≤ g * z.at_ x * y.d:=Int.mul_nonneg (Int.mul_nonneg (by omega) hx) (by have:=hy.1; omega)
  have e1 : (b * y.at_ x + g * z.at_ x) * y.d = y.at_ x * (b * y.d) + g * z.at_ x * y.d:=by grind
  omega
 ·rw [hat]
  show y.at_ x * (b * y.d) < (b * y.at_ x + g * z.at_ x) * y.d
  have h1 : 0 < g * z.at_ x * y.d:=Int.mul_pos (Int.mul_pos hs0 hxp) hy.1
  have e1 : (b * y.at_ x + g * z.at_ x) * y.d = y.at_ x * (b * y.d) + g * z.at_ x * y.d:=by grind
  omega
 ·unfold tight
  rw [hat,hb]
  show _ = b * y.d * p i0
  grind
 ·unfold tight at hti ⊢
  rw [hat,hzi,hti]
  show _ = b * y.d * p i
  grind
theorem dirs {u : V} : ∀ {ps : List V},FreeP ps → ¬ InAff ps u → ∃ z : Du,(∀ a,InAff ps a → z.at_ a = 0) ∧ z.at_ u ≠ 0
 | [],h,_=>h.elim
 | [a],_,h=>by
  have h : u.sub a ≠ ⟨0,0,0⟩:=sub_ne h
  refine ⟨⟨- (u.sub a).dot a,u.sub a,1⟩,fun b hb=>?_,fun e=>?_⟩
  ·have hb : b = a:=hb
   rw [hb]; unfold Du.at_; simp; omega
  ·have e1 : (⟨- (u.sub a).dot a,u.sub a,1⟩ : Du).at_ u = (u.sub a).dot (u.sub a):=by unfold Du.at_ V.dot V.sub; grind
   rw [e1] at e
   exact dot_ne h e
 | [a,b],_,h=>by
  have h : (b.sub a).crs (u.sub a) ≠ ⟨0,0,0⟩:=h
  let d:=b.sub a
  let g:=u.sub a
  let m : V:=⟨d.dot d * g.x - g.dot d * d.x,d.dot d * g.y - g.dot d * d.y,d.dot d * g.z - g.dot d * d.z⟩
  have key : ∀ k : V,(⟨- m.dot a,m,1⟩ : Du).at_ k = (d.crs g).dot (d.crs (k.sub a)):=fun k=>by
   have e1 : (⟨- m.dot a,m,1⟩ : Du).at_ k = m.dot (k.sub a):=by unfold Du.at_; simp only [V.dot,V.sub]; grind
   rw [e1]
   generalize k.sub a = q
   simp only [m,V.dot,V.crs]; grind
  refine ⟨⟨- m.dot a,m,1⟩,fun k hk=>?_,fun e=>?_⟩
  ·have hk : d.crs (k.sub a) = ⟨0,0,0⟩:=hk
   rw [key,hk]; unfold V.dot; simp
  ·rw [key] at e
   exact dot_ne h e
 | [a,b,c],_,h=>by
  have h : ((b.sub a).crs (c.sub a)).dot (u.sub a) ≠ 0:=h
  have key : ∀ k : V,(⟨- ((b.sub a).crs (c.sub a)).dot a,(b.sub a).crs (c.sub a),1⟩ : Du).at_ k = ((b.sub a).crs (c.sub a)).dot (k.sub a):=fun k=>by
   generalize (b.sub a).crs (c.sub a) = m
   unfold Du.at_ V.dot V.sub; grind
  refine ⟨⟨- ((b.sub a).crs (c.sub a)).dot a,(b.sub a).crs (c.sub a),1⟩,fun k hk=>?_,fun e=>?_⟩
  ·rw [key]; exact hk
  ·rw [key] at e; exact h e
 | [_,_,_,_],_,h=>absurd trivial h
 | _ :: _ :: _ :: _ :: _ :: _,h,_=>h.elim
def Span (n : Nat) (s : Nat → V) (p : Nat → Int) (y : Du) : Prop:=∃ L : List Nat,L.Sublist (List.range n) ∧ FreeP (L.map s) ∧ (∀ i ∈ L,tight s p y i) ∧ ∀ k,k < n → InAff (L.map s) (s k)
theorem pos_of_mix {w : Nat → Int} {g : Nat → Int} (hw : NN n w) (h : 0 < sm n w g) : ∃ j,j < n ∧ 0 < g j:=Classical.byContradiction fun hn=>by
 have:=sm_le (w:=w) (g:=g) (k:=0) n hw.1 (fun i hi _=>by
  have : ¬ 0 < g i:=fun h=>hn ⟨i,hi,h⟩
  omega)
 simp at this
 omega
theorem at_neg (z : Du) (u : V) : (⟨- z.a,⟨- z.v.x, - z.v.y, - z.v.z⟩,z.d⟩ : Du).at_ u = - z.at_ u:=by unfold Du.at_ V.dot; grind
open Classical in
theorem purify (hn : 0 < n) (hmix : ∃ w,NN n w ∧ nv n s x w = ⟨0,0,0⟩) : ∀ y : Du,Feas n s p y → ∃ y',Feas n s p y' ∧ y.at_ x * y'.d ≤ y'.at_ x * y.d ∧ Span n s p y'
 | y,hy=>by
  have again : ∀ z : Du,(∃ j,j < n ∧ 0 < z.at_ (s j)) → (∀ j,j < n → tight s p y j → z.at_ (s j) = 0) → 0 ≤ z.at_ x → ∃ y',Feas n s p y' ∧ y.at_ x * y'.d ≤ y'.at_ x * y.d ∧ Span n s p y':=fun z hj hz hx=>by
   obtain ⟨y1,h1,h2,_,⟨i,hi,hi1,hi2⟩,h4⟩:=step hy hj (fun j hj ht=>by rw [hz j hj ht]; exact Int.le_refl _) hx
   have hlt : cnt n (fun i=>y1.d * p i - y1.at_ (s i)) < cnt n (fun i=>y.d * p i - y.at_ (s i)):=cnt_lt n (fun j hj h=>by
    have hnt : ¬ tight s p y j:=fun ht=>by
     have:=h4 j hj ht (hz j hj ht)
     unfold tight at this
     omega
    have:=hy.2 j hj
    unfold tight at hnt
    show 0 < y.d * p j - y.at_ (s j)
    omega) ⟨i,hi,by
     have:=hy.2 i hi
     unfold tight at hi1
     show 0 < y.d * p i - y.at_ (s i)
     omega,by
     unfold tight at hi2
     show ¬ 0 < y1.d * p i - y1.at_ (s i)
     omega⟩
   obtain ⟨y2,g1,g2,g3⟩:=purify hn hmix y1 h1
   refine ⟨y2,g1,?_,g3⟩
   have d1:=h1.1
   have d2:=g1.1
   have d0:=hy.1
   have e1 : y.at_ x * y1.d * y2.d ≤ y1.at_ x * y.d * y2.d:=Int.mul_le_mul_of_nonneg_right h2 (by omega)
   have e2 : y1.at_ x * y2.d * y.d ≤ y2.at_ x * y1.d * y.d:=Int.mul_le_mul_of_nonneg_right g2 (by omega)
   have e3 : (y.at_ x * y2.d) * y1.d ≤ (y2.at_ x * y.d) * y1.d:=by
    have q1 : y.at_ x * y1.d * y2.d = (y.at_ x * y2.d) * y1.d:=by grind
    have q2 : y1.at_ x * y.d * y2.d = y1.at_ x * y2.d * y.d:=by grind
    have q3 : y2.at_ x * y1.d * y.d = (y2.at_ x * y.d) * y1.d:=by grind
    omega
   exact Int.le_of_mul_le_mul_right e3 d1
  obtain ⟨w,hw,hwx⟩:=hmix
  by_cases hT : (List.range n).filter (fun i=>decide (tight s p y i)) = []
  ·have hno : ∀ j,j < n → ¬ tight s p y j:=fun j hj ht=>by
    have : j ∈ (List.range n).filter (fun i=>decide (tight s p y i)):=by rw [List.mem_filter,List.mem_range]; exact ⟨hj,by simpa using ht⟩
    rw [hT] at this; cases this
   have e1 : ∀ u,(⟨1,⟨0,0,0⟩,1⟩ : Du).at_ u = 1:=fun u=>by unfold Du.at_ V.dot; simp
   exact again ⟨1,⟨0,0,0⟩,1⟩ ⟨0,hn,by rw [e1]; omega⟩ (fun j hj ht=>absurd ht (hno j hj)) (by rw [e1]; omega)
  ·obtain ⟨L,hL,hF,hA⟩:=basis_of s _ hT
   have hLt : ∀ i ∈ L,tight s p y i:=fun i hi=>by
    have:=hL.subset hi
    rw [List.mem_filter] at this
    simpa using this.2
   by_cases hall : ∀ k,k < n → InAff (L.map s) (s k)
   ·exact ⟨y,hy,Int.le_refl _,L,hL.trans List.filter_sublist,hF,hLt,hall⟩
   ·obtain ⟨k,hk⟩ : ∃ k,¬ (k < n → InAff (L.map s) (s k)):=Classical.byContradiction fun h=>hall fun i=>Classical.byContradiction fun h2=>h ⟨i,h2⟩
    have hkn : k < n:=Classical.byContradiction fun h=>hk fun h2=>absurd h2 h
    have hkA : ¬ InAff (L.map s) (s k):=fun h=>hk fun _=>h
    obtain ⟨z,hz1,hz2⟩:=dirs hF hkA
    have hz3 : ∀ j,j < n → tight s p y j → z.at_ (s j) = 0:=fun j hj ht=>hz1 _ (hA j (by rw [List.mem_filter,List.mem_range]; exact ⟨hj,by simpa using ht⟩))
    have hsum:=at_mix hwx z
    have hsum2:=at_mix hwx (⟨- z.a,⟨- z.v.x, - z.v.y, - z.v.z⟩,z.d⟩ : Du)
    by_cases h0 : 0 < z.at_ x
    ·refine again z (pos_of_mix hw ?_) hz3 (by omega)
     rw [hsum]; exact Int.mul_pos hw.2 h0
    ·by_cases h1 : z.at_ x < 0
     ·refine again ⟨- z.a,⟨- z.v.x, - z.v.y, - z.v.z⟩,z.d⟩ (pos_of_mix hw ?_) (fun j hj ht=>by rw [at_neg,hz3 j hj ht]; rfl) (by rw [at_neg]; omega)
      rw [hsum2,at_neg]; exact Int.mul_pos hw.2 (by omega)
     ·by_cases h2 : 0 < z.at_ (s k)
      ·exact again z ⟨k,hkn,h2⟩ hz3 (by omega)
      ·exact again ⟨- z.a,⟨- z.v.x, - z.v.y, - z.v.z⟩,z.d⟩ ⟨k,hkn,by rw [at_neg]; omega⟩ (fun j hj ht=>by rw [at_neg,hz3 j hj ht]; rfl) (by rw [at_neg]; omega)
termination_by y=>cnt n (fun i=>y.d * p i - y.at_ (s i))
theorem agree {y y' : Du} {L : List Nat} (hLn : ∀ i ∈ L,i < n) (hF : FreeP (L.map s)) (hA : ∀ k,k < n → InAff (L.map s) (s k)) (h : ∀ i ∈ L,y'.d * y.at_ (s i) = y.d * y'.at_ (s i)) (hmix : ∃ w,NN n w ∧ nv n s x w = ⟨0,0,0⟩) :
  (∀ k,k < n → y'.d * y.at_ (s k) = y.d * y'.at_ (s k)) ∧ y'.d * y.at_ x = y.d * y'.at_ x:=by
 have hk : ∀ k,k < n → y'.d * y.at_ (s k) = y.d * y'.at_ (s k):=fun k hk=>by
  obtain ⟨c,hc1,hc2,_,hc3⟩:=bary (n:=n) (s:=s) (s k) hLn hF
  have hz:=hc3 (hA k hk)
  have e1:=at_mix hz y
  have e2:=at_mix hz y'
  have e3 : sm n c (fun i=>y'.d * y.at_ (s i) + 0 * 0) = sm n c (fun i=>y.d * y'.at_ (s i) + 0 * 0):=sm_congr n fun i hi=>by
   by_cases h0 : c i = 0
   ·rw [h0]; simp
   ·rw [h i (hc2 i h0)]
  rw [sm_glin (h:=fun _=>0),sm_glin (h:=fun _=>0),e1,e2] at e3
  have e4 : (y'.d * y.at_ (s k)) * D n c = (y.d * y'.at_ (s k)) * D n c:=by grind
  exact Int.eq_of_mul_eq_mul_right (by omega) e4
 refine ⟨hk,?_⟩
 obtain ⟨w,hw,hz⟩:=hmix
 have e1:=at_mix hz y
 have e2:=at_mix hz y'
 have e3 : sm n w (fun i=>y'.d * y.at_ (s i) + 0 * 0) = sm n w (fun i=>y.d * y'.at_ (s i) + 0 * 0):=sm_congr n fun i hi=>by rw [hk i hi]
 rw [sm_glin (h:=fun _=>0),sm_glin (h:=fun _=>0),e1,e2] at e3
 have e4 : (y'.d * y.at_ x) * D n w = (y.d * y'.at_ x) * D n w:=by grind
 have:=hw.2
 exact Int.eq_of_mul_eq_mul_right (by omega) e4
open Classical in
theorem dual_opt (hn : 0 < n) (hmix : ∃ w,NN n w ∧ nv n s x w = ⟨0,0,0⟩) (hp : ∀ i,i < n → 0 ≤ p i) : ∃ y : Du,Feas n s p y ∧ Span n s p y ∧ ∃ w,NN n w ∧ nv n s x w = ⟨0,0,0⟩ ∧ ∀ i,i < n → 0 < w i → tight s p y i:=by
 have h0 : Feas n s p ⟨0,⟨0,0,0⟩,1⟩:=⟨by show (0 : Int) < 1; omega,fun i hi=>by unfold Du.at_ V.dot; simp; exact hp i hi⟩
 obtain ⟨ya,ha1,_,ha3⟩:=purify hn hmix _ h0
 obtain ⟨y,⟨⟨h1,h2⟩,_⟩,h3⟩:=min_gen (fun y=>Feas n s p y ∧ Span n s p y) (fun y i=>tight s p y i) (fun y y'=>y'.at_ x * y.d ≤ y.at_ x * y'.d) n (fun a b=>Int.le_total _ _)
  (fun a b c ha hb hc k1 k2=>by
   have d1:=ha.1.1
   have d2:=hb.1.1
   have d3:=hc.1.1
   have e1 : b.at_ x * a.d * c.d ≤ a.at_ x * b.d * c.d:=Int.mul_le_mul_of_nonneg_right k1 (by omega)
   have e2 : c.at_ x * b.d * a.d ≤ b.at_ x * c.d * a.d:=Int.mul_le_mul_of_nonneg_right k2 (by omega)
   have e3 : (c.at_ x * a.d) * b.d ≤ (a.at_ x * c.d) * b.d:=by
    have q1 : b.at_ x * a.d * c.d = b.at_ x * c.d * a.d:=by grind
    have q2 : c.at_ x * b.d * a.d = (c.at_ x * a.d) * b.d:=by grind
    have q3 : a.at_ x * b.d * c.d = (a.at_ x * c.d) * b.d:=by grind
    omega
   exact Int.le_of_mul_le_mul_right e3 d2)
  (fun a b ha hb hs=>by
   obtain ⟨L,l1,l2,l3,l4⟩:=ha.2
   have hLn : ∀ i ∈ L,i < n:=fun i hi=>List.mem_range.1 (l1.subset hi)
   have:=(agree (y:=a) (y':=b) hLn l2 l4 (fun i hi=>by
    have t1:=l3 i hi
    have t2:=(hs i (hLn i hi)).1 t1
    unfold tight at t1 t2
    rw [t1,t2]; grind) hmix).2
   refine Int.le_of_eq ?_
   grind) n (Nat.le_refl _) (fun _=>True) ⟨ya,⟨ha1,ha3⟩,fun i h1 h2=>by omega⟩
 refine ⟨y,h1,h2,?_⟩
 obtain ⟨L,l1,l2,l3,l4⟩:=h2
 obtain ⟨t0,ht0⟩ : ∃ t0,t0 ∈ L:=by
  cases hL : L with
  | nil=>rw [hL] at l2; exact l2.elim
  | cons a r=>exact ⟨a,by simp⟩
 have ht0n : t0 < n:=List.mem_range.1 (l1.subset ht0)
 have ht0t:=l3 t0 ht0
 rcases near (n:=n) (s:=fun i=>if tight s p y i then s i else s t0) (x:=x) hn with ⟨w,hw,hz⟩ | ⟨w,_,_,hsep⟩
 ·have key : ∀ g : V → Int,sm n w (fun i=>g (if tight s p y i then s i else s t0)) = sm n (fun i=>1 * (if tight s p y i then w i else 0) + D n (fun i=>if tight s p y i then 0 else w i) * e t0 i) (fun i=>g (s i)):=fun g=>by
   have a1 : sm n w (fun i=>g (if tight s p y i then s i else s t0)) = sm n (fun i=>1 * (if tight s p y i then w i else 0) + 1 * (if tight s p y i then 0 else w i)) (fun i=>g (if tight s p y i then s i else s t0)):=sm_congr n fun i hi=>by
    by_cases h : tight s p y i
    ·simp [h]
    ·simp [h]
   rw [a1,sm_lin,sm_lin,sm_e _ _ _ ht0n]
   have a2 : sm n (fun i=>if tight s p y i then w i else 0) (fun i=>g (if tight s p y i then s i else s t0)) = sm n (fun i=>if tight s p y i then w i else 0) (fun i=>g (s i)):=sm_congr n fun i hi=>by
    by_cases h : tight s p y i
    ·simp [h]
    ·simp [h]
   have a3 : sm n (fun i=>if tight s p y i then 0 else w i) (fun i=>g (if tight s p y i then s i else s t0)) = g (s t0) * D n (fun i=>if tight s p y i then 0 else w i):=sm_eq n fun i hi h=>by
    by_cases ht : tight s p y i
    ·rw [if_pos ht] at h; exact absurd rfl h
    ·rw [if_neg ht]
   rw [a2,a3]; grind
  have hR : 0 ≤ D n (fun i=>if tight s p y i then 0 else w i):=by
   by_cases hx : ∃ i,i < n ∧ 0 < (if tight s p y i then 0 else w i)
   ·exact Int.le_of_lt (D_pos n (fun i hi=>by split; exact Int.le_refl _; exact hw.1 i hi) hx)
   ·refine Int.le_of_eq (Eq.symm ?_)
    unfold D
    exact sm_zero n fun i hi=>by
     have : ¬ 0 < (if tight s p y i then 0 else w i):=fun h=>hx ⟨i,hi,h⟩
     have h2 : 0 ≤ (if tight s p y i then 0 else w i):=by split; exact Int.le_refl _; exact hw.1 i hi
     omega
  have hD : D n (fun i=>1 * (if tight s p y i then w i else 0) + D n (fun i=>if tight s p y i then 0 else w i) * e t0 i) = D n w:=(key (fun _=>1)).symm
  refine ⟨_,⟨fun i hi=>?_,by rw [hD]; exact hw.2⟩,?_,fun i hi h=>?_⟩
  ·have e0 : 0 ≤ e t0 i:=by unfold e; split <;> omega
   have e1 : 0 ≤ D n (fun i=>if tight s p y i then 0 else w i) * e t0 i:=Int.mul_nonneg hR e0
   have e2 : 0 ≤ (if tight s p y i then w i else 0):=by split; exact hw.1 i hi; exact Int.le_refl _
   show 0 ≤ 1 * (if tight s p y i then w i else 0) + D n (fun i=>if tight s p y i then 0 else w i) * e t0 i
   omega
  ·have hM:=M_of_nv hz
   unfold nv
   have k1:=key V.x
   have k2:=key V.y
   have k3:=key V.z
   unfold M at hM ⊢
   simp only at hM ⊢
   rw [hD,← k1,← k2,← k3]
   refine V.ext' ?_ ?_ ?_ <;> simp only <;> omega
  ·by_cases ht : tight s p y i
   ·exact ht
   ·simp only [if_neg ht] at h
    have : e t0 i ≠ 0:=fun h0=>by rw [h0] at h; simp at h
    rw [e_ne this]; exact ht0t
 ·exfalso
  generalize nv n (fun i=>if tight s p y i then s i else s t0) x w = m at hsep
  have hat : ∀ u,(⟨1 - m.dot x,m,1⟩ : Du).at_ u = m.dot u - m.dot x + 1:=fun u=>by unfold Du.at_; simp only; omega
  obtain ⟨w',hw',hz'⟩:=hmix
  have hsum:=at_mix hz' (⟨1 - m.dot x,m,1⟩ : Du)
  have hx1 : (⟨1 - m.dot x,m,1⟩ : Du).at_ x = 1:=by rw [hat]; omega
  obtain ⟨y1,g1,_,g3,_,_⟩:=step (x:=x) h1 (z:=⟨1 - m.dot x,m,1⟩) (pos_of_mix hw' (by rw [hsum,hx1]; have:=hw'.2; omega)) (fun j hj ht=>by
   have:=hsep j hj
   rw [if_pos ht] at this
   rw [hat]; omega) (by rw [hx1]; omega)
  have g4:=g3 (by rw [hx1]; omega)
  obtain ⟨y2,k1,k2,k3⟩:=purify hn ⟨w',hw',hz'⟩ y1 g1
  have k4:=h3 y2 ⟨k1,k3⟩ (fun i a b=>by omega)
  have d0:=h1.1
  have d1:=g1.1
  have d2:=k1.1
  have e1 : y.at_ x * y1.d * y2.d < y1.at_ x * y.d * y2.d:=Int.mul_lt_mul_of_pos_right g4 d2
  have e2 : y1.at_ x * y2.d * y.d ≤ y2.at_ x * y1.d * y.d:=Int.mul_le_mul_of_nonneg_right k2 (by omega)
  have e3 : y2.at_ x * y.d * y1.d ≤ y.at_ x * y2.d * y1.d:=Int.mul_le_mul_of_nonneg_right k4 (by omega)
  have q1 : y.at_ x * y1.d * y2.d = y.at_ x * y2.d * y1.d:=by grind
  have q2 : y1.at_ x * y.d * y2.d = y1.at_ x * y2.d * y.d:=by grind
  have q3 : y2.at_ x * y1.d * y.d = y2.at_ x * y.d * y1.d:=by grind
  omega
end
end Go.Proofs.Ytkjceegmmhnajaa.LPX

namespace Go.Proofs.Ytkjceegmmhnajaa.LPX

def V.mul (a : V) (k : Int) : V:=⟨a.x * k,a.y * k,a.z * k⟩
def rwts : List V → V → Option (List Int)
 | [a],x=>if x = a then some [1] else none
 | [a,b],x=>let u:=x.sub a; let d:=b.sub a
  if d.dot d ≠ 0 ∧ d.crs u = ⟨0,0,0⟩ then some [d.dot d - u.dot d,u.dot d] else none
 | [a,b,c],x=>let u:=x.sub a; let d:=b.sub a; let f:=c.sub a; let m:=d.crs f
  if m.dot m ≠ 0 ∧ u.dot m = 0 then some [m.dot m - (u.crs f).dot m - (d.crs u).dot m,(u.crs f).dot m,(d.crs u).dot m] else none
 | [a,b,c,e],x=>let u:=x.sub a; let d:=b.sub a; let f:=c.sub a; let g:=e.sub a; let y:=(d.crs f).dot g
  if y = 0 then none else if y < 0 then some [-(y - (u.crs f).dot g - (d.crs u).dot g - (d.crs f).dot u), -(u.crs f).dot g, -(d.crs u).dot g, -(d.crs f).dot u]
   else some [y - (u.crs f).dot g - (d.crs u).dot g - (d.crs f).dot u,(u.crs f).dot g,(d.crs u).dot g,(d.crs f).dot u]
 | _,_=>none
section
variable {n : Nat} {s : Nat → V} {x : V}
theorem e_self (i : Nat) : e i i = 1:=by unfold e; rw [if_pos rfl]
theorem e_far {i t : Nat} (h : t ≠ i) : e i t = 0:=by unfold e; rw [if_neg h]
theorem nv_congr {w w' : Nat → Int} (h : ∀ i,i < n → w i = w' i) : D n w = D n w' ∧ nv n s x w = nv n s x w':=by
 have e1 : ∀ g,sm n w g = sm n w' g:=fun g=>sm_congr n fun i hi=>by rw [h i hi]
 refine ⟨e1 one,?_⟩
 unfold nv M D
 simp only [e1]
theorem eq0 {a b : V} (h : a = b) : a.x = b.x ∧ a.y = b.y ∧ a.z = b.z:=by rw [h]; exact ⟨rfl,rfl,rfl⟩
theorem wts_pos {w : Nat → Int} (hw : NN n w) (hz : nv n s x w = ⟨0,0,0⟩) : ∀ {L : List Nat},L.Nodup → (∀ i,i ∈ L ↔ i < n ∧ 0 < w i) → FreeP (L.map s) → ∃ ws,rwts (L.map s) x = some ws ∧ ∀ v ∈ ws,0 < v
 | [],_,_,h=>h.elim
 | [i],_,hL,_=>by
  have hi:=(hL i).1 (by simp)
  have hwe : ∀ t,t < n → w t = (fun t=>w i * e i t + 0 * e i t) t:=fun t ht=>by
   by_cases h : t = i
   ·subst h; simp [e_self]
   ·have : ¬ 0 < w t:=fun h0=>h (by simpa using (hL t).2 ⟨ht,h0⟩)
    have:=hw.1 t ht
    simp [e_far h]; omega
  have h1:=(nv_congr (s:=s) (x:=x) hwe).2
  rw [hz,nv_lin,nv_e n s x hi.1] at h1
  obtain ⟨a1,a2,a3⟩:=eq0 h1
  simp only [V.sub] at a1 a2 a3
  have hx : x = s i:=by
   have z : ∀ t : Int,0 = w i * t + 0 * t → t = 0:=fun t ht=>by
    have : w i * t = 0:=by omega
    rcases Int.mul_eq_zero.1 this with h | h
    ·omega
    ·exact h
   exact V.ext' (by have:=z _ a1; omega) (by have:=z _ a2; omega) (by have:=z _ a3; omega)
  exact ⟨[1],by show (if x = s i then some [1] else none) = _; rw [if_pos hx],by simp⟩
 | [i,j],hnd,hL,h=>by
  have hi:=(hL i).1 (by simp)
  have hj:=(hL j).1 (by simp)
  have hij : i ≠ j:=by simp at hnd; exact hnd
  have hwe : ∀ t,t < n → w t = c2 (w i) (w j) i j t:=fun t ht=>by
   unfold c2
   by_cases h1 : t = i
   ·subst h1; simp [e_self,e_far hij]
   ·by_cases h2 : t = j
    ·subst h2; simp [e_self,e_far h1]
    ·have : ¬ 0 < w t:=fun h0=>by have:=(hL t).2 ⟨ht,h0⟩; simp at this; omega
     have:=hw.1 t ht
     simp [e_far h1,e_far h2]; omega
  have h1:=(nv_congr (s:=s) (x:=x) hwe).2
  rw [hz,(nv_c2 hi.1 hj.1).2] at h1
  obtain ⟨a1,a2,a3⟩:=eq0 h1
  have h : ((s j).sub (s i)).dot ((s j).sub (s i)) ≠ 0:=h
  have hy:=dot_self ((s j).sub (s i))
  have b : x.sub (s j) = (x.sub (s i)).sub ((s j).sub (s i)):=by unfold V.sub; refine V.ext' ?_ ?_ ?_ <;> simp only <;> omega
  rw [b] at a1 a2 a3
  show ∃ ws,(if ((s j).sub (s i)).dot ((s j).sub (s i)) ≠ 0 ∧ ((s j).sub (s i)).crs (x.sub (s i)) = ⟨0,0,0⟩ then some [((s j).sub (s i)).dot ((s j).sub (s i)) - (x.sub (s i)).dot ((s j).sub (s i)),(x.sub (s i)).dot ((s j).sub (s i))] else none) = some ws ∧ _
  generalize (s j).sub (s i) = d at *
  generalize x.sub (s i) = u at *
  obtain ⟨_,hwi⟩:=hi
  obtain ⟨_,hwj⟩:=hj
  generalize w i = p at *
  generalize w j = q at *
  simp only [V.sub] at a1 a2 a3
  have k1 : (p + q) * u.x = q * d.x:=by grind
  have k2 : (p + q) * u.y = q * d.y:=by grind
  have k3 : (p + q) * u.z = q * d.z:=by grind
  have z : ∀ t : Int,(p + q) * t = 0 → t = 0:=fun t ht=>by
   rcases Int.mul_eq_zero.1 ht with h | h
   ·omega
   ·exact h
  have hc : d.crs u = ⟨0,0,0⟩:=by
   unfold V.crs
   refine V.ext' ?_ ?_ ?_ <;> simp only <;> refine z _ ?_
   ·have : (p + q) * (d.y * u.z - d.z * u.y) = d.y * ((p + q) * u.z) - d.z * ((p + q) * u.y):=by grind
    rw [this,k2,k3]; grind
   ·have : (p + q) * (d.z * u.x - d.x * u.z) = d.z * ((p + q) * u.x) - d.x * ((p + q) * u.z):=by grind
    rw [this,k1,k3]; grind
   ·have : (p + q) * (d.x * u.y - d.y * u.x) = d.x * ((p + q) * u.y) - d.y * ((p + q) * u.x):=by grind
    rw [this,k1,k2]; grind
  rw [if_pos ⟨h,hc⟩]
  have m1 : (p + q) * u.dot d = q * d.dot d:=by
   have : (p + q) * u.dot d = ((p + q) * u.x) * d.x + ((p + q) * u.y) * d.y + ((p + q) * u.z) * d.z:=by unfold V.dot; grind
   rw [this,k1,k2,k3]; unfold V.dot; grind
  have hyp : 0 < d.dot d:=by omega
  have pos : ∀ t r : Int,0 < r → (p + q) * t = r * d.dot d → 0 < t:=fun t r hr ht=>by
   have h0 : 0 < (p + q) * t:=by rw [ht]; exact Int.mul_pos hr hyp
   exact Int.pos_of_mul_pos_right h0 (by omega)
  refine ⟨_,rfl,fun v hv=>?_⟩
  have hv' : v = d.dot d - u.dot d ∨ v = u.dot d:=by simpa using hv
  rcases hv' with rfl | rfl
  ·have e1 : (p + q) * (d.dot d - u.dot d) = (p + q) * d.dot d - (p + q) * u.dot d:=by rw [Int.mul_sub]
   exact pos _ p hwi (by rw [e1,m1]; simp only [Int.add_mul]; omega)
  ·exact pos _ q hwj m1
 | [i,j,k],hnd,hL,h=>by
  have hi:=(hL i).1 (by simp)
  have hj:=(hL j).1 (by simp)
  have hk:=(hL k).1 (by simp)
  have hne : i ≠ j ∧ i ≠ k ∧ j ≠ k:=by simp at hnd; exact ⟨hnd.1.1,hnd.1.2,hnd.2⟩
  obtain ⟨hij,hik,hjk⟩:=hne
  have hwe : ∀ t,t < n → w t = c3 (w i) (w j) (w k) i j k t:=fun t ht=>by
   unfold c3 c2
   by_cases h1 : t = i
   ·subst h1; simp [e_self,e_far hij,e_far hik]
   ·by_cases h2 : t = j
    ·subst h2; simp [e_self,e_far h1,e_far hjk]
    ·by_cases h3 : t = k
     ·subst h3; simp [e_self,e_far h1,e_far h2]
     ·have : ¬ 0 < w t:=fun h0=>by have:=(hL t).2 ⟨ht,h0⟩; simp at this; omega
      have:=hw.1 t ht
      simp [e_far h1,e_far h2,e_far h3]; omega
  have h1:=(nv_congr (s:=s) (x:=x) hwe).2
  rw [hz,(nv_c3 hi.1 hj.1 hk.1).2] at h1
  obtain ⟨a1,a2,a3⟩:=eq0 h1
  have h : (((s j).sub (s i)).crs ((s k).sub (s i))).dot (((s j).sub (s i)).crs ((s k).sub (s i))) ≠ 0:=h
  have hy:=dot_self (((s j).sub (s i)).crs ((s k).sub (s i)))
  have b : ∀ t,x.sub (s t) = (x.sub (s i)).sub ((s t).sub (s i)):=fun t=>by unfold V.sub; refine V.ext' ?_ ?_ ?_ <;> simp only <;> omega
  rw [b j,b k] at a1 a2 a3
  show ∃ ws,(if (((s j).sub (s i)).crs ((s k).sub (s i))).dot (((s j).sub (s i)).crs ((s k).sub (s i))) ≠ 0 ∧ (x.sub (s i)).dot (((s j).sub (s i)).crs ((s k).sub (s i))) = 0 then some [(((s j).sub (s i)).crs ((s k).sub (s i))).dot (((s j).sub (s i)).crs ((s k).sub (s i))) - ((x.sub (s i)).crs ((s k).sub (s i))).dot (((s j).sub (s i)).crs ((s k).sub (s i))) - (((s j).sub (s i)).crs (x.sub (s i))).dot (((s j).sub (s i)).crs ((s k).sub (s i))),((x.sub (s i)).crs ((s k).sub (s i))).dot (((s j).sub (s i)).crs ((s k).sub (s i))),(((s j).sub (s i)).crs (x.sub (s i))).dot (((s j).sub (s i)).crs ((s k).sub (s i)))] else none) = some ws ∧ _
  generalize (s j).sub (s i) = d at *
  generalize (s k).sub (s i) = f at *
  generalize x.sub (s i) = u at *
  obtain ⟨_,hwi⟩:=hi
  obtain ⟨_,hwj⟩:=hj
  obtain ⟨_,hwk⟩:=hk
  generalize w i = p at *
  generalize w j = q at *
  generalize w k = r at *
  simp only [V.sub] at a1 a2 a3
  have k1 : (p + q + r) * u.x = q * d.x + r * f.x:=by grind
  have k2 : (p + q + r) * u.y = q * d.y + r * f.y:=by grind
  have k3 : (p + q + r) * u.z = q * d.z + r * f.z:=by grind
  have z : ∀ t : Int,(p + q + r) * t = 0 → t = 0:=fun t ht=>by
   rcases Int.mul_eq_zero.1 ht with h | h
   ·omega
   ·exact h
  have lin : ∀ g : V,(p + q + r) * u.dot g = q * d.dot g + r * f.dot g:=fun g=>by
   have : (p + q + r) * u.dot g = ((p + q + r) * u.x) * g.x + ((p + q + r) * u.y) * g.y + ((p + q + r) * u.z) * g.z:=by unfold V.dot; grind
   rw [this,k1,k2,k3]; unfold V.dot; grind
  have t1 : u.dot (d.crs f) = 0:=z _ (by rw [lin]; unfold V.dot V.crs; grind)
  have swap1 : (u.crs f).dot (d.crs f) = u.dot (f.crs (d.crs f)):=by unfold V.dot V.crs; grind
  have swap2 : (d.crs u).dot (d.crs f) = u.dot ((d.crs f).crs d):=by unfold V.dot V.crs; grind
  have m1 : (p + q + r) * (u.crs f).dot (d.crs f) = q * (d.crs f).dot (d.crs f):=by
   rw [swap1,lin]; unfold V.dot V.crs; grind
  have m2 : (p + q + r) * (d.crs u).dot (d.crs f) = r * (d.crs f).dot (d.crs f):=by
   rw [swap2,lin]; unfold V.dot V.crs; grind
  rw [if_pos ⟨h,t1⟩]
  have hyp : 0 < (d.crs f).dot (d.crs f):=by omega
  generalize (d.crs f).dot (d.crs f) = y at *
  generalize (u.crs f).dot (d.crs f) = aa at *
  generalize (d.crs u).dot (d.crs f) = bb at *
  have pos : ∀ t r' : Int,0 < r' → (p + q + r) * t = r' * y → 0 < t:=fun t r' hr ht=>by
   have h0 : 0 < (p + q + r) * t:=by rw [ht]; exact Int.mul_pos hr hyp
   exact Int.pos_of_mul_pos_right h0 (by omega)
  refine ⟨_,rfl,fun v hv=>?_⟩
  have hv' : v = y - aa - bb ∨ v = aa ∨ v = bb:=by simpa using hv
  rcases hv' with rfl | rfl | rfl
  ·have e1 : (p + q + r) * (y - aa - bb) = (p + q + r) * y - (p + q + r) * aa - (p + q + r) * bb:=by simp only [Int.mul_sub]
   exact pos _ p hwi (by rw [e1,m1,m2]; simp only [Int.add_mul]; omega)
  ·exact pos _ q hwj m1
  ·exact pos _ r hwk m2
 | [i,j,k,l],hnd,hL,h=>by
  have hi:=(hL i).1 (by simp)
  have hj:=(hL j).1 (by simp)
  have hk:=(hL k).1 (by simp)
  have hl:=(hL l).1 (by simp)
  have hne : (i ≠ j ∧ i ≠ k ∧ i ≠ l) ∧ (j ≠ k ∧ j ≠ l) ∧ k ≠ l:=by simp at hnd; exact hnd
  obtain ⟨⟨hij,hik,hil⟩,⟨hjk,hjl⟩,hkl⟩:=hne
  have hwe : ∀ t,t < n → w t = c4 (w i) (w j) (w k) (w l) i j k l t:=fun t ht=>by
   unfold c4 c3 c2
   by_cases h1 : t = i
   ·subst h1; simp [e_self,e_far hij,e_far hik,e_far hil]
   ·by_cases h2 : t = j
    ·subst h2; simp [e_self,e_far h1,e_far hjk,e_far hjl]
    ·by_cases h3 : t = k
     ·subst h3; simp [e_self,e_far h1,e_far h2,e_far hkl]
     ·by_cases h4 : t = l
      ·subst h4; simp [e_self,e_far h1,e_far h2,e_far h3]
      ·have : ¬ 0 < w t:=fun h0=>by have:=(hL t).2 ⟨ht,h0⟩; simp at this; omega
       have:=hw.1 t ht
       simp [e_far h1,e_far h2,e_far h3,e_far h4]; omega
  have h1:=(nv_congr (s:=s) (x:=x) hwe).2
  rw [hz,(nv_c4 hi.1 hj.1 hk.1 hl.1).2] at h1
  obtain ⟨a1,a2,a3⟩:=eq0 h1
  have h : (((s j).sub (s i)).crs ((s k).sub (s i))).dot ((s l).sub (s i)) ≠ 0:=h
  have b : ∀ t,x.sub (s t) = (x.sub (s i)).sub ((s t).sub (s i)):=fun t=>by unfold V.sub; refine V.ext' ?_ ?_ ?_ <;> simp only <;> omega
  rw [b j,b k,b l] at a1 a2 a3
  show ∃ ws,(if (((s j).sub (s i)).crs ((s k).sub (s i))).dot ((s l).sub (s i)) = 0 then none else if (((s j).sub (s i)).crs ((s k).sub (s i))).dot ((s l).sub (s i)) < 0 then some [-((((s j).sub (s i)).crs ((s k).sub (s i))).dot ((s l).sub (s i)) - ((x.sub (s i)).crs ((s k).sub (s i))).dot ((s l).sub (s i)) - (((s j).sub (s i)).crs (x.sub (s i))).dot ((s l).sub (s i)) - (((s j).sub (s i)).crs ((s k).sub (s i))).dot (x.sub (s i))), -((x.sub (s i)).crs ((s k).sub (s i))).dot ((s l).sub (s i)), -(((s j).sub (s i)).crs (x.sub (s i))).dot ((s l).sub (s i)), -(((s j).sub (s i)).crs ((s k).sub (s i))).dot (x.sub (s i))]
   else some [(((s j).sub (s i)).crs ((s k).sub (s i))).dot ((s l).sub (s i)) - ((x.sub (s i)).crs ((s k).sub (s i))).dot ((s l).sub (s i)) - (((s j).sub (s i)).crs (x.sub (s i))).dot ((s l).sub (s i)) - (((s j).sub (s i)).crs ((s k).sub (s i))).dot (x.sub (s i)),((x.sub (s i)).crs ((s k).sub (s i))).dot ((s l).sub (s i)),(((s j).sub (s i)).crs (x.sub (s i))).dot ((s l).sub (s i)),(((s j).sub (s i)).crs ((s k).sub (s i))).dot (x.sub (s i))]) = some ws ∧ _
  generalize (s j).sub (s i) = d at *
  generalize (s k).sub (s i) = f at *
  generalize (s l).sub (s i) = g at *
  generalize x.sub (s i) = u at *
  obtain ⟨_,hwi⟩:=hi
  obtain ⟨_,hwj⟩:=hj
  obtain ⟨_,hwk⟩:=hk
  obtain ⟨_,hwl⟩:=hl
  generalize w i = p at *
  generalize w j = q at *
  generalize w k = r at *
  generalize w l = t at *
  simp only [V.sub] at a1 a2 a3
  have k1 : (p + q + r + t) * u.x = q * d.x + r * f.x + t * g.x:=by grind
  have k2 : (p + q + r + t) * u.y = q * d.y + r * f.y + t * g.y:=by grind
  have k3 : (p + q + r + t) * u.z = q * d.z + r * f.z + t * g.z:=by grind
  have lin : ∀ m : V,(p + q + r + t) * u.dot m = q * d.dot m + r * f.dot m + t * g.dot m:=fun m=>by
   have : (p + q + r + t) * u.dot m = ((p + q + r + t) * u.x) * m.x + ((p + q + r + t) * u.y) * m.y + ((p + q + r + t) * u.z) * m.z:=by unfold V.dot; grind
   rw [this,k1,k2,k3]; unfold V.dot; grind
  have s1 : (u.crs f).dot g = u.dot (f.crs g):=by unfold V.dot V.crs; grind
  have s2 : (d.crs u).dot g = u.dot (g.crs d):=by unfold V.dot V.crs; grind
  have s3 : (d.crs f).dot u = u.dot (d.crs f):=by unfold V.dot; grind
  have m1 : (p + q + r + t) * (u.crs f).dot g = q * (d.crs f).dot g:=by rw [s1,lin]; unfold V.dot V.crs; grind
  have m2 : (p + q + r + t) * (d.crs u).dot g = r * (d.crs f).dot g:=by rw [s2,lin]; unfold V.dot V.crs; grind
  have m3 : (p + q + r + t) * (d.crs f).dot u = t * (d.crs f).dot g:=by rw [s3,lin]; unfold V.dot V.crs; grind
  generalize (d.crs f).dot g = y at *
  generalize (u.crs f).dot g = aa at *
  generalize (d.crs u).dot g = bb at *
  generalize (d.crs f).dot u = cc at *
  rw [if_neg h]
  by_cases hneg : y < 0
  ·rw [if_pos hneg]
   have pos : ∀ v r' : Int,0 < r' → (p + q + r + t) * v = r' * y → 0 < -v:=fun v r' hr ht=>by
    have h0 : 0 < (p + q + r + t) * (-v):=by
     have : (p + q + r + t) * (-v) = r' * (-y):=by rw [Int.mul_neg,ht,Int.mul_neg]
     rw [this]; exact Int.mul_pos hr (by omega)
    exact Int.pos_of_mul_pos_right h0 (by omega)
   refine ⟨_,rfl,fun v hv=>?_⟩
   have hv' : v = -(y - aa - bb - cc) ∨ v = -aa ∨ v = -bb ∨ v = -cc:=by simpa using hv
   have e1 : (p + q + r + t) * (y - aa - bb - cc) = (p + q + r + t) * y - (p + q + r + t) * aa - (p + q + r + t) * bb - (p + q + r + t) * cc:=by simp only [Int.mul_sub]
   rcases hv' with rfl | rfl | rfl | rfl
   ·exact pos _ p hwi (by rw [e1,m1,m2,m3]; simp only [Int.add_mul]; omega)
   ·exact pos _ q hwj m1
   ·exact pos _ r hwk m2
   ·exact pos _ t hwl m3
  ·rw [if_neg hneg]
   have pos : ∀ v r' : Int,0 < r' → (p + q + r + t) * v = r' * y → 0 < v:=fun v r' hr ht=>by
    have h0 : 0 < (p + q + r + t) * v:=by rw [ht]; exact Int.mul_pos hr (by omega)
    exact Int.pos_of_mul_pos_right h0 (by omega)
   refine ⟨_,rfl,fun v hv=>?_⟩
   have hv' : v = y - aa - bb - cc ∨ v = aa ∨ v = bb ∨ v = cc:=by simpa using hv
   have e1 : (p + q + r + t) * (y - aa - bb - cc) = (p + q + r + t) * y - (p + q + r + t) * aa - (p + q + r + t) * bb - (p + q + r + t) * cc:=by simp only [Int.mul_sub]
   rcases hv' with rfl | rfl | rfl | rfl
   ·exact pos _ p hwi (by rw [e1,m1,m2,m3]; simp only [Int.add_mul]; omega)
   ·exact pos _ q hwj m1
   ·exact pos _ r hwk m2
   ·exact pos _ t hwl m3
 | _ :: _ :: _ :: _ :: _ :: _,_,_,h=>h.elim
theorem mix_found {w : Nat → Int} (hw : NN n w) (hz : nv n s x w = ⟨0,0,0⟩) : ∃ L : List Nat,L.Sublist (List.range n) ∧ (1 ≤ L.length ∧ L.length ≤ 4) ∧ (∀ i ∈ L,0 < w i) ∧ ∃ ws,rwts (L.map s) x = some ws ∧ ∀ v ∈ ws,0 < v:=by
 obtain ⟨w',a,h1,h2,h3,h4,h5,h6⟩:=carath (s:=s) (cnt n w) w (Nat.le_refl _) hw
 have hz' : nv n s x w' = ⟨0,0,0⟩:=by rw [h5,hz]; simp
 have hlen:=free_len h6
 rw [List.length_map] at hlen
 exact ⟨suppL n w',by unfold suppL; exact List.filter_sublist,hlen,fun i hi=>h3 i (mem_supp.1 hi).1 (mem_supp.1 hi).2,wts_pos h1 hz' (by unfold suppL; exact List.Nodup.sublist List.filter_sublist List.nodup_range) (fun i=>mem_supp) h6⟩
end
end Go.Proofs.Ytkjceegmmhnajaa.LPX
