/- The reference's Cheapest (fn 21). Printed by wip/gen_rch.py. -/
import Derived.Test.YtkjceegmmhnajaaG54
import Derived.Test.YtkjceegmmhnajaaG61
import Derived.Test.YtkjceegmmhnajaaG62
import Derived.Test.YtkjceegmmhnajaaG89
import Derived.Test.YtkjceegmmhnajaaG94

set_option linter.unusedVariables false
set_option linter.unusedSimpArgs false

namespace Go.Proofs.Ytkjceegmmhnajaa
open Go.RowKit

def swp (sw : Bool) (p q r s : Int) : Prop:=if sw then r * q < p * s else p * s < r * q
theorem swp_true (p q r s : Int) : swp true p q r s = (r * q < p * s):=rfl
theorem swp_false (p q r s : Int) : swp false p q r s = (p * s < r * q):=rfl

theorem less_blocks {w : World} {B C : Nat} {t : TypeId} {a b c d : Value} (h1 : Bk w B t #[a,b]) (h2 : Bk w C t #[c,d]) (hn : B ≠ C) (v1 v2 v3 v4 : Value) :
  let W:=(((w.setCell ⟨B,0,none⟩ v1).setCell ⟨B,1,none⟩ v2).setCell ⟨C,0,none⟩ v3).setCell ⟨C,1,none⟩ v4
  Bk W B t #[v1,v2] ∧ Bk W C t #[v3,v4]:=by
 have hn' : C ≠ B:=fun e=>hn e.symm
 exact ⟨((((h1.set 0 v1).set 1 v2).far (p:=⟨C,0,none⟩) hn v3).far (p:=⟨C,1,none⟩) hn v4),
  ((((h2.far (p:=⟨B,0,none⟩) hn' v1).far (p:=⟨B,1,none⟩) hn' v2).set 0 v3).set 1 v4)⟩

theorem less_step (sw : Bool) (p q r s m n : Int) (hq : 1 ≤ q) (hs : 1 ≤ s) (hm : m = p / q) (hn : n = r / s) :
  (swp sw p q r s ↔ (if sw then n < m else m < n) ∨ (m = n ∧ swp sw (p - m * q) q (r - n * s) s)):=by
 have e1 : p - m * q = p % q:=by have:=Int.mul_ediv_add_emod p q; rw [hm,Int.mul_comm (p / q)]; omega
 have e2 : r - n * s = r % s:=by have:=Int.mul_ediv_add_emod r s; rw [hn,Int.mul_comm (r / s)]; omega
 rw [e1,e2,hm,hn]
 cases sw
 ·exact cmp_step p q r s hq hs
 ·have:=cmp_step r s p q hs hq
  rw [swp_true,swp_true]
  simp only [if_true]
  rw [this]
  constructor
  ·rintro (h | ⟨h1,h2⟩)
   ·exact .inl h
   ·exact .inr ⟨h1.symm,h2⟩
  ·rintro (h | ⟨h1,h2⟩)
   ·exact .inl h
   ·exact .inr ⟨h1.symm,h2⟩

theorem less_stop1 (sw : Bool) (m n : Int) (h : m ≠ n) : (decide (m < n) != sw) = decide (if sw then n < m else m < n):=by
 cases sw
 ·simp
 ·by_cases h1 : m < n
  ·have : ¬ n < m:=by omega
   simp [h1,this]
  ·have : n < m:=by omega
   simp [h1,this]

def LessEnd (b : Bool) (w : World) (e : Ending) (w' : World) : Prop:=e = .returned (.bool b) ∧ Below w.heap.size w w'
theorem less_ret {p q r s : Int} {b : Bool} {w w' : World} (h : b = true ↔ p * s < r * q) (hb : Below w.heap.size w w') : LessEnd (decide (p * s < r * q)) w (.returned (.bool b)) w' :=
 ⟨by congr 2; rw [Bool.eq_iff_iff]; simpa using h,hb⟩
theorem less_fin2 (sw : Bool) (u v s q : Int) (hu : 0 ≤ u) (hv : 0 ≤ v) (hs : 1 ≤ s) (hq : 1 ≤ q) (h : u = 0 ∨ v = 0) :
  swp sw u q v s ↔ (if sw then v = 0 ∧ 0 < u else u = 0 ∧ 0 < v):=by
 have a1 : 0 < u → 0 < u * s:=fun h=>Int.mul_pos h (by omega)
 have a2 : 0 < v → 0 < v * q:=fun h=>Int.mul_pos h (by omega)
 cases sw
 ·rw [swp_false]; simp only [Bool.false_eq_true,if_false]
  rcases h with rfl | rfl
  ·rw [Int.zero_mul]
   rcases Int.lt_or_eq_of_le hv with h | h
   ·exact ⟨fun _=>⟨rfl,h⟩,fun _=>a2 h⟩
   ·subst h; simp
  ·rw [Int.zero_mul]
   rcases Int.lt_or_eq_of_le hu with h | h
   ·have:=a1 h; constructor <;> intro _ <;> omega
   ·subst h; simp
 ·rw [swp_true]; simp only [if_true]
  rcases h with rfl | rfl
  ·rw [Int.zero_mul]
   rcases Int.lt_or_eq_of_le hv with h | h
   ·have:=a2 h; constructor <;> intro _ <;> omega
   ·subst h; simp
  ·rw [Int.zero_mul]
   rcases Int.lt_or_eq_of_le hu with h | h
   ·exact ⟨fun _=>⟨rfl,h⟩,fun _=>a1 h⟩
   ·subst h; simp

theorem less_start (w : World) (o1 o2 : Obj) (a b c d : Value) : Bk ((((w.alloc o1).alloc o2).alloc (.cells #[a,b] 29)).alloc (.cells #[c,d] 29)) (w.heap.size + 1 + 1) 29 #[a,b] ∧ Bk ((((w.alloc o1).alloc o2).alloc (.cells #[a,b] 29)).alloc (.cells #[c,d] 29)) (w.heap.size + 1 + 1 + 1) 29 #[c,d]:=by
 have h1:=Bk.new ((w.alloc o1).alloc o2) 29 #[a,b]
 have h2:=Bk.new (((w.alloc o1).alloc o2).alloc (.cells #[a,b] 29)) 29 #[c,d]
 rw [World.size_alloc,World.size_alloc] at h1
 rw [World.size_alloc,World.size_alloc,World.size_alloc] at h2
 exact ⟨h1.alloc _,h2⟩

set_option maxRecDepth 100000 in
set_option maxHeartbeats 1600000 in
theorem less_any (p q r s : Int) (w : World) (hp : 0 ≤ p) (hp2 : p ≤ 3050000000000000000) (hq : 1 ≤ q) (hq2 : q ≤ 3050000000000000000) (hr : 0 ≤ r) (hr2 : r ≤ 3050000000000000000) (hs : 1 ≤ s) (hs2 : s ≤ 3050000000000000000) :
  Calls Try.prog 18 #[.agg #[.int .i64 p, .int .i64 q], .agg #[.int .i64 r, .int .i64 s]] w (LessEnd (decide (p * s < r * q)) w):=by
 go_enter Try.func18,Try.ntmps18
 go_wp2
 go_loopw [7] (fun x wr=>∃ (p' q' r' s' : Int) (sw : Bool),x = .bool sw ∧ (Bk wr (w.heap.size + 1 + 1) 29 #[.int .i64 p', .int .i64 q'] ∧ Bk wr (w.heap.size + 1 + 1 + 1) 29 #[.int .i64 r', .int .i64 s'])
  ∧ Below w.heap.size w wr ∧ Hid (swp sw p' q' r' s' ↔ p * s < r * q)
  ∧ 0 ≤ p' ∧ p' ≤ 3050000000000000000 ∧ 1 ≤ q' ∧ q' ≤ 3050000000000000000 ∧ 0 ≤ r' ∧ r' ≤ 3050000000000000000 ∧ 1 ≤ s' ∧ s' ≤ 3050000000000000000) (fun _ wr=>(intOf ((wr.cell? ⟨w.heap.size + 1 + 1,1,none⟩).getD undef) + intOf ((wr.cell? ⟨w.heap.size + 1 + 1 + 1,1,none⟩).getD undef)).toNat)
 case atStart =>
  refine ⟨p,q,r,s,false,rfl,?_,bw,Iff.rfl,hp,hp2,hq,hq2,hr,hr2,hs,hs2⟩
  exact less_start w _ _ _ _ _ _
 case round =>
  clear hp hp2 hq hq2 hr hr2 hs hs2
  obtain ⟨p',q',r',s',sw,rfl,⟨bA,bB⟩,hB,hi,hp,hp2,hq,hq2,hr,hr2,hs,hs2⟩:=hrel
  have hBs:=hB.size
  have x1:=bA.cell 0 rfl
  have x2:=bA.cell 1 rfl
  have x3:=bB.cell 0 rfl
  have x4:=bB.cell 1 rfl
  have f1:=bA.fro 0
  have f2:=bA.fro 1
  have f3:=bB.fro 0
  have f4:=bB.fro 1
  have a1 : 0 ≤ p' / q' ∧ p' / q' ≤ 3050000000000000000:=⟨Int.ediv_nonneg hp (by omega),Int.le_trans (Int.ediv_le_self _ hp) hp2⟩
  have a2 : 0 ≤ r' / s' ∧ r' / s' ≤ 3050000000000000000:=⟨Int.ediv_nonneg hr (by omega),Int.le_trans (Int.ediv_le_self _ hr) hr2⟩
  have b1 : 0 ≤ p' % q' ∧ p' % q' < q':=⟨Int.emod_nonneg _ (by omega),Int.emod_lt_of_pos _ (by omega)⟩
  have b2 : 0 ≤ r' % s' ∧ r' % s' < s':=⟨Int.emod_nonneg _ (by omega),Int.emod_lt_of_pos _ (by omega)⟩
  have e1:=Int.mul_ediv_add_emod p' q'
  have e2:=Int.mul_ediv_add_emod r' s'
  have F1:=Lib.hid (fun w1 : World=>floor_any p' q' w1 (by unfold bigP; omega) hq hq2)
  have F2:=Lib.hid (fun w1 : World=>floor_any r' s' w1 (by unfold bigP; omega) hs hs2)
  have K:=Lib.hid (less_step sw p' q' r' s' _ _ hq hs rfl rfl)
  have e1' : 0 ≤ p' / q' * q' ∧ p' / q' * q' ≤ p' ∧ p' - p' / q' * q' = p' % q':=by rw [Int.mul_comm]; have : 0 ≤ q' * (p' / q'):=Int.mul_nonneg (by omega) a1.1; omega
  have e2' : 0 ≤ r' / s' * s' ∧ r' / s' * s' ≤ r' ∧ r' - r' / s' * s' = r' % s':=by rw [Int.mul_comm]; have : 0 ≤ s' * (r' / s'):=Int.mul_nonneg (by omega) a2.1; omega
  clear e1 e2
  generalize p' / q' = m at *
  generalize r' / s' = n at *
  generalize p' % q' = u at *
  generalize r' % s' = v at *
  obtain ⟨a1,a1'⟩:=a1
  obtain ⟨a2,a2'⟩:=a2
  obtain ⟨b1,b1'⟩:=b1
  obtain ⟨b2,b2'⟩:=b2
  obtain ⟨d1,d2,d3⟩:=e1'
  obtain ⟨d4,d5,d6⟩:=e2'
  rw [d3,d6] at K
  by_cases hx : m = n
  ·subst hx
   have K' : Hid (swp sw u q' v s' ↔ p * s < r * q):=by
    have k:=K.out
    rw [hi.out] at k
    simp at k
    exact k.symm
   clear K hi
   have hmm : (m != m) = false:=by simp
   by_cases h1 : u = 0
   ·have hu : (u == 0) = true:=by rw [h1]; rfl
    have hu' : decide (0 < u) = false:=by rw [decide_eq_false_iff_not]; omega
    have HF:=Lib.hid (less_fin2 sw u v s' q' b1 b2 hs hq (.inl h1))
    have h0 : u ≤ 0:=by omega
    have H1:=Lib.hid h1; clear h1
    by_cases h2 : v = 0
    ·have hv : (v == 0) = true:=by rw [h2]; rfl
     have h0' : v ≤ 0:=by omega
     have H2:=Lib.hid h2; clear h2
     cases sw
     all_goals
      go_wp2_with (first | (go_at_call 44; with_reducible refine (F1.out _).mono ?_; rintro e w' ⟨rfl,rfl⟩) | (go_at_call 44; with_reducible refine (F2.out _).mono ?_; rintro e w' ⟨rfl,rfl⟩))
      go_ret
      refine less_ret ?_ bw
      rw [← K'.out,HF.out]
      simp [H1.out,H2.out]
    ·have hv : (v == 0) = false:=by rw [beq_eq_false_iff_ne]; exact h2
     have h0' : 0 < v:=by omega
     have H2:=Lib.hid h2; clear h2
     cases sw
     all_goals
      go_wp2_with (first | (go_at_call 44; with_reducible refine (F1.out _).mono ?_; rintro e w' ⟨rfl,rfl⟩) | (go_at_call 44; with_reducible refine (F2.out _).mono ?_; rintro e w' ⟨rfl,rfl⟩))
      go_ret
      refine less_ret ?_ bw
      rw [← K'.out,HF.out]
      simp [H1.out,H2.out,h0']
   ·have hu : (u == 0) = false:=by rw [beq_eq_false_iff_ne]; exact h1
    have h0 : 0 < u:=by omega
    by_cases h2 : v = 0
    ·have hv : (v == 0) = true:=by rw [h2]; rfl
     have HF:=Lib.hid (less_fin2 sw u v s' q' b1 b2 hs hq (.inr h2))
     have h0' : v ≤ 0:=by omega
     have H1:=Lib.hid h1; clear h1
     have H2:=Lib.hid h2; clear h2
     cases sw
     all_goals
      go_wp2_with (first | (go_at_call 44; with_reducible refine (F1.out _).mono ?_; rintro e w' ⟨rfl,rfl⟩) | (go_at_call 44; with_reducible refine (F2.out _).mono ?_; rintro e w' ⟨rfl,rfl⟩))
      go_ret
      refine less_ret ?_ bw
      rw [← K'.out,HF.out]
      simp [H1.out,H2.out,h0]
    ·have hv : (v == 0) = false:=by rw [beq_eq_false_iff_ne]; exact h2
     have h0' : 0 < v:=by omega
     have H1:=Lib.hid h1; clear h1
     have H2:=Lib.hid h2; clear h2
     have HN : Hid (swp (!sw) q' u s' v ↔ p * s < r * q):=by
      refine Iff.trans ?_ K'.out
      cases sw
      ·simp only [swp_true,swp_false,Bool.not_false]; rw [Int.mul_comm s',Int.mul_comm q']
      ·simp only [swp_true,swp_false,Bool.not_true]; rw [Int.mul_comm s',Int.mul_comm q']
     go_wp2_with (first | (go_at_call 44; with_reducible refine (F1.out _).mono ?_; rintro e w' ⟨rfl,rfl⟩) | (go_at_call 44; with_reducible refine (F2.out _).mono ?_; rintro e w' ⟨rfl,rfl⟩))
     go_roundw
     case rel=>exact ⟨q',u,s',v,!sw,rfl,less_blocks bA bB (by omega) _ _ _ _,bw,HN,by omega,by omega,by omega,by omega,by omega,by omega,by omega,by omega⟩
     case measure =>
      have hb:=less_blocks bA bB (by omega) (.int .i64 q') (.int .i64 u) (.int .i64 s') (.int .i64 v)
      rw [hb.1.cell 1 rfl,hb.2.cell 1 rfl,x2,x4]; simp [intOf]; omega
  ·have hx1 : (m != n) = true:=by rw [bne_iff_ne]; exact hx
   have HS:=Lib.hid (less_stop1 sw m n hx)
   have Hx:=Lib.hid hx; clear hx
   have D3:=Lib.hid d3; clear d3
   have D6:=Lib.hid d6; clear d6
   go_wp2_with (first | (go_at_call 44; with_reducible refine (F1.out _).mono ?_; rintro e w' ⟨rfl,rfl⟩) | (go_at_call 44; with_reducible refine (F2.out _).mono ?_; rintro e w' ⟨rfl,rfl⟩))
   go_ret
   refine less_ret ?_ bw
   rw [← hi.out,K.out]
   have e:=HS.out
   simp only [bne] at e
   rw [e]
   simp [Hx.out]
end Go.Proofs.Ytkjceegmmhnajaa

namespace Go.Proofs.Ytkjceegmmhnajaa
open Go.RowKit LPX

def RBest (l : List Tn) (x : Vc) (B0 g : Nat) (rs : List (List Pt)) (yf : Value) (W : World) : Prop :=
 (bestF l rs = none ∧ yf = .bool false ∧ Bk W g 25 #[.slice none 0 0] ∧ Bk W (g + 1) 29 #[.int .i64 0, .int .i64 0]) ∨ ∃ f : Er,bestF l rs = some f.ps ∧ f.ps ∈ allR l x ∧ f.At B0 W ∧ yf = .bool true ∧ Bk W g 25 #[.slice f.A f.ps.length f.c] ∧ Bk W (g + 1) 29 #[.int .i64 (priL l f.ps).1, .int .i64 (priL l f.ps).2]
theorem RBest.below {l : List Tn} {x : Vc} {B0 g : Nat} {rs : List (List Pt)} {yf : Value} {W W' : World} (h : RBest l x B0 g rs yf W) (hb : Below W.heap.size W W') : RBest l x B0 g rs yf W':=by
 rcases h with ⟨h1,h2,h3,h4⟩ | ⟨f,h1,h2,h3,h4,h5,h6⟩
 ·exact .inl ⟨h1,h2,h3.below hb h3.lt,h4.below hb h4.lt⟩
 ·exact .inr ⟨f,h1,h2,h3.kp (KpC.of_below hb),h4,h5.below hb h5.lt,h6.below hb h6.lt⟩
def RCheE (l : List Tn) (x y z : Int) (w : World) (e : Ending) (w' : World) : Prop :=
 Below w.heap.size w w' ∧ ((chkW l x y z ≠ 0 ∧ e = .returned (.tuple #[.agg #[.slice none 0 0], .int .i64 (chkW l x y z)]))
  ∨ (chkW l x y z = 0 ∧ allR l ⟨x,y,z⟩ = [] ∧ e = .returned (.tuple #[.agg #[.slice none 0 0], .int .i64 61]))
  ∨ (chkW l x y z = 0 ∧ ∃ (r : Er),bestF l (allR l ⟨x,y,z⟩) = some r.ps ∧ r.ps ∈ allR l ⟨x,y,z⟩ ∧ e = .returned (.tuple #[.agg #[.slice r.A r.ps.length r.c], .int .i64 0]) ∧ r.At w.heap.size w'))

set_option maxRecDepth 100000 in
set_option maxHeartbeats 8000000 in
theorem rcheapest_any (l : List Tn) (A : Option Addr) (c : Nat) (x y z : Int) (w : World) (hl : Lies w w.heap.size A (tintsC l)) (hm : l.length ≤ 1000) (hs : ∀ t ∈ l,t.name.size ≤ 100) :
  Calls Try.prog 21 #[.slice A l.length c, .agg #[.int .i64 x, .int .i64 y, .int .i64 z]] w (RCheE l x y z w):=by
 have HW:=Lib.hid (fun W (hb : Below w.heap.size w W)=>rwanted_any l A c x y z W ((hl.below hb (Nat.le_refl _)).more hb.size) hm hs)
 have k0 : Bk ((w.alloc (.cells #[.int .i64 x, .int .i64 y, .int .i64 z] 37)).alloc (.cells #[.slice none 0 0] 25)) w.heap.size 37 #[.int .i64 x, .int .i64 y, .int .i64 z]:=(Bk.new _ _ _).alloc _
 have k1 : Bk ((w.alloc (.cells #[.int .i64 x, .int .i64 y, .int .i64 z] 37)).alloc (.cells #[.slice none 0 0] 25)) (w.heap.size + 1) 25 #[.slice none 0 0]:=by simpa using Bk.new (w.alloc (.cells #[.int .i64 x, .int .i64 y, .int .i64 z] 37)) 25 #[.slice none 0 0]
 have hb4 : Below w.heap.size w ((w.alloc (.cells #[.int .i64 x, .int .i64 y, .int .i64 z] 37)).alloc (.cells #[.slice none 0 0] 25)):=by exact (by repeat (first | with_reducible exact Below.refl _ _ | with_reducible assumption | with_reducible refine Below.drew ?_ | with_reducible refine below_drewN ?_ _ | (with_reducible refine Below.alloc ?_ ?_ _; rotate_left; (try simp) <;> omega) | (with_reducible refine Below.setCell ?_ ?_ _; rotate_left; (try simp) <;> omega)))
 have hlW:=Lib.hid hl
 have hCK:=Lib.hid (fun h=>chkW_ok (l:=l) (x:=x) (y:=y) (z:=z) h)
 obtain ⟨q,hq⟩ : ∃ q,q = chkW l x y z:=⟨_,rfl⟩
 have HQ:=Lib.hid hq
 rw [← hq] at HW
 clear hl hq hs
 by_cases h0 : q = 0
 ·subst h0
  obtain ⟨⟨hn12,hn1⟩,hoff,hsh⟩:=hCK.out HQ.out.symm
  have HOF:=Lib.hid hoff
  have HREC : Hid (∀ (L : List Nat) (AL : Option Addr) (cL : Nat) (W : World),Below w.heap.size w W → Lies W W.heap.size AL (nats L) → (∃ k,1 ≤ k ∧ k ≤ 4 ∧ L ∈ chs l.length k 0) → Calls Try.prog 52 #[.slice A l.length c, .slice AL L.length cL, .agg #[.int .i64 x, .int .i64 y, .int .i64 z]] W (RecR (rrcpF l ⟨x,y,z⟩ L) W)):=fun L AL cL W hb hL ⟨k,k1,k4,hm'⟩=>by
   obtain ⟨m1,_,m3⟩:=(mem_chs _ _ _ _).1 hm'
   exact rrecipe_any l L x y z A AL c cL W ((hlW.out.below hb (Nat.le_refl _)).more hb.size) hL (by omega) (fun i hi=>(m3 i hi).2) hm (fun t ht=>offTint_sh (hoff t ht)) hsh
  have HRK : Hid (∀ ps ∈ allR l ⟨x,y,z⟩,RcpK l ps):=fun ps hp=>rcpK (x:=⟨x,y,z⟩) hoff (show shadeV ⟨x,y,z⟩ from hsh) hp
  have HMM : Hid (∀ (k : Nat) (L : List Nat) (ps : List Pt),1 ≤ k → k ≤ 4 → L ∈ chs l.length k 0 → rrcpF l ⟨x,y,z⟩ L = some ps → ps ∈ allR l ⟨x,y,z⟩):=fun k L ps h1 h4 hL h=>by
   obtain ⟨m1,m2,m3⟩:=(mem_chs _ _ _ _).1 hL
   rw [all_same]
   exact List.mem_filterMap.2 ⟨L,mem_allc.2 ⟨by omega,m2,fun i hi=>(m3 i hi).2⟩,h⟩
  have HSU : Hid (∀ (ps : List Pt) (AP : Option Addr) (cp : Nat) (W : World),ps ∈ allR l ⟨x,y,z⟩ → Below w.heap.size w W → Lies W W.heap.size AP (partsC ps) → Calls Try.prog 33 #[.slice A l.length c, .agg #[.slice AP ps.length cp]] W (SumsEnd (wall ps) (fun j=>wsum (sel j) l ps) (wsum Tn.price l ps) W)):=fun ps AP cp W hp hb hL =>
   sums_any l ps A AP c cp W ((hlW.out.below hb (Nat.le_refl _)).more hb.size) hL (HRK.out _ hp).len.2 hm (HRK.out _ hp).good (fun j t ht=>sel_in' (HOF.out t ht) j) (fun t ht=>price_in (HOF.out t ht))
  have HRA : Hid (∀ (ps : List Pt),ps ∈ allR l ⟨x,y,z⟩ → ∀ W,Calls Try.prog 34 #[.int .i64 (wsum Tn.price l ps), .int .i64 (wall ps)] W (FracEnd (priL l ps) W)):=fun ps hp W=>by
   have h1:=wsum_bound Tn.price l ps (HRK.out _ hp).good (fun t ht=>price_in (HOF.out t ht))
   have h2:=wall_bound ps l.length (HRK.out _ hp).good
   have h3:=(HRK.out _ hp).len
   exact ratio_any _ _ W (by unfold bigP; omega) (by unfold bigP; omega) (by omega)
  have HLE : Hid (∀ (r q : List Pt),r ∈ allR l ⟨x,y,z⟩ → q ∈ allR l ⟨x,y,z⟩ → ∀ W,Calls Try.prog 18 #[.agg #[.int .i64 (priL l r).1, .int .i64 (priL l r).2], .agg #[.int .i64 (priL l q).1, .int .i64 (priL l q).2]] W (LessEnd (lessQ l r q) W)):=fun r q hr hq W=>by
   have a:=HRK.out _ hr
   have b:=HRK.out _ hq
   exact less_any _ _ _ _ W a.p1.1 a.p1.2 a.p2.1 a.p2.2 b.p1.1 b.p1.2 b.p2.1 b.p2.2
  clear hoff hsh hCK
  have HNI : Hid (allR l ⟨x,y,z⟩ = (levC l.length 5).filterMap (rrcpF l ⟨x,y,z⟩)):=by show _ = _; rw [levC_all,all_same]; rfl
  generalize hF : rrcpF l ⟨x,y,z⟩ = F at *
  clear hF
  go_enter Try.func21,Try.ntmps21
  go_wp2_with (first | (go_at_call 49; refine (HW.out _ hb4).mono ?_; rintro e w5 ⟨rfl,hb5⟩; have hB5:=hb4.trans (hb5.mono hb4.size); have p0:=k0.below hb5 k0.lt; have q1:=k1.below hb5 k1.lt; have l5:=q1.lt; clear hb5 k0 k1))
  obtain ⟨wI,hwI⟩ : ∃ v,v = (w5.alloc (.cells #[.slice none 0 0] 25)).alloc (.cells #[.int .i64 0, .int .i64 0] 29):=⟨_,rfl⟩
  rw [← hwI]
  have hBI : Below w.heap.size w wI:=by rw [hwI]; exact (hB5.alloc hB5.size _).alloc (by simp; have:=hB5.size; omega) _
  have i0 : Bk wI w.heap.size 37 #[.int .i64 x, .int .i64 y, .int .i64 z]:=by rw [hwI]; exact (p0.alloc _).alloc _
  have i1 : Bk wI (w.heap.size + 1) 25 #[.slice none 0 0]:=by rw [hwI]; exact (q1.alloc _).alloc _
  have ig : Bk wI w5.heap.size 25 #[.slice none 0 0]:=by rw [hwI]; exact (Bk.new _ _ _).alloc _
  have ie : Bk wI (w5.heap.size + 1) 29 #[.int .i64 0, .int .i64 0]:=by rw [hwI]; simpa using Bk.new (w5.alloc (.cells #[.slice none 0 0] 25)) 29 #[.int .i64 0, .int .i64 0]
  clear hwI p0 q1 hB5
  generalize w5.heap.size = g at *
  go_loopw [9,10] (fun yf yk wr=>∃ k : Nat,1 ≤ k ∧ k ≤ 5 ∧ yk = .int .i64 (k : Int) ∧ RBest l ⟨x,y,z⟩ (g + 2) g ((levC l.length k).filterMap F) yf wr ∧ Below w.heap.size w wr ∧ Bk wr w.heap.size 37 #[.int .i64 x, .int .i64 y, .int .i64 z] ∧ Bk wr (w.heap.size + 1) 25 #[.slice none 0 0]) (fun _ yk _=>5 - (intOf yk).toNat)
  case atStart=>exact ⟨1,Nat.le_refl _,by omega,rfl, .inl ⟨rfl,rfl,ig,ie⟩,hBI,i0,i1⟩
  case round =>
   clear i0 i1 hBI ig ie
   obtain ⟨k,hk1,hk5,rfl,HRB,hbw,p0,q1⟩:=hrel
   have hz1:=q1.lt
   by_cases hk4 : k ≤ 4
   ·have hkI : (k : Int) ≤ 4:=by omega
    have hwk : IntKind.i64.wrap ((k : Int) + 1) = (k : Int) + 1:=IntWalk.i64_in _ (by omega)
    have hgl : g + 1 < wr.heap.size:=by
     rcases HRB with ⟨_,_,_,h⟩ | ⟨_,_,_,_,_,_,h⟩
     ·exact h.lt
     ·exact h.lt
    have HRBH:=Lib.hid HRB
    clear HRB
    go_wp2_with (go_at_call 51; refine (rchoices_any l.length k wr hn12 hk4).mono ?_; rintro e w6 ⟨hb6,v,zs,rfl,hzs,hown,hrows⟩; obtain ⟨Ao,co,rfl,_,_⟩:=ownsSlice hown)
    have hB6:=hbw.trans (hb6.mono hbw.size)
    have p6:=p0.below hb6 p0.lt
    have q6:=q1.below hb6 q1.lt
    have hzl:=q6.lt
    have HRB6:=HRBH.out.below hb6
    have HZ:=Lib.hid hzs
    have HRW:=Lib.hid hrows
    have hlen0 : zs.length = (chs l.length k 0).length:=by rw [← hzs,List.length_map]
    have HLEN:=Lib.hid hlen0
    have hz20 : zs.length ≤ 20736:=by rw [hlen0]; exact chs_bd hn12 hk4
    have hb6s:=hB6.size
    have hwr6:=hb6.size
    have HOW : Hid (∀ ad,Ao = some ad → ¬ (fun b=>b = g ∨ b = g + 1) ad.block):=fun ad e h=>by
     subst e
     have:=(hown.lt ad.block rfl).1
     rcases h with h | h <;> omega
    have HLI:=Lib.hid (ownsRow_lies hown)
    clear hzs hrows hlen0 hb6 p0 q1 hbw HRBH hown
    go_loopw [9,12] (fun yf yi wr2=>∃ i : Nat,i ≤ zs.length ∧ yi = .int .i64 (i : Int) ∧ RBest l ⟨x,y,z⟩ (g + 2) g ((levC l.length k).filterMap F ++ ((chs l.length k 0).take i).filterMap F) yf wr2 ∧ (KpC (fun b=>b = g ∨ b = g + 1) w6 wr2 ∧ (Below w.heap.size w wr2 ∧ (Bk wr2 w.heap.size 37 #[.int .i64 x, .int .i64 y, .int .i64 z] ∧ Bk wr2 (w.heap.size + 1) 25 #[.slice none 0 0])))) (fun _ yi _=>zs.length - (intOf yi).toNat)
    case atStart=>exact ⟨0,Nat.zero_le _,rfl,by rw [List.take_zero,List.filterMap_nil,List.append_nil]; exact HRB6,KpC.refl _,hB6,p6,q6⟩
    case round =>
     clear HRB6 p6 q6 hB6
     obtain ⟨i,hi,rfl,HRB,hkp,hB7,p7,q7⟩:=hrel
     obtain ⟨w7,rfl⟩ : ∃ x,x = wr:=⟨_,rfl⟩
     have hb7s:=hkp.size
     by_cases hil : i < zs.length
     ·have hiI : (i : Int) < (zs.length : Int):=by omega
      have hi0 : 0 ≤ (i : Int):=by omega
      have hwi : IntKind.i64.wrap ((i : Int) + 1) = (i : Int) + 1:=IntWalk.i64_in _ (by omega)
      have hic : i < (chs l.length k 0).length:=by rw [← HLEN.out]; exact hil
      obtain ⟨ad,u,rfl,had,hu,hc⟩:=(hkp.lies HLI.out HOW.out).at_ (k:=i) (by simpa using hil)
      obtain ⟨vi,L,hzE⟩ : ∃ v M,zs[i] = (v,M):=⟨_,_,rfl⟩
      obtain rfl : vi = u:=by simpa [List.getElem?_eq_getElem hil,hzE] using hu
      have hrow:=HRW.out zs[i] (List.getElem_mem hil)
      have hLc : (chs l.length k 0)[i] = L:=by simp only [← HZ.out,List.getElem_map,hzE]
      rw [hzE] at hrow
      unfold RowL at hrow
      dsimp only at hrow
      obtain ⟨AL,cL,rfl,_,_⟩:=ownsSlice hrow
      have hrl6:=(hkp.lies (ownsRow_lies hrow) (fun ad e h=>by
       subst e
       have:=(hrow.lt ad.block rfl).1
       rcases h with h | h <;> omega)).more hb7s
      have hLm : L ∈ chs l.length k 0:=by rw [← hLc]; exact List.getElem_mem hic
      have HRC : Hid (∀ W,Below w7.heap.size w7 W → Calls Try.prog 52 #[.slice A l.length c, .slice AL L.length cL, .agg #[.int .i64 x, .int .i64 y, .int .i64 z]] W (RecR (F L) W)):=fun W hb=>HREC.out L AL cL W (hB7.trans (hb.mono hB7.size)) ((hrl6.below hb (Nat.le_refl _)).more hb.size) ⟨k,hk1,hk4,hLm⟩
      have HNX : Hid (F L = none → (levC l.length k).filterMap F ++ ((chs l.length k 0).take (i + 1)).filterMap F = (levC l.length k).filterMap F ++ ((chs l.length k 0).take i).filterMap F):=fun h=>by
       rw [List.take_succ_eq_append_getElem hic,List.filterMap_append,hLc]
       simp [h]
      have HSN : Hid (∀ ps,F L = some ps → (levC l.length k).filterMap F ++ ((chs l.length k 0).take (i + 1)).filterMap F = ((levC l.length k).filterMap F ++ ((chs l.length k 0).take i).filterMap F) ++ [ps] ∧ ps ∈ allR l ⟨x,y,z⟩):=fun ps h=>by
       refine ⟨?_,HMM.out k L ps hk1 hk4 hLm h⟩
       rw [List.take_succ_eq_append_getElem hic,List.filterMap_append,hLc]
       simp [h]
      have y0:=p7.cell 0 rfl
      have y1:=p7.cell 1 rfl
      have y2:=p7.cell 2 rfl
      have lp:=p7.lt
      clear hrow hLc hzE hu hic hrl6 hLm
      have HRBH:=Lib.hid HRB
      clear HRB
      go_upto_region 14 with fail
      go_cut [13,14] (fun s13 s14 wx=>∃ (g2 : Nat) (A2 : Option Addr) (n2 c2 : Nat) (b : Bool),s13 = .pointer (some ⟨g2,0,none⟩) ∧ s14 = .bool b ∧ Bk wx g2 25 #[.slice A2 n2 c2] ∧ Below w7.heap.size w7 wx ∧ ((b = false ∧ F L = none) ∨ (b = true ∧ ∃ ps,F L = some ps ∧ n2 = ps.length ∧ wx.ownsRow w7.heap.size 64 2 (.slice A2 n2 c2) n2 (partsC ps))))
      case first =>
       have HS : Hid (∀ W,Below w7.heap.size w7 W → W.cell? (ad.add i) = some (.slice AL L.length cL) ∧ (W.cell? ⟨w.heap.size,0,none⟩ = some (.int .i64 x) ∧ W.cell? ⟨w.heap.size,1,none⟩ = some (.int .i64 y) ∧ W.cell? ⟨w.heap.size,2,none⟩ = some (.int .i64 z))):=fun W hb=>by
        have p8:=p7.below hb p7.lt
        exact ⟨(hb.cell (p:=ad.add i) (by rw [add_block]; exact Nat.lt_of_lt_of_le had hb7s)).trans hc,p8.cell 0 rfl,p8.cell 1 rfl,p8.cell 2 rfl⟩
       refine wp_region_held_drew (S:=(fun W=>W.cell? (ad.add i) = some (.slice AL L.length cL) ∧ (W.cell? ⟨w.heap.size,0,none⟩ = some (.int .i64 x) ∧ W.cell? ⟨w.heap.size,1,none⟩ = some (.int .i64 y) ∧ W.cell? ⟨w.heap.size,2,none⟩ = some (.int .i64 z)))) (by kernel_rfl) ?_ (fun hHeld=>?_)
       ·exact HS.out _ (Below.refl _ _).drew
       have hb8 : Below w7.heap.size w7 w7.drew:=(Below.refl _ _).drew
       clear hc y0 y1 y2 lp
       generalize w7.drew = w8 at *
       refine tk 0 42 ?_
       refine tk 1 43 ?_
       refine tk 2 44 ?_
       refine tk 3 45 ?_
       refine tk 4 46 ?_
       refine tk 5 47 ?_
       have hz8:=hb8.size
       refine held_two 6 10 ⟨some 48, .call { callee:=.value (.func 52),args:=#[.tmp 42, .tmp 46, .tmp 47],argTypes:=#[22,77,37] },_,_,_,none⟩ ⟨some 13, .alloc 25,_,_,_,none⟩ rfl rfl (by kernel_rfl) (by rfl) (by rfl) ?_ ?_
       ·refine wp_call (f:=52) (args:=#[.slice A l.length c, .slice AL L.length cL, .agg #[.int .i64 x, .int .i64 y, .int .i64 z]]) (by go_simp) (HRC.out _ hb8) ?_
        rintro e w9 h9
        obtain ⟨A2,n2,c2,b,rfl,hb9,h9⟩:=rec_form h9
        replace hb9:=hb8.trans (hb9.mono hz8)
        have hz9:=hb9.size
        refine ⟨_,rfl,HS.out _ hb9,?_⟩
        (try simp only [Act.put,List.setIfInBounds_toArray,List.set_cons_zero,List.set_cons_succ])
        clear hHeld
        have hHeld:=HS.out _ hb9
        refine tk 7 41 ?_
        refine tk 8 49 ?_
        refine tk 9 50 ?_
        clear hHeld
        refine held_one 10 ⟨some 13, .alloc 25,_,_,_,none⟩ rfl (by kernel_rfl) (by rfl) ?_
        unfold Oper.wp
        go_simp
        have kb:=Bk.new w9 25 #[.slice none 0 0]
        have hbA : Below w7.heap.size w7 (w9.alloc (.cells #[.slice none 0 0] 25)):=hb9.alloc hz9 _
        refine ⟨HS.out _ hbA,?_⟩
        (try simp only [Act.put,List.setIfInBounds_toArray,List.set_cons_zero,List.set_cons_succ])
        have xb:=kb.cell 0 rfl
        have fb:=kb.fro 0
        refine held_one 11 ⟨none, .store 25 (.tmp 13) (.tmp 49),_,_,_,none⟩ rfl (by kernel_rfl) (by rfl) ?_
        unfold Oper.wp
        go_simp
        have kb2:=Bk.new w9 25 #[.slice A2 n2 c2]
        have hbC : Below w7.heap.size w7 (w9.alloc (.cells #[.slice A2 n2 c2] 25)):=hb9.alloc hz9 _
        refine ⟨HS.out _ hbC,?_⟩
        (try simp only [Act.put,List.setIfInBounds_toArray,List.set_cons_zero,List.set_cons_succ])
        have hHeld:=HS.out _ hbC
        refine tk 12 14 ?_
        refine wpAnyH_done (by kernel_rfl) ?_ _
        clear hHeld xb fb kb
        go_wp2_with fail
        go_meet
        refine ⟨w9.heap.size,A2,n2,c2,b,rfl,rfl,kb2,hbC,?_⟩
        rcases h9 with h9 | ⟨h9,ps,e1,e2,e3⟩
        ·exact .inl h9
        ·exact .inr ⟨h9,ps,e1,e2,((own_more e3 hz8).alloc _)⟩
       ·unfold Oper.wp
        go_simp
        have kb:=Bk.new w8 25 #[.slice none 0 0]
        have hbA : Below w7.heap.size w7 (w8.alloc (.cells #[.slice none 0 0] 25)):=hb8.alloc hz8 _
        refine ⟨HS.out _ hbA,?_⟩
        (try simp only [Act.put,List.setIfInBounds_toArray,List.set_cons_zero,List.set_cons_succ])
        clear hHeld
        generalize hgb : w8.heap.size = gb at *
        obtain ⟨wA,hwA⟩ : ∃ v,v = w8.alloc (.cells #[.slice none 0 0] 25):=⟨_,rfl⟩
        rw [← hwA] at kb hbA ⊢
        have hzA:=hbA.size
        have lA:=kb.lt
        clear hwA
        refine held_one 6 ⟨some 48, .call { callee:=.value (.func 52),args:=#[.tmp 42, .tmp 46, .tmp 47],argTypes:=#[22,77,37] },_,_,_,none⟩ rfl (by kernel_rfl) (by rfl) ?_
        refine wp_call (f:=52) (args:=#[.slice A l.length c, .slice AL L.length cL, .agg #[.int .i64 x, .int .i64 y, .int .i64 z]]) (by go_simp) (HRC.out _ hbA) ?_
        rintro e w9 h9
        obtain ⟨A2,n2,c2,b,rfl,hb9',h9⟩:=rec_form h9
        have hb9:=hbA.trans (hb9'.mono hzA)
        have hz9:=hb9.size
        replace kb:=kb.below hb9' kb.lt
        refine ⟨_,rfl,HS.out _ hb9,?_⟩
        (try simp only [Act.put,List.setIfInBounds_toArray,List.set_cons_zero,List.set_cons_succ])
        have hHeld:=HS.out _ hb9
        refine tk 7 41 ?_
        refine tk 8 49 ?_
        refine tk 9 50 ?_
        clear hHeld
        have xb:=kb.cell 0 rfl
        have fb:=kb.fro 0
        refine held_one 11 ⟨none, .store 25 (.tmp 13) (.tmp 49),_,_,_,none⟩ rfl (by kernel_rfl) (by rfl) ?_
        unfold Oper.wp
        go_simp
        have kb2:=kb.set 0 (.slice A2 n2 c2)
        have hbC:=hb9.setCell (p:=⟨gb,0,none⟩) (show w7.heap.size ≤ gb from hz8) (.slice A2 n2 c2)
        have t1:=HS.out _ hbC
        have t2:=HS.out _ hb9
        refine ⟨by first | exact ⟨t1.1,t1.2.1,t2.2.2.1,t2.2.2.2⟩ | exact ⟨t1.1,t2.2⟩ | exact t2,?_⟩
        (try simp only [Act.put,List.setIfInBounds_toArray,List.set_cons_zero,List.set_cons_succ])
        have hHeld:=HS.out _ hbC
        refine tk 12 14 ?_
        refine wpAnyH_done (by kernel_rfl) ?_ _
        clear hHeld xb fb kb
        go_wp2_with fail
        go_meet
        refine ⟨gb,A2,n2,c2,b,rfl,rfl,kb2,hbC,?_⟩
        rcases h9 with h9 | ⟨h9,ps,e1,e2,e3⟩
        ·exact .inl h9
        ·exact .inr ⟨h9,ps,e1,e2,own_setCell2 (own_more e3 hzA) (fun h=>by have:=(e3.lt _ h).1; omega)⟩
      case rest =>
       obtain ⟨gR,A2,n2,c2,b,rfl,rfl,kb,hbc,hres⟩:=hcut
       have hBc:=hB7.trans (hbc.mono hB7.size)
       have HRBc:=Lib.hid (HRBH.out.below hbc)
       have pc:=p7.below hbc p7.lt
       have qc:=q7.below hbc q7.lt
       have hzc:=hbc.size
       clear HRBH p7 q7 hB7 y0 y1 y2 hc
       cases b with
       | false =>
        have hno : F L = none:=by
         rcases hres with ⟨_,h⟩ | ⟨h,_⟩
         ·exact h
         ·cases h
        have HN9:=Lib.hid (HNX.out hno)
        have hkp9:=Lib.hid (hkp.trans (KpC.of_below (own:=(fun b=>b = g ∨ b = g + 1)) hbc))
        clear hres hno
        go_wp2
        go_roundw
        case rel=>exact ⟨i + 1,by omega,by go_num,by rw [HN9.out]; exact HRBc.out,hkp9.out,hBc,pc,qc⟩
        case measure=>simp [intOf] <;> omega
       | true =>
        obtain ⟨ps,hps,rfl,hown9⟩ : ∃ ps,F L = some ps ∧ n2 = ps.length ∧ wc.ownsRow w7.heap.size 64 2 (.slice A2 n2 c2) n2 (partsC ps):=by
         rcases hres with ⟨h,_⟩ | ⟨_,h⟩
         ·cases h
         ·exact h
        obtain ⟨hsn,hpm⟩:=HSN.out ps hps
        have HSN2:=Lib.hid hsn
        have HPM:=Lib.hid hpm
        have hrl : Er.At (g + 2) ⟨ps,A2,c2⟩ wc:=⟨ownsRow_lies hown9,fun ad e=>by
         have e : A2 = some ad:=e
         subst e
         have:=(hown9.lt ad.block rfl).1
         omega⟩
        have HS33:=Lib.hid (HSU.out ps A2 c2 wc hpm hBc hrl.1)
        have HR34:=Lib.hid (fun W=>HRA.out ps hpm W)
        have HL18 : Hid (∀ f : Er,f.ps ∈ allR l ⟨x,y,z⟩ → ∀ W,Calls Try.prog 18 #[.agg #[.int .i64 (priL l ps).1, .int .i64 (priL l ps).2], .agg #[.int .i64 (priL l f.ps).1, .int .i64 (priL l f.ps).2]] W (LessEnd (lessQ l ps f.ps) W)):=fun f hf W=>HLE.out ps f.ps hpm hf W
        obtain ⟨P1,P2,hPP⟩ : ∃ a b,priL l ps = (a,b):=⟨_,_,rfl⟩
        have HPP:=Lib.hid hPP
        rw [hPP] at HR34 HL18
        obtain ⟨S,hS⟩ : ∃ S : Nat → Int,S = fun j=>wsum (sel j) l ps:=⟨_,rfl⟩
        rw [← hS] at HS33
        generalize wsum Tn.price l ps = pw at *
        generalize wall ps = pn at *
        clear hS hres hps hown9 hsn hpm hPP
        have xb:=kb.cell 0 rfl
        go_wp2_with fail
        refine HS33.out.mono ?_
        rintro e wd ⟨rfl,hbd⟩
        have hzd:=hbd.size
        go_wp2_with fail
        refine (HR34.out _).mono ?_
        rintro e we ⟨rfl,hbe⟩
        have hbe2 : Below wc.heap.size wc we:=(hbd.alloc hzd _).trans (hbe.mono (by simp; omega))
        clear hbe
        obtain ⟨wf,hwf⟩ : ∃ v,v = we.alloc (.cells #[.int .i64 P1, .int .i64 P2] 29):=⟨_,rfl⟩
        have hbf : Below wc.heap.size wc wf:=by rw [hwf]; exact hbe2.alloc hbe2.size _
        have kp : Bk wf we.heap.size 29 #[.int .i64 P1, .int .i64 P2]:=by rw [hwf]; exact Bk.new _ _ _
        have hgp : g + 1 < we.heap.size:=by have:=hbe2.size; omega
        go_upto_region 19 with fail
        rw [← hwf]
        clear hwf
        generalize we.heap.size = gp at *
        have kr:=kb.below hbf kb.lt
        have hBf:=hBc.trans (hbf.mono hBc.size)
        have kf0:=pc.below hbf pc.lt
        have kf1:=qc.below hbf qc.lt
        have lf1:=kf1.lt
        have lg5 : w.heap.size + 1 < g:=l5
        clear xb hbd hzd
        rcases HRBc.out with ⟨hn,rfl,kg,kf⟩ | ⟨f,hf,hfm,hfa,rfl,kg,kf⟩
        ·have HST : Hid (bestF l ((levC l.length k).filterMap F ++ ((chs l.length k 0).take (i + 1)).filterMap F) = some ps):=by show _ = _; rw [HSN2.out,bestF_snoc,hn]; rfl
         replace kg:=kg.below hbf kg.lt
         replace kf:=kf.below hbf kf.lt
         clear hn HRBc
         have z0:=kg.fro 0
         have z10:=kf.fro 0
         have z11:=kf.fro 1
         have v0:=kg.cell 0 rfl
         have v10:=kf.cell 0 rfl
         have v11:=kf.cell 1 rfl
         have u0:=kr.cell 0 rfl
         have u10:=kp.cell 0 rfl
         have u11:=kp.cell 1 rfl
         have lgf:=kf.lt
         go_wp2
         have hKS:=((KpC.of_below (own:=(fun b=>b = g ∨ b = g + 1)) hbf).trans (kpc_set2 (own:=(fun b=>b = g ∨ b = g + 1)) wf (b:=g) (.inl rfl) 0 (.slice A2 ps.length c2))).trans ((kpc_set2 (own:=(fun b=>b = g ∨ b = g + 1)) _ (b:=g + 1) (.inr rfl) 0 (.int .i64 P1)).trans (kpc_set2 (own:=(fun b=>b = g ∨ b = g + 1)) _ (b:=g + 1) (.inr rfl) 1 (.int .i64 P2)))
         have hKS2:=(hkp.trans (KpC.of_below (own:=(fun b=>b = g ∨ b = g + 1)) hbc)).trans hKS
         have hBS:=((hBf.setCell (p:=⟨g,0,none⟩) (show w.heap.size ≤ g by omega) (.slice A2 ps.length c2)).setCell (p:=⟨g + 1,0,none⟩) (show w.heap.size ≤ g + 1 by omega) (.int .i64 P1)).setCell (p:=⟨g + 1,1,none⟩) (show w.heap.size ≤ g + 1 by omega) (.int .i64 P2)
         have n0:=((kf0.far (p:=⟨g,0,none⟩) (by show w.heap.size ≠ g; omega) (.slice A2 ps.length c2)).far (p:=⟨g + 1,0,none⟩) (by show w.heap.size ≠ g + 1; omega) (.int .i64 P1)).far (p:=⟨g + 1,1,none⟩) (by show w.heap.size ≠ g + 1; omega) (.int .i64 P2)
         have n1:=((kf1.far (p:=⟨g,0,none⟩) (by show w.heap.size + 1 ≠ g; omega) (.slice A2 ps.length c2)).far (p:=⟨g + 1,0,none⟩) (by show w.heap.size + 1 ≠ g + 1; omega) (.int .i64 P1)).far (p:=⟨g + 1,1,none⟩) (by show w.heap.size + 1 ≠ g + 1; omega) (.int .i64 P2)
         have ng:=((kg.set 0 (.slice A2 ps.length c2)).far (p:=⟨g + 1,0,none⟩) (by show g ≠ g + 1; omega) (.int .i64 P1)).far (p:=⟨g + 1,1,none⟩) (by show g ≠ g + 1; omega) (.int .i64 P2)
         have nf:=((kf.far (p:=⟨g,0,none⟩) (by show g + 1 ≠ g; omega) (.slice A2 ps.length c2)).set 0 (.int .i64 P1)).set 1 (.int .i64 P2)
         generalize World.setCell _ _ _ = wS at *
         clear z0 z10 z11 v0 v10 v11 u0 u10 u11
         go_roundw
         case rel =>
          refine ⟨i + 1,by omega,by go_num,?_,hKS2,hBS,n0,n1⟩
          refine .inr ⟨⟨ps,A2,c2⟩,HST.out,HPM.out,⟨(hKS.lies hrl.1 (fun ad e=>by have:=hrl.2 ad e; omega)).more hKS.size,hrl.2⟩,rfl,ng,?_⟩
          show Bk _ (g + 1) 29 #[.int .i64 (priL l ps).1, .int .i64 (priL l ps).2]
          rw [HPP.out]
          exact nf
         case measure=>simp [intOf] <;> omega
        ·have HL:=Lib.hid (HL18.out f hfm)
         obtain ⟨rr,hrr⟩ : ∃ r,lessQ l ps f.ps = r:=⟨_,rfl⟩
         have HRR:=Lib.hid hrr
         rw [hrr] at HL
         clear hrr
         replace kg:=kg.below hbf kg.lt
         replace kf:=kf.below hbf kf.lt
         have hfF : f.At (g + 2) wf:=hfa.kp (KpC.of_below hbf)
         have u10:=kp.cell 0 rfl
         have u11:=kp.cell 1 rfl
         have v10:=kf.cell 0 rfl
         have v11:=kf.cell 1 rfl
         cases rr with
         | false =>
          have HST : Hid (bestF l ((levC l.length k).filterMap F ++ ((chs l.length k 0).take (i + 1)).filterMap F) = some f.ps):=by show _ = _; rw [HSN2.out,bestF_snoc,hf]; simp [stepB,HRR.out]
          go_wp2_with fail
          refine (HL.out _).mono ?_
          rintro e wg ⟨rfl,hbg⟩
          go_wp2
          have hbfg:=hbf.trans (hbg.mono hbf.size)
          have hBg:=hBc.trans (hbfg.mono hBc.size)
          have m0:=kf0.below hbg kf0.lt
          have m1:=kf1.below hbg kf1.lt
          have mg:=kg.below hbg kg.lt
          have mf:=kf.below hbg kf.lt
          have ma:=hfF.kp (KpC.of_below hbg)
          have mk:=(hkp.trans (KpC.of_below (own:=(fun b=>b = g ∨ b = g + 1)) hbc)).trans (KpC.of_below (own:=(fun b=>b = g ∨ b = g + 1)) hbfg)
          go_roundw
          case rel=>exact ⟨i + 1,by omega,by go_num, .inr ⟨f,HST.out,hfm,ma,rfl,mg,mf⟩,mk,hBg,m0,m1⟩
          case measure=>simp [intOf] <;> omega
         | true =>
          have HST : Hid (bestF l ((levC l.length k).filterMap F ++ ((chs l.length k 0).take (i + 1)).filterMap F) = some ps):=by show _ = _; rw [HSN2.out,bestF_snoc,hf]; simp [stepB,HRR.out]
          go_wp2_with fail
          refine (HL.out _).mono ?_
          rintro e wg ⟨rfl,hbg⟩
          replace hbf:=hbf.trans (hbg.mono hbf.size)
          replace hBf:=hBc.trans (hbf.mono hBc.size)
          replace kf0:=kf0.below hbg kf0.lt
          replace kf1:=kf1.below hbg kf1.lt
          replace kg:=kg.below hbg kg.lt
          replace kf:=kf.below hbg kf.lt
          replace kr:=kr.below hbg kr.lt
          replace kp:=kp.below hbg kp.lt
          replace lf1:=kf1.lt
          clear u10 u11 v10 v11 hfF hbg
          have z0:=kg.fro 0
          have z10:=kf.fro 0
          have z11:=kf.fro 1
          have v0:=kg.cell 0 rfl
          have v10:=kf.cell 0 rfl
          have v11:=kf.cell 1 rfl
          have u0:=kr.cell 0 rfl
          have u10:=kp.cell 0 rfl
          have u11:=kp.cell 1 rfl
          have lgf:=kf.lt
          go_wp2
          have hKS:=((KpC.of_below (own:=(fun b=>b = g ∨ b = g + 1)) hbf).trans (kpc_set2 (own:=(fun b=>b = g ∨ b = g + 1)) wg (b:=g) (.inl rfl) 0 (.slice A2 ps.length c2))).trans ((kpc_set2 (own:=(fun b=>b = g ∨ b = g + 1)) _ (b:=g + 1) (.inr rfl) 0 (.int .i64 P1)).trans (kpc_set2 (own:=(fun b=>b = g ∨ b = g + 1)) _ (b:=g + 1) (.inr rfl) 1 (.int .i64 P2)))
          have hKS2:=(hkp.trans (KpC.of_below (own:=(fun b=>b = g ∨ b = g + 1)) hbc)).trans hKS
          have hBS:=((hBf.setCell (p:=⟨g,0,none⟩) (show w.heap.size ≤ g by omega) (.slice A2 ps.length c2)).setCell (p:=⟨g + 1,0,none⟩) (show w.heap.size ≤ g + 1 by omega) (.int .i64 P1)).setCell (p:=⟨g + 1,1,none⟩) (show w.heap.size ≤ g + 1 by omega) (.int .i64 P2)
          have n0:=((kf0.far (p:=⟨g,0,none⟩) (by show w.heap.size ≠ g; omega) (.slice A2 ps.length c2)).far (p:=⟨g + 1,0,none⟩) (by show w.heap.size ≠ g + 1; omega) (.int .i64 P1)).far (p:=⟨g + 1,1,none⟩) (by show w.heap.size ≠ g + 1; omega) (.int .i64 P2)
          have n1:=((kf1.far (p:=⟨g,0,none⟩) (by show w.heap.size + 1 ≠ g; omega) (.slice A2 ps.length c2)).far (p:=⟨g + 1,0,none⟩) (by show w.heap.size + 1 ≠ g + 1; omega) (.int .i64 P1)).far (p:=⟨g + 1,1,none⟩) (by show w.heap.size + 1 ≠ g + 1; omega) (.int .i64 P2)
          have ng:=((kg.set 0 (.slice A2 ps.length c2)).far (p:=⟨g + 1,0,none⟩) (by show g ≠ g + 1; omega) (.int .i64 P1)).far (p:=⟨g + 1,1,none⟩) (by show g ≠ g + 1; omega) (.int .i64 P2)
          have nf:=((kf.far (p:=⟨g,0,none⟩) (by show g + 1 ≠ g; omega) (.slice A2 ps.length c2)).set 0 (.int .i64 P1)).set 1 (.int .i64 P2)
          generalize World.setCell _ _ _ = wS at *
          clear z0 z10 z11 v0 v10 v11 u0 u10 u11
          go_roundw
          case rel =>
           refine ⟨i + 1,by omega,by go_num,?_,hKS2,hBS,n0,n1⟩
           refine .inr ⟨⟨ps,A2,c2⟩,HST.out,HPM.out,⟨(hKS.lies hrl.1 (fun ad e=>by have:=hrl.2 ad e; omega)).more hKS.size,hrl.2⟩,rfl,ng,?_⟩
           show Bk _ (g + 1) 29 #[.int .i64 (priL l ps).1, .int .i64 (priL l ps).2]
           rw [HPP.out]
           exact nf
          case measure=>simp [intOf] <;> omega
     ·obtain rfl : i = zs.length:=by omega
      have hirr : ¬ (zs.length : Int) < (zs.length : Int):=by omega
      have HLN : Hid ((levC l.length (k + 1)).filterMap F = (levC l.length k).filterMap F ++ ((chs l.length k 0).take zs.length).filterMap F):=by
       show _ = _
       rw [levC_succ _ hk1,List.filterMap_append,HLEN.out,List.take_length]
      go_wp2
      go_roundw
      case rel=>exact ⟨k + 1,by omega,by omega,by go_num,by rw [HLN.out]; exact HRB,hB7,p7,q7⟩
      case measure=>simp [intOf] <;> omega
   ·obtain rfl : k = 5:=by omega
    have x9:=q1.cell 0 rfl
    have f9:=q1.fro 0
    rcases HRB with ⟨hn,rfl,kg,kf⟩ | ⟨f,hf,hfm,hfa,rfl,kg,kf⟩
    ·go_wp2
     have s9:=q1.set 0 (.slice none 0 0)
     have hb9:=hbw.setCell (p:=⟨w.heap.size + 1,0,none⟩) (by simp) (.slice none 0 0)
     have xs9:=s9.cell 0 rfl
     generalize wr.setCell ⟨w.heap.size + 1,0,none⟩ (.slice none 0 0) = w9 at *
     refine bodyPost_ret (v:=.tuple #[.agg #[.slice none 0 0], .int .i64 61]) (by simp [results,Try.results21,go_sem,xs9]) rfl ?_
     exact ⟨hb9, .inr (.inl ⟨HQ.out.symm,by rw [HNI.out]; exact bestF_nil _ hn,rfl⟩)⟩
    ·have hK9:=kpc_set2 (own:=fun b=>b = w.heap.size + 1) wr (b:=w.heap.size + 1) rfl 0 (.slice f.A f.ps.length f.c)
     have yg:=kg.cell 0 rfl
     go_wp2
     have ha9:=(hK9.lies hfa.1 (fun ad e=>by have:=hfa.2 ad e; omega)).more hK9.size
     have s9:=q1.set 0 (.slice f.A f.ps.length f.c)
     have hb9:=hbw.setCell (p:=⟨w.heap.size + 1,0,none⟩) (by simp) (.slice f.A f.ps.length f.c)
     have xs9:=s9.cell 0 rfl
     generalize wr.setCell ⟨w.heap.size + 1,0,none⟩ (.slice f.A f.ps.length f.c) = w9 at *
     refine bodyPost_ret (v:=.tuple #[.agg #[.slice f.A f.ps.length f.c], .int .i64 0]) (by simp [results,Try.results21,go_sem,xs9]) rfl ?_
     exact ⟨hb9, .inr (.inr ⟨HQ.out.symm,f,by rw [HNI.out]; exact hf,hfm,rfl,ha9,fun ad e=>by have:=hfa.2 ad e; omega⟩)⟩
 ·go_enter Try.func21,Try.ntmps21
  go_wp2_with (first | (go_at_call 49; refine (HW.out _ hb4).mono ?_; rintro e w5 ⟨rfl,hb5⟩; have hB5:=hb4.trans (hb5.mono hb4.size); have q1:=k1.below hb5 k1.lt; have x9:=q1.cell 0 rfl; have f9:=q1.fro 0; clear hb5 k0 k1))
  have s9:=q1.set 0 (.slice none 0 0)
  have hb9:=hB5.setCell (p:=⟨w.heap.size + 1,0,none⟩) (by simp) (.slice none 0 0)
  have xs9:=s9.cell 0 rfl
  generalize w5.setCell ⟨w.heap.size + 1,0,none⟩ (.slice none 0 0) = w9 at *
  refine bodyPost_ret (v:=.tuple #[.agg #[.slice none 0 0], .int .i64 q]) (by simp [results,Try.results21,go_sem,xs9]) rfl ?_
  exact ⟨hb9, .inl ⟨by rw [← HQ.out]; exact h0,by rw [← HQ.out]⟩⟩
end Go.Proofs.Ytkjceegmmhnajaa

namespace Go.Proofs.Ytkjceegmmhnajaa
open Go.RowKit

theorem want_mul {v n : Int} (h : 0 ≤ v ∧ v ≤ 1000) (k : 1 ≤ n ∧ n ≤ 4000000000000) : 0 ≤ v * n ∧ v * n ≤ 4000000000000000:=by
 refine ⟨Int.mul_nonneg h.1 (by omega),?_⟩
 have:=Int.mul_le_mul h.2 k.2 (by omega) (by omega)
 omega
set_option maxHeartbeats 1000000 in
theorem rgives_any (l : List Tn) (ps : List Pt) (x y z : Int) (At A : Option Addr) (ct c : Nat) (w : World) (hlt : Lies w w.heap.size At (tintsC l)) (hl : Lies w w.heap.size A (partsC ps)) (hm : ps.length ≤ 4) (hm2 : l.length ≤ 1000)
  (hps : goodP l.length ps) (hf : ∀ j,∀ t ∈ l,0 ≤ sel j t ∧ sel j t ≤ 10000) (hpr : ∀ t ∈ l,0 ≤ t.price ∧ t.price ≤ 10000) (hw : 1 ≤ wall ps ∧ wall ps ≤ 4000000000000) (hx : shIn x y z) :
  Calls Try.prog 54 #[.slice At l.length ct, .agg #[.slice A ps.length c], .agg #[.int .i64 x, .int .i64 y, .int .i64 z]] w (ShEnd (rgiveB l ps x y z) w):=by
 have HS:=Lib.hid (fun W (hb : Below w.heap.size w W)=>sums_any l ps At A ct c W ((hlt.below hb (Nat.le_refl _)).more hb.size) ((hl.below hb (Nat.le_refl _)).more hb.size) hm hm2 hps hf hpr)
 obtain ⟨V,h1,h2,h3⟩ : ∃ V : Nat → Int,V 0 = x ∧ V 1 = y ∧ V 2 = z:=⟨fun k=>if k = 0 then x else if k = 1 then y else z,rfl,rfl,rfl⟩
 subst h1; subst h2; subst h3
 have HP : Hid (∀ k,k < 3 → 0 ≤ V k * wall ps ∧ V k * wall ps ≤ 4000000000000000):=fun k hk=>want_mul (by
  match k,hk with
  | 0,_=>exact hx.1
  | 1,_=>exact hx.2.1
  | 2,_=>exact hx.2.2) hw
 obtain ⟨S,hS⟩ : ∃ S : Nat → Int,S = fun j=>wsum (sel j) l ps:=⟨_,rfl⟩
 rw [← hS] at HS
 have HG : Hid (rgiveB l ps (V 0) (V 1) (V 2) = (decide (S 0 = V 0 * wall ps) && (decide (S 1 = V 1 * wall ps) && decide (S 2 = V 2 * wall ps)))):=by rw [hS]; rfl
 generalize rgiveB l ps (V 0) (V 1) (V 2) = r at *
 generalize wsum Tn.price l ps = pw at *
 generalize wall ps = n at *
 clear hlt hl hps hf hpr hS hx hw
 go_enter Try.func54,Try.ntmps54
 go_wp2_with (go_at_call 33; refine (HS.out _ (by repeat (first | with_reducible exact Below.refl _ _ | with_reducible assumption | with_reducible refine Below.drew ?_ | with_reducible refine below_drewN ?_ _ | (with_reducible refine Below.alloc ?_ ?_ _; rotate_left; (try simp) <;> omega) | (with_reducible refine Below.setCell ?_ ?_ _; rotate_left; (try simp) <;> omega)))).mono ?_; rintro e w1 ⟨rfl,hb⟩; have hB : Below w.heap.size w w1:=(Below.trans (by repeat (first | with_reducible exact Below.refl _ _ | with_reducible assumption | with_reducible refine Below.drew ?_ | with_reducible refine below_drewN ?_ _ | (with_reducible refine Below.alloc ?_ ?_ _; rotate_left; (try simp) <;> omega) | (with_reducible refine Below.setCell ?_ ?_ _; rotate_left; (try simp) <;> omega))) (hb.mono (by first | omega | (simp; omega) | simp))); have k0:=(Bk.new (w.alloc (.cells #[.slice A ps.length c] 25)) 37 #[.int .i64 (V 0), .int .i64 (V 1), .int .i64 (V 2)]).below hb (by simp); rw [World.size_alloc] at k0; have l0:=k0.lt)
 go_loopw [10] (fun y wr=>∃ k : Nat,k ≤ 3 ∧ y = .int .i64 k ∧ Hid (∀ j,j < k → S j = V j * n) ∧ Below w.heap.size w wr ∧ (Bk wr (w.heap.size + 1) 37 #[.int .i64 (V 0), .int .i64 (V 1), .int .i64 (V 2)] ∧ Bk wr w1.heap.size 37 #[.int .i64 (S 0), .int .i64 (S 1), .int .i64 (S 2)])) (fun y _=>3 - (intOf y).toNat)
 case atStart=>exact ⟨0,by omega,rfl,fun j hj=>absurd hj (by omega),(by repeat (first | with_reducible exact Below.refl _ _ | with_reducible assumption | with_reducible refine Below.drew ?_ | with_reducible refine below_drewN ?_ _ | (with_reducible refine Below.alloc ?_ ?_ _; rotate_left; (try simp) <;> omega) | (with_reducible refine Below.setCell ?_ ?_ _; rotate_left; (try simp) <;> omega))),k0.alloc _,Bk.new _ _ _⟩
 case round =>
  clear hb hB k0 l0
  obtain ⟨k,hk,rfl,hg,hbw,hv,hsx⟩:=hrel
  have g1:=hv.lt
  have g2:=hsx.lt
  by_cases hlt : k < 3
  ·have c1 : wr.cell? ⟨w.heap.size + 1,k,none⟩ = some (.int .i64 (V k)):=hv.cell k (by
    match k,hlt with
    | 0,_=>rfl
    | 1,_=>rfl
    | 2,_=>rfl)
   have c2 : wr.cell? ⟨w1.heap.size,k,none⟩ = some (.int .i64 (S k)):=hsx.cell k (by
    match k,hlt with
    | 0,_=>rfl
    | 1,_=>rfl
    | 2,_=>rfl)
   have hbd:=HP.out k hlt
   have hlt' : (k : Int) < 3:=by omega
   have hkn : 0 ≤ (k : Int):=by omega
   have W1 : Hid (IntKind.i64.wrap (V k * n) = V k * n):=IntWalk.i64_in _ (by omega)
   obtain ⟨b1,b2⟩:=hbd
   by_cases he : S k = V k * n
   ·have hbe : (S k != V k * n) = false:=by rw [he]; simp
    have H : Hid (∀ j,j < k + 1 → S j = V j * n):=fun j h=>by
     by_cases e : j = k
     ·subst e; exact he
     ·exact hg.out j (by omega)
    have HE:=Lib.hid he; clear he
    go_wp2
    go_quiet (fail)
    try rw [W1.out]
    go_wp2
    go_roundw
    case rel=>exact ⟨k + 1,by omega,by go_num,H,(by repeat (first | with_reducible exact Below.refl _ _ | with_reducible assumption | with_reducible refine Below.drew ?_ | with_reducible refine below_drewN ?_ _ | (with_reducible refine Below.alloc ?_ ?_ _; rotate_left; (try simp) <;> omega) | (with_reducible refine Below.setCell ?_ ?_ _; rotate_left; (try simp) <;> omega))),(by repeat (first | with_reducible assumption | with_reducible exact Bk.new _ _ _ | with_reducible refine Bk.drew ?_ | with_reducible refine Bk.drewN ?_ _ | with_reducible refine Bk.alloc ?_ _ | (with_reducible refine Bk.far ?_ ?_ _; rotate_left; (try simp) <;> omega))),(by repeat (first | with_reducible assumption | with_reducible exact Bk.new _ _ _ | with_reducible refine Bk.drew ?_ | with_reducible refine Bk.drewN ?_ _ | with_reducible refine Bk.alloc ?_ _ | (with_reducible refine Bk.far ?_ ?_ _; rotate_left; (try simp) <;> omega)))⟩
    case measure=>simp [intOf]; omega
   ·have hbe : (S k != V k * n) = true:=by rw [bne_iff_ne]; exact he
    have H : Hid (r = false):=by
     show _ = _
     rw [HG.out]
     match k,hlt with
     | 0,_=>simp [he]
     | 1,_=>simp [he]
     | 2,_=>simp [he]
    have HE:=Lib.hid he; clear he
    go_wp2
    go_quiet (fail)
    try rw [W1.out]
    go_wp2
    go_ret
    exact sh_ret H.out.symm (by repeat (first | with_reducible exact Below.refl _ _ | with_reducible assumption | with_reducible refine Below.drew ?_ | with_reducible refine below_drewN ?_ _ | (with_reducible refine Below.alloc ?_ ?_ _; rotate_left; (try simp) <;> omega) | (with_reducible refine Below.setCell ?_ ?_ _; rotate_left; (try simp) <;> omega)))
  ·obtain rfl : k = 3:=by omega
   have H : Hid (r = true):=by show _ = _; rw [HG.out,hg.out 0 (by omega),hg.out 1 (by omega),hg.out 2 (by omega)]; simp
   go_wp2
   go_ret
   exact sh_ret H.out.symm (by repeat (first | with_reducible exact Below.refl _ _ | with_reducible assumption | with_reducible refine Below.drew ?_ | with_reducible refine below_drewN ?_ _ | (with_reducible refine Below.alloc ?_ ?_ _; rotate_left; (try simp) <;> omega) | (with_reducible refine Below.setCell ?_ ?_ _; rotate_left; (try simp) <;> omega)))
end Go.Proofs.Ytkjceegmmhnajaa
