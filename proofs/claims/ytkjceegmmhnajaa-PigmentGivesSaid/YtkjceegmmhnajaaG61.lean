/- The law PigmentMixes,walked. -/
import Derived.StillTailTactics
import Derived.IntWalk
import Derived.Deep.RegionHeld3
import Derived.BigRegion
import Derived.ChangeKeysEq
import Derived.Test.YtkjceegmmhnajaaRows
import Derived.ProofKit
import Derived.Carry
import Derived.Deep.Slices
import Derived.Deep.Fields
import Derived.Laws.IdiomArrays
import Derived.Test.YtkjceegmmhnajaaG54
import Derived.Test.YtkjceegmmhnajaaG59
import Derived.Test.YtkjceegmmhnajaaG60

set_option linter.unusedVariables false
set_option linter.unusedSimpArgs false

namespace Go.Proofs.Ytkjceegmmhnajaa
open Go.RowKit

def lowest (a b : Int) : Int × Int:=(a.tdiv (Int.gcd a b),b.tdiv (Int.gcd a b))
def FracEnd (f : Int × Int) (w : World) (e : Ending) (w' : World) : Prop:=e = .returned (.agg #[.int .i64 f.1, .int .i64 f.2]) ∧ Below w.heap.size w w'
theorem frac_end {f : Int × Int} {a b : Int} {w w' : World} (h : f = (a,b)) (hb : Below w.heap.size w w') : FracEnd f w (.returned (.agg #[.int .i64 a, .int .i64 b])) w':=⟨by rw [h],hb⟩
theorem fraction_any (a b : Int) (w : World) (ha : bigP a) (hb : bigP b) (hb1 : 1 ≤ b) :
  Calls Try.prog 42 #[.int .i64 a, .int .i64 b] w (FracEnd (lowest a b) w):=by
 have hd:=gcd_pos_right a b hb1
 have hle : (Int.gcd a b : Int) ≤ 3050000000000000000:=by
  have:=Int.gcd_le_natAbs_right a (show b ≠ 0 by omega)
  unfold bigP at hb; omega
 have:=fraction_aux a b (Int.gcd a b) w ha hb (by show _ = _; rw [gcdL_two]) hd hle
 refine this.mono fun e w' h=>⟨?_,h.2⟩
 rw [h.1,if_neg (by omega)]; rfl
def tv (f : Tn → Int) (l : List Tn) (i : Int) : Int:=match l[i.toNat]? with | some t=>f t | none=>0
def wsum (f : Tn → Int) (l : List Tn) (ps : List Pt) : Int:=ps.foldl (fun s p=>s + p.w * tv f l p.t) 0
def wall (ps : List Pt) : Int:=ps.foldl (fun s p=>s + p.w) 0
theorem wsum_snoc (f : Tn → Int) (l : List Tn) (ps : List Pt) (p : Pt) : wsum f l (ps ++ [p]) = wsum f l ps + p.w * tv f l p.t:=by simp [wsum]
theorem wall_snoc (ps : List Pt) (p : Pt) : wall (ps ++ [p]) = wall ps + p.w:=by simp [wall]
theorem wsum_take (f : Tn → Int) (l : List Tn) (ps : List Pt) (k : Nat) (hk : k < ps.length) : wsum f l (ps.take (k + 1)) = wsum f l (ps.take k) + ps[k].w * tv f l ps[k].t:=by
 rw [List.take_succ_eq_append_getElem hk,wsum_snoc]
theorem wall_take (ps : List Pt) (k : Nat) (hk : k < ps.length) : wall (ps.take (k + 1)) = wall (ps.take k) + ps[k].w:=by
 rw [List.take_succ_eq_append_getElem hk,wall_snoc]
theorem tv_in (f : Tn → Int) (l : List Tn) (i : Int) (h : i.toNat < l.length) : tv f l i = f l[i.toNat]:=by unfold tv; rw [List.getElem?_eq_getElem h]

def goodP (nt : Nat) (ps : List Pt) : Prop:=∀ k (h : k < ps.length),(0 ≤ ps[k].t ∧ ps[k].t.toNat < nt) ∧ 1 ≤ ps[k].w ∧ ps[k].w ≤ 1000000000000
theorem goodP_of {nt : Nat} {ps : List Pt} (h : recP nt ps) : goodP nt ps:=fun k hk=>by
 have:=h.2.1 k hk
 unfold okPt at this
 omega
theorem mul_bound (w v : Int) (h1 : 1 ≤ w) (h2 : w ≤ 1000000000000) (h3 : 0 ≤ v) (h4 : v ≤ 10000) : 0 ≤ w * v ∧ w * v ≤ 10000000000000000:=by
 refine ⟨Int.mul_nonneg (by omega) h3,?_⟩
 have:=Int.mul_le_mul h2 h4 h3 (by omega)
 omega

set_option maxRecDepth 100000 in
set_option maxHeartbeats 1000000 in
theorem mixed67 (f : Tn → Int) (l : List Tn) (ps : List Pt) (At A : Option Addr) (ct c : Nat) (w : World)  (hlt : Lies w w.heap.size At (tintsC l)) (hl : Lies w w.heap.size A (partsC ps)) (hm : ps.length ≤ 4) (hm2 : l.length ≤ 1000) (hn : 1 ≤ ps.length)
  (hps : goodP l.length ps) (hf : ∀ t ∈ l,0 ≤ f t ∧ f t ≤ 10000)
  (hp : Hid (∀ t ∈ l,∀ W : World,Below w.heap.size w W → Calls Try.prog 67 (#[t.agg] ++ #[]) W (IntEnd (f t) W))) :
  Calls Try.prog 62 #[.slice At l.length ct, .agg #[.slice A ps.length c], .func (.func 67) #[] #[]] w (FracEnd (lowest (wsum f l ps) (wall ps)) w):=by
 have HF:=Lib.hid hf; clear hf
 have HP:=Lib.hid hps; clear hps
 go_enter Try.func62,Try.ntmps62
 go_wp2
 go_loopw [7,8,14] (fun s a y wr=>∃ (k : Nat) (p q : Int),k ≤ ps.length ∧ s = .int .i64 p ∧ a = .int .i64 q ∧ y = .int .i64 k ∧ Hid (p = wsum f l (ps.take k)) ∧ Hid (q = wall (ps.take k)) ∧ (0 ≤ p ∧ p ≤ 10000000000000000 * k) ∧ (k ≤ q ∧ q ≤ 1000000000000 * k)
   ∧ Below w.heap.size w wr ∧ (Bk wr w.heap.size 25 #[.slice A ps.length c] ∧ Bk wr (w.heap.size + 1) 29 #[.int .i64 0, .int .i64 0])) (fun _ _ y _=>ps.length - (intOf y).toNat)
 case atStart=>exact ⟨0,0,0,by omega,rfl,rfl,rfl,rfl,rfl,by omega,by omega,bw,(Bk.new _ _ _).alloc _,by simpa using Bk.new (w.alloc (.cells #[.slice A ps.length c] 25)) 29 #[.int .i64 0, .int .i64 0]⟩
 case round =>
  obtain ⟨k,p,q,hk,rfl,rfl,rfl,hp1,hq1,⟨hpb,hpb2⟩,⟨hqb,hqb2⟩,hbw,hbk,hbr⟩:=hrel
  have hbs:=hbw.size
  have hbl:=hbk.lt
  have hbl2:=hbr.lt
  have x0:=hbk.cell 0 rfl
  by_cases hlk : k < ps.length
  ·obtain ⟨ad,rfl,hadb,c0,c1⟩:=part_at (hl.below hbw (Nat.le_refl _)) hlk
   obtain ⟨⟨ht0,htn⟩,hw1,hw2⟩:=HP.out k hlk
   obtain ⟨at_,rfl,hatb,d0,d1,d2,d3,d4⟩:=tint_at (hlt.below hbw (Nat.le_refl _)) htn
   have htI : ps[k].t < (l.length : Int):=by omega
   have hfb:=HF.out _ (List.getElem_mem htn)
   have hmb:=mul_bound _ _ hw1 hw2 hfb.1 hfb.2
   have HC:=Lib.hid (hp.out _ (List.getElem_mem htn))
   have H1 : Hid (p + ps[k].w * f l[ps[k].t.toNat] = wsum f l (ps.take (k + 1))):=by
    show _ = _
    rw [wsum_take f l ps k hlk,tv_in f l _ htn,hp1.out]
   have H2 : Hid (q + ps[k].w = wall (ps.take (k + 1))):=by
    show _ = _
    rw [wall_take ps k hlk,hq1.out]
   have hadb' : (ad.add (k * 2)).block < wr.heap.size:=by rw [add_block]; omega
   have hatb' : (at_.add (ps[k].t.toNat * 5)).block < wr.heap.size:=by rw [add_block]; omega
   have HLT:=Lib.hid hlt
   clear hl hlt HF HP hp1 hq1
   generalize hfv : f l[ps[k].t.toNat] = fv at *
   have HFV:=Lib.hid hfv; clear hfv
   obtain ⟨hm1,hm2'⟩:=hmb
   obtain ⟨hv1,hv2⟩:=hfb
   have W1 : IntKind.i64.wrap (ps[k].w * fv) = ps[k].w * fv:=IntWalk.i64_in _ (by omega)
   have W2 : IntKind.i64.wrap (p + ps[k].w * fv) = p + ps[k].w * fv:=IntWalk.i64_in _ (by omega)
   have WW1:=Lib.hid W1
   have WW2:=Lib.hid W2
   clear W1 W2
   go_wp2
   go_region_held3 (fun w'=>w'.cell? ⟨wr.heap.size,0,none⟩ = some (.int .i64 ps[k].t) ∧ w'.cell? ⟨wr.heap.size,1,none⟩ = some (.int .i64 ps[k].w) ∧ w'.cell? (at_.add (ps[k].t.toNat * 5)) = some (.string l[ps[k].t.toNat].name) ∧ w'.cell? ⟨(at_.add (ps[k].t.toNat * 5)).block,(at_.add (ps[k].t.toNat * 5)).off + 1,none⟩ = some (.int .i64 l[ps[k].t.toNat].a) ∧ w'.cell? ⟨(at_.add (ps[k].t.toNat * 5)).block,(at_.add (ps[k].t.toNat * 5)).off + 2,none⟩ = some (.int .i64 l[ps[k].t.toNat].b) ∧ w'.cell? ⟨(at_.add (ps[k].t.toNat * 5)).block,(at_.add (ps[k].t.toNat * 5)).off + 3,none⟩ = some (.int .i64 l[ps[k].t.toNat].c) ∧ w'.cell? ⟨(at_.add (ps[k].t.toNat * 5)).block,(at_.add (ps[k].t.toNat * 5)).off + 4,none⟩ = some (.int .i64 l[ps[k].t.toNat].price))
    (first | go_keep | (refine ⟨?_,?_,?_,?_,?_,?_,?_⟩ <;> first | assumption | go_keep))
    (first | (go_at_call 67; refine (HC.out _ ?_).mono ?_; (exact bw); rintro e w1 ⟨rfl,hb⟩; have hbw1 : Below w.heap.size w w1:=(Below.trans bw (hb.mono (by simp; omega))); obtain ⟨at2,e2,_,q0,q1,q2,q3,q4⟩:=tint_at (HLT.out.below hbw1 (Nat.le_refl _)) htn; cases e2; obtain ⟨hc,hf⟩:=bcell hb; have hz:=hb.size; try simp at hz))
   rw [WW1.out,WW2.out]
   go_wp2
   go_roundw
   case rel =>
    exact ⟨k + 1,_,_,by omega,rfl,rfl,by go_num,H1,H2,by omega,by omega,hbw1,((hbk.alloc _).drew).below hb (by simp; omega),((hbr.alloc _).drew).below hb (by simp; omega)⟩
   case measure=>simp [intOf]; omega
  ·obtain rfl : k = ps.length:=by omega
   rw [List.take_length] at hp1 hq1
   have f0:=hbr.fro 0
   have f1:=hbr.fro 1
   have y0:=hbr.cell 0 rfl
   have y1:=hbr.cell 1 rfl
   have HR:=Lib.hid (fun W=>fraction_any p q W (by unfold bigP; omega) (by unfold bigP; omega) (by omega))
   have HE : Hid (lowest (wsum f l ps) (wall ps) = lowest p q):=by show _ = _; rw [hp1.out,hq1.out]
   generalize lowest p q = fr at *
   obtain ⟨fa,fb⟩:=fr
   go_wp2_with (go_at_call 42; refine (HR.out _).mono ?_; rintro e w1 ⟨rfl,hb⟩; obtain ⟨hc,hf⟩:=bcell hb; have hz:=hb.size; try simp at hz)
   refine bodyPost_ret (v:=.agg #[.int .i64 fa, .int .i64 fb]) ?_ rfl (frac_end HE.out ?_)
   ·simp [results,Try.results62,go_sem,hc,hbl2,y0,y1]
   ·have hbw1 : Below w.heap.size w w1:=hbw.trans (hb.mono (by omega))
    exact bw

set_option maxRecDepth 100000 in
set_option maxHeartbeats 1000000 in
theorem mixed63 (f : Tn → Int) (l : List Tn) (ps : List Pt) (At A : Option Addr) (ct c : Nat) (w : World) (pc : Addr) (hlt : Lies w w.heap.size At (tintsC l)) (hl : Lies w w.heap.size A (partsC ps)) (hm : ps.length ≤ 4) (hm2 : l.length ≤ 1000) (hn : 1 ≤ ps.length)
  (hps : goodP l.length ps) (hf : ∀ t ∈ l,0 ≤ f t ∧ f t ≤ 10000)
  (hp : Hid (∀ t ∈ l,∀ W : World,Below w.heap.size w W → Calls Try.prog 63 (#[t.agg] ++ #[.pointer (some pc)]) W (IntEnd (f t) W))) :
  Calls Try.prog 62 #[.slice At l.length ct, .agg #[.slice A ps.length c], .func (.func 63) #[] #[.pointer (some pc)]] w (FracEnd (lowest (wsum f l ps) (wall ps)) w):=by
 have HF:=Lib.hid hf; clear hf
 have HP:=Lib.hid hps; clear hps
 go_enter Try.func62,Try.ntmps62
 go_wp2
 go_loopw [7,8,14] (fun s a y wr=>∃ (k : Nat) (p q : Int),k ≤ ps.length ∧ s = .int .i64 p ∧ a = .int .i64 q ∧ y = .int .i64 k ∧ Hid (p = wsum f l (ps.take k)) ∧ Hid (q = wall (ps.take k)) ∧ (0 ≤ p ∧ p ≤ 10000000000000000 * k) ∧ (k ≤ q ∧ q ≤ 1000000000000 * k)
   ∧ Below w.heap.size w wr ∧ (Bk wr w.heap.size 25 #[.slice A ps.length c] ∧ Bk wr (w.heap.size + 1) 29 #[.int .i64 0, .int .i64 0])) (fun _ _ y _=>ps.length - (intOf y).toNat)
 case atStart=>exact ⟨0,0,0,by omega,rfl,rfl,rfl,rfl,rfl,by omega,by omega,bw,(Bk.new _ _ _).alloc _,by simpa using Bk.new (w.alloc (.cells #[.slice A ps.length c] 25)) 29 #[.int .i64 0, .int .i64 0]⟩
 case round =>
  obtain ⟨k,p,q,hk,rfl,rfl,rfl,hp1,hq1,⟨hpb,hpb2⟩,⟨hqb,hqb2⟩,hbw,hbk,hbr⟩:=hrel
  have hbs:=hbw.size
  have hbl:=hbk.lt
  have hbl2:=hbr.lt
  have x0:=hbk.cell 0 rfl
  by_cases hlk : k < ps.length
  ·obtain ⟨ad,rfl,hadb,c0,c1⟩:=part_at (hl.below hbw (Nat.le_refl _)) hlk
   obtain ⟨⟨ht0,htn⟩,hw1,hw2⟩:=HP.out k hlk
   obtain ⟨at_,rfl,hatb,d0,d1,d2,d3,d4⟩:=tint_at (hlt.below hbw (Nat.le_refl _)) htn
   have htI : ps[k].t < (l.length : Int):=by omega
   have hfb:=HF.out _ (List.getElem_mem htn)
   have hmb:=mul_bound _ _ hw1 hw2 hfb.1 hfb.2
   have HC:=Lib.hid (hp.out _ (List.getElem_mem htn))
   have H1 : Hid (p + ps[k].w * f l[ps[k].t.toNat] = wsum f l (ps.take (k + 1))):=by
    show _ = _
    rw [wsum_take f l ps k hlk,tv_in f l _ htn,hp1.out]
   have H2 : Hid (q + ps[k].w = wall (ps.take (k + 1))):=by
    show _ = _
    rw [wall_take ps k hlk,hq1.out]
   have hadb' : (ad.add (k * 2)).block < wr.heap.size:=by rw [add_block]; omega
   have hatb' : (at_.add (ps[k].t.toNat * 5)).block < wr.heap.size:=by rw [add_block]; omega
   have HLT:=Lib.hid hlt
   clear hl hlt HF HP hp1 hq1
   generalize hfv : f l[ps[k].t.toNat] = fv at *
   have HFV:=Lib.hid hfv; clear hfv
   obtain ⟨hm1,hm2'⟩:=hmb
   obtain ⟨hv1,hv2⟩:=hfb
   have W1 : IntKind.i64.wrap (ps[k].w * fv) = ps[k].w * fv:=IntWalk.i64_in _ (by omega)
   have W2 : IntKind.i64.wrap (p + ps[k].w * fv) = p + ps[k].w * fv:=IntWalk.i64_in _ (by omega)
   have WW1:=Lib.hid W1
   have WW2:=Lib.hid W2
   clear W1 W2
   go_wp2
   go_region_held3 (fun w'=>w'.cell? ⟨wr.heap.size,0,none⟩ = some (.int .i64 ps[k].t) ∧ w'.cell? ⟨wr.heap.size,1,none⟩ = some (.int .i64 ps[k].w) ∧ w'.cell? (at_.add (ps[k].t.toNat * 5)) = some (.string l[ps[k].t.toNat].name) ∧ w'.cell? ⟨(at_.add (ps[k].t.toNat * 5)).block,(at_.add (ps[k].t.toNat * 5)).off + 1,none⟩ = some (.int .i64 l[ps[k].t.toNat].a) ∧ w'.cell? ⟨(at_.add (ps[k].t.toNat * 5)).block,(at_.add (ps[k].t.toNat * 5)).off + 2,none⟩ = some (.int .i64 l[ps[k].t.toNat].b) ∧ w'.cell? ⟨(at_.add (ps[k].t.toNat * 5)).block,(at_.add (ps[k].t.toNat * 5)).off + 3,none⟩ = some (.int .i64 l[ps[k].t.toNat].c) ∧ w'.cell? ⟨(at_.add (ps[k].t.toNat * 5)).block,(at_.add (ps[k].t.toNat * 5)).off + 4,none⟩ = some (.int .i64 l[ps[k].t.toNat].price))
    (first | go_keep | (refine ⟨?_,?_,?_,?_,?_,?_,?_⟩ <;> first | assumption | go_keep))
    (first | (go_at_call 63; refine (HC.out _ ?_).mono ?_; (exact bw); rintro e w1 ⟨rfl,hb⟩; have hbw1 : Below w.heap.size w w1:=(Below.trans bw (hb.mono (by simp; omega))); obtain ⟨at2,e2,_,q0,q1,q2,q3,q4⟩:=tint_at (HLT.out.below hbw1 (Nat.le_refl _)) htn; cases e2; obtain ⟨hc,hf⟩:=bcell hb; have hz:=hb.size; try simp at hz))
   rw [WW1.out,WW2.out]
   go_wp2
   go_roundw
   case rel =>
    exact ⟨k + 1,_,_,by omega,rfl,rfl,by go_num,H1,H2,by omega,by omega,hbw1,((hbk.alloc _).drew).below hb (by simp; omega),((hbr.alloc _).drew).below hb (by simp; omega)⟩
   case measure=>simp [intOf]; omega
  ·obtain rfl : k = ps.length:=by omega
   rw [List.take_length] at hp1 hq1
   have f0:=hbr.fro 0
   have f1:=hbr.fro 1
   have y0:=hbr.cell 0 rfl
   have y1:=hbr.cell 1 rfl
   have HR:=Lib.hid (fun W=>fraction_any p q W (by unfold bigP; omega) (by unfold bigP; omega) (by omega))
   have HE : Hid (lowest (wsum f l ps) (wall ps) = lowest p q):=by show _ = _; rw [hp1.out,hq1.out]
   generalize lowest p q = fr at *
   obtain ⟨fa,fb⟩:=fr
   go_wp2_with (go_at_call 42; refine (HR.out _).mono ?_; rintro e w1 ⟨rfl,hb⟩; obtain ⟨hc,hf⟩:=bcell hb; have hz:=hb.size; try simp at hz)
   refine bodyPost_ret (v:=.agg #[.int .i64 fa, .int .i64 fb]) ?_ rfl (frac_end HE.out ?_)
   ·simp [results,Try.results62,go_sem,hc,hbl2,y0,y1]
   ·have hbw1 : Below w.heap.size w w1:=hbw.trans (hb.mono (by omega))
    exact bw

end Go.Proofs.Ytkjceegmmhnajaa

namespace Go.Proofs.Ytkjceegmmhnajaa
open Go.RowKit

set_option maxHeartbeats 400000 in
theorem price1_any (t : Tn) (w : World) : Calls Try.prog 67 #[t.agg] w (IntEnd t.price w):=by
 obtain ⟨nm,a,b,c,p⟩:=t
 dsimp only
 go_enter Try.func67,Try.ntmps67
 go_wp2
 go_ret
 exact int_end rfl bw
def sel (j : Nat) (t : Tn) : Int:=if j = 0 then t.a else if j = 1 then t.b else t.c
set_option maxHeartbeats 400000 in
theorem shade1_any (t : Tn) (j : Nat) (hj : j < 3) (pc : Addr) (w : World) (hpc : pc.block < w.heap.size) (hc : w.cell? pc = some (.int .i64 j)) :
  Calls Try.prog 63 #[t.agg, .pointer (some pc)] w (IntEnd (sel j t) w):=by
 obtain ⟨nm,a,b,c,p⟩:=t
 match j,hj with
 | 0,_ =>
  have hc' : w.cell? pc = some (.int .i64 0):=hc
  clear hc
  go_enter Try.func63,Try.ntmps63
  go_wp2
  go_ret
  exact int_end rfl bw
 | 1,_ =>
  have hc' : w.cell? pc = some (.int .i64 1):=hc
  clear hc
  go_enter Try.func63,Try.ntmps63
  go_wp2
  go_ret
  exact int_end rfl bw
 | 2,_ =>
  have hc' : w.cell? pc = some (.int .i64 2):=hc
  clear hc
  go_enter Try.func63,Try.ntmps63
  go_wp2
  go_ret
  exact int_end rfl bw

set_option maxHeartbeats 1000000 in
theorem price_any (l : List Tn) (ps : List Pt) (At A : Option Addr) (ct c : Nat) (w : World) (hlt : Lies w w.heap.size At (tintsC l)) (hl : Lies w w.heap.size A (partsC ps)) (hm : ps.length ≤ 4) (hm2 : l.length ≤ 1000) (hn : 1 ≤ ps.length)
  (hps : goodP l.length ps) (hf : ∀ t ∈ l,0 ≤ t.price ∧ t.price ≤ 10000) :
  Calls Try.prog 35 #[.slice At l.length ct, .agg #[.slice A ps.length c]] w (FracEnd (lowest (wsum Tn.price l ps) (wall ps)) w):=by
 have HM:=Lib.hid (fun (W : World) (hb : Below w.heap.size w W)=>mixed67 Tn.price l ps At A ct c W ((hlt.below hb (Nat.le_refl _)).more hb.size) ((hl.below hb (Nat.le_refl _)).more hb.size) hm hm2 hn hps hf (show Hid _ from fun t _ W' _=>price1_any t W'))
 clear hlt hl hps hf
 generalize hfr : lowest (wsum Tn.price l ps) (wall ps) = fr at *
 obtain ⟨fa,fb⟩:=fr
 clear hfr
 go_enter Try.func35,Try.ntmps35
 go_wp2_with (go_at_call 62; refine (HM.out _ bw).mono ?_; rintro e w1 ⟨rfl,hb⟩; obtain ⟨hc,hf⟩:=bcell hb; have hz:=hb.size; try simp at hz)
 refine bodyPost_ret (v:=.agg #[.int .i64 fa, .int .i64 fb]) ?_ rfl (frac_end rfl ?_)
 ·simp [results,Try.results35,go_sem,hc]
 ·have hbw1 : Below w.heap.size w w1:=Below.trans bw (hb.mono (by simp; omega))
  exact bw

/-! shade: the three fractions of a recipe -/
def shF (l : List Tn) (ps : List Pt) (j : Nat) : Int × Int:=lowest (wsum (sel j) l ps) (wall ps)
def shArr (F : Nat → Int × Int) (k : Nat) : Array Value:=if k = 0 then #[.int .i64 0, .int .i64 0, .int .i64 0, .int .i64 0, .int .i64 0, .int .i64 0] else if k = 1 then #[.int .i64 (F 0).1, .int .i64 (F 0).2, .int .i64 0, .int .i64 0, .int .i64 0, .int .i64 0]
 else if k = 2 then #[.int .i64 (F 0).1, .int .i64 (F 0).2, .int .i64 (F 1).1, .int .i64 (F 1).2, .int .i64 0, .int .i64 0] else #[.int .i64 (F 0).1, .int .i64 (F 0).2, .int .i64 (F 1).1, .int .i64 (F 1).2, .int .i64 (F 2).1, .int .i64 (F 2).2]
def ShadeEnd (F : Nat → Int × Int) (w : World) (e : Ending) (w' : World) : Prop:=e = .returned (.agg #[.int .i64 (F 0).1, .int .i64 (F 0).2, .int .i64 (F 1).1, .int .i64 (F 1).2, .int .i64 (F 2).1, .int .i64 (F 2).2]) ∧ Below w.heap.size w w'

set_option maxRecDepth 100000 in
set_option maxHeartbeats 4000000 in
theorem shade_any (l : List Tn) (ps : List Pt) (At A : Option Addr) (ct c : Nat) (w : World) (hlt : Lies w w.heap.size At (tintsC l)) (hl : Lies w w.heap.size A (partsC ps)) (hm : ps.length ≤ 4) (hm2 : l.length ≤ 1000) (hn : 1 ≤ ps.length)
  (hps : goodP l.length ps) (hf : ∀ j,∀ t ∈ l,0 ≤ sel j t ∧ sel j t ≤ 10000) :
  Calls Try.prog 30 #[.slice At l.length ct, .agg #[.slice A ps.length c]] w (ShadeEnd (shF l ps) w):=by
 have HM:=Lib.hid (fun (j : Nat) (hj : j < 3) (pc : Addr) (W : World) (hb : Below w.heap.size w W) (hpb : pc.block < W.heap.size) (hpc : W.cell? pc = some (.int .i64 j))=>mixed63 (sel j) l ps At A ct c W pc ((hlt.below hb (Nat.le_refl _)).more hb.size) ((hl.below hb (Nat.le_refl _)).more hb.size) hm hm2 hn hps (hf j) (show Hid _ from fun t _ W' hb'=>shade1_any t j hj pc W' (Nat.lt_of_lt_of_le hpb hb'.size) ((hb'.cell hpb).trans hpc)))
 have HE : Hid (∀ j,shF l ps j = lowest (wsum (sel j) l ps) (wall ps)):=fun _=>rfl
 clear hlt hl hps hf
 obtain ⟨F,hF⟩ : ∃ F,Hid (F = shF l ps):=⟨_,rfl⟩
 have HX : Hid (∀ j,lowest (wsum (sel j) l ps) (wall ps) = F j):=fun j=>by rw [hF.out]; rfl
 rw [← hF.out]
 clear HE hF
 go_enter Try.func30,Try.ntmps30
 go_wp2
 go_loopw [7] (fun y wr=>∃ k : Nat,k ≤ 3 ∧ y = .int .i64 k ∧ Below w.heap.size w wr ∧ (Bk wr w.heap.size 25 #[.slice A ps.length c] ∧ Bk wr (w.heap.size + 1) 30 (shArr F 0) ∧ Bk wr (w.heap.size + 1 + 1) 30 (shArr F k))) (fun y _=>3 - (intOf y).toNat)
 case atStart =>
  refine ⟨0,by omega,rfl,bw,((Bk.new _ _ _).alloc _).alloc _,?_,?_⟩
  ·simpa [shArr] using (Bk.new (w.alloc (.cells #[.slice A ps.length c] 25)) 30 (shArr F 0)).alloc (.cells (shArr F 0) 30)
  ·simpa [shArr] using Bk.new ((w.alloc (.cells #[.slice A ps.length c] 25)).alloc (.cells (shArr F 0) 30)) 30 (shArr F 0)
 case round =>
  obtain ⟨k,hk,rfl,hbw,hb0,hb1,hb2⟩:=hrel
  have hbs:=hbw.size
  have l0:=hb0.lt
  have l1:=hb1.lt
  have l2:=hb2.lt
  have x0:=hb0.cell 0 rfl
  have l0' : w.heap.size < wr.heap.size + 1:=by omega
  have l1' : w.heap.size + 1 < wr.heap.size + 1:=by omega
  have l2' : w.heap.size + 1 + 1 < wr.heap.size + 1:=by omega
  by_cases hlt : k < 3
  ·have HK:=Lib.hid (HM.out k hlt)
   rw [HX.out k] at HK
   clear HM HX
   match k,hlt with
   | 0,_ =>
    have y0:=hb2.cell 0 rfl
    have y1:=hb2.cell 1 rfl
    have f0:=hb2.fro 0
    have f1:=hb2.fro 1
    go_wp2
    go_region_held3 (fun w'=>w'.cell? ⟨wr.heap.size,0,none⟩ = some (.int .i64 0) ∧ w'.cell? ⟨w.heap.size,0,none⟩ = some (.slice A ps.length c))
     (first | go_keep | (refine ⟨?_,?_⟩ <;> (rw [World.cell?_setCell_other _ _ _ _ (by simp <;> omega),World.cell?_setCell_other _ _ _ _ (by simp <;> omega)]; first | assumption | go_keep)))
     (first | (go_at_call 62; refine (HK.out ⟨wr.heap.size,0,none⟩ _ ?_ ?_ ?_).mono ?_; (exact bw); (simp); (simp [go_sem]); rintro e w1 ⟨rfl,hb⟩; have hbw1 : Below w.heap.size w w1:=(Below.trans bw (hb.mono (by simp; omega))); have hw1' : Below wr.heap.size wr w1:=(Below.trans bw (hb.mono (by simp))); have k0:=hb0.below hw1' l0; have k1:=hb1.below hw1' l1; have k2:=hb2.below hw1' l2; obtain ⟨hc,hf⟩:=bcell hb; have hz:=hb.size; try simp at hz))
    all_goals
     go_wp2
     go_roundw
     case rel=>exact ⟨1,by omega,by go_num,bw,(k0.far (p:=⟨_,0,none⟩) (by simp <;> omega) _).far (p:=⟨_,1,none⟩) (by simp <;> omega) _,(k1.far (p:=⟨_,0,none⟩) (by simp <;> omega) _).far (p:=⟨_,1,none⟩) (by simp <;> omega) _,(k2.set 0 _).set 1 _⟩
     case measure=>simp [intOf]
   | 1,_ =>
    have y0:=hb2.cell 2 rfl
    have y1:=hb2.cell 3 rfl
    have f0:=hb2.fro 2
    have f1:=hb2.fro 3
    go_wp2
    go_region_held3 (fun w'=>w'.cell? ⟨wr.heap.size,0,none⟩ = some (.int .i64 1) ∧ w'.cell? ⟨w.heap.size,0,none⟩ = some (.slice A ps.length c))
     (first | go_keep | (refine ⟨?_,?_⟩ <;> (rw [World.cell?_setCell_other _ _ _ _ (by simp <;> omega),World.cell?_setCell_other _ _ _ _ (by simp <;> omega)]; first | assumption | go_keep)))
     (first | (go_at_call 62; refine (HK.out ⟨wr.heap.size,0,none⟩ _ ?_ ?_ ?_).mono ?_; (exact bw); (simp); (simp [go_sem]); rintro e w1 ⟨rfl,hb⟩; have hbw1 : Below w.heap.size w w1:=(Below.trans bw (hb.mono (by simp; omega))); have hw1' : Below wr.heap.size wr w1:=(Below.trans bw (hb.mono (by simp))); have k0:=hb0.below hw1' l0; have k1:=hb1.below hw1' l1; have k2:=hb2.below hw1' l2; obtain ⟨hc,hf⟩:=bcell hb; have hz:=hb.size; try simp at hz))
    all_goals
     go_wp2
     go_roundw
     case rel=>exact ⟨2,by omega,by go_num,bw,(k0.far (p:=⟨_,2,none⟩) (by simp <;> omega) _).far (p:=⟨_,3,none⟩) (by simp <;> omega) _,(k1.far (p:=⟨_,2,none⟩) (by simp <;> omega) _).far (p:=⟨_,3,none⟩) (by simp <;> omega) _,(k2.set 2 _).set 3 _⟩
     case measure=>simp [intOf]
   | 2,_ =>
    have y0:=hb2.cell 4 rfl
    have y1:=hb2.cell 5 rfl
    have f0:=hb2.fro 4
    have f1:=hb2.fro 5
    go_wp2
    go_region_held3 (fun w'=>w'.cell? ⟨wr.heap.size,0,none⟩ = some (.int .i64 2) ∧ w'.cell? ⟨w.heap.size,0,none⟩ = some (.slice A ps.length c))
     (first | go_keep | (refine ⟨?_,?_⟩ <;> (rw [World.cell?_setCell_other _ _ _ _ (by simp <;> omega),World.cell?_setCell_other _ _ _ _ (by simp <;> omega)]; first | assumption | go_keep)))
     (first | (go_at_call 62; refine (HK.out ⟨wr.heap.size,0,none⟩ _ ?_ ?_ ?_).mono ?_; (exact bw); (simp); (simp [go_sem]); rintro e w1 ⟨rfl,hb⟩; have hbw1 : Below w.heap.size w w1:=(Below.trans bw (hb.mono (by simp; omega))); have hw1' : Below wr.heap.size wr w1:=(Below.trans bw (hb.mono (by simp))); have k0:=hb0.below hw1' l0; have k1:=hb1.below hw1' l1; have k2:=hb2.below hw1' l2; obtain ⟨hc,hf⟩:=bcell hb; have hz:=hb.size; try simp at hz))
    all_goals
     go_wp2
     go_roundw
     case rel=>exact ⟨3,by omega,by go_num,bw,(k0.far (p:=⟨_,4,none⟩) (by simp <;> omega) _).far (p:=⟨_,5,none⟩) (by simp <;> omega) _,(k1.far (p:=⟨_,4,none⟩) (by simp <;> omega) _).far (p:=⟨_,5,none⟩) (by simp <;> omega) _,(k2.set 4 _).set 5 _⟩
     case measure=>simp [intOf]
  ·obtain rfl : k = 3:=by omega
   have y0 : wr.cell? ⟨w.heap.size + 1 + 1,0,none⟩ = some (.int .i64 (F 0).1):=hb2.cell 0 rfl
   have y1 : wr.cell? ⟨w.heap.size + 1 + 1,1,none⟩ = some (.int .i64 (F 0).2):=hb2.cell 1 rfl
   have y2 : wr.cell? ⟨w.heap.size + 1 + 1,2,none⟩ = some (.int .i64 (F 1).1):=hb2.cell 2 rfl
   have y3 : wr.cell? ⟨w.heap.size + 1 + 1,3,none⟩ = some (.int .i64 (F 1).2):=hb2.cell 3 rfl
   have y4 : wr.cell? ⟨w.heap.size + 1 + 1,4,none⟩ = some (.int .i64 (F 2).1):=hb2.cell 4 rfl
   have y5 : wr.cell? ⟨w.heap.size + 1 + 1,5,none⟩ = some (.int .i64 (F 2).2):=hb2.cell 5 rfl
   have z0 : wr.cell? ⟨w.heap.size + 1,0,none⟩ = some (.int .i64 0):=hb1.cell 0 rfl
   have z1 : wr.cell? ⟨w.heap.size + 1,1,none⟩ = some (.int .i64 0):=hb1.cell 1 rfl
   have z2 : wr.cell? ⟨w.heap.size + 1,2,none⟩ = some (.int .i64 0):=hb1.cell 2 rfl
   have z3 : wr.cell? ⟨w.heap.size + 1,3,none⟩ = some (.int .i64 0):=hb1.cell 3 rfl
   have z4 : wr.cell? ⟨w.heap.size + 1,4,none⟩ = some (.int .i64 0):=hb1.cell 4 rfl
   have z5 : wr.cell? ⟨w.heap.size + 1,5,none⟩ = some (.int .i64 0):=hb1.cell 5 rfl
   have f0:=hb1.fro 0
   have f1:=hb1.fro 1
   have f2:=hb1.fro 2
   have f3:=hb1.fro 3
   have f4:=hb1.fro 4
   have f5:=hb1.fro 5
   go_wp2
   have q : Bk _ _ _ #[.int .i64 (F 0).1, .int .i64 (F 0).2, .int .i64 (F 1).1, .int .i64 (F 1).2, .int .i64 (F 2).1, .int .i64 (F 2).2]:=((((((hb1.set 0 (.int .i64 (F 0).1)).set 1 (.int .i64 (F 0).2)).set 2 (.int .i64 (F 1).1)).set 3 (.int .i64 (F 1).2)).set 4 (.int .i64 (F 2).1)).set 5 (.int .i64 (F 2).2))
   have q0:=q.cell 0 rfl
   have q1:=q.cell 1 rfl
   have q2:=q.cell 2 rfl
   have q3:=q.cell 3 rfl
   have q4:=q.cell 4 rfl
   have q5:=q.cell 5 rfl
   refine bodyPost_ret (v:=.agg #[.int .i64 (F 0).1, .int .i64 (F 0).2, .int .i64 (F 1).1, .int .i64 (F 1).2, .int .i64 (F 2).1, .int .i64 (F 2).2]) ?_ rfl ⟨rfl,bw⟩
   simp [results,Try.results30,go_sem,q0,q1,q2,q3,q4,q5]
end Go.Proofs.Ytkjceegmmhnajaa

namespace Go.Proofs.Ytkjceegmmhnajaa
open Go.RowKit

def arr3 (P Q : Nat → Int) (k : Nat) : Array Value:=if k = 0 then #[.int .i64 (P 0), .int .i64 (P 1), .int .i64 (P 2)] else if k = 1 then #[.int .i64 (Q 0), .int .i64 (P 1), .int .i64 (P 2)] else if k = 2 then #[.int .i64 (Q 0), .int .i64 (Q 1), .int .i64 (P 2)] else #[.int .i64 (Q 0), .int .i64 (Q 1), .int .i64 (Q 2)]
def SumsEnd (n : Int) (S : Nat → Int) (p : Int) (w : World) (e : Ending) (w' : World) : Prop:=e = .returned (.tuple #[.int .i64 n, .agg #[.int .i64 (S 0), .int .i64 (S 1), .int .i64 (S 2)], .int .i64 p]) ∧ Below w.heap.size w w'
theorem sums_end {n m p q : Int} {S T : Nat → Int} {w w' : World} (h1 : n = m) (h2 : ∀ j,S j = T j) (h3 : p = q) (hb : Below w.heap.size w w') :
  SumsEnd n S p w (.returned (.tuple #[.int .i64 m, .agg #[.int .i64 (T 0), .int .i64 (T 1), .int .i64 (T 2)], .int .i64 q])) w':=by
 subst h1; subst h3; exact ⟨by rw [h2,h2,h2],hb⟩

set_option maxRecDepth 100000 in
set_option maxHeartbeats 4000000 in
theorem sums_any (l : List Tn) (ps : List Pt) (At A : Option Addr) (ct c : Nat) (w : World) (hlt : Lies w w.heap.size At (tintsC l)) (hl : Lies w w.heap.size A (partsC ps)) (hm : ps.length ≤ 4) (hm2 : l.length ≤ 1000)
  (hps : goodP l.length ps) (hf : ∀ j,∀ t ∈ l,0 ≤ sel j t ∧ sel j t ≤ 10000) (hpr : ∀ t ∈ l,0 ≤ t.price ∧ t.price ≤ 10000) :
  Calls Try.prog 33 #[.slice At l.length ct, .agg #[.slice A ps.length c]] w (SumsEnd (wall ps) (fun j=>wsum (sel j) l ps) (wsum Tn.price l ps) w):=by
 have HF:=Lib.hid hf; clear hf
 have HPR:=Lib.hid hpr; clear hpr
 have HP:=Lib.hid hps; clear hps
 go_enter Try.func33,Try.ntmps33
 go_wp2
 go_loopw [7,9,10,12] (fun n pr y z wr=>∃ (k : Nat) (q p : Int) (S : Nat → Int),k ≤ ps.length ∧ n = .int .i64 q ∧ pr = .int .i64 p ∧ y = .int .i64 k ∧ Hid (p = wsum Tn.price l (ps.take k)) ∧ Hid (q = wall (ps.take k)) ∧ Hid (∀ j,S j = wsum (sel j) l (ps.take k)) ∧ (0 ≤ p ∧ p ≤ 10000000000000000 * k) ∧ (k ≤ q ∧ q ≤ 1000000000000 * k) ∧ Hid (∀ j,0 ≤ S j ∧ S j ≤ 10000000000000000 * k)
   ∧ Below w.heap.size w wr ∧ (Bk wr w.heap.size 25 #[.slice A ps.length c] ∧ Bk wr (w.heap.size + 1) 37 #[.int .i64 0, .int .i64 0, .int .i64 0] ∧ Bk wr (w.heap.size + 1 + 1) 37 (arr3 S S 0))) (fun _ _ y _ _=>ps.length - (intOf y).toNat)
 case atStart =>
  refine ⟨0,0,0,fun _=>0,by omega,rfl,rfl,rfl,rfl,rfl,fun _=>rfl,by omega,by omega,fun _=>by simp,bw,((Bk.new _ _ _).alloc _).alloc _,?_,?_⟩
  ·simpa using (Bk.new (w.alloc (.cells #[.slice A ps.length c] 25)) 37 #[.int .i64 0, .int .i64 0, .int .i64 0]).alloc (.cells #[.int .i64 0, .int .i64 0, .int .i64 0] 37)
  ·simpa [arr3] using Bk.new ((w.alloc (.cells #[.slice A ps.length c] 25)).alloc (.cells #[.int .i64 0, .int .i64 0, .int .i64 0] 37)) 37 #[.int .i64 0, .int .i64 0, .int .i64 0]
 case round =>
  obtain ⟨k,q,p,S,hk,rfl,rfl,rfl,hp1,hq1,hS1,⟨hpb,hpb2⟩,⟨hqb,hqb2⟩,hSb,hbw,hb0,hb1,hb2⟩:=hrel
  have hbs:=hbw.size
  have l0:=hb0.lt
  have l1:=hb1.lt
  have l2:=hb2.lt
  have x0:=hb0.cell 0 rfl
  by_cases hlk : k < ps.length
  ·obtain ⟨ad,rfl,hadb,c0,c1⟩:=part_at (hl.below hbw (Nat.le_refl _)) hlk
   obtain ⟨⟨ht0,htn⟩,hw1,hw2⟩:=HP.out k hlk
   obtain ⟨at_,rfl,hatb,d0,d1,d2,d3,d4⟩:=tint_at (hlt.below hbw (Nat.le_refl _)) htn
   have htI : ps[k].t < (l.length : Int):=by omega
   have hfb:=HPR.out _ (List.getElem_mem htn)
   have hsb:=HF.out 0 _ (List.getElem_mem htn)
   have hsb1:=HF.out 1 _ (List.getElem_mem htn)
   have hsb2:=HF.out 2 _ (List.getElem_mem htn)
   have hmb:=mul_bound _ _ hw1 hw2 hfb.1 hfb.2
   have hmb0 : 0 ≤ ps[k].w * l[ps[k].t.toNat].a ∧ ps[k].w * l[ps[k].t.toNat].a ≤ 10000000000000000:=mul_bound _ _ hw1 hw2 hsb.1 hsb.2
   have hmb1 : 0 ≤ ps[k].w * l[ps[k].t.toNat].b ∧ ps[k].w * l[ps[k].t.toNat].b ≤ 10000000000000000:=mul_bound _ _ hw1 hw2 hsb1.1 hsb1.2
   have hmb2 : 0 ≤ ps[k].w * l[ps[k].t.toNat].c ∧ ps[k].w * l[ps[k].t.toNat].c ≤ 10000000000000000:=mul_bound _ _ hw1 hw2 hsb2.1 hsb2.2
   have H1 : Hid (p + ps[k].w * l[ps[k].t.toNat].price = wsum Tn.price l (ps.take (k + 1))):=by
    show _ = _
    rw [wsum_take _ l ps k hlk,tv_in _ l _ htn,hp1.out]
   have H2 : Hid (q + ps[k].w = wall (ps.take (k + 1))):=by
    show _ = _
    rw [wall_take ps k hlk,hq1.out]
   obtain ⟨T,hT⟩ : ∃ T : Nat → Int,∀ j,T j = S j + ps[k].w * sel j l[ps[k].t.toNat]:=⟨_,fun _=>rfl⟩
   have H3 : Hid (∀ j,T j = wsum (sel j) l (ps.take (k + 1))):=fun j=>by
    rw [wsum_take _ l ps k hlk,tv_in _ l _ htn,← hS1.out j]; exact hT j
   have hadb' : (ad.add (k * 2)).block < wr.heap.size:=by rw [add_block]; omega
   have hatb' : (at_.add (ps[k].t.toNat * 5)).block < wr.heap.size:=by rw [add_block]; omega
   have HLT:=Lib.hid hlt
   have HFk:=Lib.hid (fun j=>mul_bound ps[k].w (sel j l[ps[k].t.toNat]) hw1 hw2 (HF.out j _ (List.getElem_mem htn)).1 (HF.out j _ (List.getElem_mem htn)).2)
   clear hl hlt HF HP HPR hp1 hq1
   have W1 : Hid (IntKind.i64.wrap (ps[k].w * l[ps[k].t.toNat].price) = ps[k].w * l[ps[k].t.toNat].price):=IntWalk.i64_in _ (by omega)
   have W2 : Hid (IntKind.i64.wrap (p + ps[k].w * l[ps[k].t.toNat].price) = p + ps[k].w * l[ps[k].t.toNat].price):=IntWalk.i64_in _ (by omega)
   have hT0:=hT 0
   have hT1:=hT 1
   have hT2:=hT 2
   have hTb : Hid (∀ j,0 ≤ T j ∧ T j ≤ 10000000000000000 * ((k + 1 : Nat) : Int)):=fun j=>by
    have a:=HFk.out j
    have b:=hSb.out j
    rw [hT j]; omega
   clear HFk
   go_wp2
   go_quiet (fail)
   go_wp2
   have hTE:=Lib.hid hT; clear hT hT0 hT1 hT2
   have hSE:=hSb
   obtain ⟨wo,rfl⟩ : ∃ wo : World,wo = wr:=⟨_,rfl⟩
   go_loopw [12] (fun z W2=>∃ i : Nat,i ≤ 3 ∧ z = .int .i64 i ∧ Below w.heap.size w W2 ∧ (Bk W2 w.heap.size 25 #[.slice (some ad) ps.length c] ∧ Bk W2 (w.heap.size + 1) 37 #[.int .i64 0, .int .i64 0, .int .i64 0] ∧ Bk W2 (w.heap.size + 1 + 1) 37 (arr3 S T i) ∧ Bk W2 wo.heap.size 64 #[.int .i64 ps[k].t, .int .i64 ps[k].w])) (fun z _=>3 - (intOf z).toNat)
   case atStart=>exact ⟨0,by omega,rfl,bw,((hb0.alloc _).drewN _),((hb1.alloc _).drewN _),((hb2.alloc _).drewN _),(Bk.new _ _ _).drewN _⟩
   case round =>
    clear c0 c1 d0 d1 d2 d3 d4 x0
    obtain ⟨i,hi,rfl,hbw2,k0,k1,k2,kp⟩:=hrel
    have p0:=kp.cell 0 rfl
    have p1:=kp.cell 1 rfl
    have x0:=k0.cell 0 rfl
    by_cases hlt3 : i < 3
    ·obtain ⟨at2,e2,_,d0,d1,d2,d3,d4⟩:=tint_at (HLT.out.below hbw2 (Nat.le_refl _)) htn
     cases e2
     match i,hlt3 with
    | 0,_ =>
     have y0 : wr.cell? ⟨w.heap.size + 1 + 1,0,none⟩ = some (.int .i64 (S 0)):=k2.cell 0 rfl
     have f0:=k2.fro 0
     obtain ⟨s0,s1⟩:=hSE.out 0
     have n1 : w.heap.size ≠ w.heap.size + 1 + 1:=by omega
     have n2 : w.heap.size + 1 ≠ w.heap.size + 1 + 1:=by omega
     have n3 : wo.heap.size ≠ w.heap.size + 1 + 1:=by omega
     have N:=Lib.hid (And.intro n1 (And.intro n2 n3)); clear n1 n2 n3
     go_wp2
     go_region
     all_goals
      go_wp2
      go_roundw
      case rel=>exact ⟨1,by omega,by go_num,bw,(k0.far (p:=⟨_,0,none⟩) N.out.1 _).drew,(k1.far (p:=⟨_,0,none⟩) N.out.2.1 _).drew,by rw [← show T 0 = S 0 + ps[k].w * l[ps[k].t.toNat].a from hTE.out 0]; exact (k2.set 0 _).drew,(kp.far (p:=⟨_,0,none⟩) N.out.2.2 _).drew⟩
      case measure=>simp [intOf]
    | 1,_ =>
     have y0 : wr.cell? ⟨w.heap.size + 1 + 1,1,none⟩ = some (.int .i64 (S 1)):=k2.cell 1 rfl
     have f0:=k2.fro 1
     obtain ⟨s0,s1⟩:=hSE.out 1
     have n1 : w.heap.size ≠ w.heap.size + 1 + 1:=by omega
     have n2 : w.heap.size + 1 ≠ w.heap.size + 1 + 1:=by omega
     have n3 : wo.heap.size ≠ w.heap.size + 1 + 1:=by omega
     have N:=Lib.hid (And.intro n1 (And.intro n2 n3)); clear n1 n2 n3
     go_wp2
     go_region
     all_goals
      go_wp2
      go_roundw
      case rel=>exact ⟨2,by omega,by go_num,bw,(k0.far (p:=⟨_,1,none⟩) N.out.1 _).drew,(k1.far (p:=⟨_,1,none⟩) N.out.2.1 _).drew,by rw [← show T 1 = S 1 + ps[k].w * l[ps[k].t.toNat].b from hTE.out 1]; exact (k2.set 1 _).drew,(kp.far (p:=⟨_,1,none⟩) N.out.2.2 _).drew⟩
      case measure=>simp [intOf]
    | 2,_ =>
     have y0 : wr.cell? ⟨w.heap.size + 1 + 1,2,none⟩ = some (.int .i64 (S 2)):=k2.cell 2 rfl
     have f0:=k2.fro 2
     obtain ⟨s0,s1⟩:=hSE.out 2
     have n1 : w.heap.size ≠ w.heap.size + 1 + 1:=by omega
     have n2 : w.heap.size + 1 ≠ w.heap.size + 1 + 1:=by omega
     have n3 : wo.heap.size ≠ w.heap.size + 1 + 1:=by omega
     have N:=Lib.hid (And.intro n1 (And.intro n2 n3)); clear n1 n2 n3
     go_wp2
     go_region
     all_goals
      go_wp2
      go_roundw
      case rel=>exact ⟨3,by omega,by go_num,bw,(k0.far (p:=⟨_,2,none⟩) N.out.1 _).drew,(k1.far (p:=⟨_,2,none⟩) N.out.2.1 _).drew,by rw [← show T 2 = S 2 + ps[k].w * l[ps[k].t.toNat].c from hTE.out 2]; exact (k2.set 2 _).drew,(kp.far (p:=⟨_,2,none⟩) N.out.2.2 _).drew⟩
      case measure=>simp [intOf]
    ·obtain rfl : i = 3:=by omega
     go_wp2
     go_roundw
     case rel=>exact ⟨k + 1,_,_,T,by omega,rfl,rfl,by go_num,H1,H2,H3,by omega,by omega,hTb,hbw2,k0,k1,k2⟩
     case measure=>simp [intOf]; omega
  ·obtain rfl : k = ps.length:=by omega
   rw [List.take_length] at hp1 hq1
   have H3 : Hid (∀ j,wsum (sel j) l ps = S j):=fun j=>by have:=hS1.out j; rw [List.take_length] at this; exact this.symm
   have y0 : wr.cell? ⟨w.heap.size + 1 + 1,0,none⟩ = some (.int .i64 (S 0)):=hb2.cell 0 rfl
   have y1 : wr.cell? ⟨w.heap.size + 1 + 1,1,none⟩ = some (.int .i64 (S 1)):=hb2.cell 1 rfl
   have y2 : wr.cell? ⟨w.heap.size + 1 + 1,2,none⟩ = some (.int .i64 (S 2)):=hb2.cell 2 rfl
   have z0:=hb1.cell 0 rfl
   have z1:=hb1.cell 1 rfl
   have z2:=hb1.cell 2 rfl
   have f0:=hb1.fro 0
   have f1:=hb1.fro 1
   have f2:=hb1.fro 2
   have q : Bk _ _ _ #[.int .i64 (S 0), .int .i64 (S 1), .int .i64 (S 2)]:=(((hb1.set 0 (.int .i64 (S 0))).set 1 (.int .i64 (S 1))).set 2 (.int .i64 (S 2)))
   have q0:=q.cell 0 rfl
   have q1:=q.cell 1 rfl
   have q2:=q.cell 2 rfl
   have Q:=Lib.hid (And.intro q0 (And.intro q1 q2)); clear q0 q1 q2 q
   go_wp2
   go_region
   all_goals
    go_wp2
    obtain ⟨q0,q1,q2⟩:=Q.out
    refine bodyPost_ret (v:=.tuple #[.int .i64 q, .agg #[.int .i64 (S 0), .int .i64 (S 1), .int .i64 (S 2)], .int .i64 p]) ?_ rfl (sums_end hq1.out.symm H3.out hp1.out.symm ?_)
    ·simp [results,Try.results33,go_sem,q0,q1,q2]
    ·exact bw
end Go.Proofs.Ytkjceegmmhnajaa

namespace Go.Proofs.Ytkjceegmmhnajaa
open Go.RowKit

theorem chkT_ok {l : List Tn} (h : chkT l = 0) : l.length ≤ 12 ∧ 1 ≤ l.length ∧ (∀ t ∈ l,offTint t = false) ∧ twiceB (names l) = false:=by
 unfold chkT at h
 by_cases h1 : 12 < l.length
 ·rw [if_pos h1] at h; omega
 rw [if_neg h1] at h
 by_cases h2 : l.length = 0 ∨ l.any offTint = true
 ·rw [if_pos h2] at h; omega
 rw [if_neg h2] at h
 by_cases h3 : twiceB (names l) = true
 ·rw [if_pos h3] at h; omega
 refine ⟨by omega,by omega,fun t ht=>?_,by simpa using h3⟩
 have h4 : ¬ l.any offTint = true:=fun h=>h2 (.inr h)
 rw [List.any_eq_true] at h4
 by_cases h5 : offTint t = true
 ·exact absurd ⟨t,ht,h5⟩ h4
 ·simpa using h5
theorem offTint_no {t : Tn} (h : offTint t = false) : nameB t.name = true ∧ (0 ≤ t.a ∧ t.a ≤ 1000) ∧ (0 ≤ t.b ∧ t.b ≤ 1000) ∧ (0 ≤ t.c ∧ t.c ≤ 1000) ∧ 0 ≤ t.price ∧ t.price ≤ 10000:=by
 unfold offTint at h
 simp only [Bool.or_eq_false_iff,Bool.not_eq_false',shadeB,inShade,priceB,Bool.and_eq_true,decide_eq_true_eq] at h
 obtain ⟨⟨h1,⟨h2,h3⟩,h4⟩,h5⟩:=h
 exact ⟨h1,h2,h3,h4,h5⟩
theorem sel_in {t : Tn} (h : offTint t = false) (j : Nat) : 0 ≤ sel j t ∧ sel j t ≤ 1000:=by
 obtain ⟨_,h1,h2,h3,_⟩:=offTint_no h
 unfold sel
 split
 ·exact h1
 ·split
  ·exact h2
  ·exact h3
theorem sel_in' {t : Tn} (h : offTint t = false) (j : Nat) : 0 ≤ sel j t ∧ sel j t ≤ 10000:=by have:=sel_in h j; omega
theorem price_in {t : Tn} (h : offTint t = false) : 0 ≤ t.price ∧ t.price ≤ 10000:=(offTint_no h).2.2.2.2

end Go.Proofs.Ytkjceegmmhnajaa

namespace Go.Proofs.Ytkjceegmmhnajaa
open Go.RowKit

theorem wsum_bound_aux (f : Tn → Int) (l : List Tn) (hf : ∀ t ∈ l,0 ≤ f t ∧ f t ≤ 10000) (ps : List Pt) (h : goodP l.length ps) : ∀ k,k ≤ ps.length → 0 ≤ wsum f l (ps.take k) ∧ wsum f l (ps.take k) ≤ 10000000000000000 * k:=by
 intro k
 induction k with
 | zero=>intro _; simp [wsum]
 | succ k ih =>
  intro hk
  have:=ih (by omega)
  obtain ⟨⟨h1,h2⟩,h3,h4⟩:=h k (by omega)
  rw [wsum_take f l ps k (by omega),tv_in f l _ h2]
  have hb:=hf _ (List.getElem_mem h2)
  have:=mul_bound _ _ h3 h4 hb.1 hb.2
  omega
theorem wsum_bound (f : Tn → Int) (l : List Tn) (ps : List Pt) (h : goodP l.length ps) (hf : ∀ t ∈ l,0 ≤ f t ∧ f t ≤ 10000) : 0 ≤ wsum f l ps ∧ wsum f l ps ≤ 10000000000000000 * ps.length:=by
 have:=wsum_bound_aux f l hf ps h ps.length (Nat.le_refl _)
 rwa [List.take_length] at this
theorem wall_bound_aux (ps : List Pt) (n : Nat) (h : goodP n ps) : ∀ k : Nat,k ≤ ps.length → (k : Int) ≤ wall (ps.take k) ∧ wall (ps.take k) ≤ 1000000000000 * k:=by
 intro k
 induction k with
 | zero=>intro _; simp [wall]
 | succ k ih =>
  intro hk
  have:=ih (by omega)
  obtain ⟨⟨h1,h2⟩,h3,h4⟩:=h k (by omega)
  rw [wall_take ps k (by omega)]
  omega
theorem wall_bound (ps : List Pt) (n : Nat) (h : goodP n ps) : (ps.length : Int) ≤ wall ps ∧ wall ps ≤ 1000000000000 * ps.length:=by
 have:=wall_bound_aux ps n h ps.length (Nat.le_refl _)
 rwa [List.take_length] at this

end Go.Proofs.Ytkjceegmmhnajaa

namespace Go.Proofs.Ytkjceegmmhnajaa
open Go.RowKit

end Go.Proofs.Ytkjceegmmhnajaa

namespace Go.Proofs.Ytkjceegmmhnajaa
open Go.RowKit

def ab (n : Nat) (a : Int) : Prop:=-(n : Int) ≤ a ∧ a ≤ n
def vb (n : Nat) (a b c : Int) : Prop:=ab n a ∧ ab n b ∧ ab n c
theorem ab_mul {A B : Nat} {a x : Int} (h : ab A a) (k : ab B x) : ab (A * B) (a * x):=by
 unfold ab at *
 have h1 : a.natAbs ≤ A:=by omega
 have h2 : x.natAbs ≤ B:=by omega
 have h3 : (a * x).natAbs ≤ A * B:=by rw [Int.natAbs_mul]; exact Nat.mul_le_mul h1 h2
 have : ((A * B : Nat) : Int) = A * B:=by simp
 omega
theorem ab_sub {A B : Nat} {a x : Int} (h : ab A a) (k : ab B x) : ab (A + B) (a - x):=by unfold ab at *; omega
theorem ab_add {A B : Nat} {a x : Int} (h : ab A a) (k : ab B x) : ab (A + B) (a + x):=by unfold ab at *; omega
theorem ab_big {A : Nat} {a : Int} (h : ab A a) (hA : A ≤ 3050000000000000000) : bigP a:=by unfold ab at h; unfold bigP; omega
theorem ab_mono {A B : Nat} {a : Int} (h : ab A a) (hA : A ≤ B) : ab B a:=by unfold ab at *; omega

def Minus (a b c x y z : Int) (N : Nat) (w : World) (e : Ending) (w' : World) : Prop:=∃ r s t : Int,e = .returned (.agg #[.int .i64 r, .int .i64 s, .int .i64 t]) ∧ Hid (r = a - x ∧ s = b - y ∧ t = c - z) ∧ vb N r s t ∧ Below w.heap.size w w' ∧ w'.heap.size = w.heap.size + 1 + 1 + 1
def Cross (a b c x y z : Int) (N : Nat) (w : World) (e : Ending) (w' : World) : Prop:=∃ r s t : Int,e = .returned (.agg #[.int .i64 r, .int .i64 s, .int .i64 t]) ∧ Hid (r = b * z - c * y ∧ s = c * x - a * z ∧ t = a * y - b * x) ∧ vb N r s t ∧ Below w.heap.size w w' ∧ w'.heap.size = w.heap.size + 1 + 1 + 1
def Scaled (a b c n : Int) (N : Nat) (w : World) (e : Ending) (w' : World) : Prop:=∃ r s t : Int,e = .returned (.agg #[.int .i64 r, .int .i64 s, .int .i64 t]) ∧ Hid (r = a * n ∧ s = b * n ∧ t = c * n) ∧ vb N r s t ∧ Below w.heap.size w w' ∧ w'.heap.size = w.heap.size + 1 + 1
def Times (a b c x y z : Int) (N : Nat) (w : World) (e : Ending) (w' : World) : Prop:=∃ r : Int,e = .returned (.int .i64 r) ∧ Hid (r = a * x + b * y + c * z) ∧ ab N r ∧ Below w.heap.size w w' ∧ w'.heap.size = w.heap.size + 1 + 1
set_option maxHeartbeats 400000 in
theorem minus_b {A B : Nat} {a b c x y z : Int} (w : World) (h : vb A a b c) (k : vb B x y z) (hAB : A + B ≤ 3050000000000000000) :
  Calls Try.prog 75 #[.agg #[.int .i64 a, .int .i64 b, .int .i64 c], .agg #[.int .i64 x, .int .i64 y, .int .i64 z]] w (Minus a b c x y z (A + B) w):=by
 have h1:=ab_sub h.1 k.1
 have h2:=ab_sub h.2.1 k.2.1
 have h3:=ab_sub h.2.2 k.2.2
 have HV : Hid (vb (A + B) (a - x) (b - y) (c - z)):=⟨h1,h2,h3⟩
 replace h1:=ab_big h1 hAB
 replace h2:=ab_big h2 hAB
 replace h3:=ab_big h3 hAB
 unfold bigP at h1 h2 h3
 clear h k hAB
 go_enter Try.func75,Try.ntmps75
 go_wp2
 refine bodyPost_ret (v:=.agg #[.int .i64 (a - x), .int .i64 (b - y), .int .i64 (c - z)]) (by simp [results,Try.results75,go_sem]) rfl ⟨_,_,_,rfl,⟨rfl,rfl,rfl⟩,HV.out,(by repeat (first | with_reducible exact Below.refl _ _ | with_reducible assumption | with_reducible refine Below.drew ?_ | with_reducible refine below_drewN ?_ _ | (with_reducible refine Below.alloc ?_ ?_ _; rotate_left; (try simp) <;> omega) | (with_reducible refine Below.setCell ?_ ?_ _; rotate_left; (try simp) <;> omega))),by simp⟩
set_option maxHeartbeats 400000 in
theorem cross_b {A B : Nat} {a b c x y z : Int} (w : World) (h : vb A a b c) (k : vb B x y z) (hAB : A * B + A * B ≤ 3050000000000000000) :
  Calls Try.prog 82 #[.agg #[.int .i64 a, .int .i64 b, .int .i64 c], .agg #[.int .i64 x, .int .i64 y, .int .i64 z]] w (Cross a b c x y z (A * B + A * B) w):=by
 have hle : A * B ≤ 3050000000000000000:=by omega
 have HV : Hid (vb (A * B + A * B) (b * z - c * y) (c * x - a * z) (a * y - b * x)):=⟨ab_sub (ab_mul h.2.1 k.2.2) (ab_mul h.2.2 k.2.1),ab_sub (ab_mul h.2.2 k.1) (ab_mul h.1 k.2.2),ab_sub (ab_mul h.1 k.2.1) (ab_mul h.2.1 k.1)⟩
 have h1:=ab_big (ab_mul h.2.1 k.2.2) hle
 have h2:=ab_big (ab_mul h.2.2 k.2.1) hle
 have h3:=ab_big (ab_mul h.2.2 k.1) hle
 have h4:=ab_big (ab_mul h.1 k.2.2) hle
 have h5:=ab_big (ab_mul h.1 k.2.1) hle
 have h6:=ab_big (ab_mul h.2.1 k.1) hle
 unfold bigP at h1 h2 h3 h4 h5 h6
 clear h k hAB hle
 go_enter Try.func82,Try.ntmps82
 go_wp2
 refine bodyPost_ret (v:=.agg #[.int .i64 (b * z - c * y), .int .i64 (c * x - a * z), .int .i64 (a * y - b * x)]) (by simp [results,Try.results82,go_sem]) rfl ⟨_,_,_,rfl,⟨rfl,rfl,rfl⟩,HV.out,(by repeat (first | with_reducible exact Below.refl _ _ | with_reducible assumption | with_reducible refine Below.drew ?_ | with_reducible refine below_drewN ?_ _ | (with_reducible refine Below.alloc ?_ ?_ _; rotate_left; (try simp) <;> omega) | (with_reducible refine Below.setCell ?_ ?_ _; rotate_left; (try simp) <;> omega))),by simp⟩
set_option maxHeartbeats 400000 in
theorem rcross_b {A B : Nat} {a b c x y z : Int} (w : World) (h : vb A a b c) (k : vb B x y z) (hAB : A * B + A * B ≤ 3050000000000000000) :
  Calls Try.prog 92 #[.agg #[.int .i64 a, .int .i64 b, .int .i64 c], .agg #[.int .i64 x, .int .i64 y, .int .i64 z]] w (Cross a b c x y z (A * B + A * B) w):=by
 have hle : A * B ≤ 3050000000000000000:=by omega
 have HV : Hid (vb (A * B + A * B) (b * z - c * y) (c * x - a * z) (a * y - b * x)):=⟨ab_sub (ab_mul h.2.1 k.2.2) (ab_mul h.2.2 k.2.1),ab_sub (ab_mul h.2.2 k.1) (ab_mul h.1 k.2.2),ab_sub (ab_mul h.1 k.2.1) (ab_mul h.2.1 k.1)⟩
 have h1:=ab_big (ab_mul h.2.1 k.2.2) hle
 have h2:=ab_big (ab_mul h.2.2 k.2.1) hle
 have h3:=ab_big (ab_mul h.2.2 k.1) hle
 have h4:=ab_big (ab_mul h.1 k.2.2) hle
 have h5:=ab_big (ab_mul h.1 k.2.1) hle
 have h6:=ab_big (ab_mul h.2.1 k.1) hle
 unfold bigP at h1 h2 h3 h4 h5 h6
 clear h k hAB hle
 go_enter Try.func92,Try.ntmps92
 go_wp2
 refine bodyPost_ret (v:=.agg #[.int .i64 (b * z - c * y), .int .i64 (c * x - a * z), .int .i64 (a * y - b * x)]) (by simp [results,Try.results92,go_sem]) rfl ⟨_,_,_,rfl,⟨rfl,rfl,rfl⟩,HV.out,(by repeat (first | with_reducible exact Below.refl _ _ | with_reducible assumption | with_reducible refine Below.drew ?_ | with_reducible refine below_drewN ?_ _ | (with_reducible refine Below.alloc ?_ ?_ _; rotate_left; (try simp) <;> omega) | (with_reducible refine Below.setCell ?_ ?_ _; rotate_left; (try simp) <;> omega))),by simp⟩
set_option maxHeartbeats 400000 in
theorem scaled_b {A B : Nat} {a b c n : Int} (w : World) (h : vb A a b c) (k : ab B n) (hAB : A * B ≤ 3050000000000000000) :
  Calls Try.prog 77 #[.agg #[.int .i64 a, .int .i64 b, .int .i64 c], .int .i64 n] w (Scaled a b c n (A * B) w):=by
 have HV : Hid (vb (A * B) (a * n) (b * n) (c * n)):=⟨ab_mul h.1 k,ab_mul h.2.1 k,ab_mul h.2.2 k⟩
 have h1:=ab_big (ab_mul h.1 k) hAB
 have h2:=ab_big (ab_mul h.2.1 k) hAB
 have h3:=ab_big (ab_mul h.2.2 k) hAB
 unfold bigP at h1 h2 h3
 clear h k hAB
 go_enter Try.func77,Try.ntmps77
 go_wp2
 refine bodyPost_ret (v:=.agg #[.int .i64 (a * n), .int .i64 (b * n), .int .i64 (c * n)]) (by simp [results,Try.results77,go_sem]) rfl ⟨_,_,_,rfl,⟨rfl,rfl,rfl⟩,HV.out,(by repeat (first | with_reducible exact Below.refl _ _ | with_reducible assumption | with_reducible refine Below.drew ?_ | with_reducible refine below_drewN ?_ _ | (with_reducible refine Below.alloc ?_ ?_ _; rotate_left; (try simp) <;> omega) | (with_reducible refine Below.setCell ?_ ?_ _; rotate_left; (try simp) <;> omega))),by simp⟩
set_option maxHeartbeats 400000 in
theorem times_b {A B : Nat} {a b c x y z : Int} (w : World) (h : vb A a b c) (k : vb B x y z) (hAB : A * B + A * B + A * B ≤ 3050000000000000000) :
  Calls Try.prog 46 #[.agg #[.int .i64 a, .int .i64 b, .int .i64 c], .agg #[.int .i64 x, .int .i64 y, .int .i64 z]] w (Times a b c x y z (A * B + A * B + A * B) w):=by
 have hle : A * B ≤ 3050000000000000000:=by omega
 have HV : Hid (ab (A * B + A * B + A * B) (a * x + b * y + c * z)):=ab_add (ab_add (ab_mul h.1 k.1) (ab_mul h.2.1 k.2.1)) (ab_mul h.2.2 k.2.2)
 have h1:=ab_big (ab_mul h.1 k.1) hle
 have h2:=ab_big (ab_mul h.2.1 k.2.1) hle
 have h3:=ab_big (ab_mul h.2.2 k.2.2) hle
 unfold bigP at h1 h2 h3
 clear h k hAB hle
 go_enter Try.func46,Try.ntmps46
 go_wp2
 go_ret
 exact ⟨_,rfl,rfl,HV.out,(by repeat (first | with_reducible exact Below.refl _ _ | with_reducible assumption | with_reducible refine Below.drew ?_ | with_reducible refine below_drewN ?_ _ | (with_reducible refine Below.alloc ?_ ?_ _; rotate_left; (try simp) <;> omega) | (with_reducible refine Below.setCell ?_ ?_ _; rotate_left; (try simp) <;> omega))),by simp⟩
set_option maxHeartbeats 400000 in
theorem dot_b {A B : Nat} {a b c x y z : Int} (w : World) (h : vb A a b c) (k : vb B x y z) (hAB : A * B + A * B + A * B ≤ 3050000000000000000) :
  Calls Try.prog 50 #[.agg #[.int .i64 a, .int .i64 b, .int .i64 c], .agg #[.int .i64 x, .int .i64 y, .int .i64 z]] w (Times a b c x y z (A * B + A * B + A * B) w):=by
 have hle : A * B ≤ 3050000000000000000:=by omega
 have HV : Hid (ab (A * B + A * B + A * B) (a * x + b * y + c * z)):=ab_add (ab_add (ab_mul h.1 k.1) (ab_mul h.2.1 k.2.1)) (ab_mul h.2.2 k.2.2)
 have h1:=ab_big (ab_mul h.1 k.1) hle
 have h2:=ab_big (ab_mul h.2.1 k.2.1) hle
 have h3:=ab_big (ab_mul h.2.2 k.2.2) hle
 unfold bigP at h1 h2 h3
 clear h k hAB hle
 go_enter Try.func50,Try.ntmps50
 go_wp2
 go_ret
 exact ⟨_,rfl,rfl,HV.out,(by repeat (first | with_reducible exact Below.refl _ _ | with_reducible assumption | with_reducible refine Below.drew ?_ | with_reducible refine below_drewN ?_ _ | (with_reducible refine Below.alloc ?_ ?_ _; rotate_left; (try simp) <;> omega) | (with_reducible refine Below.setCell ?_ ?_ _; rotate_left; (try simp) <;> omega))),by simp⟩
end Go.Proofs.Ytkjceegmmhnajaa

namespace Go.Proofs.Ytkjceegmmhnajaa
open Go.RowKit

theorem info3 : (Try.prog.info? 3).map (fun i=>(i.zero,i.size,i.bytes)) = some (some (.int .i64 0),1,8):=by kernel_rfl
theorem cells3 : Try.prog.cellsOf 3 = 1:=by kernel_rfl
theorem cells29 : Try.prog.cellsOf 29 = 2:=by kernel_rfl
theorem info29 : (Try.prog.info? 29).map (fun i=>(i.zero,i.size,i.bytes)) = some (some (.agg #[.int .i64 0, .int .i64 0]),2,16):=by kernel_rfl

set_option maxRecDepth 100000 in
theorem eq84 (a b c x y z : Int) (w : World) : (Op.equalIn 10000 84 (.agg #[.int .i64 a, .int .i64 b, .int .i64 c]) (.agg #[.int .i64 x, .int .i64 y, .int .i64 z])).run Try.prog w = .ok (a == x && (b == y && c == z)) w:=by
 obtain ⟨i0,hi0,hz0,hz1,hz2⟩:=info_parts info3
 rw [run_equalIn_array w 9999 _ _ Try.underlying84 hi0,cells3]
 simp [Op.eqItems,part,List.range_succ,go_sem,Try.underlying3]
 by_cases h1 : a = x <;> by_cases h2 : b = y <;> by_cases h3 : c = z <;> simp [h1,h2,h3]

theorem eq29 (d : Nat) (a b x y : Int) (w : World) : (Op.equalIn (d + 2) 29 (.agg #[.int .i64 a, .int .i64 b]) (.agg #[.int .i64 x, .int .i64 y])).run Try.prog w = .ok (a == x && b == y) w:=by
 rw [run_equalIn_agg w (d + 1) 29 _ _ (by kernel_rfl) (by kernel_rfl)]
 simp [go_sem,Program.fieldsOf,Try.underlying29,Op.eqFields,part,Try.underlying3]
 by_cases g1 : a = x <;> by_cases g2 : b = y <;> simp [g1,g2]
set_option maxRecDepth 100000 in
theorem eq30 (a b c d e f a' b' c' d' e' f' : Int) (w : World) : (Op.equalIn 10000 30 (.agg #[.int .i64 a, .int .i64 b, .int .i64 c, .int .i64 d, .int .i64 e, .int .i64 f]) (.agg #[.int .i64 a', .int .i64 b', .int .i64 c', .int .i64 d', .int .i64 e', .int .i64 f'])).run Try.prog w = .ok ((a == a' && b == b') && ((c == c' && d == d') && (e == e' && f == f'))) w:=by
 obtain ⟨i0,hi0,hz0,hz1,hz2⟩:=info_parts info29
 rw [run_equalIn_array w 9999 _ _ Try.underlying30 hi0,cells29]
 have e0:=fun a b x y w=>eq29 9997 a b x y w
 simp [Op.eqItems,part,List.range_succ,go_sem,e0]
 by_cases g1 : a = a' <;> by_cases g2 : b = b' <;> by_cases g3 : c = c' <;> by_cases g4 : d = d' <;> by_cases g5 : e = e' <;> by_cases g6 : f = f' <;> simp [g1,g2,g3,g4,g5,g6]
end Go.Proofs.Ytkjceegmmhnajaa

namespace Go.Proofs.Ytkjceegmmhnajaa
open Go.RowKit

theorem fine_facts {l : List Tn} {n : Int} (h : fineB l n = true) : (l.length : Int) ≤ n ∧ ∀ t ∈ l,t.name.size ≤ 60:=by
 unfold fineB at h
 rw [Bool.and_eq_true,List.all_eq_true] at h
 exact ⟨by simpa using h.1,fun t ht=>by simpa using h.2 t ht⟩

end Go.Proofs.Ytkjceegmmhnajaa

namespace Go.Proofs.Ytkjceegmmhnajaa
open Go.ChangeShapes Go.WideShapes Go.ChangeAt Go.RowKit Go.Deep

theorem list_of {α : Type} {Q : Nat → α → Prop} : ∀ (n : Nat),(∀ i,i < n → ∃ x,Q i x) → ∃ l : List α,l.length = n ∧ ∀ i (hi : i < l.length),Q i l[i]
 | 0,_=>⟨[],rfl,fun i hi=>by simp at hi⟩
 | n + 1,h=>by
  obtain ⟨l,h1,h2⟩:=list_of n (fun i hi=>h i (by omega))
  obtain ⟨x,hx⟩:=h n (by omega)
  refine ⟨l ++ [x],by simp [h1],fun i hi=>?_⟩
  by_cases e : i < l.length
  ·rw [List.getElem_append_left e]; exact h2 i e
  ·have : i = l.length:=by simp at hi; omega
   subst this
   rw [List.getElem_append_right (Nat.le_refl _)]
   simp only [Nat.sub_self,List.getElem_cons_zero]
   rw [h1]; exact hx

theorem lies_rows {α : Type} {w : World} {a : Addr} {f : α → List Value} {s : Nat} (hs : 0 < s) (hf : ∀ x,(f x).length = s) (l : List α) (h : ∀ i (hi : i < l.length) j,j < s → w.cell? (a.add (i * s + j)) = (f l[i])[j]?) : Lies w w.heap.size (some a) (l.flatMap f):=by
 have hlen : ∀ l : List α,(l.flatMap f).length = l.length * s:=fun l=>by
  induction l with
  | nil=>simp
  | cons x l ih=>simp only [List.flatMap_cons,List.length_append,ih,hf,List.length_cons]; rw [Nat.add_mul]; omega
 have hat : ∀ (l : List α) (k : Nat) (hk : k < l.length) (j : Nat),j < s → (l.flatMap f)[k * s + j]? = (f l[k])[j]?:=fun l=>by
  induction l with
  | nil=>intro k hk; simp at hk
  | cons x l ih =>
   intro k hk j hj
   cases k with
   | zero=>simp only [List.flatMap_cons,Nat.zero_mul,Nat.zero_add,List.getElem_cons_zero]; rw [List.getElem?_append_left (by rw [hf]; exact hj)]
   | succ k =>
    simp only [List.flatMap_cons,List.getElem_cons_succ]
    rw [List.getElem?_append_right (by rw [hf,Nat.add_mul]; omega),hf]
    rw [show (k + 1) * s + j - s = k * s + j from by rw [Nat.add_mul]; omega]
    exact ih k (by simpa using hk) j hj
 intro hne
 have cell : ∀ j u,(l.flatMap f)[j]? = some u → w.cell? (a.add j) = some u:=fun j u hj=>by
  have hjl : j < l.length * s:=by rw [← hlen]; exact (List.getElem?_eq_some_iff.1 hj).1
  have hk : j / s < l.length:=Nat.div_lt_of_lt_mul (by rw [Nat.mul_comm]; exact hjl)
  have hr : j % s < s:=Nat.mod_lt _ hs
  have hd : j / s * s + j % s = j:=by rw [Nat.mul_comm]; exact Nat.div_add_mod j s
  have h1:=h (j / s) hk (j % s) hr
  have h2:=hat l (j / s) hk (j % s) hr
  rw [hd] at h1 h2
  rw [h1,← h2]; exact hj
 refine ⟨a,rfl,?_,cell⟩
 obtain ⟨u,hu⟩ : ∃ u,(l.flatMap f)[0]? = some u:=by
  cases hl : l.flatMap f with
  | nil=>exact absurd hl hne
  | cons x r=>exact ⟨x,rfl⟩
 have h0:=cell 0 u hu
 have : (a.add 0).block = a.block:=add_block a 0
 rw [← this]
 unfold World.cell? at h0
 split at h0
 ·rename_i c e fr hb
  exact (Array.getElem?_eq_some_iff.1 hb).1
 ·cases h0

theorem cells39 : Try.prog.cellsOf 39 = 5:=by kernel_rfl
theorem cells37 : Try.prog.cellsOf 37 = 3:=by kernel_rfl
theorem cells9 : Try.prog.cellsOf 9 = 1:=by kernel_rfl
theorem cellsI3 : Try.prog.cellsOf 3 = 1:=by kernel_rfl

section
variable {H : Type} {enc : TypeId × Value → H} {W : World} {sp : Nat → Bool} {hd : Bool}

set_option maxRecDepth 100000 in
theorem tint_cells {n : Nat} {cs : List Value} {x : DataW H × List MemPlace} (h : DataW.trod enc Try.prog W 0 sp hd n 39 cs = some x) : ∃ t : Tn,cs = t.cells ∧ t.name.size ≤ maxLen:=by
 obtain ⟨xs,n',_,_,hlen,hxl,hf⟩:=DataW.trod_struct Try.underlying39 h
 rw [cells39] at hlen
 match cs,hlen with
 | [c0,c1,c2,c3,c4],_ =>
  have hx : ∀ i,i < 3 → ∃ y,xs[i]? = some y:=fun i hi=>⟨xs[i]'(by rw [hxl]; exact hi),List.getElem?_eq_getElem _⟩
  obtain ⟨y0,e0⟩:=hx 0 (by omega)
  obtain ⟨y1,e1⟩:=hx 1 (by omega)
  obtain ⟨y2,e2⟩:=hx 2 (by omega)
  have f0:=(hf 0 _ rfl).trans e0
  have f1:=(hf 1 _ rfl).trans e1
  have f2:=(hf 2 _ rfl).trans e2
  simp only [List.getElem_toArray,List.getElem_cons_zero,List.getElem_cons_succ] at f0 f1 f2
  rw [cells9] at f0
  rw [cells37] at f1
  rw [cellsI3] at f2
  dsimp only [List.drop,List.take] at f0 f1 f2
  obtain ⟨s,hs,_,hsz⟩:=DataW.trod_string Try.underlying9 f0
  obtain ⟨z0,z1,z2,m,_,g0,g1,g2⟩:=trod_array3 Try.underlying37 cellsI3 f1
  obtain ⟨a,ha,_⟩:=DataW.trod_int Try.underlying3 g0
  obtain ⟨b,hb,_⟩:=DataW.trod_int Try.underlying3 g1
  obtain ⟨c,hc,_⟩:=DataW.trod_int Try.underlying3 g2
  obtain ⟨p,hp,_⟩:=DataW.trod_int Try.underlying3 f2
  cases hs; cases ha; cases hb; cases hc; cases hp
  exact ⟨⟨s,a,b,c,p⟩,rfl,hsz⟩

set_option maxRecDepth 100000 in
theorem open_tints {n : Nat} {c : Value} {x : DataW H × List MemPlace} (h : DataW.trod enc Try.prog W 0 sp hd n 22 [c] = some x) :
  ∃ (l : List Tn) (A : Option Addr) (ct : Nat),c = .slice A l.length ct ∧ Lies W W.heap.size A (tintsC l) ∧ l.length ≤ maxLen ∧ ∀ t ∈ l,t.name.size ≤ maxLen:=by
 rcases open_slice Try.underlying22 h with ⟨hc,_⟩ | ⟨a,len,cap,m,n',D,Pl,hc,hb,hl,hm,hmm,_,hi⟩
 ·cases hc
  exact ⟨[],none,0,rfl,fun h=>absurd rfl h,Nat.zero_le _,fun t ht=>by simp at ht⟩
 ·cases hc
  have hlm : len ≤ m:=by rw [hmm]; split <;> omega
  obtain ⟨l,h1,h2⟩:=list_of (Q:=fun i (t : Tn)=>W.cells? 0 (a.add (i * Try.prog.cellsOf 39)) (Try.prog.cellsOf 39) = some t.cells ∧ t.name.size ≤ maxLen) len (fun i hil=>by
   obtain ⟨cs',g1,g2⟩:=hi i (by omega)
   obtain ⟨t,rfl,ht⟩:=tint_cells g2
   exact ⟨t,g1,ht⟩)
  subst h1
  refine ⟨l,some a,cap,rfl,?_,by omega,fun t ht=>?_⟩
  ·refine lies_rows (s:=5) (by omega) (fun x=>rfl) l fun i hi j hj=>?_
   have:=(World.cells?_some (h2 i hi).1).2.2
   rw [cells39] at this
   have h3:=this j hj
   rw [Go.Deep.add_add] at h3
   exact h3
  ·obtain ⟨i,hi,rfl⟩:=List.mem_iff_getElem.1 ht
   exact (h2 i hi).2

set_option maxRecDepth 100000 in
theorem open_tintsV {v : Value} {r : Reach} {b0 : Nat} {d : DataW H} {p : List MemPlace} (hv : Value.okWide Try.prog W r b0 22 v) (h : DataW.Trod enc Try.prog W 0 sp hd 22 v d p) :
  ∃ (l : List Tn) (A : Option Addr) (ct : Nat),v = .slice A l.length ct ∧ Lies W W.heap.size A (tintsC l) ∧ l.length ≤ maxLen ∧ ∀ t ∈ l,t.name.size ≤ maxLen:=by
 obtain ⟨a,len,cap,rfl⟩:=okWide_slice Try.underlying22 hv
 obtain ⟨fuel,hf⟩:=h
 exact open_tints hf
end
end Go.Proofs.Ytkjceegmmhnajaa
