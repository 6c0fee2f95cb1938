/- merged by wip/claimx.py -/
import Derived.Test.YtkjceegmmhnajaaG54
import Derived.Test.YtkjceegmmhnajaaG55
import Derived.Test.YtkjceegmmhnajaaG56
import Derived.Test.YtkjceegmmhnajaaG57
import Derived.Test.YtkjceegmmhnajaaG58
import Derived.Test.YtkjceegmmhnajaaG59
import Derived.Test.YtkjceegmmhnajaaG60
import Derived.Test.YtkjceegmmhnajaaG61
import Derived.Test.YtkjceegmmhnajaaG62
import Derived.Test.YtkjceegmmhnajaaG63
import Derived.Test.YtkjceegmmhnajaaG64
import Derived.Test.YtkjceegmmhnajaaG82
import Derived.Test.YtkjceegmmhnajaaG83
import Derived.Test.YtkjceegmmhnajaaG84
import Derived.Test.YtkjceegmmhnajaaG87
import Derived.Test.YtkjceegmmhnajaaG88
import Derived.Test.YtkjceegmmhnajaaG89
import Derived.Test.YtkjceegmmhnajaaG90
import Derived.Test.YtkjceegmmhnajaaG91
import Derived.Test.YtkjceegmmhnajaaG92
import Derived.Test.YtkjceegmmhnajaaG93
import Derived.Test.YtkjceegmmhnajaaG94
import Derived.Test.YtkjceegmmhnajaaG95

set_option linter.unusedVariables false
set_option linter.unusedSimpArgs false

namespace Go.Proofs.Ytkjceegmmhnajaa
open Go.RowKit

def mixE (l : List Tn) (ps : List Pt) : Int:=if chkT l = 0 then (if recB l.length ps = true then 0 else 1) else chkT l
def mixF (l : List Tn) (ps : List Pt) (j : Nat) : Int × Int:=if mixE l ps = 0 then shF l ps j else (0,0)
def priF (l : List Tn) (ps : List Pt) : Int × Int:=if mixE l ps = 0 then lowest (wsum Tn.price l ps) (wall ps) else (0,0)
def MixEnd (F : Nat → Int × Int) (n : Int) (w : World) (e : Ending) (w' : World) : Prop:=e = .returned (.tuple #[.agg #[.int .i64 (F 0).1, .int .i64 (F 0).2, .int .i64 (F 1).1, .int .i64 (F 1).2, .int .i64 (F 2).1, .int .i64 (F 2).2], .int .i64 n]) ∧ Below w.heap.size w w'
theorem mix_end {F G : Nat → Int × Int} {n m : Int} {w w' : World} (h1 : ∀ j,F j = G j) (h2 : n = m) (hb : Below w.heap.size w w') :
  MixEnd F n w (.returned (.tuple #[.agg #[.int .i64 (G 0).1, .int .i64 (G 0).2, .int .i64 (G 1).1, .int .i64 (G 1).2, .int .i64 (G 2).1, .int .i64 (G 2).2], .int .i64 m])) w':=by
 subst h2; exact ⟨by rw [h1,h1,h1],hb⟩
def PriEnd (f : Int × Int) (n : Int) (w : World) (e : Ending) (w' : World) : Prop:=e = .returned (.tuple #[.agg #[.int .i64 f.1, .int .i64 f.2], .int .i64 n]) ∧ Below w.heap.size w w'
theorem pri_end {f : Int × Int} {a b : Int} {n m : Int} {w w' : World} (h1 : f = (a,b)) (h2 : n = m) (hb : Below w.heap.size w w') :
  PriEnd f n w (.returned (.tuple #[.agg #[.int .i64 a, .int .i64 b], .int .i64 m])) w':=by
 subst h2; subst h1; exact ⟨rfl,hb⟩

set_option maxRecDepth 100000 in
set_option maxHeartbeats 2000000 in
theorem mix_any (l : List Tn) (ps : List Pt) (At A : Option Addr) (ct c : Nat) (w : World) (hlt : Lies w w.heap.size At (tintsC l)) (hl : Lies w w.heap.size A (partsC ps)) (hm : ps.length ≤ 1000) (hm2 : l.length ≤ 1000)
  (hs : ∀ t ∈ l,t.name.size ≤ 100) :
  Calls Try.prog 11 #[.slice At l.length ct, .agg #[.slice A ps.length c]] w (MixEnd (mixF l ps) (mixE l ps) w):=by
 have HT:=Lib.hid (fun W (hb : Below w.heap.size w W)=>checkTints_any l At ct W ((hlt.below hb (Nat.le_refl _)).more hb.size) hm2 hs)
 have HR:=Lib.hid (fun W (hb : Below w.heap.size w W)=>isRecipe_any l.length ps At A ct c W ((hl.below hb (Nat.le_refl _)).more hb.size) hm hm2)
 have HE : Hid (mixE l ps = if chkT l = 0 then (if recB l.length ps = true then 0 else 1) else chkT l):=rfl
 have HF : Hid (∀ j,mixF l ps j = if mixE l ps = 0 then shF l ps j else (0,0)):=fun _=>rfl
 by_cases h0 : chkT l = 0
 ·by_cases h1 : recB l.length ps = true
  ·have hr:=of_decide_eq_true h1
   obtain ⟨_,_,hoff,_⟩:=chkT_ok h0
   have HS:=Lib.hid (fun W (hb : Below w.heap.size w W)=>shade_any l ps At A ct c W ((hlt.below hb (Nat.le_refl _)).more hb.size) ((hl.below hb (Nat.le_refl _)).more hb.size) hr.1.2 hm2 hr.1.1 (goodP_of hr) (fun j t ht=>sel_in' (hoff t ht) j))
   have E0 : Hid (mixE l ps = 0):=by show _ = _; rw [HE.out,if_pos h0,if_pos h1]
   have EF : Hid (∀ j,mixF l ps j = shF l ps j):=fun j=>by rw [HF.out,if_pos E0.out]
   obtain ⟨F,hF⟩ : ∃ F,F = shF l ps:=⟨_,rfl⟩
   rw [← hF] at HS EF
   have H0:=Lib.hid h0
   have H1:=Lib.hid h1
   clear h0 h1 hF hr hoff hlt hl hs HE HF
   go_enter Try.func11,Try.ntmps11
   go_wp2_with (first | (go_at_call 28; refine (HT.out _ bw).mono ?_; rintro e w1 ⟨rfl,hb⟩; rw [H0.out]; have hB1 : Below w.heap.size w w1:=(Below.trans bw (hb.mono (by first | omega | (simp; omega) | simp))); obtain ⟨hc,hf⟩:=bcell hb; have hz:=hb.size; (try simp at hz); have g0 : w.heap.size < w1.heap.size:=(by omega); have g1 : w.heap.size + 1 < w1.heap.size:=(by omega)) | (go_at_call 29; refine (HR.out _ bw).mono ?_; rintro e w2 ⟨rfl,hb2⟩; rw [H1.out]; have hB2 : Below w.heap.size w w2:=(Below.trans bw (hb2.mono (by first | omega | (simp; omega) | simp))); obtain ⟨hc2,hf2⟩:=bcell hb2; have hz2:=hb2.size; have g2 : w.heap.size < w2.heap.size:=(by omega); have g3 : w.heap.size + 1 < w2.heap.size:=(by omega)) | (go_at_call 30; refine (HS.out _ bw).mono ?_; rintro e w3 ⟨rfl,hb3⟩; have hB3 : Below w.heap.size w w3:=(Below.trans bw (hb3.mono (by first | omega | (simp; omega) | simp))); obtain ⟨hc3,hf3⟩:=bcell hb3; have hz3:=hb3.size; have g4 : w.heap.size < w3.heap.size:=(by omega); have g5 : w.heap.size + 1 < w3.heap.size:=(by omega)))
   refine bodyPost_ret (v:=.tuple #[.agg #[.int .i64 (F 0).1, .int .i64 (F 0).2, .int .i64 (F 1).1, .int .i64 (F 1).2, .int .i64 (F 2).1, .int .i64 (F 2).2], .int .i64 0]) ?_ rfl (mix_end EF.out E0.out ?_)
   ·simp [results,Try.results11,go_sem,hc3,hc2,hc,g0,g1,g2,g3]
   ·exact bw
  ·have h1' : recB l.length ps = false:=by simpa using h1
   have E0 : Hid (mixE l ps = 1):=by show _ = _; rw [HE.out,if_pos h0,if_neg h1]
   have EF : Hid (∀ j,mixF l ps j = (0,0)):=fun j=>by rw [HF.out,if_neg (by rw [E0.out]; decide)]
   have H0:=Lib.hid h0
   have H1:=Lib.hid h1'
   clear h0 h1 h1' hlt hl hs HE HF
   go_enter Try.func11,Try.ntmps11
   go_wp2_with (first | (go_at_call 28; refine (HT.out _ bw).mono ?_; rintro e w1 ⟨rfl,hb⟩; rw [H0.out]; have hB1 : Below w.heap.size w w1:=(Below.trans bw (hb.mono (by first | omega | (simp; omega) | simp))); obtain ⟨hc,hf⟩:=bcell hb; have hz:=hb.size; (try simp at hz); have g0 : w.heap.size < w1.heap.size:=(by omega); have g1 : w.heap.size + 1 < w1.heap.size:=(by omega)) | (go_at_call 29; refine (HR.out _ bw).mono ?_; rintro e w2 ⟨rfl,hb2⟩; rw [H1.out]; have hB2 : Below w.heap.size w w2:=(Below.trans bw (hb2.mono (by first | omega | (simp; omega) | simp))); obtain ⟨hc2,hf2⟩:=bcell hb2; have hz2:=hb2.size; have g2 : w.heap.size < w2.heap.size:=(by omega); have g3 : w.heap.size + 1 < w2.heap.size:=(by omega)))
   refine bodyPost_ret (v:=.tuple #[.agg #[.int .i64 0, .int .i64 0, .int .i64 0, .int .i64 0, .int .i64 0, .int .i64 0], .int .i64 1]) ?_ rfl (mix_end (G:=fun _=>(0,0)) EF.out E0.out ?_)
   ·simp [results,Try.results11,go_sem,hc2,hc,g0,g1]
   ·exact bw
 ·have E0 : Hid (mixE l ps = chkT l):=by show _ = _; rw [HE.out,if_neg h0]
  have EF : Hid (∀ j,mixF l ps j = (0,0)):=fun j=>by rw [HF.out,if_neg (by rw [E0.out]; exact h0)]
  have hb1 : (chkT l != 0) = true:=by rw [bne_iff_ne]; exact h0
  clear h0 hlt hl hs HE HF
  generalize chkT l = q at *
  go_enter Try.func11,Try.ntmps11
  go_wp2_with (first | (go_at_call 28; refine (HT.out _ bw).mono ?_; rintro e w1 ⟨rfl,hb⟩;  have hB1 : Below w.heap.size w w1:=(Below.trans bw (hb.mono (by first | omega | (simp; omega) | simp))); obtain ⟨hc,hf⟩:=bcell hb; have hz:=hb.size; (try simp at hz); have g0 : w.heap.size < w1.heap.size:=(by omega); have g1 : w.heap.size + 1 < w1.heap.size:=(by omega)))
  refine bodyPost_ret (v:=.tuple #[.agg #[.int .i64 0, .int .i64 0, .int .i64 0, .int .i64 0, .int .i64 0, .int .i64 0], .int .i64 q]) ?_ rfl (mix_end (G:=fun _=>(0,0)) EF.out E0.out ?_)
  ·simp [results,Try.results11,go_sem,hc]
  ·exact bw
set_option maxRecDepth 100000 in
set_option maxHeartbeats 2000000 in
theorem prices_any (l : List Tn) (ps : List Pt) (At A : Option Addr) (ct c : Nat) (w : World) (hlt : Lies w w.heap.size At (tintsC l)) (hl : Lies w w.heap.size A (partsC ps)) (hm : ps.length ≤ 1000) (hm2 : l.length ≤ 1000)
  (hs : ∀ t ∈ l,t.name.size ≤ 100) :
  Calls Try.prog 13 #[.slice At l.length ct, .agg #[.slice A ps.length c]] w (PriEnd (priF l ps) (mixE l ps) w):=by
 have HT:=Lib.hid (fun W (hb : Below w.heap.size w W)=>checkTints_any l At ct W ((hlt.below hb (Nat.le_refl _)).more hb.size) hm2 hs)
 have HR:=Lib.hid (fun W (hb : Below w.heap.size w W)=>isRecipe_any l.length ps At A ct c W ((hl.below hb (Nat.le_refl _)).more hb.size) hm hm2)
 have HE : Hid (mixE l ps = if chkT l = 0 then (if recB l.length ps = true then 0 else 1) else chkT l):=rfl
 have HF : Hid (priF l ps = if mixE l ps = 0 then lowest (wsum Tn.price l ps) (wall ps) else (0,0)):=rfl
 by_cases h0 : chkT l = 0
 ·by_cases h1 : recB l.length ps = true
  ·have hr:=of_decide_eq_true h1
   obtain ⟨_,_,hoff,_⟩:=chkT_ok h0
   have HS:=Lib.hid (fun W (hb : Below w.heap.size w W)=>price_any l ps At A ct c W ((hlt.below hb (Nat.le_refl _)).more hb.size) ((hl.below hb (Nat.le_refl _)).more hb.size) hr.1.2 hm2 hr.1.1 (goodP_of hr) (fun t ht=>price_in (hoff t ht)))
   have E0 : Hid (mixE l ps = 0):=by show _ = _; rw [HE.out,if_pos h0,if_pos h1]
   have EF : Hid (priF l ps = lowest (wsum Tn.price l ps) (wall ps)):=by show _ = _; rw [HF.out,if_pos E0.out]
   generalize lowest (wsum Tn.price l ps) (wall ps) = fr at *
   obtain ⟨fa,fb⟩:=fr
   have H0:=Lib.hid h0
   have H1:=Lib.hid h1
   clear h0 h1 hr hoff hlt hl hs HE HF
   go_enter Try.func13,Try.ntmps13
   go_wp2_with (first | (go_at_call 28; refine (HT.out _ bw).mono ?_; rintro e w1 ⟨rfl,hb⟩; rw [H0.out]; have hB1 : Below w.heap.size w w1:=(Below.trans bw (hb.mono (by first | omega | (simp; omega) | simp))); obtain ⟨hc,hf⟩:=bcell hb; have hz:=hb.size; (try simp at hz); have g0 : w.heap.size < w1.heap.size:=(by omega); have g1 : w.heap.size + 1 < w1.heap.size:=(by omega)) | (go_at_call 29; refine (HR.out _ bw).mono ?_; rintro e w2 ⟨rfl,hb2⟩; rw [H1.out]; have hB2 : Below w.heap.size w w2:=(Below.trans bw (hb2.mono (by first | omega | (simp; omega) | simp))); obtain ⟨hc2,hf2⟩:=bcell hb2; have hz2:=hb2.size; have g2 : w.heap.size < w2.heap.size:=(by omega); have g3 : w.heap.size + 1 < w2.heap.size:=(by omega)) | (go_at_call 35; refine (HS.out _ bw).mono ?_; rintro e w3 ⟨rfl,hb3⟩; have hB3 : Below w.heap.size w w3:=(Below.trans bw (hb3.mono (by first | omega | (simp; omega) | simp))); obtain ⟨hc3,hf3⟩:=bcell hb3; have hz3:=hb3.size; have g4 : w.heap.size < w3.heap.size:=(by omega); have g5 : w.heap.size + 1 < w3.heap.size:=(by omega)))
   refine bodyPost_ret (v:=.tuple #[.agg #[.int .i64 fa, .int .i64 fb], .int .i64 0]) ?_ rfl (pri_end EF.out E0.out ?_)
   ·simp [results,Try.results13,go_sem,hc3,hc2,hc,g0,g1,g2,g3]
   ·exact bw
  ·have h1' : recB l.length ps = false:=by simpa using h1
   have E0 : Hid (mixE l ps = 1):=by show _ = _; rw [HE.out,if_pos h0,if_neg h1]
   have EF : Hid (priF l ps = (0,0)):=by show _ = _; rw [HF.out,if_neg (by rw [E0.out]; decide)]
   have H0:=Lib.hid h0
   have H1:=Lib.hid h1'
   clear h0 h1 h1' hlt hl hs HE HF
   go_enter Try.func13,Try.ntmps13
   go_wp2_with (first | (go_at_call 28; refine (HT.out _ bw).mono ?_; rintro e w1 ⟨rfl,hb⟩; rw [H0.out]; have hB1 : Below w.heap.size w w1:=(Below.trans bw (hb.mono (by first | omega | (simp; omega) | simp))); obtain ⟨hc,hf⟩:=bcell hb; have hz:=hb.size; (try simp at hz); have g0 : w.heap.size < w1.heap.size:=(by omega); have g1 : w.heap.size + 1 < w1.heap.size:=(by omega)) | (go_at_call 29; refine (HR.out _ bw).mono ?_; rintro e w2 ⟨rfl,hb2⟩; rw [H1.out]; have hB2 : Below w.heap.size w w2:=(Below.trans bw (hb2.mono (by first | omega | (simp; omega) | simp))); obtain ⟨hc2,hf2⟩:=bcell hb2; have hz2:=hb2.size; have g2 : w.heap.size < w2.heap.size:=(by omega); have g3 : w.heap.size + 1 < w2.heap.size:=(by omega)))
   refine bodyPost_ret (v:=.tuple #[.agg #[.int .i64 0, .int .i64 0], .int .i64 1]) ?_ rfl (pri_end EF.out E0.out ?_)
   ·simp [results,Try.results13,go_sem,hc2,hc,g0,g1]
   ·exact bw
 ·have E0 : Hid (mixE l ps = chkT l):=by show _ = _; rw [HE.out,if_neg h0]
  have EF : Hid (priF l ps = (0,0)):=by show _ = _; rw [HF.out,if_neg (by rw [E0.out]; exact h0)]
  have hb1 : (chkT l != 0) = true:=by rw [bne_iff_ne]; exact h0
  clear h0 hlt hl hs HE HF
  generalize chkT l = q at *
  go_enter Try.func13,Try.ntmps13
  go_wp2_with (first | (go_at_call 28; refine (HT.out _ bw).mono ?_; rintro e w1 ⟨rfl,hb⟩;  have hB1 : Below w.heap.size w w1:=(Below.trans bw (hb.mono (by first | omega | (simp; omega) | simp))); obtain ⟨hc,hf⟩:=bcell hb; have hz:=hb.size; (try simp at hz); have g0 : w.heap.size < w1.heap.size:=(by omega); have g1 : w.heap.size + 1 < w1.heap.size:=(by omega)))
  refine bodyPost_ret (v:=.tuple #[.agg #[.int .i64 0, .int .i64 0], .int .i64 q]) ?_ rfl (pri_end EF.out E0.out ?_)
  ·simp [results,Try.results13,go_sem,hc]
  ·exact bw
end Go.Proofs.Ytkjceegmmhnajaa

namespace Go.Proofs.Ytkjceegmmhnajaa
open Go.RowKit LPX
attribute [local go_sem] Oper.semAt_some choEnc

theorem recipes_seq (m : Nat) (own : Nat → Prop) (bt bw : Nat) (l : List Tn) (At : Option Addr) (ct : Nat) (x y z : Int) (w : World) (hown : ∀ g,own g → g < w.heap.size) (h1 : ¬ own bt) (h2 : ¬ own bw) (hoA : ∀ ad,At = some ad → ¬ own ad.block)
  (hbt : w.cell? ⟨bt,0,none⟩ = some (.slice At l.length ct)) (hbw : Bk w bw 37 #[.int .i64 x, .int .i64 y, .int .i64 z]) (hlt_ : Lies w w.heap.size At (tintsC l)) (hm2 : l.length ≤ 1000) (hsh : ∀ t ∈ l,shIn t.a t.b t.c) (hx : shIn x y z) :
  SeqP Fence.wide m Try.prog 68 #[.pointer (some ⟨bt,0,none⟩), .pointer (some ⟨bw,0,none⟩)] erEnc (Er.At w.heap.size) (KpC own) (fun xs=>xs.map Er.ps = allR l ⟨x,y,z⟩) (fun pre=>pre.map Er.ps <+: allR l ⟨x,y,z⟩) (allc l.length).length w :=
 fun lb J Jx W a b c d hY h0=>recipes_seqM m own bt bw l At ct x y z w hown h1 h2 hoA hbt hbw hlt_ hm2 hsh hx lb J Jx W a b c d (fun pre x W1 hj hp=>hY pre x W1 hj hp.1) h0
end Go.Proofs.Ytkjceegmmhnajaa

namespace Go.Proofs.Ytkjceegmmhnajaa
open Go.RowKit LPX
attribute [local go_sem] Oper.semAt_some erEnc Er.v

theorem kpc_set {own : Nat → Prop} (W : World) {b : Nat} (h : own b) (v : Value) : KpC own W (W.setCell ⟨b,0,none⟩ v) :=
 ⟨by simp,fun g o h1 _ h3=>(Below.heap_setCell _ _ _ _ (by show g ≠ b; intro e; subst e; exact h3 h)).trans h1⟩
def ReachE (l : List Tn) (x y z : Int) (w : World) (e : Ending) (w' : World) : Prop :=
 Below w.heap.size w w' ∧ ((chkW l x y z ≠ 0 ∧ e = .returned (.tuple #[.agg #[.slice none 0 0], .bool false, .int .i64 (chkW l x y z)]))
  ∨ (chkW l x y z = 0 ∧ allR l ⟨x,y,z⟩ = [] ∧ e = .returned (.tuple #[.agg #[.slice none 0 0], .bool false, .int .i64 0]))
  ∨ (chkW l x y z = 0 ∧ ∃ (r : Er) (rs : List (List Pt)),allR l ⟨x,y,z⟩ = r.ps :: rs ∧ e = .returned (.tuple #[.agg #[.slice r.A r.ps.length r.c], .bool true, .int .i64 0]) ∧ r.At w.heap.size w'))

set_option maxRecDepth 100000 in
set_option maxHeartbeats 1000000 in
theorem reach_any (l : List Tn) (A : Option Addr) (c : Nat) (x y z : Int) (w : World) (hl : Lies w w.heap.size A (tintsC l)) (hm : l.length ≤ 1000) (hs : ∀ t ∈ l,t.name.size ≤ 100) :
  Calls Try.prog 15 #[.slice A l.length c, .agg #[.int .i64 x, .int .i64 y, .int .i64 z]] w (ReachE l x y z w):=by
 have HW:=Lib.hid (fun W (hb : Below w.heap.size w W)=>checkWant_any l A c x y z W ((hl.below hb (Nat.le_refl _)).more hb.size) hm hs)
 have k0 : Bk ((((w.alloc (.cells #[.int .i64 x, .int .i64 y, .int .i64 z] 37)).alloc (.cells #[.slice none 0 0] 25)).alloc (.cells #[.bool false] 4)).alloc (.cells #[.int .i64 0] 31)) w.heap.size 37 #[.int .i64 x, .int .i64 y, .int .i64 z]:=(((Bk.new _ _ _).alloc _).alloc _).alloc _
 have k1 : Bk ((((w.alloc (.cells #[.int .i64 x, .int .i64 y, .int .i64 z] 37)).alloc (.cells #[.slice none 0 0] 25)).alloc (.cells #[.bool false] 4)).alloc (.cells #[.int .i64 0] 31)) (w.heap.size + 1) 25 #[.slice none 0 0]:=by simpa using ((Bk.new (w.alloc (.cells #[.int .i64 x, .int .i64 y, .int .i64 z] 37)) 25 #[.slice none 0 0]).alloc (.cells #[.bool false] 4)).alloc (.cells #[.int .i64 0] 31)
 have k2 : Bk ((((w.alloc (.cells #[.int .i64 x, .int .i64 y, .int .i64 z] 37)).alloc (.cells #[.slice none 0 0] 25)).alloc (.cells #[.bool false] 4)).alloc (.cells #[.int .i64 0] 31)) (w.heap.size + 2) 4 #[.bool false]:=by simpa using (Bk.new ((w.alloc (.cells #[.int .i64 x, .int .i64 y, .int .i64 z] 37)).alloc (.cells #[.slice none 0 0] 25)) 4 #[.bool false]).alloc (.cells #[.int .i64 0] 31)
 have k3 : Bk ((((w.alloc (.cells #[.int .i64 x, .int .i64 y, .int .i64 z] 37)).alloc (.cells #[.slice none 0 0] 25)).alloc (.cells #[.bool false] 4)).alloc (.cells #[.int .i64 0] 31)) (w.heap.size + 3) 31 #[.int .i64 0]:=by simpa using Bk.new (((w.alloc (.cells #[.int .i64 x, .int .i64 y, .int .i64 z] 37)).alloc (.cells #[.slice none 0 0] 25)).alloc (.cells #[.bool false] 4)) 31 #[.int .i64 0]
 have hb4 : Below w.heap.size w ((((w.alloc (.cells #[.int .i64 x, .int .i64 y, .int .i64 z] 37)).alloc (.cells #[.slice none 0 0] 25)).alloc (.cells #[.bool false] 4)).alloc (.cells #[.int .i64 0] 31)):=by exact (by repeat (first | with_reducible exact Below.refl _ _ | with_reducible assumption | with_reducible refine Below.drew ?_ | with_reducible refine below_drewN ?_ _ | (with_reducible refine Below.alloc ?_ ?_ _; rotate_left; (try simp) <;> omega) | (with_reducible refine Below.setCell ?_ ?_ _; rotate_left; (try simp) <;> omega)))
 have hlW:=Lib.hid hl
 have hCK:=Lib.hid (fun h=>chkW_ok (l:=l) (x:=x) (y:=y) (z:=z) h)
 have hKE : ∃ q,q = chkW l x y z:=⟨_,rfl⟩
 obtain ⟨q,hq⟩:=hKE
 have HQ:=Lib.hid hq
 rw [← hq] at HW
 have hAB : Hid (q = 0 → ∀ ad,A = some ad → ad.block < w.heap.size):=fun h0 ad e=>by
  have h1:=(chkW_ok (hq.symm.trans h0)).1.2
  obtain ⟨ad',e',hb',_⟩:=hl (by
   intro e
   have h5 : 0 = l.length * 5:=by rw [← tintsC_length l,e]; rfl
   omega)
  rw [e] at e'; cases e'; exact hb'
 clear hl hq hs
 refine (callsIn_wide (n:=3)).1 ?_
 refine callsIn_of_wp_marks Try.func15 rfl trivial ?_ rfl
 simp only [Try.ntmps15,List.size_toArray,List.length_cons,List.length_nil,Nat.reduceAdd,Nat.reduceSub,Array.replicate_succ,Array.replicate_zero,List.push_toArray,List.append_toArray,List.nil_append,List.cons_append]
 refine wpIn_wide.2 ?_
 by_cases h0 : q = 0
 ·subst h0
  have hck:=hCK.out HQ.out.symm
  go_wp2_with (first | (go_at_call 36; refine (HW.out _ hb4).mono ?_; rintro e w5 ⟨rfl,hb5⟩; have hB5:=hb4.trans (hb5.mono hb4.size); have p0:=k0.below hb5 k0.lt; have q1:=k1.below hb5 k1.lt; have q2:=k2.below hb5 k2.lt; have q3:=k3.below hb5 k3.lt; have y0:=p0.cell 0 rfl; have y1:=p0.cell 1 rfl; have y2:=p0.cell 2 rfl; clear hb5 k0 k1 k2 k3) | (go_at_call 37; refine (recipes_any A l.length c x y z w5).mono ?_; rintro e w6 ⟨rfl,r0,r1,hb6,hz6⟩))
  have hl4:=q3.lt
  have hB6:=hB5.trans (hb6.mono hB5.size)
  have s1:=q1.below hb6 q1.lt
  have s2:=q2.below hb6 q2.lt
  have s3:=q3.below hb6 q3.lt
  have l5:=hB5.size
  clear hb6 q1 q2 q3 y0 y1 y2 p0
  have HRR:=Lib.hid (And.intro r0 r1)
  clear r0 r1
  refine (wpIn_wide (n:=3)).1 ?_
  refine rangeFunc_box (n:=3) rfl (by omega) (gf:=68) (lb:=#[.pointer (some ⟨w5.heap.size,0,none⟩), .pointer (some ⟨w5.heap.size + 1,0,none⟩)]) rfl trivial (enters_of Try.func68 (by kernel_rfl) rfl)
   (encs:=erEnc) (Pre:=Er.At w6.heap.size) (Kp:=KpC (fun g=>g = w.heap.size + 1 ∨ g = w.heap.size + 2 ∨ g = w.heap.size + 3)) (S:=fun xs=>xs.map Er.ps = allR l ⟨x,y,z⟩) (Sp:=fun pre=>pre.map Er.ps <+: allR l ⟨x,y,z⟩) (N:=(allc l.length).length) (w0:=w6) ?seq (fun h k=>h.trans k) (fun W l o o' _ h1 h2 _=>KpC.putObj o' h1 h2) (Below.refl _ _) (fun _=>rfl)
   (fun pre W=>pre = [] ∧ (Below w.heap.size w W ∧ (Bk W (w.heap.size + 1) 25 #[.slice none 0 0] ∧ (Bk W (w.heap.size + 2) 4 #[.bool false] ∧ Bk W (w.heap.size + 3) 31 #[.int .i64 0]))))
   (fun cc pre W=>cc = .ret ∧ ∃ e : Er,pre = [e] ∧ (Below w.heap.size w W ∧ (e.At w.heap.size W ∧ (Bk W (w.heap.size + 1) 25 #[.slice e.A e.ps.length e.c] ∧ (Bk W (w.heap.size + 2) 4 #[.bool true] ∧ Bk W (w.heap.size + 3) 31 #[.int .i64 0]))))) ?own ?ownx ?pre ⟨rfl,hB6,s1,s2,s3⟩
   (fun e=>.cells #[.slice e.A e.ps.length e.c] 25) (fun W o=>KpC.of_below ((Below.refl _ W).alloc (Nat.le_refl _) o))
   (fun e k=>{ tmps:=#[.slice A l.length c, .agg #[.int .i64 x, .int .i64 y, .int .i64 z],undef, .pointer (some ⟨w.heap.size,0,none⟩), .pointer (some ⟨w.heap.size + 1,0,none⟩), .pointer (some ⟨w.heap.size + 1 + 1,0,none⟩), .pointer (some ⟨w.heap.size + 1 + 1 + 1,0,none⟩), .int .i64 0, .pointer (some ⟨k,0,none⟩), .slice A l.length c, .agg #[.int .i64 x, .int .i64 y, .int .i64 z], .int .i64 0, .int .i64 0, .bool false,undef,undef, .slice A l.length c, .agg #[.int .i64 x, .int .i64 y, .int .i64 z], .func (.func 68) #[] #[.pointer (some ⟨w5.heap.size,0,none⟩), .pointer (some ⟨w5.heap.size + 1,0,none⟩)], .agg #[.slice e.A e.ps.length e.c],undef,undef],defers:=[] }) ?assign ?body ?done ?stop
  case seq=>exact recipes_seq 2 (fun g=>g = w.heap.size + 1 ∨ g = w.heap.size + 2 ∨ g = w.heap.size + 3) w5.heap.size (w5.heap.size + 1) l A c x y z w6 (fun g h=>by omega) (by omega) (by omega) (fun ad e=>by have:=hAB.out (by first | trivial | rfl) ad e; omega) (HRR.out.1.cell 0 rfl) HRR.out.2 ((hlW.out.below hB6 (Nat.le_refl _)).more hB6.size) hm (fun t ht=>offTint_sh (hck.2.1 t ht)) hck.2.2
  case own =>
   rintro pre W W' row ⟨h1,h2,h3,h4,h5⟩ hg hr
   exact ⟨h1,h2.grown hg h2.size (fun k e=>by have:=(hr k e).1; omega),h3.grown hg (fun e=>by have:=(hr _ e.symm).1; omega),h4.grown hg (fun e=>by have:=(hr _ e.symm).1; omega),h5.grown hg (fun e=>by have:=(hr _ e.symm).1; omega)⟩
  case ownx =>
   rintro cc pre W W' row ⟨h0,e,h1,h2,h6,h3,h4,h5⟩ hg hr
   exact ⟨h0,e,h1,h2.grown hg h2.size (fun k e=>by have:=(hr k e).1; omega),h6.kp (KpC.of_grown hg (fun r e=>(hr r e).2)),h3.grown hg (fun e=>by have:=(hr _ e.symm).1; omega),h4.grown hg (fun e=>by have:=(hr _ e.symm).1; omega),h5.grown hg (fun e=>by have:=(hr _ e.symm).1; omega)⟩
  case pre =>
   rintro e W W' row h1 hg hr
   exact h1.kp (KpC.of_grown hg (fun r e=>(hr r e).2))
  case assign =>
   intro lb e W K hK
   gi_wp2
   exact hK
  case body =>
   rintro lb pre e W k hk1 hk2 ⟨rfl,h2,h3,h4,h5⟩ hat _
   have kb : Bk W k 25 #[.slice e.A e.ps.length e.c]:=hk2
   have v0:=kb.cell 0 rfl
   have z1:=h3.fro 0
   have z2:=h4.fro 0
   have z3:=h5.fro 0
   have y1:=h3.cell 0 rfl
   have y2:=h4.cell 0 rfl
   have y3:=h5.cell 0 rfl
   gi_wp2
   have h1W : KpC (fun g=>g = w.heap.size + 1 ∨ g = w.heap.size + 2 ∨ g = w.heap.size + 3) W (((W.setCell ⟨w.heap.size + 1,0,none⟩ (.slice e.A e.ps.length e.c)).setCell ⟨w.heap.size + 1 + 1,0,none⟩ (.bool true)).setCell ⟨w.heap.size + 1 + 1 + 1,0,none⟩ (.int .i64 0)):=((kpc_set W (.inl rfl) _).trans (kpc_set _ (.inr (.inl rfl)) _)).trans (kpc_set _ (.inr (.inr rfl)) _)
   refine ⟨(((KeepsOthers.setCell _ _ _).trans (KeepsOthers.setCell _ _ _)).trans (KeepsOthers.setCell _ _ _)).from _,h1W,rfl,e,rfl,((h2.setCell (by simp) _).setCell (by simp; omega) _).setCell (by simp; omega) _,⟨(h1W.lies hat.1 (fun ad e=>by have:=hat.2 ad e; omega)).more h1W.size,fun ad e=>by have:=hat.2 ad e; have:=hB6.size; omega⟩,((h3.set 0 _).far (by simp) _).far (by simp) _,((h4.far (by simp) _).set 0 _).far (by simp) _,((h5.far (by simp) _).far (by simp) _).set 0 _⟩
  case done =>
   rintro D xs W hwD hS ⟨rfl,h2,h3,h4,h5⟩ hK
   have hMW:=Marks.cons (Marks.nil (w.heap.size + 4) W) (by omega : w.heap.size + 4 ≤ D) (by simp) hK
   have z1:=h3.fro 0
   have z2:=h4.fro 0
   have z3:=h5.fro 0
   have y1:=h3.cell 0 rfl
   have y2:=h4.cell 0 rfl
   have y3:=h5.cell 0 rfl
   go_wp2
   have g1:=((h3.set 0 (.slice none 0 0)).far (p:=⟨w.heap.size + 2,0,none⟩) (by simp) (.bool false)).far (p:=⟨w.heap.size + 3,0,none⟩) (by simp) (.int .i64 0)
   have g2:=((h4.far (p:=⟨w.heap.size + 1,0,none⟩) (by simp) (.slice none 0 0)).set 0 (.bool false)).far (p:=⟨w.heap.size + 3,0,none⟩) (by simp) (.int .i64 0)
   have g3:=((h5.far (p:=⟨w.heap.size + 1,0,none⟩) (by simp) (.slice none 0 0)).far (p:=⟨w.heap.size + 2,0,none⟩) (by simp) (.bool false)).set 0 (.int .i64 0)
   have gM:=hMW.keep (w':=((W.setCell ⟨w.heap.size + 1,0,none⟩ (.slice none 0 0)).setCell ⟨w.heap.size + 2,0,none⟩ (.bool false)).setCell ⟨w.heap.size + 3,0,none⟩ (.int .i64 0)) fun E hE h=>(Below.heap_setCell _ _ _ _ (by show E ≠ w.heap.size + 3; omega)).trans ((Below.heap_setCell _ _ _ _ (by show E ≠ w.heap.size + 2; omega)).trans ((Below.heap_setCell _ _ _ _ (by show E ≠ w.heap.size + 1; omega)).trans h))
   have gb:=((h2.setCell (p:=⟨w.heap.size + 1,0,none⟩) (by simp) (.slice none 0 0)).setCell (p:=⟨w.heap.size + 2,0,none⟩) (by simp) (.bool false)).setCell (p:=⟨w.heap.size + 3,0,none⟩) (by simp) (.int .i64 0)
   have x1:=(gM.bk g1).cell 0 rfl
   have x2:=(gM.bk g2).cell 0 rfl
   have x3:=(gM.bk g3).cell 0 rfl
   have gB:=Marks.below (by omega) gM gb
   refine leaves_marks (v:=.tuple #[.agg #[.slice none 0 0], .bool false, .int .i64 0]) (.inl rfl) gM rfl ?_ ⟨gB, .inr (.inl ⟨HQ.out.symm,?_,rfl⟩)⟩
   ·simp only [Nat.add_assoc,Nat.reduceAdd] at x1 x2 x3 ⊢
    generalize shut [D] _ = w9 at *
    simp [results,Try.results15,go_sem,x1,x2,x3]
   ·exact hS.symm
  case stop =>
   rintro D cc pre W hwD hp ⟨rfl,e,rfl,h2,h6,h3,h4,h5⟩ hK
   have hMW:=Marks.cons (Marks.nil (w.heap.size + 4) W) (by omega : w.heap.size + 4 ≤ D) (by simp) hK
   gi_wp2
   have x1:=(hMW.bk h3).cell 0 rfl
   have x2:=(hMW.bk h4).cell 0 rfl
   have x3:=(hMW.bk h5).cell 0 rfl
   have gB:=Marks.below (by omega) hMW h2
   have h6' : e.At w.heap.size (shut [D] W):=h6.kp (KpC.putObj _ hK rfl)
   obtain ⟨rs,hrs⟩:=hp
   refine leaves_marks (v:=.tuple #[.agg #[.slice e.A e.ps.length e.c], .bool true, .int .i64 0]) (.inl rfl) hMW rfl ?_ ⟨gB, .inr (.inr ⟨HQ.out.symm,e,rs,hrs.symm,rfl,h6'⟩)⟩
   generalize shut [D] W = w9 at *
   simp [results,Try.results15,go_sem,x1,x2,x3]
 ·go_wp2_with (first | (go_at_call 36; refine (HW.out _ hb4).mono ?_; rintro e w5 ⟨rfl,hb5⟩; have hB5:=hb4.trans (hb5.mono hb4.size); have q1:=k1.below hb5 k1.lt; have q2:=k2.below hb5 k2.lt; have q3:=k3.below hb5 k3.lt; have z1:=q1.fro 0; have z2:=q2.fro 0; have z3:=q3.fro 0; have y1:=q1.cell 0 rfl; have y2:=q2.cell 0 rfl; have y3:=q3.cell 0 rfl; clear hb5 k0 k1 k2 k3))
  have g1:=((q1.set 0 (.slice none 0 0)).far (p:=⟨w.heap.size + 2,0,none⟩) (by simp) (.bool false)).far (p:=⟨w.heap.size + 3,0,none⟩) (by simp) (.int .i64 q)
  have g2:=((q2.far (p:=⟨w.heap.size + 1,0,none⟩) (by simp) (.slice none 0 0)).set 0 (.bool false)).far (p:=⟨w.heap.size + 3,0,none⟩) (by simp) (.int .i64 q)
  have g3:=((q3.far (p:=⟨w.heap.size + 1,0,none⟩) (by simp) (.slice none 0 0)).far (p:=⟨w.heap.size + 2,0,none⟩) (by simp) (.bool false)).set 0 (.int .i64 q)
  have gb:=((hB5.setCell (p:=⟨w.heap.size + 1,0,none⟩) (by simp) (.slice none 0 0)).setCell (p:=⟨w.heap.size + 2,0,none⟩) (by simp) (.bool false)).setCell (p:=⟨w.heap.size + 3,0,none⟩) (by simp) (.int .i64 q)
  have x1:=g1.cell 0 rfl
  have x2:=g2.cell 0 rfl
  have x3:=g3.cell 0 rfl
  refine leaves_marks (Ds:=[]) (B:=0) (v:=.tuple #[.agg #[.slice none 0 0], .bool false, .int .i64 q]) (.inl rfl) (Marks.nil _ _) rfl ?_ ⟨gb, .inl ⟨by rw [← HQ.out]; exact h0,by rw [← HQ.out]⟩⟩
  simp only [Nat.add_assoc,Nat.reduceAdd,shut] at x1 x2 x3 ⊢
  generalize World.setCell _ _ _ = w9 at *
  simp [results,Try.results15,go_sem,x1,x2,x3]
end Go.Proofs.Ytkjceegmmhnajaa

namespace Go.Proofs.Ytkjceegmmhnajaa
open Go.RowKit LPX
attribute [local go_sem] Oper.semAt_some nEnc

theorem reach_form {l : List Tn} {x y z : Int} {w w' : World} {e : Ending} (h : ReachE l x y z w e w') : ∃ (A : Option Addr) (n c : Nat) (b : Bool),e = .returned (.tuple #[.agg #[.slice A n c], .bool b, .int .i64 (chkW l x y z)]) ∧ Below w.heap.size w w' ∧ (b = true ↔ (chkW l x y z = 0 ∧ allR l ⟨x,y,z⟩ ≠ [])):=by
 obtain ⟨hb,(⟨h1,rfl⟩ | ⟨h1,h2,rfl⟩ | ⟨h1,r,rs,h2,rfl,_⟩)⟩:=h
 ·exact ⟨none,0,0,false,rfl,hb,by simp [h1]⟩
 ·exact ⟨none,0,0,false,by rw [h1],hb,by simp [h2]⟩
 ·exact ⟨r.A,r.ps.length,r.c,true,by rw [h1],hb,by simp [h1,h2]⟩

end Go.Proofs.Ytkjceegmmhnajaa

namespace Go.Proofs.Ytkjceegmmhnajaa
open Go.RowKit LPX

theorem getElem_more {l : List Tn} {m : Tn} {i : Nat} (h : i < l.length) : (l ++ [m])[i]? = l[i]?:=List.getElem?_append_left h
theorem pts_more {l : List Tn} {m : Tn} {L : List Nat} (h : ∀ i ∈ L,i < l.length) : ptsOf (l ++ [m]) (natI L) = ptsOf l (natI L):=by
 unfold ptsOf
 refine List.map_congr_left fun i hi=>?_
 obtain ⟨j,hj,rfl⟩:=List.mem_map.1 hi
 simp only [Int.toNat_natCast]
 rw [getElem_more (h j hj)]
theorem allR_more {l : List Tn} {m : Tn} {x : Vc} {ps : List Pt} (h : ps ∈ allR l x) : ps ∈ allR (l ++ [m]) x:=by
 unfold allR at *
 obtain ⟨L,hL,he⟩:=List.mem_filterMap.1 h
 obtain ⟨h1,h2,h3⟩:=mem_allc.1 hL
 refine List.mem_filterMap.2 ⟨L,mem_allc.2 ⟨h1,h2,fun i hi=>by have:=h3 i hi; simp; omega⟩,?_⟩
 rw [← he]
 unfold rcpF
 rw [pts_more h3]
theorem tv_more {l : List Tn} {m : Tn} {f : Tn → Int} {t : Int} (h : t.toNat < l.length) : tv f (l ++ [m]) t = tv f l t:=by
 unfold tv
 rw [getElem_more h]
theorem wsum_more {l : List Tn} {m : Tn} {f : Tn → Int} : ∀ {ps : List Pt},(∀ p ∈ ps,p.t.toNat < l.length) → wsum f (l ++ [m]) ps = wsum f l ps
 | [],_=>rfl
 | p :: ps,h=>by
  rw [wsum_cons,wsum_cons,tv_more (h p (by simp)),wsum_more fun q hq=>h q (by simp [hq])]
theorem priL_more {l : List Tn} {m : Tn} {ps : List Pt} (h : goodP l.length ps) : priL (l ++ [m]) ps = priL l ps:=by
 unfold priL
 rw [wsum_more fun p hp=>by
  obtain ⟨k,hk,rfl⟩:=List.mem_iff_getElem.1 hp
  exact (h k hk).1.2]
theorem best_mem {l : List Tn} {x : Vc} (hoff : ∀ t ∈ l,offTint t = false) (hx : shadeV x) {b : List Pt} (hb : bestF l (allR l x) = some b) : b ∈ allR l x:=((bestF_ok _ (fun ps h=>by
 obtain ⟨L,ws,hR⟩:=allR_ok hoff hx h
 exact hR.pos.2)).2 b hb).1
theorem best_less {l : List Tn} {x : Vc} (hoff : ∀ t ∈ l,offTint t = false) (hx : shadeV x) {b r : List Pt} (hb : bestF l (allR l x) = some b) (hr : r ∈ allR l x) : lessQ l r b = false:=by
 have hw : ∀ ps ∈ allR l x,1 ≤ wall ps:=fun ps h=>by
  obtain ⟨L,ws,hR⟩:=allR_ok hoff hx h
  exact hR.pos.2
 obtain ⟨hm,hmin⟩:=(bestF_ok _ hw).2 b hb
 have:=hmin r hr
 cases h : lessQ l r b with
 | false=>rfl
 | true =>
  have:=(lessQ_iff (hw r hr) (hw b hm)).1 h
  omega
theorem lowest_mulw {a b : Int} (hb : 1 ≤ b) : lowest (a * b) b = (a,1):=by
 have hg : (Int.gcd (a * b) b : Int) = b:=by
  rw [Int.gcd_comm,Int.gcd_mul_left_right]
  omega
 unfold lowest
 rw [hg,Int.mul_tdiv_cancel _ (by omega),Int.tdiv_self (by omega)]
theorem found_ok {l : List Tn} {x y z : Int} (h0 : chkW l x y z = 0) {ps : List Pt} (hp : ps ∈ allR l ⟨x,y,z⟩) : mixE l ps = 0 ∧ priF l ps = priL l ps ∧ (mixF l ps 0 = (x,1) ∧ mixF l ps 1 = (y,1) ∧ mixF l ps 2 = (z,1)):=by
 obtain ⟨_,hoff,hsh⟩:=chkW_ok h0
 obtain ⟨L,ws,hR⟩:=allR_ok (x:=⟨x,y,z⟩) hoff (show shadeV ⟨x,y,z⟩ from hsh) hp
 have hT : chkT l = 0:=by
  unfold chkW at h0
  split at h0
  ·assumption
  ·rename_i hc; exact absurd h0 hc
 have hE : mixE l ps = 0:=by
  unfold mixE
  rw [if_pos hT,if_pos (show recB l.length ps = true from decide_eq_true hR.ok)]
 have hg:=hR.gives
 unfold rgiveB at hg
 simp only [Bool.and_eq_true,decide_eq_true_iff] at hg
 have hw:=hR.pos.2
 refine ⟨hE,by unfold priF; rw [if_pos hE]; rfl,?_,?_,?_⟩
 ·unfold mixF shF; rw [if_pos hE,hg.1]; exact lowest_mulw hw
 ·unfold mixF shF; rw [if_pos hE,hg.2.1]; exact lowest_mulw hw
 ·unfold mixF shF; rw [if_pos hE,hg.2.2]; exact lowest_mulw hw
end Go.Proofs.Ytkjceegmmhnajaa

namespace Go.Proofs.Ytkjceegmmhnajaa
open Go.RowKit

theorem info39 : (Try.prog.info? 39).map (fun i=>(i.zero,i.size,i.bytes)) = some (some (.agg #[.string ByteArray.empty, .int .i64 0, .int .i64 0, .int .i64 0, .int .i64 0]),5,48):=by kernel_rfl
theorem tintsC_snoc (l : List Tn) (m : Tn) : tintsC l ++ m.cells = tintsC (l ++ [m]):=by simp [tintsC]
theorem tintsC_one (l : List Tn) : ∀ u ∈ tintsC l,u.oneCell' = true:=fun u hu=>by
 unfold tintsC at hu
 obtain ⟨t,_,ht⟩:=List.mem_flatMap.1 hu
 simp only [Tn.cells,List.mem_cons,List.not_mem_nil,or_false] at ht
 rcases ht with rfl | rfl | rfl | rfl | rfl <;> rfl
theorem che_found {l : List Tn} {x y z : Int} {ps : List Pt} (h0 : chkW l x y z = 0) (hb : bestF l (allR l ⟨x,y,z⟩) = some ps) (hne : allR l ⟨x,y,z⟩ ≠ []) {w w' : World} {e : Ending} (h : CheE l x y z w e w') :
  ∃ (A : Option Addr) (c : Nat) (n0 n1 n2 n3 dn : Int),e = .returned (.tuple #[.agg #[.slice A ps.length c], .agg #[.int .i64 n0, .int .i64 n1, .int .i64 n2, .int .i64 n3, .int .i64 dn], .int .i64 0]) ∧ Lies w' w'.heap.size A (partsC ps) ∧ Below w.heap.size w w':=by
 obtain ⟨hb1,(⟨h1,_⟩ | ⟨_,h1,_⟩ | ⟨_,r,d,h1,h2,h3,h4,h5,rfl,h6⟩)⟩:=h
 ·exact absurd h0 h1
 ·exact absurd h1 hne
 ·rw [hb] at h1
  cases h1
  exact ⟨r.A,r.c,d.n0,d.n1,d.n2,d.n3,d.den,rfl,h6.1,hb1⟩
end Go.Proofs.Ytkjceegmmhnajaa

namespace Go.Proofs.Ytkjceegmmhnajaa
open Go.RowKit

set_option maxRecDepth 100000 in
set_option maxHeartbeats 1000000 in
theorem shade17_any (l : List Tn) (ps : List Pt) (x y z : Int) (At A : Option Addr) (ct c : Nat) (w : World) (hlt : Lies w w.heap.size At (tintsC l)) (hl : Lies w w.heap.size A (partsC ps)) (hm : ps.length ≤ 1000) (hm2 : l.length ≤ 1000) (hs : ∀ t ∈ l,t.name.size ≤ 100)
  (h0 : mixE l ps = 0) (h1 : mixF l ps 0 = (x,1)) (h2 : mixF l ps 1 = (y,1)) (h3 : mixF l ps 2 = (z,1)) :
  Calls Try.prog 17 #[.slice At l.length ct, .agg #[.slice A ps.length c], .agg #[.int .i64 x, .int .i64 y, .int .i64 z]] w (ShEnd true w):=by
 have HS:=Lib.hid (fun W (hb : Below w.heap.size w W)=>mix_any l ps At A ct c W ((hlt.below hb (Nat.le_refl _)).more hb.size) ((hl.below hb (Nat.le_refl _)).more hb.size) hm hm2 hs)
 unfold MixEnd at HS
 rw [h0,h1,h2,h3] at HS
 dsimp only at HS
 obtain ⟨V,e1,e2,e3⟩ : ∃ V : Nat → Int,V 0 = x ∧ V 1 = y ∧ V 2 = z:=⟨fun k=>if k = 0 then x else if k = 1 then y else z,rfl,rfl,rfl⟩
 subst e1; subst e2; subst e3
 clear hlt hl hm hm2 hs h0 h1 h2 h3
 go_enter Try.func17,Try.ntmps17
 go_wp2_with fail
 have k0 : Bk ((w.alloc (.cells #[.slice A ps.length c] 25)).alloc (.cells #[.int .i64 (V 0), .int .i64 (V 1), .int .i64 (V 2)] 37)) (w.heap.size + 1) 37 #[.int .i64 (V 0), .int .i64 (V 1), .int .i64 (V 2)]:=by simpa using Bk.new (w.alloc (.cells #[.slice A ps.length c] 25)) 37 #[.int .i64 (V 0), .int .i64 (V 1), .int .i64 (V 2)]
 refine (HS.out _ (by exact bw)).mono ?_
 rintro e w1 ⟨rfl,hb1⟩
 have hB1 : Below w.heap.size w w1:=(Below.trans bw (hb1.mono (by simp; omega)))
 have k1:=k0.below hb1 k0.lt
 clear k0 hb1
 go_wp2
 go_loopw [9] (fun yi wr=>∃ k : Nat,k ≤ 3 ∧ yi = .int .i64 k ∧ Below w.heap.size w wr ∧ (Bk wr (w.heap.size + 1) 37 #[.int .i64 (V 0), .int .i64 (V 1), .int .i64 (V 2)] ∧ Bk wr w1.heap.size 30 #[.int .i64 (V 0), .int .i64 1, .int .i64 (V 1), .int .i64 1, .int .i64 (V 2), .int .i64 1])) (fun yi _=>3 - (intOf yi).toNat)
 case atStart=>exact ⟨0,by omega,rfl,hB1.alloc hB1.size _,k1.alloc _,Bk.new _ _ _⟩
 case round =>
  clear hB1 k1
  obtain ⟨k,hk,rfl,hbw,kw,ks⟩:=hrel
  have lk:=kw.lt
  have ls:=ks.lt
  by_cases hk3 : k < 3
  ·match k,hk3 with
   | 0,_ =>
    have c1:=ks.cell 0 rfl
    have c2:=ks.cell 1 rfl
    have d1:=kw.cell 0 rfl
    have E29 : ∀ v : World,(Op.equalIn 10000 29 (.agg #[.int .i64 (V 0), .int .i64 1]) (.agg #[.int .i64 (V 0), .int .i64 1])).run Try.prog v = .ok true v:=fun v=>by rw [eq29 9998]; simp
    go_wp2
    go_quiet (fail)
    go_wp2
    go_roundw
    case rel=>exact ⟨0 + 1,by omega,by go_num,bw,bkw,bkw⟩
    case measure=>simp [intOf]
   | 1,_ =>
    have c1:=ks.cell 2 rfl
    have c2:=ks.cell 3 rfl
    have d1:=kw.cell 1 rfl
    have E29 : ∀ v : World,(Op.equalIn 10000 29 (.agg #[.int .i64 (V 1), .int .i64 1]) (.agg #[.int .i64 (V 1), .int .i64 1])).run Try.prog v = .ok true v:=fun v=>by rw [eq29 9998]; simp
    go_wp2
    go_quiet (fail)
    go_wp2
    go_roundw
    case rel=>exact ⟨1 + 1,by omega,by go_num,bw,bkw,bkw⟩
    case measure=>simp [intOf]
   | 2,_ =>
    have c1:=ks.cell 4 rfl
    have c2:=ks.cell 5 rfl
    have d1:=kw.cell 2 rfl
    have E29 : ∀ v : World,(Op.equalIn 10000 29 (.agg #[.int .i64 (V 2), .int .i64 1]) (.agg #[.int .i64 (V 2), .int .i64 1])).run Try.prog v = .ok true v:=fun v=>by rw [eq29 9998]; simp
    go_wp2
    go_quiet (fail)
    go_wp2
    go_roundw
    case rel=>exact ⟨2 + 1,by omega,by go_num,bw,bkw,bkw⟩
    case measure=>simp [intOf]
  ·obtain rfl : k = 3:=by omega
   go_wp2
   go_ret
   exact ⟨rfl,hbw⟩
end Go.Proofs.Ytkjceegmmhnajaa

namespace Go.Proofs.Ytkjceegmmhnajaa
open Go.RowKit

def swp (sw : Bool) (p q r s : Int) : Prop:=if sw then r * q < p * s else p * s < r * q
theorem swp_true (p q r s : Int) : swp true p q r s = (r * q < p * s):=rfl
theorem swp_false (p q r s : Int) : swp false p q r s = (p * s < r * q):=rfl

theorem less_blocks {w : World} {B C : Nat} {t : TypeId} {a b c d : Value} (h1 : Bk w B t #[a,b]) (h2 : Bk w C t #[c,d]) (hn : B ≠ C) (v1 v2 v3 v4 : Value) :
  let W:=(((w.setCell ⟨B,0,none⟩ v1).setCell ⟨B,1,none⟩ v2).setCell ⟨C,0,none⟩ v3).setCell ⟨C,1,none⟩ v4
  Bk W B t #[v1,v2] ∧ Bk W C t #[v3,v4]:=by
 have hn' : C ≠ B:=fun e=>hn e.symm
 exact ⟨((((h1.set 0 v1).set 1 v2).far (p:=⟨C,0,none⟩) hn v3).far (p:=⟨C,1,none⟩) hn v4),
  ((((h2.far (p:=⟨B,0,none⟩) hn' v1).far (p:=⟨B,1,none⟩) hn' v2).set 0 v3).set 1 v4)⟩

theorem less_step (sw : Bool) (p q r s m n : Int) (hq : 1 ≤ q) (hs : 1 ≤ s) (hm : m = p / q) (hn : n = r / s) :
  (swp sw p q r s ↔ (if sw then n < m else m < n) ∨ (m = n ∧ swp sw (p - m * q) q (r - n * s) s)):=by
 have e1 : p - m * q = p % q:=by have:=Int.mul_ediv_add_emod p q; rw [hm,Int.mul_comm (p / q)]; omega
 have e2 : r - n * s = r % s:=by have:=Int.mul_ediv_add_emod r s; rw [hn,Int.mul_comm (r / s)]; omega
 rw [e1,e2,hm,hn]
 cases sw
 ·exact cmp_step p q r s hq hs
 ·have:=cmp_step r s p q hs hq
  rw [swp_true,swp_true]
  simp only [if_true]
  rw [this]
  constructor
  ·rintro (h | ⟨h1,h2⟩)
   ·exact .inl h
   ·exact .inr ⟨h1.symm,h2⟩
  ·rintro (h | ⟨h1,h2⟩)
   ·exact .inl h
   ·exact .inr ⟨h1.symm,h2⟩

theorem less_stop1 (sw : Bool) (m n : Int) (h : m ≠ n) : (decide (m < n) != sw) = decide (if sw then n < m else m < n):=by
 cases sw
 ·simp
 ·by_cases h1 : m < n
  ·have : ¬ n < m:=by omega
   simp [h1,this]
  ·have : n < m:=by omega
   simp [h1,this]

def LessEnd (b : Bool) (w : World) (e : Ending) (w' : World) : Prop:=e = .returned (.bool b) ∧ Below w.heap.size w w'
theorem less_ret {p q r s : Int} {b : Bool} {w w' : World} (h : b = true ↔ p * s < r * q) (hb : Below w.heap.size w w') : LessEnd (decide (p * s < r * q)) w (.returned (.bool b)) w' :=
 ⟨by congr 2; rw [Bool.eq_iff_iff]; simpa using h,hb⟩
theorem less_fin2 (sw : Bool) (u v s q : Int) (hu : 0 ≤ u) (hv : 0 ≤ v) (hs : 1 ≤ s) (hq : 1 ≤ q) (h : u = 0 ∨ v = 0) :
  swp sw u q v s ↔ (if sw then v = 0 ∧ 0 < u else u = 0 ∧ 0 < v):=by
 have a1 : 0 < u → 0 < u * s:=fun h=>Int.mul_pos h (by omega)
 have a2 : 0 < v → 0 < v * q:=fun h=>Int.mul_pos h (by omega)
 cases sw
 ·rw [swp_false]; simp only [Bool.false_eq_true,if_false]
  rcases h with rfl | rfl
  ·rw [Int.zero_mul]
   rcases Int.lt_or_eq_of_le hv with h | h
   ·exact ⟨fun _=>⟨rfl,h⟩,fun _=>a2 h⟩
   ·subst h; simp
  ·rw [Int.zero_mul]
   rcases Int.lt_or_eq_of_le hu with h | h
   ·have:=a1 h; constructor <;> intro _ <;> omega
   ·subst h; simp
 ·rw [swp_true]; simp only [if_true]
  rcases h with rfl | rfl
  ·rw [Int.zero_mul]
   rcases Int.lt_or_eq_of_le hv with h | h
   ·have:=a2 h; constructor <;> intro _ <;> omega
   ·subst h; simp
  ·rw [Int.zero_mul]
   rcases Int.lt_or_eq_of_le hu with h | h
   ·exact ⟨fun _=>⟨rfl,h⟩,fun _=>a1 h⟩
   ·subst h; simp

theorem less_start (w : World) (o1 o2 : Obj) (a b c d : Value) : Bk ((((w.alloc o1).alloc o2).alloc (.cells #[a,b] 29)).alloc (.cells #[c,d] 29)) (w.heap.size + 1 + 1) 29 #[a,b] ∧ Bk ((((w.alloc o1).alloc o2).alloc (.cells #[a,b] 29)).alloc (.cells #[c,d] 29)) (w.heap.size + 1 + 1 + 1) 29 #[c,d]:=by
 have h1:=Bk.new ((w.alloc o1).alloc o2) 29 #[a,b]
 have h2:=Bk.new (((w.alloc o1).alloc o2).alloc (.cells #[a,b] 29)) 29 #[c,d]
 rw [World.size_alloc,World.size_alloc] at h1
 rw [World.size_alloc,World.size_alloc,World.size_alloc] at h2
 exact ⟨h1.alloc _,h2⟩

set_option maxRecDepth 100000 in
set_option maxHeartbeats 1600000 in
theorem less_any (p q r s : Int) (w : World) (hp : 0 ≤ p) (hp2 : p ≤ 3050000000000000000) (hq : 1 ≤ q) (hq2 : q ≤ 3050000000000000000) (hr : 0 ≤ r) (hr2 : r ≤ 3050000000000000000) (hs : 1 ≤ s) (hs2 : s ≤ 3050000000000000000) :
  Calls Try.prog 18 #[.agg #[.int .i64 p, .int .i64 q], .agg #[.int .i64 r, .int .i64 s]] w (LessEnd (decide (p * s < r * q)) w):=by
 go_enter Try.func18,Try.ntmps18
 go_wp2
 go_loopw [7] (fun x wr=>∃ (p' q' r' s' : Int) (sw : Bool),x = .bool sw ∧ (Bk wr (w.heap.size + 1 + 1) 29 #[.int .i64 p', .int .i64 q'] ∧ Bk wr (w.heap.size + 1 + 1 + 1) 29 #[.int .i64 r', .int .i64 s'])
  ∧ Below w.heap.size w wr ∧ Hid (swp sw p' q' r' s' ↔ p * s < r * q)
  ∧ 0 ≤ p' ∧ p' ≤ 3050000000000000000 ∧ 1 ≤ q' ∧ q' ≤ 3050000000000000000 ∧ 0 ≤ r' ∧ r' ≤ 3050000000000000000 ∧ 1 ≤ s' ∧ s' ≤ 3050000000000000000) (fun _ wr=>(intOf ((wr.cell? ⟨w.heap.size + 1 + 1,1,none⟩).getD undef) + intOf ((wr.cell? ⟨w.heap.size + 1 + 1 + 1,1,none⟩).getD undef)).toNat)
 case atStart =>
  refine ⟨p,q,r,s,false,rfl,?_,bw,Iff.rfl,hp,hp2,hq,hq2,hr,hr2,hs,hs2⟩
  exact less_start w _ _ _ _ _ _
 case round =>
  clear hp hp2 hq hq2 hr hr2 hs hs2
  obtain ⟨p',q',r',s',sw,rfl,⟨bA,bB⟩,hB,hi,hp,hp2,hq,hq2,hr,hr2,hs,hs2⟩:=hrel
  have hBs:=hB.size
  have x1:=bA.cell 0 rfl
  have x2:=bA.cell 1 rfl
  have x3:=bB.cell 0 rfl
  have x4:=bB.cell 1 rfl
  have f1:=bA.fro 0
  have f2:=bA.fro 1
  have f3:=bB.fro 0
  have f4:=bB.fro 1
  have a1 : 0 ≤ p' / q' ∧ p' / q' ≤ 3050000000000000000:=⟨Int.ediv_nonneg hp (by omega),Int.le_trans (Int.ediv_le_self _ hp) hp2⟩
  have a2 : 0 ≤ r' / s' ∧ r' / s' ≤ 3050000000000000000:=⟨Int.ediv_nonneg hr (by omega),Int.le_trans (Int.ediv_le_self _ hr) hr2⟩
  have b1 : 0 ≤ p' % q' ∧ p' % q' < q':=⟨Int.emod_nonneg _ (by omega),Int.emod_lt_of_pos _ (by omega)⟩
  have b2 : 0 ≤ r' % s' ∧ r' % s' < s':=⟨Int.emod_nonneg _ (by omega),Int.emod_lt_of_pos _ (by omega)⟩
  have e1:=Int.mul_ediv_add_emod p' q'
  have e2:=Int.mul_ediv_add_emod r' s'
  have F1:=Lib.hid (fun w1 : World=>floor_any p' q' w1 (by unfold bigP; omega) hq hq2)
  have F2:=Lib.hid (fun w1 : World=>floor_any r' s' w1 (by unfold bigP; omega) hs hs2)
  have K:=Lib.hid (less_step sw p' q' r' s' _ _ hq hs rfl rfl)
  have e1' : 0 ≤ p' / q' * q' ∧ p' / q' * q' ≤ p' ∧ p' - p' / q' * q' = p' % q':=by rw [Int.mul_comm]; have : 0 ≤ q' * (p' / q'):=Int.mul_nonneg (by omega) a1.1; omega
  have e2' : 0 ≤ r' / s' * s' ∧ r' / s' * s' ≤ r' ∧ r' - r' / s' * s' = r' % s':=by rw [Int.mul_comm]; have : 0 ≤ s' * (r' / s'):=Int.mul_nonneg (by omega) a2.1; omega
  clear e1 e2
  generalize p' / q' = m at *
  generalize r' / s' = n at *
  generalize p' % q' = u at *
  generalize r' % s' = v at *
  obtain ⟨a1,a1'⟩:=a1
  obtain ⟨a2,a2'⟩:=a2
  obtain ⟨b1,b1'⟩:=b1
  obtain ⟨b2,b2'⟩:=b2
  obtain ⟨d1,d2,d3⟩:=e1'
  obtain ⟨d4,d5,d6⟩:=e2'
  rw [d3,d6] at K
  by_cases hx : m = n
  ·subst hx
   have K' : Hid (swp sw u q' v s' ↔ p * s < r * q):=by
    have k:=K.out
    rw [hi.out] at k
    simp at k
    exact k.symm
   clear K hi
   have hmm : (m != m) = false:=by simp
   by_cases h1 : u = 0
   ·have hu : (u == 0) = true:=by rw [h1]; rfl
    have hu' : decide (0 < u) = false:=by rw [decide_eq_false_iff_not]; omega
    have HF:=Lib.hid (less_fin2 sw u v s' q' b1 b2 hs hq (.inl h1))
    have h0 : u ≤ 0:=by omega
    have H1:=Lib.hid h1; clear h1
    by_cases h2 : v = 0
    ·have hv : (v == 0) = true:=by rw [h2]; rfl
     have h0' : v ≤ 0:=by omega
     have H2:=Lib.hid h2; clear h2
     cases sw
     all_goals
      go_wp2_with (first | (go_at_call 44; with_reducible refine (F1.out _).mono ?_; rintro e w' ⟨rfl,rfl⟩) | (go_at_call 44; with_reducible refine (F2.out _).mono ?_; rintro e w' ⟨rfl,rfl⟩))
      go_ret
      refine less_ret ?_ bw
      rw [← K'.out,HF.out]
      simp [H1.out,H2.out]
    ·have hv : (v == 0) = false:=by rw [beq_eq_false_iff_ne]; exact h2
     have h0' : 0 < v:=by omega
     have H2:=Lib.hid h2; clear h2
     cases sw
     all_goals
      go_wp2_with (first | (go_at_call 44; with_reducible refine (F1.out _).mono ?_; rintro e w' ⟨rfl,rfl⟩) | (go_at_call 44; with_reducible refine (F2.out _).mono ?_; rintro e w' ⟨rfl,rfl⟩))
      go_ret
      refine less_ret ?_ bw
      rw [← K'.out,HF.out]
      simp [H1.out,H2.out,h0']
   ·have hu : (u == 0) = false:=by rw [beq_eq_false_iff_ne]; exact h1
    have h0 : 0 < u:=by omega
    by_cases h2 : v = 0
    ·have hv : (v == 0) = true:=by rw [h2]; rfl
     have HF:=Lib.hid (less_fin2 sw u v s' q' b1 b2 hs hq (.inr h2))
     have h0' : v ≤ 0:=by omega
     have H1:=Lib.hid h1; clear h1
     have H2:=Lib.hid h2; clear h2
     cases sw
     all_goals
      go_wp2_with (first | (go_at_call 44; with_reducible refine (F1.out _).mono ?_; rintro e w' ⟨rfl,rfl⟩) | (go_at_call 44; with_reducible refine (F2.out _).mono ?_; rintro e w' ⟨rfl,rfl⟩))
      go_ret
      refine less_ret ?_ bw
      rw [← K'.out,HF.out]
      simp [H1.out,H2.out,h0]
    ·have hv : (v == 0) = false:=by rw [beq_eq_false_iff_ne]; exact h2
     have h0' : 0 < v:=by omega
     have H1:=Lib.hid h1; clear h1
     have H2:=Lib.hid h2; clear h2
     have HN : Hid (swp (!sw) q' u s' v ↔ p * s < r * q):=by
      refine Iff.trans ?_ K'.out
      cases sw
      ·simp only [swp_true,swp_false,Bool.not_false]; rw [Int.mul_comm s',Int.mul_comm q']
      ·simp only [swp_true,swp_false,Bool.not_true]; rw [Int.mul_comm s',Int.mul_comm q']
     go_wp2_with (first | (go_at_call 44; with_reducible refine (F1.out _).mono ?_; rintro e w' ⟨rfl,rfl⟩) | (go_at_call 44; with_reducible refine (F2.out _).mono ?_; rintro e w' ⟨rfl,rfl⟩))
     go_roundw
     case rel=>exact ⟨q',u,s',v,!sw,rfl,less_blocks bA bB (by omega) _ _ _ _,bw,HN,by omega,by omega,by omega,by omega,by omega,by omega,by omega,by omega⟩
     case measure =>
      have hb:=less_blocks bA bB (by omega) (.int .i64 q') (.int .i64 u) (.int .i64 s') (.int .i64 v)
      rw [hb.1.cell 1 rfl,hb.2.cell 1 rfl,x2,x4]; simp [intOf]; omega
  ·have hx1 : (m != n) = true:=by rw [bne_iff_ne]; exact hx
   have HS:=Lib.hid (less_stop1 sw m n hx)
   have Hx:=Lib.hid hx; clear hx
   have D3:=Lib.hid d3; clear d3
   have D6:=Lib.hid d6; clear d6
   go_wp2_with (first | (go_at_call 44; with_reducible refine (F1.out _).mono ?_; rintro e w' ⟨rfl,rfl⟩) | (go_at_call 44; with_reducible refine (F2.out _).mono ?_; rintro e w' ⟨rfl,rfl⟩))
   go_ret
   refine less_ret ?_ bw
   rw [← hi.out,K.out]
   have e:=HS.out
   simp only [bne] at e
   rw [e]
   simp [Hx.out]
end Go.Proofs.Ytkjceegmmhnajaa

namespace Go.Proofs.Ytkjceegmmhnajaa
open Go.RowKit LPX

def RBest (l : List Tn) (x : Vc) (B0 g : Nat) (rs : List (List Pt)) (yf : Value) (W : World) : Prop :=
 (bestF l rs = none ∧ yf = .bool false ∧ Bk W g 25 #[.slice none 0 0] ∧ Bk W (g + 1) 29 #[.int .i64 0, .int .i64 0]) ∨ ∃ f : Er,bestF l rs = some f.ps ∧ f.ps ∈ allR l x ∧ f.At B0 W ∧ yf = .bool true ∧ Bk W g 25 #[.slice f.A f.ps.length f.c] ∧ Bk W (g + 1) 29 #[.int .i64 (priL l f.ps).1, .int .i64 (priL l f.ps).2]
theorem RBest.below {l : List Tn} {x : Vc} {B0 g : Nat} {rs : List (List Pt)} {yf : Value} {W W' : World} (h : RBest l x B0 g rs yf W) (hb : Below W.heap.size W W') : RBest l x B0 g rs yf W':=by
 rcases h with ⟨h1,h2,h3,h4⟩ | ⟨f,h1,h2,h3,h4,h5,h6⟩
 ·exact .inl ⟨h1,h2,h3.below hb h3.lt,h4.below hb h4.lt⟩
 ·exact .inr ⟨f,h1,h2,h3.kp (KpC.of_below hb),h4,h5.below hb h5.lt,h6.below hb h6.lt⟩
end Go.Proofs.Ytkjceegmmhnajaa
