/- CheckCheapest of the reference. -/
import Derived.Test.YtkjceegmmhnajaaG54
import Derived.Test.YtkjceegmmhnajaaG59
import Derived.Test.YtkjceegmmhnajaaG61
import Derived.Test.YtkjceegmmhnajaaG62
import Derived.Test.YtkjceegmmhnajaaG84
import Derived.Test.YtkjceegmmhnajaaG95
import Derived.Test.YtkjceegmmhnajaaG96

set_option linter.unusedVariables false
set_option linter.unusedSimpArgs false

namespace Go.Proofs.Ytkjceegmmhnajaa
open Go.RowKit

theorem denB_iff {n : Int} : denB n = true ↔ 1 ≤ n ∧ n ≤ 1000000000000:=by unfold denB; rw [Bool.and_eq_true,decide_eq_true_iff,decide_eq_true_iff]
theorem belowB_at {d : Du} {l : List Tn} (h : ∀ j (hj : j < l.length),over d l[j] = false) : belowB d l = true:=by
 unfold belowB
 have : l.any (over d) = false:=by
  rw [List.any_eq_false]
  intro t ht
  obtain ⟨i,hi,rfl⟩:=List.mem_iff_getElem.1 ht
  rw [h i hi]; simp
 rw [this]; rfl
theorem belowB_off {d : Du} {l : List Tn} {j : Nat} (hj : j < l.length) (h : over d l[j] = true) : belowB d l = false:=by
 unfold belowB
 have : l.any (over d) = true:=List.any_eq_true.2 ⟨_,List.getElem_mem hj,h⟩
 rw [this]; rfl

set_option maxRecDepth 100000 in
set_option maxHeartbeats 4000000 in
theorem rcheckCheapest_any (l : List Tn) (ps : List Pt) (d : Du) (x y z : Int) (At A : Option Addr) (ct c : Nat) (w : World) (hlt : Lies w w.heap.size At (tintsC l)) (hl : Lies w w.heap.size A (partsC ps)) (hm : ps.length ≤ 1000) (hm2 : l.length ≤ 1000)
  (hs : ∀ t ∈ l,t.name.size ≤ 100) :
  Calls Try.prog 24 #[.slice At l.length ct, .agg #[.int .i64 x, .int .i64 y, .int .i64 z], .agg #[.slice A ps.length c],d.agg] w (CcEnd (ccB l x y z ps d) (chkW l x y z) w):=by
 have HW:=Lib.hid (fun W (hb : Below w.heap.size w W)=>rwanted_any l At ct x y z W ((hlt.below hb (Nat.le_refl _)).more hb.size) hm2 hs)
 have HR:=Lib.hid (fun W (hb : Below w.heap.size w W)=>validRecipe_any l.length ps At A ct c W ((hl.below hb (Nat.le_refl _)).more hb.size) hm hm2)
 have HC : Hid (ccB l x y z ps d = (decide (chkW l x y z = 0) && (recB l.length ps && (rgiveB l ps x y z && (dualB d && (belowB d l && sameF (lowest (atD d x y z) d.den) (lowest (wsum Tn.price l ps) (wall ps)))))))):=rfl
 obtain ⟨⟨n0,n1,n2,n3,den⟩,hd⟩ : ∃ d',d' = d:=⟨d,rfl⟩
 subst hd
 by_cases h0 : chkW l x y z = 0
 ·by_cases h1 : recB l.length ps = true
  ·have hr:=of_decide_eq_true h1
   have hoff : ∀ t ∈ l,offTint t = false:=by
    unfold chkW at h0
    split at h0
    ·rename_i hc; exact (chkT_ok hc).2.2.1
    ·rename_i hc; exact absurd h0 hc
   have hsh : shadeB x y z = true:=by
    unfold chkW at h0
    split at h0
    ·split at h0
     ·assumption
     ·cases h0
    ·rename_i hc; exact absurd h0 hc
   have hbw:=wall_bound ps l.length (goodP_of hr)
   have hn1:=hr.1.1
   have hn4:=hr.1.2
   have hpr : ∀ t ∈ l,0 ≤ t.price ∧ t.price ≤ 10000:=fun t ht=>price_in (hoff t ht)
   have hpb:=wsum_bound Tn.price l ps (goodP_of hr) hpr
   have HG:=Lib.hid (fun W (hb : Below w.heap.size w W)=>rgives_any l ps x y z At A ct c W ((hlt.below hb (Nat.le_refl _)).more hb.size) ((hl.below hb (Nat.le_refl _)).more hb.size) hr.1.2 hm2 (goodP_of hr) (fun j t ht=>sel_in' (hoff t ht) j) hpr (by omega) (shIn_of hsh))
   have HC2 : Hid (ccB l x y z ps ⟨n0,n1,n2,n3,den⟩ = (rgiveB l ps x y z && (dualB ⟨n0,n1,n2,n3,den⟩ && (belowB ⟨n0,n1,n2,n3,den⟩ l && sameF (lowest (atD ⟨n0,n1,n2,n3,den⟩ x y z) den) (lowest (wsum Tn.price l ps) (wall ps)))))):=by
    show _ = _
    rw [HC.out,h0,h1]; rfl
   rw [h0]
   by_cases h2 : rgiveB l ps x y z = true
   ·by_cases h3 : denB den = true
    ·have HC3 : Hid (ccB l x y z ps ⟨n0,n1,n2,n3,den⟩ = (dualB ⟨n0,n1,n2,n3,den⟩ && (belowB ⟨n0,n1,n2,n3,den⟩ l && sameF (lowest (atD ⟨n0,n1,n2,n3,den⟩ x y z) den) (lowest (wsum Tn.price l ps) (wall ps))))):=by
      show _ = _
      rw [HC2.out,h2]; rfl
     obtain ⟨N,hN⟩ : ∃ N : Nat → Int,N 0 = n0 ∧ N 1 = n1 ∧ N 2 = n2 ∧ N 3 = n3:=⟨fun k=>if k = 0 then n0 else if k = 1 then n1 else if k = 2 then n2 else n3,rfl,rfl,rfl,rfl⟩
     have HNN:=Lib.hid hN; clear hN
     have HLi : Hid (∀ W : World,Below w.heap.size w W → Lies W w.heap.size At (tintsC l)):=fun W hb=>hlt.below hb (Nat.le_refl _)
     have HSm:=Lib.hid (fun W (hb : Below w.heap.size w W)=>sums_any l ps At A ct c W ((hlt.below hb (Nat.le_refl _)).more hb.size) ((hl.below hb (Nat.le_refl _)).more hb.size) hr.1.2 hm2 (goodP_of hr) (fun j t ht=>sel_in' (hoff t ht) j) hpr)
     have HSh:=Lib.hid (shIn_of hsh)
     have HOf:=Lib.hid hoff
     have HFp : Hid (∀ W,Calls Try.prog 34 #[.int .i64 (wsum Tn.price l ps), .int .i64 (wall ps)] W (FracEnd (lowest (wsum Tn.price l ps) (wall ps)) W)):=fun W=>ratio_any _ _ W (by unfold bigP; omega) (by unfold bigP; omega) (by omega)
     have HFd : Hid (okDu ⟨n0,n1,n2,n3,den⟩ → ∀ W,Calls Try.prog 34 #[.int .i64 (atD ⟨n0,n1,n2,n3,den⟩ x y z), .int .i64 den] W (FracEnd (lowest (atD ⟨n0,n1,n2,n3,den⟩ x y z) den) W)):=fun ho W=>ratio_any _ _ W (by have:=atD_bound ho HSh.out; unfold bigP; omega) (by have:=ho.2.2.2.2; unfold bigP; dsimp only at this; omega) ho.2.2.2.2.1
     have H0:=Lib.hid h0
     have H1:=Lib.hid h1
     have H2:=Lib.hid h2
     have HD:=Lib.hid h3
     obtain ⟨d1,d2⟩:=denB_iff.1 h3
     have d1' : ¬ den < 1:=by omega
     have d2' : ¬ (1000000000000 : Int) < den:=by omega
     clear h0 h1 h2 h3 hr hoff hsh hbw hn1 hlt hl hs hpb hpr HC HC2
     generalize lowest (wsum Tn.price l ps) (wall ps) = gp at *
     generalize wsum Tn.price l ps = pw at *
     generalize wall ps = n at *
     generalize (fun j=>wsum (sel j) l ps) = S at *
     obtain ⟨gp1,gp2⟩:=gp
     go_enter Try.func24,Try.ntmps24
     go_wp2_with (first | (go_at_call 49; refine (HW.out _ bw).mono ?_; rintro e w1 ⟨rfl,hb1⟩; rw [H0.out]; have X1:=(Bx.new w).below hb1 (by simp); obtain ⟨⟨g0,g1,g2⟩,⟨x0,x1,x2⟩,r0,y0,y1,y2,y3,y4⟩:=X1.facts; have hB1 : Below w.heap.size w w1:=(Below.trans bw (hb1.mono (by first | omega | (simp; omega) | simp)))) | (go_at_call 32; refine (HR.out _ bw).mono ?_; rintro e w2 ⟨rfl,hb2⟩; rw [H1.out]; have X2:=X1.below hb2 X1.lt; obtain ⟨⟨g0,g1,g2⟩,⟨x0,x1,x2⟩,r0,y0,y1,y2,y3,y4⟩:=X2.facts; have hB2 : Below w.heap.size w w2:=(Below.trans bw (hb2.mono (by first | omega | (simp; omega) | simp)))) | (go_at_call 54; refine (HG.out _ bw).mono ?_; rintro e w3 ⟨rfl,hb3⟩; rw [H2.out]; have X3:=X2.below hb3 X2.lt; obtain ⟨⟨g0,g1,g2⟩,⟨x0,x1,x2⟩,r0,y0,y1,y2,y3,y4⟩:=X3.facts; have hB3 : Below w.heap.size w w3:=(Below.trans bw (hb3.mono (by first | omega | (simp; omega) | simp)))))
     go_loopw [13] (fun s wr=>∃ k : Nat,k ≤ 4 ∧ s = .int .i64 k ∧ Hid (∀ j,j < k → numB (N j) = true) ∧ Below w.heap.size w wr ∧ Bx wr w.heap.size x y z A ps.length c ⟨n0,n1,n2,n3,den⟩) (fun s _=>4 - (intOf s).toNat)
     case atStart=>exact ⟨0,by omega,rfl,fun j hj=>absurd hj (by omega),bw,X3⟩
     case round =>
      clear X1 X2 X3 hb1 hb2 hb3 hB1 hB2 hB3
      obtain ⟨k,hk,rfl,hg,hbw,hX⟩:=hrel
      obtain ⟨⟨g0,g1,g2⟩,⟨x0,x1,x2⟩,r0,y0,y1,y2,y3,y4⟩:=hX.facts
      by_cases hk4 : k < 4
      ·have ck : wr.cell? ⟨w.heap.size + 1 + 1,k,none⟩ = some (.int .i64 (N k)):=hX.2.2.cell k (by
        match k,hk4 with
        | 0,_=>rw [HNN.out.1]; rfl
        | 1,_=>rw [HNN.out.2.1]; rfl
        | 2,_=>rw [HNN.out.2.2.1]; rfl
        | 3,_=>rw [HNN.out.2.2.2]; rfl)
       have hlt' : (k : Int) < 4:=by omega
       have hkn : 0 ≤ (k : Int):=by omega
       by_cases hn : numB (N k) = true
       ·have H : Hid (∀ j,j < k + 1 → numB (N j) = true):=fun j hj=>by
         by_cases e : j = k
         ·subst e; exact hn
         ·exact hg.out j (by omega)
        obtain ⟨a1,a2⟩:=numB_iff.1 hn
        have a1' : ¬ N k < (-1000000000000000 : Int):=by omega
        have a2' : ¬ (1000000000000000 : Int) < N k:=by omega
        clear hn hg a1 a2
        go_wp2
        go_roundw
        case rel=>exact ⟨k + 1,by omega,by go_num,H,bw,hX⟩
        case measure=>simp [intOf]; omega
       ·have hn' : numB (N k) = false:=by simpa using hn
        have E : Hid (ccB l x y z ps ⟨n0,n1,n2,n3,den⟩ = false):=by
         show _ = _
         rw [HC3.out]
         unfold dualB
         dsimp only
         match k,hk4 with
         | 0,_=>rw [HNN.out.1] at hn'; rw [hn']; simp
         | 1,_=>rw [HNN.out.2.1] at hn'; rw [hn']; simp
         | 2,_=>rw [HNN.out.2.2.1] at hn'; rw [hn']; simp
         | 3,_=>rw [HNN.out.2.2.2] at hn'; rw [hn']; simp
        by_cases a1 : N k < (-1000000000000000 : Int)
        ·clear hn hn' hg
         go_wp2
         refine bodyPost_ret (v:=.tuple #[.bool false, .int .i64 0]) (by simp [results,Try.results24,go_sem]) rfl (cc_ret E.out.symm rfl bw)
        ·have a2 : (1000000000000000 : Int) < N k:=by
          rcases Int.lt_or_le 1000000000000000 (N k) with h | h
          ·exact h
          ·exact absurd (numB_iff.2 ⟨by omega,h⟩) hn
         clear hn hn' hg
         go_wp2
         refine bodyPost_ret (v:=.tuple #[.bool false, .int .i64 0]) (by simp [results,Try.results24,go_sem]) rfl (cc_ret E.out.symm rfl bw)
      ·obtain rfl : k = 4:=by omega
       have hnn:=HNN.out
       have hd4 : dualB ⟨n0,n1,n2,n3,den⟩ = true:=by
        unfold dualB
        dsimp only
        rw [HD.out,← hnn.1,← hnn.2.1,← hnn.2.2.1,← hnn.2.2.2,hg.out 0 (by omega),hg.out 1 (by omega),hg.out 2 (by omega),hg.out 3 (by omega)]; rfl
       have hok:=dualB_ok hd4
       have HFd':=Lib.hid (HFd.out hok)
       have HC4 : Hid (ccB l x y z ps ⟨n0,n1,n2,n3,den⟩ = (belowB ⟨n0,n1,n2,n3,den⟩ l && sameF (lowest (atD ⟨n0,n1,n2,n3,den⟩ x y z) den) (gp1,gp2))):=by
        show _ = _
        rw [HC3.out,hd4]; rfl
       have HOk:=Lib.hid hok
       have hob:=hok
       obtain ⟨o0,o1,o2,o3,o4,o5⟩:=hob
       dsimp only at o0 o1 o2 o3 o4 o5
       unfold numOk at o0
       clear hnn hd4 hok hg HNN HFd HC3 HD
       obtain ⟨wv,hwv⟩ : ∃ wv,wv = wr:=⟨_,rfl⟩
       subst hwv
       go_wp2
       go_loopw [15] (fun s wr=>∃ k : Nat,k ≤ l.length ∧ s = .int .i64 k ∧ Hid (∀ j (hj : j < k) (h' : j < l.length),over ⟨n0,n1,n2,n3,den⟩ l[j] = false) ∧ Below w.heap.size w wr ∧ (Bx wr w.heap.size x y z A ps.length c ⟨n0,n1,n2,n3,den⟩ ∧ Bk wr wv.heap.size 37 #[.int .i64 n1, .int .i64 n2, .int .i64 n3])) (fun s _=>l.length - (intOf s).toNat)
       case atStart=>exact ⟨0,by omega,rfl,fun j hj=>absurd hj (by omega),bw,hX.alloc _,Bk.new _ _ _⟩
       case round =>
        obtain ⟨k,hk,rfl,hg,hbw2,hX2,hV⟩:=hrel
        clear g0 g1 g2 x0 x1 x2 r0 y0 y1 y2 y3 y4
        obtain ⟨⟨g0,g1,g2⟩,⟨x0,x1,x2⟩,r0,y0,y1,y2,y3,y4⟩:=hX2.facts
        have lv:=hV.lt
        have v0:=hV.cell 0 rfl
        have v1:=hV.cell 1 rfl
        have v2:=hV.cell 2 rfl
        by_cases hlk : k < l.length
        ·obtain ⟨ad,rfl,hab,c0,c1,c2,c3,c4⟩:=tint_at (HLi.out wr hbw2) hlk
         have hab' : (ad.add (k * 5)).block < wr.heap.size:=by rw [add_block]; have:=hbw2.size; omega
         obtain ⟨_,t1,t2,t3,t4⟩:=offTint_no (HOf.out _ (List.getElem_mem hlk))
         have hkI : (k : Int) < (l.length : Int):=by omega
         have hkN : 0 ≤ (k : Int):=by omega
         have hOv : over ⟨n0,n1,n2,n3,den⟩ l[k] = decide (den * l[k].price < n0 + (n1 * l[k].a + n2 * l[k].b + n3 * l[k].c)):=rfl
         have HgS : Hid (over ⟨n0,n1,n2,n3,den⟩ l[k] = false → ∀ j (hj : j < k + 1) (h' : j < l.length),over ⟨n0,n1,n2,n3,den⟩ l[j] = false):=fun h j hj h'=>by
          by_cases e : j = k
          ·subst e; exact h
          ·exact hg.out j (by omega) h'
         have HgF : Hid (over ⟨n0,n1,n2,n3,den⟩ l[k] = true → ccB l x y z ps ⟨n0,n1,n2,n3,den⟩ = false):=fun h=>by
          rw [HC4.out,belowB_off hlk h]; rfl
         clear hg
         generalize over ⟨n0,n1,n2,n3,den⟩ l[k] = ov at *
         generalize l[k].name = nm at *
         generalize l[k].a = ta at *
         generalize l[k].b = tb at *
         generalize l[k].c = tc at *
         generalize l[k].price = tp at *
         have m1:=num_mul o1 t1
         have m2:=num_mul o2 t2
         have m3:=num_mul o3 t3
         have mp:=mul_bound den tp o4 o5 t4.1 t4.2
         have HDot:=Lib.hid (fun W=>dot_any n1 n2 n3 ta tb tc W (by unfold bigP; omega) (by unfold bigP; omega) (by unfold bigP; omega))
         obtain ⟨v,hv⟩ : ∃ v,v = n1 * ta + n2 * tb + n3 * tc:=⟨_,rfl⟩
         have hvb : -3000000000000000000 ≤ v ∧ v ≤ 3000000000000000000:=by omega
         rw [← hv] at HDot hOv
         have W1 : Hid (IntKind.i64.wrap (n0 + v) = n0 + v):=IntWalk.i64_in _ (by omega)
         have W2 : Hid (IntKind.i64.wrap (den * tp) = den * tp):=IntWalk.i64_in _ (by omega)
         have HK : Hid (∀ W,Below wr.heap.size wr W → W.cell? ⟨w.heap.size + 1 + 1,0,none⟩ = some (.int .i64 n0) ∧ W.cell? ⟨w.heap.size + 1 + 1,4,none⟩ = some (.int .i64 den) ∧ W.cell? ⟨wv.heap.size,0,none⟩ = some (.int .i64 n1) ∧ W.cell? ⟨wv.heap.size,1,none⟩ = some (.int .i64 n2) ∧ W.cell? ⟨wv.heap.size,2,none⟩ = some (.int .i64 n3) ∧ W.cell? ⟨(ad.add (k * 5)).block,(ad.add (k * 5)).off + 1,none⟩ = some (.int .i64 ta) ∧ W.cell? ⟨(ad.add (k * 5)).block,(ad.add (k * 5)).off + 2,none⟩ = some (.int .i64 tb) ∧ W.cell? ⟨(ad.add (k * 5)).block,(ad.add (k * 5)).off + 3,none⟩ = some (.int .i64 tc) ∧ W.cell? ⟨(ad.add (k * 5)).block,(ad.add (k * 5)).off + 4,none⟩ = some (.int .i64 tp)):=fun W hW =>
          ⟨(hW.cell g2).trans y0,(hW.cell g2).trans y4,(hW.cell lv).trans v0,(hW.cell lv).trans v1,(hW.cell lv).trans v2,(hW.cell (p:=⟨(ad.add (k * 5)).block,(ad.add (k * 5)).off + 1,none⟩) hab').trans c1,(hW.cell (p:=⟨(ad.add (k * 5)).block,(ad.add (k * 5)).off + 2,none⟩) hab').trans c2,(hW.cell (p:=⟨(ad.add (k * 5)).block,(ad.add (k * 5)).off + 3,none⟩) hab').trans c3,(hW.cell (p:=⟨(ad.add (k * 5)).block,(ad.add (k * 5)).off + 4,none⟩) hab').trans c4⟩
         have HX5 : Hid (∀ W,Below wr.heap.size wr W → Bx W w.heap.size x y z A ps.length c ⟨n0,n1,n2,n3,den⟩ ∧ Bk W wv.heap.size 37 #[.int .i64 n1, .int .i64 n2, .int .i64 n3]):=fun W hW=>⟨hX2.below hW hX2.lt,hV.below hW lv⟩
         clear hX2 hV m1 m2 m3 mp hv t1 t2 t3 t4 hX
         by_cases hov : den * tp < n0 + v
         ·have E:=Lib.hid (HgF.out (by rw [hOv,decide_eq_true hov]))
          clear HgF HgS hOv
          go_wp2
          go_region_held3 (fun w'=>w'.cell? ⟨w.heap.size + 1 + 1,0,none⟩ = some (.int .i64 n0) ∧ w'.cell? ⟨w.heap.size + 1 + 1,4,none⟩ = some (.int .i64 den) ∧ w'.cell? ⟨wv.heap.size,0,none⟩ = some (.int .i64 n1) ∧ w'.cell? ⟨wv.heap.size,1,none⟩ = some (.int .i64 n2) ∧ w'.cell? ⟨wv.heap.size,2,none⟩ = some (.int .i64 n3) ∧ w'.cell? ⟨(ad.add (k * 5)).block,(ad.add (k * 5)).off + 1,none⟩ = some (.int .i64 ta) ∧ w'.cell? ⟨(ad.add (k * 5)).block,(ad.add (k * 5)).off + 2,none⟩ = some (.int .i64 tb) ∧ w'.cell? ⟨(ad.add (k * 5)).block,(ad.add (k * 5)).off + 3,none⟩ = some (.int .i64 tc) ∧ w'.cell? ⟨(ad.add (k * 5)).block,(ad.add (k * 5)).off + 4,none⟩ = some (.int .i64 tp))
           (first | go_keep | (refine ⟨?_,?_,?_,?_,?_,?_,?_,?_,?_⟩ <;> first | assumption | go_keep))
           (first | (go_at_call 50; refine (HDot.out _).mono ?_; rintro e w3 ⟨rfl,hb3⟩; have hR3 : Below wr.heap.size wr w3:=(Below.trans bw (hb3.mono (by first | omega | (simp; omega) | simp))); obtain ⟨q0,q1,q2,q3,q4,q5,q6,q7,q8⟩:=HK.out w3 hR3))
          all_goals
           have hB3 : Below w.heap.size w w3:=hbw2.trans (hR3.mono hbw2.size)
           rw [W1.out,W2.out]
           go_wp2
           refine bodyPost_ret (v:=.tuple #[.bool false, .int .i64 0]) (by simp [results,Try.results24,go_sem]) rfl (cc_ret E.out.symm rfl bw)
         ·have H:=Lib.hid (HgS.out (by rw [hOv,decide_eq_false hov]))
          clear HgF HgS hOv
          go_wp2
          go_region_held3 (fun w'=>w'.cell? ⟨w.heap.size + 1 + 1,0,none⟩ = some (.int .i64 n0) ∧ w'.cell? ⟨w.heap.size + 1 + 1,4,none⟩ = some (.int .i64 den) ∧ w'.cell? ⟨wv.heap.size,0,none⟩ = some (.int .i64 n1) ∧ w'.cell? ⟨wv.heap.size,1,none⟩ = some (.int .i64 n2) ∧ w'.cell? ⟨wv.heap.size,2,none⟩ = some (.int .i64 n3) ∧ w'.cell? ⟨(ad.add (k * 5)).block,(ad.add (k * 5)).off + 1,none⟩ = some (.int .i64 ta) ∧ w'.cell? ⟨(ad.add (k * 5)).block,(ad.add (k * 5)).off + 2,none⟩ = some (.int .i64 tb) ∧ w'.cell? ⟨(ad.add (k * 5)).block,(ad.add (k * 5)).off + 3,none⟩ = some (.int .i64 tc) ∧ w'.cell? ⟨(ad.add (k * 5)).block,(ad.add (k * 5)).off + 4,none⟩ = some (.int .i64 tp))
           (first | go_keep | (refine ⟨?_,?_,?_,?_,?_,?_,?_,?_,?_⟩ <;> first | assumption | go_keep))
           (first | (go_at_call 50; refine (HDot.out _).mono ?_; rintro e w3 ⟨rfl,hb3⟩; have hR3 : Below wr.heap.size wr w3:=(Below.trans bw (hb3.mono (by first | omega | (simp; omega) | simp))); obtain ⟨q0,q1,q2,q3,q4,q5,q6,q7,q8⟩:=HK.out w3 hR3))
          all_goals
           have hB3 : Below w.heap.size w w3:=hbw2.trans (hR3.mono hbw2.size)
           rw [W1.out,W2.out]
           go_wp2
           go_roundw
          case rel=>exact ⟨k + 1,by omega,by go_num,H,bw,HX5.out w3 hR3⟩
          case measure=>simp [intOf]; omega
        ·obtain rfl : k = l.length:=by omega
         have hbel : belowB ⟨n0,n1,n2,n3,den⟩ l = true:=belowB_at (fun j hj=>hg.out j hj hj)
         have E : Hid (ccB l x y z ps ⟨n0,n1,n2,n3,den⟩ = sameF (lowest (atD ⟨n0,n1,n2,n3,den⟩ x y z) den) (gp1,gp2)):=by show _ = _; rw [HC4.out,hbel]; rfl
         have hsh:=HSh.out
         have m1:=num_mul o1 hsh.1
         have m2:=num_mul o2 hsh.2.1
         have m3:=num_mul o3 hsh.2.2
         have HDot:=Lib.hid (fun W=>dot_any n1 n2 n3 x y z W (by unfold bigP; omega) (by unfold bigP; omega) (by unfold bigP; omega))
         have hAt : atD ⟨n0,n1,n2,n3,den⟩ x y z = n0 + (n1 * x + n2 * y + n3 * z):=rfl
         obtain ⟨v,hv⟩ : ∃ v,v = n1 * x + n2 * y + n3 * z:=⟨_,rfl⟩
         have hvb : -3000000000000000000 ≤ v ∧ v ≤ 3000000000000000000:=by omega
         rw [← hv] at HDot hAt
         have W1 : Hid (IntKind.i64.wrap (n0 + v) = atD ⟨n0,n1,n2,n3,den⟩ x y z):=by show _ = _; rw [hAt]; exact IntWalk.i64_in _ (by omega)
         clear hg hbel hsh m1 m2 m3 hAt hv HC4 hX HOk HOf HSh HLi
         generalize atD ⟨n0,n1,n2,n3,den⟩ x y z = av at *
         generalize lowest av den = ga at *
         obtain ⟨ga1,ga2⟩:=ga
         have E29:=fun w=>eq29 9998 ga1 ga2 gp1 gp2 w
         go_wp2_with (go_at_call 33; refine (HSm.out _ bw).mono ?_; rintro e w4 ⟨rfl,hb4⟩; have hB4 : Below w.heap.size w w4:=(Below.trans bw (hb4.mono (by first | omega | (simp; omega) | simp))); have X4:=hX2.below hb4 hX2.lt; have V4:=hV.below hb4 lv)
         have X5:=X4.alloc (.cells #[.int .i64 (S 0), .int .i64 (S 1), .int .i64 (S 2)] 37)
         have V5:=V4.alloc (.cells #[.int .i64 (S 0), .int .i64 (S 1), .int .i64 (S 2)] 37)
         have hB5 : Below w.heap.size w (w4.alloc (.cells #[.int .i64 (S 0), .int .i64 (S 1), .int .i64 (S 2)] 37)):=hB4.alloc hB4.size _
         clear x0 x1 x2 r0 y0 y1 y2 y3 y4 v0 v1 v2 hX2 hV X4 V4
         generalize w4.alloc (.cells #[.int .i64 (S 0), .int .i64 (S 1), .int .i64 (S 2)] 37) = w5 at *
         obtain ⟨⟨g0,g1,g2⟩,⟨x0,x1,x2⟩,r0,y0,y1,y2,y3,y4⟩:=X5.facts
         have lv:=V5.lt
         have v0:=V5.cell 0 rfl
         have v1:=V5.cell 1 rfl
         have v2:=V5.cell 2 rfl
         have HK : Hid (∀ W,Below w5.heap.size w5 W → W.cell? ⟨w.heap.size + 1 + 1,0,none⟩ = some (.int .i64 n0) ∧ W.cell? ⟨w.heap.size + 1 + 1,4,none⟩ = some (.int .i64 den) ∧ W.cell? ⟨wv.heap.size,0,none⟩ = some (.int .i64 n1) ∧ W.cell? ⟨wv.heap.size,1,none⟩ = some (.int .i64 n2) ∧ W.cell? ⟨wv.heap.size,2,none⟩ = some (.int .i64 n3) ∧ W.cell? ⟨w.heap.size,0,none⟩ = some (.int .i64 x) ∧ W.cell? ⟨w.heap.size,1,none⟩ = some (.int .i64 y) ∧ W.cell? ⟨w.heap.size,2,none⟩ = some (.int .i64 z)):=fun W hW =>
          ⟨(hW.cell g2).trans y0,(hW.cell g2).trans y4,(hW.cell lv).trans v0,(hW.cell lv).trans v1,(hW.cell lv).trans v2,(hW.cell g0).trans x0,(hW.cell g0).trans x1,(hW.cell g0).trans x2⟩
         go_region_held3 (fun w'=>w'.cell? ⟨w.heap.size + 1 + 1,0,none⟩ = some (.int .i64 n0) ∧ w'.cell? ⟨w.heap.size + 1 + 1,4,none⟩ = some (.int .i64 den) ∧ w'.cell? ⟨wv.heap.size,0,none⟩ = some (.int .i64 n1) ∧ w'.cell? ⟨wv.heap.size,1,none⟩ = some (.int .i64 n2) ∧ w'.cell? ⟨wv.heap.size,2,none⟩ = some (.int .i64 n3) ∧ w'.cell? ⟨w.heap.size,0,none⟩ = some (.int .i64 x) ∧ w'.cell? ⟨w.heap.size,1,none⟩ = some (.int .i64 y) ∧ w'.cell? ⟨w.heap.size,2,none⟩ = some (.int .i64 z))
          (first | go_keep | (refine ⟨?_,?_,?_,?_,?_,?_,?_,?_⟩ <;> first | assumption | go_keep))
          (first | (go_at_call 50; refine (HDot.out _).mono ?_; rintro e w6 ⟨rfl,hb6⟩; have hR6 : Below w5.heap.size w5 w6:=(Below.trans bw (hb6.mono (by first | omega | (simp; omega) | simp))); have hz6:=hR6.size; obtain ⟨q0,q1,q2,q3,q4,q5,q6,q7⟩:=HK.out w6 hR6) | (go_at_call 34; rw [W1.out]; refine (HFd'.out _).mono ?_; rintro e w7 ⟨rfl,hb7⟩; have hR7 : Below w5.heap.size w5 w7:=(Below.trans bw (hb7.mono (by first | omega | (simp; omega) | simp))); have hz7:=hR7.size; obtain ⟨q0,q1,q2,q3,q4,q5,q6,q7⟩:=HK.out w7 hR7) | (go_at_call 34; refine (HFp.out _).mono ?_; rintro e w8 ⟨rfl,hb8⟩; have hR8 : Below w5.heap.size w5 w8:=(Below.trans bw (hb8.mono (by first | omega | (simp; omega) | simp))); have hz8:=hR8.size; obtain ⟨q0,q1,q2,q3,q4,q5,q6,q7⟩:=HK.out w8 hR8))
         all_goals
          have hB8 : Below w.heap.size w w8:=hB5.trans (hR8.mono hB5.size)
          go_wp2
          refine bodyPost_ret (v:=.tuple #[.bool (ga1 == gp1 && ga2 == gp2), .int .i64 0]) (by simp [results,Try.results24,go_sem]) rfl (cc_ret E.out.symm rfl bw)
    ·have h3' : denB den = false:=by simpa using h3
     have E : Hid (ccB l x y z ps ⟨n0,n1,n2,n3,den⟩ = false):=by show _ = _; rw [HC2.out,h2]; unfold dualB; dsimp only; rw [h3']; rfl
     have hdd : den < 1 ∨ (1000000000000 : Int) < den:=by
      rcases Int.lt_or_le den 1 with h | h
      ·exact .inl h
      ·rcases Int.lt_or_le 1000000000000 den with h' | h'
       ·exact .inr h'
       ·exact absurd (denB_iff.2 ⟨h,h'⟩) h3
     have H0:=Lib.hid h0
     have H1:=Lib.hid h1
     have H2:=Lib.hid h2
     clear h0 h1 h2 h3 h3' hr hoff hsh hbw hn1 hlt hl hs hpb hpr HC HC2
     by_cases d1 : den < 1
     ·clear hdd
      go_enter Try.func24,Try.ntmps24
      go_wp2_with (first | (go_at_call 49; refine (HW.out _ bw).mono ?_; rintro e w1 ⟨rfl,hb1⟩; rw [H0.out]; have X1:=(Bx.new w).below hb1 (by simp); obtain ⟨⟨g0,g1,g2⟩,⟨x0,x1,x2⟩,r0,y0,y1,y2,y3,y4⟩:=X1.facts; have hB1 : Below w.heap.size w w1:=(Below.trans bw (hb1.mono (by first | omega | (simp; omega) | simp)))) | (go_at_call 32; refine (HR.out _ bw).mono ?_; rintro e w2 ⟨rfl,hb2⟩; rw [H1.out]; have X2:=X1.below hb2 X1.lt; obtain ⟨⟨g0,g1,g2⟩,⟨x0,x1,x2⟩,r0,y0,y1,y2,y3,y4⟩:=X2.facts; have hB2 : Below w.heap.size w w2:=(Below.trans bw (hb2.mono (by first | omega | (simp; omega) | simp)))) | (go_at_call 54; refine (HG.out _ bw).mono ?_; rintro e w3 ⟨rfl,hb3⟩; rw [H2.out]; have X3:=X2.below hb3 X2.lt; obtain ⟨⟨g0,g1,g2⟩,⟨x0,x1,x2⟩,r0,y0,y1,y2,y3,y4⟩:=X3.facts; have hB3 : Below w.heap.size w w3:=(Below.trans bw (hb3.mono (by first | omega | (simp; omega) | simp)))))
      refine bodyPost_ret (v:=.tuple #[.bool false, .int .i64 0]) (by simp [results,Try.results24,go_sem]) rfl (cc_ret E.out.symm rfl bw)
     ·have d2 : (1000000000000 : Int) < den:=hdd.resolve_left d1
      clear hdd
      go_enter Try.func24,Try.ntmps24
      go_wp2_with (first | (go_at_call 49; refine (HW.out _ bw).mono ?_; rintro e w1 ⟨rfl,hb1⟩; rw [H0.out]; have X1:=(Bx.new w).below hb1 (by simp); obtain ⟨⟨g0,g1,g2⟩,⟨x0,x1,x2⟩,r0,y0,y1,y2,y3,y4⟩:=X1.facts; have hB1 : Below w.heap.size w w1:=(Below.trans bw (hb1.mono (by first | omega | (simp; omega) | simp)))) | (go_at_call 32; refine (HR.out _ bw).mono ?_; rintro e w2 ⟨rfl,hb2⟩; rw [H1.out]; have X2:=X1.below hb2 X1.lt; obtain ⟨⟨g0,g1,g2⟩,⟨x0,x1,x2⟩,r0,y0,y1,y2,y3,y4⟩:=X2.facts; have hB2 : Below w.heap.size w w2:=(Below.trans bw (hb2.mono (by first | omega | (simp; omega) | simp)))) | (go_at_call 54; refine (HG.out _ bw).mono ?_; rintro e w3 ⟨rfl,hb3⟩; rw [H2.out]; have X3:=X2.below hb3 X2.lt; obtain ⟨⟨g0,g1,g2⟩,⟨x0,x1,x2⟩,r0,y0,y1,y2,y3,y4⟩:=X3.facts; have hB3 : Below w.heap.size w w3:=(Below.trans bw (hb3.mono (by first | omega | (simp; omega) | simp)))))
      refine bodyPost_ret (v:=.tuple #[.bool false, .int .i64 0]) (by simp [results,Try.results24,go_sem]) rfl (cc_ret E.out.symm rfl bw)
   ·have h2' : rgiveB l ps x y z = false:=by simpa using h2
    have E : Hid (ccB l x y z ps ⟨n0,n1,n2,n3,den⟩ = false):=by show _ = _; rw [HC2.out,h2']; rfl
    have H0:=Lib.hid h0
    have H1:=Lib.hid h1
    have H2:=Lib.hid h2'
    clear h0 h1 h2 h2' hr hoff hsh hbw hn1 hlt hl hs hpb hpr HC HC2
    go_enter Try.func24,Try.ntmps24
    go_wp2_with (first | (go_at_call 49; refine (HW.out _ bw).mono ?_; rintro e w1 ⟨rfl,hb1⟩; rw [H0.out]; have X1:=(Bx.new w).below hb1 (by simp); obtain ⟨⟨g0,g1,g2⟩,⟨x0,x1,x2⟩,r0,y0,y1,y2,y3,y4⟩:=X1.facts; have hB1 : Below w.heap.size w w1:=(Below.trans bw (hb1.mono (by first | omega | (simp; omega) | simp)))) | (go_at_call 32; refine (HR.out _ bw).mono ?_; rintro e w2 ⟨rfl,hb2⟩; rw [H1.out]; have X2:=X1.below hb2 X1.lt; obtain ⟨⟨g0,g1,g2⟩,⟨x0,x1,x2⟩,r0,y0,y1,y2,y3,y4⟩:=X2.facts; have hB2 : Below w.heap.size w w2:=(Below.trans bw (hb2.mono (by first | omega | (simp; omega) | simp)))) | (go_at_call 54; refine (HG.out _ bw).mono ?_; rintro e w3 ⟨rfl,hb3⟩; rw [H2.out]; have X3:=X2.below hb3 X2.lt; obtain ⟨⟨g0,g1,g2⟩,⟨x0,x1,x2⟩,r0,y0,y1,y2,y3,y4⟩:=X3.facts; have hB3 : Below w.heap.size w w3:=(Below.trans bw (hb3.mono (by first | omega | (simp; omega) | simp)))))
    refine bodyPost_ret (v:=.tuple #[.bool false, .int .i64 0]) (by simp [results,Try.results24,go_sem]) rfl (cc_ret E.out.symm rfl bw)
  ·have h1' : recB l.length ps = false:=by simpa using h1
   have E : Hid (ccB l x y z ps ⟨n0,n1,n2,n3,den⟩ = false):=by show _ = _; rw [HC.out,h1']; simp
   have H0:=Lib.hid h0
   have H1:=Lib.hid h1'
   rw [h0]
   clear h0 h1 h1' hlt hl hs HC
   go_enter Try.func24,Try.ntmps24
   go_wp2_with (first | (go_at_call 49; refine (HW.out _ bw).mono ?_; rintro e w1 ⟨rfl,hb1⟩; rw [H0.out]; have X1:=(Bx.new w).below hb1 (by simp); obtain ⟨⟨g0,g1,g2⟩,⟨x0,x1,x2⟩,r0,y0,y1,y2,y3,y4⟩:=X1.facts; have hB1 : Below w.heap.size w w1:=(Below.trans bw (hb1.mono (by first | omega | (simp; omega) | simp)))) | (go_at_call 32; refine (HR.out _ bw).mono ?_; rintro e w2 ⟨rfl,hb2⟩; rw [H1.out]; have X2:=X1.below hb2 X1.lt; obtain ⟨⟨g0,g1,g2⟩,⟨x0,x1,x2⟩,r0,y0,y1,y2,y3,y4⟩:=X2.facts; have hB2 : Below w.heap.size w w2:=(Below.trans bw (hb2.mono (by first | omega | (simp; omega) | simp)))))
   refine bodyPost_ret (v:=.tuple #[.bool false, .int .i64 0]) (by simp [results,Try.results24,go_sem]) rfl (cc_ret E.out.symm rfl bw)
 ·have E : Hid (ccB l x y z ps ⟨n0,n1,n2,n3,den⟩ = false):=by show _ = _; rw [HC.out,decide_eq_false h0]; rfl
  generalize chkW l x y z = q at *
  have hq1 : (q != 0) = true:=by rw [bne_iff_ne]; exact h0
  clear h0 hlt hl hs HC
  go_enter Try.func24,Try.ntmps24
  go_wp2_with (go_at_call 49; refine (HW.out _ bw).mono ?_; rintro e w1 ⟨rfl,hb1⟩)
  refine bodyPost_ret (v:=.tuple #[.bool false, .int .i64 q]) (by simp [results,Try.results24,go_sem]) rfl (cc_ret E.out.symm rfl (Below.trans bw (hb1.mono (by first | omega | (simp; omega) | simp))))
end Go.Proofs.Ytkjceegmmhnajaa

namespace Go.Proofs.Ytkjceegmmhnajaa
open Go.RowKit LPX

theorem cells42' : Try.prog.cellsOf 42 = 4:=by kernel_rfl
set_option maxRecDepth 100000 in
theorem eq44 (a b c d f x y z u v : Int) (w : World) : (Op.equalIn 10000 44 (.agg #[.int .i64 a, .int .i64 b, .int .i64 c, .int .i64 d, .int .i64 f]) (.agg #[.int .i64 x, .int .i64 y, .int .i64 z, .int .i64 u, .int .i64 v])).run Try.prog w = .ok ((a == x && (b == y && (c == z && d == u))) && f == v) w:=by
 rw [run_equalIn_agg w 9999 44 _ _ (by kernel_rfl) (by kernel_rfl)]
 have e0 : ∀ (a b c d x y z u : Int) w,(Op.equalIn 9999 42 (.agg #[.int .i64 a, .int .i64 b, .int .i64 c, .int .i64 d]) (.agg #[.int .i64 x, .int .i64 y, .int .i64 z, .int .i64 u])).run Try.prog w = .ok (a == x && (b == y && (c == z && d == u))) w:=fun a b c d x y z u w=>by
  obtain ⟨i0,hi0,hz0,hz1,hz2⟩:=info_parts info3
  rw [run_equalIn_array w 9998 _ _ Try.underlying42 hi0,cells3]
  simp [Op.eqItems,part,List.range_succ,go_sem,Try.underlying3]
  by_cases h1 : a = x <;> by_cases h2 : b = y <;> by_cases h3 : c = z <;> by_cases h4 : d = u <;> simp [h1,h2,h3,h4]
 simp [go_sem,Program.fieldsOf,Try.underlying44,Op.eqFields,part,Try.underlying3,cells42',e0]
 by_cases g1 : a = x <;> by_cases g2 : b = y <;> by_cases g3 : c = z <;> by_cases g4 : d = u <;> by_cases g5 : f = v <;> simp [g1,g2,g3,g4,g5]

theorem dualB_of {d : Du} (h : okDu d) : dualB d = true:=by
 obtain ⟨h0,h1,h2,h3,h4,h5⟩:=h
 unfold dualB
 rw [denB_iff.2 ⟨h4,h5⟩,numB_iff.2 h0,numB_iff.2 h1,numB_iff.2 h2,numB_iff.2 h3]
 rfl
theorem cheapest_cc {l : List Tn} {x y z : Int} {ps : List Pt} {d : Du} (h0 : chkW l x y z = 0) (hp : ps ∈ allR l ⟨x,y,z⟩) (hd : okDu d) (hb : belowB d l = true) (hs : sameF (lowest (atD d x y z) d.den) (priL l ps) = true) : ccB l x y z ps d = true:=by
 obtain ⟨_,hoff,hsh⟩:=chkW_ok h0
 obtain ⟨L,ws,hR⟩:=allR_ok (x:=⟨x,y,z⟩) hoff (show shadeV ⟨x,y,z⟩ from hsh) hp
 unfold ccB
 rw [h0,hR.gives,dualB_of hd,hb,show recB l.length ps = true from decide_eq_true hR.ok]
 simpa [priL] using hs
theorem che_two {l : List Tn} {x y z : Int} : (∃ n : Int,n ≠ 0 ∧ ∀ (w : World) (e : Ending) (w' : World),(CheE l x y z w e w' → e = .returned (.tuple #[.agg #[.slice none 0 0], .agg #[.int .i64 0, .int .i64 0, .int .i64 0, .int .i64 0, .int .i64 0], .int .i64 n]) ∧ Below w.heap.size w w') ∧ (RCheE l x y z w e w' → e = .returned (.tuple #[.agg #[.slice none 0 0], .int .i64 n]) ∧ Below w.heap.size w w'))
  ∨ (chkW l x y z = 0 ∧ ∃ ps,bestF l (allR l ⟨x,y,z⟩) = some ps ∧ ps ∈ allR l ⟨x,y,z⟩ ∧ ps.length ≤ 4 ∧ ∀ (w : World) (e : Ending) (w' : World),(CheE l x y z w e w' → ∃ (A : Option Addr) (c : Nat) (d : Du),e = .returned (.tuple #[.agg #[.slice A ps.length c],d.agg, .int .i64 0]) ∧ ccB l x y z ps d = true ∧ Lies w' w'.heap.size A (partsC ps) ∧ Below w.heap.size w w') ∧ (RCheE l x y z w e w' → ∃ (A : Option Addr) (c : Nat),e = .returned (.tuple #[.agg #[.slice A ps.length c], .int .i64 0]) ∧ Lies w' w'.heap.size A (partsC ps) ∧ Below w.heap.size w w')):=by
 by_cases h0 : chkW l x y z = 0
 ·obtain ⟨_,hoff,hsh⟩:=chkW_ok h0
  cases hb : bestF l (allR l ⟨x,y,z⟩) with
  | none =>
   have hr:=bestF_nil _ hb
   refine .inl ⟨61,by decide,fun w e w'=>⟨?_,?_⟩⟩
   ·rintro ⟨hb1,(⟨h1,_⟩ | ⟨_,_,rfl⟩ | ⟨_,r,d,h1,_⟩)⟩
    ·exact absurd h0 h1
    ·exact ⟨rfl,hb1⟩
    ·rw [hb] at h1; cases h1
   ·rintro ⟨hb1,(⟨h1,_⟩ | ⟨_,_,rfl⟩ | ⟨_,r,h1,_⟩)⟩
    ·exact absurd h0 h1
    ·exact ⟨rfl,hb1⟩
    ·rw [hb] at h1; cases h1
  | some ps =>
   have hm : ps ∈ allR l ⟨x,y,z⟩:=((bestF_ok _ (fun r hr=>by
    obtain ⟨L,ws,hR⟩:=allR_ok (x:=⟨x,y,z⟩) hoff (show shadeV ⟨x,y,z⟩ from hsh) hr
    exact hR.pos.2)).2 ps hb).1
   refine .inr ⟨h0,ps,rfl,hm,(rcpK (x:=⟨x,y,z⟩) hoff (show shadeV ⟨x,y,z⟩ from hsh) hm).len.2,fun w e w'=>⟨?_,?_⟩⟩
   ·rintro ⟨hb1,(⟨h1,_⟩ | ⟨_,h1,_⟩ | ⟨_,r,d,h1,h2,h3,h4,h5,rfl,h6⟩)⟩
    ·exact absurd h0 h1
    ·rw [h1] at hm; cases hm
    ·rw [hb] at h1
     cases h1
     exact ⟨r.A,r.c,d,rfl,cheapest_cc h0 h2 h3 h4 h5,h6.1,hb1⟩
   ·rintro ⟨hb1,(⟨h1,_⟩ | ⟨_,h1,_⟩ | ⟨_,r,h1,h2,rfl,h6⟩)⟩
    ·exact absurd h0 h1
    ·rw [h1] at hm; cases hm
    ·rw [hb] at h1
     cases h1
     exact ⟨r.A,r.c,rfl,h6.1,hb1⟩
 ·refine .inl ⟨chkW l x y z,h0,fun w e w'=>⟨?_,?_⟩⟩
  ·rintro ⟨hb1,(⟨_,rfl⟩ | ⟨h1,_⟩ | ⟨h1,_⟩)⟩
   ·exact ⟨rfl,hb1⟩
   ·exact absurd h1 h0
   ·exact absurd h1 h0
  ·rintro ⟨hb1,(⟨_,rfl⟩ | ⟨h1,_⟩ | ⟨h1,_⟩)⟩
   ·exact ⟨rfl,hb1⟩
   ·exact absurd h1 h0
   ·exact absurd h1 h0
end Go.Proofs.Ytkjceegmmhnajaa

namespace Go.Proofs.Ytkjceegmmhnajaa
open Go.RowKit

set_option maxRecDepth 100000 in
set_option maxHeartbeats 4000000 in
theorem lawCheapest_any (l : List Tn) (x y z : Int) (At : Option Addr) (ct : Nat) (w : World) (hlt : Lies w w.heap.size At (tintsC l)) (hm2 : l.length ≤ maxLen) (hs : ∀ t ∈ l,t.name.size ≤ maxLen) :
  Calls Try.prog 6 #[.slice At l.length ct, .agg #[.int .i64 x, .int .i64 y, .int .i64 z]] w fun e w'=>e = .returned (.bool true) ∧ Below w.heap.size w w':=by
 have HF:=Lib.hid (fun W (hb : Below w.heap.size w W)=>fine_any l At ct 14 W ((hlt.below hb (Nat.le_refl _)).more hb.size) hm2 hs)
 have HM:=Lib.hid mixed_any
 unfold maxLen at hm2
 by_cases h0 : fineB l 14 = true
 ·obtain ⟨g1,g2⟩:=fine_facts h0
  have H0:=Lib.hid h0
  have hs2 : ∀ t ∈ l,t.name.size ≤ 100:=fun t ht=>by have:=g2 t ht; omega
  by_cases h7 : l.length ≤ 7 ∨ 12 < l.length
  ·have HCA:=Lib.hid (fun W (hb : Below w.heap.size w W)=>cheapest_any l At ct x y z W ((hlt.below hb (Nat.le_refl _)).more hb.size) (by omega) hs2)
   have HRA:=Lib.hid (fun W (hb : Below w.heap.size w W)=>rcheapest_any l At ct x y z W ((hlt.below hb (Nat.le_refl _)).more hb.size) (by omega) hs2)
   rcases che_two (l:=l) (x:=x) (y:=y) (z:=z) with ⟨n,hn,hT⟩ | ⟨hq,ps,hbf,hpm,hlen,hT⟩
   ·have HC:=Lib.hid (fun W (hb : Below w.heap.size w W)=>(HCA.out W hb).mono fun e w' h=>(hT W e w').1 h)
    have HD:=Lib.hid (fun W (hb : Below w.heap.size w W)=>(HRA.out W hb).mono fun e w' h=>(hT W e w').2 h)
    clear HCA HRA hT hlt hs hs2 h0 g2
    by_cases h7' : l.length ≤ 7
    ·have h7I : ¬ (7 : Int) < (l.length : Int):=by omega
     clear h7
     go_enter Try.func6,Try.ntmps6
     go_wp2_with (go_at_call 9; refine (HF.out _ (by exact bw)).mono ?_; rintro e w0 ⟨rfl,rfl⟩; rw [H0.out])
     go_wp2_with fail
     have k0 : Bk (w.alloc (.cells #[.int .i64 x, .int .i64 y, .int .i64 z] 37)) w.heap.size 37 #[.int .i64 x, .int .i64 y, .int .i64 z]:=Bk.new _ _ _
     refine (HC.out _ (by exact bw)).mono ?_
     rintro e w1 ⟨rfl,hb1⟩
     have hB1 : Below w.heap.size w w1:=(Below.trans bw (hb1.mono (by first | omega | (simp; omega) | simp)))
     have k1:=k0.below hb1 k0.lt
     clear k0 hb1
     obtain ⟨w2,hw2⟩ : ∃ v,v = (w1.alloc (.cells #[.slice none 0 0] 25)).alloc (.cells #[.int .i64 0, .int .i64 0, .int .i64 0, .int .i64 0, .int .i64 0] 44):=⟨_,rfl⟩
     have hB2 : Below w.heap.size w w2:=by rw [hw2]; exact (hB1.alloc hB1.size _).alloc (by simp; have:=hB1.size; omega) _
     have k2 : Bk w2 w.heap.size 37 #[.int .i64 x, .int .i64 y, .int .i64 z]:=by rw [hw2]; exact (k1.alloc _).alloc _
     have r2 : Bk w2 w1.heap.size 25 #[.slice none 0 0]:=by rw [hw2]; exact (Bk.new _ _ _).alloc _
     have d2 : Bk w2 (w1.heap.size + 1) 44 #[.int .i64 0, .int .i64 0, .int .i64 0, .int .i64 0, .int .i64 0]:=by rw [hw2]; simpa using Bk.new (w1.alloc (.cells #[.slice none 0 0] 25)) 44 #[.int .i64 0, .int .i64 0, .int .i64 0, .int .i64 0, .int .i64 0]
     have x0:=k1.cell 0 rfl
     have x1:=k1.cell 1 rfl
     have x2:=k1.cell 2 rfl
     have lk:=k1.lt
     go_upto_region 4 with fail
     rw [← hw2]
     clear hw2 x0 x1 x2 lk k1 hB1
     generalize w1.heap.size = g at *
     have x0:=k2.cell 0 rfl
     have x1:=k2.cell 1 rfl
     have x2:=k2.cell 2 rfl
     have lk:=k2.lt
     go_wp2_with fail
     refine (HD.out _ hB2).mono ?_
     rintro e w3 ⟨rfl,hb3⟩
     have hB3:=hB2.trans (hb3.mono hB2.size)
     have r3:=r2.below hb3 r2.lt
     have d3:=d2.below hb3 d2.lt
     clear x0 x1 x2 lk k2 r2 d2 hB2 hb3
     obtain ⟨w4,hw4⟩ : ∃ v,v = w3.alloc (.cells #[.slice none 0 0] 25):=⟨_,rfl⟩
     have hB4 : Below w.heap.size w w4:=by rw [hw4]; exact hB3.alloc hB3.size _
     have r4 : Bk w4 g 25 #[.slice none 0 0]:=by rw [hw4]; exact r3.alloc _
     have d4 : Bk w4 (g + 1) 44 #[.int .i64 0, .int .i64 0, .int .i64 0, .int .i64 0, .int .i64 0]:=by rw [hw4]; exact d3.alloc _
     have s4 : Bk w4 w3.heap.size 25 #[.slice none 0 0]:=by rw [hw4]; exact Bk.new _ _ _
     go_upto_region 5 with fail
     rw [← hw4]
     clear hw4 r3 d3 hB3
     have y0:=r4.cell 0 rfl
     have y1:=s4.cell 0 rfl
     go_wp2_with fail
     refine (sameRec_any [] none none 0 0 w4 (fun h=>absurd rfl h) (fun h=>absurd rfl h) (by simp)).mono ?_
     rintro e w5 ⟨rfl,hb5⟩
     have hB5:=hB4.trans (hb5.mono hB4.size)
     have d5:=d4.below hb5 d4.lt
     clear y0 y1 r4 s4 d4 hB4 hb5
     go_wp2_with fail
     refine (HM.out _).mono ?_
     rintro e w6 ⟨rfl,hb6⟩
     have hB6:=hB5.trans (hb6.mono hB5.size)
     have d6:=d5.below hb6 d5.lt
     clear d5 hB5 hb6
     have y0:=d6.cell 0 rfl
     have y1:=d6.cell 1 rfl
     have y2:=d6.cell 2 rfl
     have y3:=d6.cell 3 rfl
     have y4:=d6.cell 4 rfl
     have E44:=eq44
     go_wp2
     go_ret
     exact ⟨rfl,hB6⟩
    ·have h7I : (7 : Int) < (l.length : Int):=by omega
     have h12I : ¬ (l.length : Int) ≤ 12:=by omega
     clear h7 h7'
     go_enter Try.func6,Try.ntmps6
     go_wp2_with (go_at_call 9; refine (HF.out _ (by exact bw)).mono ?_; rintro e w0 ⟨rfl,rfl⟩; rw [H0.out])
     go_wp2_with fail
     have k0 : Bk (w.alloc (.cells #[.int .i64 x, .int .i64 y, .int .i64 z] 37)) w.heap.size 37 #[.int .i64 x, .int .i64 y, .int .i64 z]:=Bk.new _ _ _
     refine (HC.out _ (by exact bw)).mono ?_
     rintro e w1 ⟨rfl,hb1⟩
     have hB1 : Below w.heap.size w w1:=(Below.trans bw (hb1.mono (by first | omega | (simp; omega) | simp)))
     have k1:=k0.below hb1 k0.lt
     clear k0 hb1
     obtain ⟨w2,hw2⟩ : ∃ v,v = (w1.alloc (.cells #[.slice none 0 0] 25)).alloc (.cells #[.int .i64 0, .int .i64 0, .int .i64 0, .int .i64 0, .int .i64 0] 44):=⟨_,rfl⟩
     have hB2 : Below w.heap.size w w2:=by rw [hw2]; exact (hB1.alloc hB1.size _).alloc (by simp; have:=hB1.size; omega) _
     have k2 : Bk w2 w.heap.size 37 #[.int .i64 x, .int .i64 y, .int .i64 z]:=by rw [hw2]; exact (k1.alloc _).alloc _
     have r2 : Bk w2 w1.heap.size 25 #[.slice none 0 0]:=by rw [hw2]; exact (Bk.new _ _ _).alloc _
     have d2 : Bk w2 (w1.heap.size + 1) 44 #[.int .i64 0, .int .i64 0, .int .i64 0, .int .i64 0, .int .i64 0]:=by rw [hw2]; simpa using Bk.new (w1.alloc (.cells #[.slice none 0 0] 25)) 44 #[.int .i64 0, .int .i64 0, .int .i64 0, .int .i64 0, .int .i64 0]
     have x0:=k1.cell 0 rfl
     have x1:=k1.cell 1 rfl
     have x2:=k1.cell 2 rfl
     have lk:=k1.lt
     go_upto_region 4 with fail
     rw [← hw2]
     clear hw2 x0 x1 x2 lk k1 hB1
     generalize w1.heap.size = g at *
     have x0:=k2.cell 0 rfl
     have x1:=k2.cell 1 rfl
     have x2:=k2.cell 2 rfl
     have lk:=k2.lt
     go_wp2_with fail
     refine (HD.out _ hB2).mono ?_
     rintro e w3 ⟨rfl,hb3⟩
     have hB3:=hB2.trans (hb3.mono hB2.size)
     have r3:=r2.below hb3 r2.lt
     have d3:=d2.below hb3 d2.lt
     clear x0 x1 x2 lk k2 r2 d2 hB2 hb3
     obtain ⟨w4,hw4⟩ : ∃ v,v = w3.alloc (.cells #[.slice none 0 0] 25):=⟨_,rfl⟩
     have hB4 : Below w.heap.size w w4:=by rw [hw4]; exact hB3.alloc hB3.size _
     have r4 : Bk w4 g 25 #[.slice none 0 0]:=by rw [hw4]; exact r3.alloc _
     have d4 : Bk w4 (g + 1) 44 #[.int .i64 0, .int .i64 0, .int .i64 0, .int .i64 0, .int .i64 0]:=by rw [hw4]; exact d3.alloc _
     have s4 : Bk w4 w3.heap.size 25 #[.slice none 0 0]:=by rw [hw4]; exact Bk.new _ _ _
     go_upto_region 5 with fail
     rw [← hw4]
     clear hw4 r3 d3 hB3
     have y0:=r4.cell 0 rfl
     have y1:=s4.cell 0 rfl
     go_wp2_with fail
     refine (sameRec_any [] none none 0 0 w4 (fun h=>absurd rfl h) (fun h=>absurd rfl h) (by simp)).mono ?_
     rintro e w5 ⟨rfl,hb5⟩
     have hB5:=hB4.trans (hb5.mono hB4.size)
     have d5:=d4.below hb5 d4.lt
     clear y0 y1 r4 s4 d4 hB4 hb5
     go_wp2_with fail
     refine (HM.out _).mono ?_
     rintro e w6 ⟨rfl,hb6⟩
     have hB6:=hB5.trans (hb6.mono hB5.size)
     have d6:=d5.below hb6 d5.lt
     clear d5 hB5 hb6
     have y0:=d6.cell 0 rfl
     have y1:=d6.cell 1 rfl
     have y2:=d6.cell 2 rfl
     have y3:=d6.cell 3 rfl
     have y4:=d6.cell 4 rfl
     have E44:=eq44
     go_wp2
     go_ret
     exact ⟨rfl,hB6⟩
   ·have HC:=Lib.hid (fun W (hb : Below w.heap.size w W)=>(HCA.out W hb).mono fun e w' h=>(hT W e w').1 h)
    have HD:=Lib.hid (fun W (hb : Below w.heap.size w W)=>(HRA.out W hb).mono fun e w' h=>(hT W e w').2 h)
    have HQ:=Lib.hid hq
    have HK : Hid (∀ (A : Option Addr) (c : Nat) (d : Du) (W : World),Below w.heap.size w W → Lies W W.heap.size A (partsC ps) → Calls Try.prog 23 #[.slice At l.length ct, .agg #[.int .i64 x, .int .i64 y, .int .i64 z], .agg #[.slice A ps.length c],d.agg] W (CcEnd (ccB l x y z ps d) (chkW l x y z) W)):=fun A c d W hb hL=>checkCheapest_any l ps d x y z At A ct c W ((hlt.below hb (Nat.le_refl _)).more hb.size) hL (by omega) (by omega) hs2
    have HRK : Hid (∀ (A : Option Addr) (c : Nat) (d : Du) (W : World),Below w.heap.size w W → Lies W W.heap.size A (partsC ps) → Calls Try.prog 24 #[.slice At l.length ct, .agg #[.int .i64 x, .int .i64 y, .int .i64 z], .agg #[.slice A ps.length c],d.agg] W (CcEnd (ccB l x y z ps d) (chkW l x y z) W)):=fun A c d W hb hL=>rcheckCheapest_any l ps d x y z At A ct c W ((hlt.below hb (Nat.le_refl _)).more hb.size) hL (by omega) (by omega) hs2
    clear HCA HRA hT hlt hs hs2 h0 g2 hq hbf hpm
    by_cases h7' : l.length ≤ 7
    ·have h7I : ¬ (7 : Int) < (l.length : Int):=by omega
     clear h7
     go_enter Try.func6,Try.ntmps6
     go_wp2_with (go_at_call 9; refine (HF.out _ (by exact bw)).mono ?_; rintro e w0 ⟨rfl,rfl⟩; rw [H0.out])
     go_wp2_with fail
     have k0 : Bk (w.alloc (.cells #[.int .i64 x, .int .i64 y, .int .i64 z] 37)) w.heap.size 37 #[.int .i64 x, .int .i64 y, .int .i64 z]:=Bk.new _ _ _
     refine (HC.out _ (by exact bw)).mono ?_
     rintro e w1 ⟨A1,c1,⟨n0,n1,n2,n3,dn⟩,rfl,hcc,L1,hb1⟩
     have hB1 : Below w.heap.size w w1:=(Below.trans bw (hb1.mono (by first | omega | (simp; omega) | simp)))
     have k1:=k0.below hb1 k0.lt
     clear k0 hb1
     have HCC:=Lib.hid hcc
     clear hcc
     obtain ⟨w2,hw2⟩ : ∃ v,v = (w1.alloc (.cells #[.slice A1 ps.length c1] 25)).alloc (.cells #[.int .i64 n0, .int .i64 n1, .int .i64 n2, .int .i64 n3, .int .i64 dn] 44):=⟨_,rfl⟩
     have hB2 : Below w.heap.size w w2:=by rw [hw2]; exact (hB1.alloc hB1.size _).alloc (by simp; have:=hB1.size; omega) _
     have k2 : Bk w2 w.heap.size 37 #[.int .i64 x, .int .i64 y, .int .i64 z]:=by rw [hw2]; exact (k1.alloc _).alloc _
     have r2 : Bk w2 w1.heap.size 25 #[.slice A1 ps.length c1]:=by rw [hw2]; exact (Bk.new _ _ _).alloc _
     have d2 : Bk w2 (w1.heap.size + 1) 44 #[.int .i64 n0, .int .i64 n1, .int .i64 n2, .int .i64 n3, .int .i64 dn]:=by rw [hw2]; simpa using Bk.new (w1.alloc (.cells #[.slice A1 ps.length c1] 25)) 44 #[.int .i64 n0, .int .i64 n1, .int .i64 n2, .int .i64 n3, .int .i64 dn]
     replace L1 : Lies w2 w2.heap.size A1 (partsC ps):=by rw [hw2]; exact (L1.below (((Below.refl _ w1).alloc (Nat.le_refl _) _).alloc (by simp) _) (Nat.le_refl _)).more (by simp; omega)
     have x0:=k1.cell 0 rfl
     have x1:=k1.cell 1 rfl
     have x2:=k1.cell 2 rfl
     have lk:=k1.lt
     go_upto_region 4 with fail
     rw [← hw2]
     clear hw2 x0 x1 x2 lk k1 hB1
     generalize w1.heap.size = g at *
     have x0:=k2.cell 0 rfl
     have x1:=k2.cell 1 rfl
     have x2:=k2.cell 2 rfl
     have lk:=k2.lt
     go_wp2_with fail
     refine (HD.out _ hB2).mono ?_
     rintro e w3 ⟨A2,c2,rfl,L2,hb3⟩
     have hB3:=hB2.trans (hb3.mono hB2.size)
     have k3:=k2.below hb3 k2.lt
     have r3:=r2.below hb3 r2.lt
     have d3:=d2.below hb3 d2.lt
     replace L1:=(L1.below hb3 (Nat.le_refl _)).more hb3.size
     clear x0 x1 x2 lk k2 r2 d2 hB2 hb3
     obtain ⟨w4,hw4⟩ : ∃ v,v = w3.alloc (.cells #[.slice A2 ps.length c2] 25):=⟨_,rfl⟩
     have hB4 : Below w.heap.size w w4:=by rw [hw4]; exact hB3.alloc hB3.size _
     have k4 : Bk w4 w.heap.size 37 #[.int .i64 x, .int .i64 y, .int .i64 z]:=by rw [hw4]; exact k3.alloc _
     have r4 : Bk w4 g 25 #[.slice A1 ps.length c1]:=by rw [hw4]; exact r3.alloc _
     have d4 : Bk w4 (g + 1) 44 #[.int .i64 n0, .int .i64 n1, .int .i64 n2, .int .i64 n3, .int .i64 dn]:=by rw [hw4]; exact d3.alloc _
     have s4 : Bk w4 w3.heap.size 25 #[.slice A2 ps.length c2]:=by rw [hw4]; exact Bk.new _ _ _
     replace L1 : Lies w4 w4.heap.size A1 (partsC ps):=by rw [hw4]; exact (L1.below ((Below.refl _ w3).alloc (Nat.le_refl _) _) (Nat.le_refl _)).more (by simp)
     replace L2 : Lies w4 w4.heap.size A2 (partsC ps):=by rw [hw4]; exact (L2.below ((Below.refl _ w3).alloc (Nat.le_refl _) _) (Nat.le_refl _)).more (by simp)
     go_upto_region 5 with fail
     rw [← hw4]
     clear hw4 k3 r3 d3 hB3
     have y0:=r4.cell 0 rfl
     have y1:=s4.cell 0 rfl
     go_wp2_with fail
     refine (sameRec_any ps A1 A2 c1 c2 w4 L1 L2 (by omega)).mono ?_
     rintro e w5 ⟨rfl,hb5⟩
     have hB5:=hB4.trans (hb5.mono hB4.size)
     have k5:=k4.below hb5 k4.lt
     have r5:=r4.below hb5 r4.lt
     have d5:=d4.below hb5 d4.lt
     replace L1:=(L1.below hb5 (Nat.le_refl _)).more hb5.size
     clear y0 y1 k4 r4 s4 d4 hB4 hb5 L2
     have x0:=k5.cell 0 rfl
     have x1:=k5.cell 1 rfl
     have x2:=k5.cell 2 rfl
     have lk:=k5.lt
     have xr:=r5.cell 0 rfl
     have y0:=d5.cell 0 rfl
     have y1:=d5.cell 1 rfl
     have y2:=d5.cell 2 rfl
     have y3:=d5.cell 3 rfl
     have y4:=d5.cell 4 rfl
     go_wp2_with fail
     refine (HK.out A1 c1 ⟨n0,n1,n2,n3,dn⟩ _ hB5 L1).mono ?_
     rintro e w6 ⟨rfl,hb6⟩
     rw [HCC.out,HQ.out]
     have hB6:=hB5.trans (hb6.mono hB5.size)
     have k6:=k5.below hb6 k5.lt
     have r6:=r5.below hb6 r5.lt
     have d6:=d5.below hb6 d5.lt
     replace L1:=(L1.below hb6 (Nat.le_refl _)).more hb6.size
     clear x0 x1 x2 lk xr y0 y1 y2 y3 y4 k5 r5 d5 hB5 hb6
     have x0:=k6.cell 0 rfl
     have x1:=k6.cell 1 rfl
     have x2:=k6.cell 2 rfl
     have lk:=k6.lt
     have xr:=r6.cell 0 rfl
     have y0:=d6.cell 0 rfl
     have y1:=d6.cell 1 rfl
     have y2:=d6.cell 2 rfl
     have y3:=d6.cell 3 rfl
     have y4:=d6.cell 4 rfl
     go_wp2_with fail
     refine (HRK.out A1 c1 ⟨n0,n1,n2,n3,dn⟩ _ hB6 L1).mono ?_
     rintro e w7 ⟨rfl,hb7⟩
     rw [HCC.out,HQ.out]
     have hB7:=hB6.trans (hb7.mono hB6.size)
     clear x0 x1 x2 lk xr y0 y1 y2 y3 y4 k6 r6 d6 hB6 hb7
     go_wp2_with fail
     refine (HM.out _).mono ?_
     rintro e w8 ⟨rfl,hb8⟩
     have hB8:=hB7.trans (hb8.mono hB7.size)
     go_wp2
     go_ret
     exact ⟨rfl,hB8⟩
    ·have h7I : (7 : Int) < (l.length : Int):=by omega
     have h12I : ¬ (l.length : Int) ≤ 12:=by omega
     clear h7 h7'
     go_enter Try.func6,Try.ntmps6
     go_wp2_with (go_at_call 9; refine (HF.out _ (by exact bw)).mono ?_; rintro e w0 ⟨rfl,rfl⟩; rw [H0.out])
     go_wp2_with fail
     have k0 : Bk (w.alloc (.cells #[.int .i64 x, .int .i64 y, .int .i64 z] 37)) w.heap.size 37 #[.int .i64 x, .int .i64 y, .int .i64 z]:=Bk.new _ _ _
     refine (HC.out _ (by exact bw)).mono ?_
     rintro e w1 ⟨A1,c1,⟨n0,n1,n2,n3,dn⟩,rfl,hcc,L1,hb1⟩
     have hB1 : Below w.heap.size w w1:=(Below.trans bw (hb1.mono (by first | omega | (simp; omega) | simp)))
     have k1:=k0.below hb1 k0.lt
     clear k0 hb1
     have HCC:=Lib.hid hcc
     clear hcc
     obtain ⟨w2,hw2⟩ : ∃ v,v = (w1.alloc (.cells #[.slice A1 ps.length c1] 25)).alloc (.cells #[.int .i64 n0, .int .i64 n1, .int .i64 n2, .int .i64 n3, .int .i64 dn] 44):=⟨_,rfl⟩
     have hB2 : Below w.heap.size w w2:=by rw [hw2]; exact (hB1.alloc hB1.size _).alloc (by simp; have:=hB1.size; omega) _
     have k2 : Bk w2 w.heap.size 37 #[.int .i64 x, .int .i64 y, .int .i64 z]:=by rw [hw2]; exact (k1.alloc _).alloc _
     have r2 : Bk w2 w1.heap.size 25 #[.slice A1 ps.length c1]:=by rw [hw2]; exact (Bk.new _ _ _).alloc _
     have d2 : Bk w2 (w1.heap.size + 1) 44 #[.int .i64 n0, .int .i64 n1, .int .i64 n2, .int .i64 n3, .int .i64 dn]:=by rw [hw2]; simpa using Bk.new (w1.alloc (.cells #[.slice A1 ps.length c1] 25)) 44 #[.int .i64 n0, .int .i64 n1, .int .i64 n2, .int .i64 n3, .int .i64 dn]
     replace L1 : Lies w2 w2.heap.size A1 (partsC ps):=by rw [hw2]; exact (L1.below (((Below.refl _ w1).alloc (Nat.le_refl _) _).alloc (by simp) _) (Nat.le_refl _)).more (by simp; omega)
     have x0:=k1.cell 0 rfl
     have x1:=k1.cell 1 rfl
     have x2:=k1.cell 2 rfl
     have lk:=k1.lt
     go_upto_region 4 with fail
     rw [← hw2]
     clear hw2 x0 x1 x2 lk k1 hB1
     generalize w1.heap.size = g at *
     have x0:=k2.cell 0 rfl
     have x1:=k2.cell 1 rfl
     have x2:=k2.cell 2 rfl
     have lk:=k2.lt
     go_wp2_with fail
     refine (HD.out _ hB2).mono ?_
     rintro e w3 ⟨A2,c2,rfl,L2,hb3⟩
     have hB3:=hB2.trans (hb3.mono hB2.size)
     have k3:=k2.below hb3 k2.lt
     have r3:=r2.below hb3 r2.lt
     have d3:=d2.below hb3 d2.lt
     replace L1:=(L1.below hb3 (Nat.le_refl _)).more hb3.size
     clear x0 x1 x2 lk k2 r2 d2 hB2 hb3
     obtain ⟨w4,hw4⟩ : ∃ v,v = w3.alloc (.cells #[.slice A2 ps.length c2] 25):=⟨_,rfl⟩
     have hB4 : Below w.heap.size w w4:=by rw [hw4]; exact hB3.alloc hB3.size _
     have k4 : Bk w4 w.heap.size 37 #[.int .i64 x, .int .i64 y, .int .i64 z]:=by rw [hw4]; exact k3.alloc _
     have r4 : Bk w4 g 25 #[.slice A1 ps.length c1]:=by rw [hw4]; exact r3.alloc _
     have d4 : Bk w4 (g + 1) 44 #[.int .i64 n0, .int .i64 n1, .int .i64 n2, .int .i64 n3, .int .i64 dn]:=by rw [hw4]; exact d3.alloc _
     have s4 : Bk w4 w3.heap.size 25 #[.slice A2 ps.length c2]:=by rw [hw4]; exact Bk.new _ _ _
     replace L1 : Lies w4 w4.heap.size A1 (partsC ps):=by rw [hw4]; exact (L1.below ((Below.refl _ w3).alloc (Nat.le_refl _) _) (Nat.le_refl _)).more (by simp)
     replace L2 : Lies w4 w4.heap.size A2 (partsC ps):=by rw [hw4]; exact (L2.below ((Below.refl _ w3).alloc (Nat.le_refl _) _) (Nat.le_refl _)).more (by simp)
     go_upto_region 5 with fail
     rw [← hw4]
     clear hw4 k3 r3 d3 hB3
     have y0:=r4.cell 0 rfl
     have y1:=s4.cell 0 rfl
     go_wp2_with fail
     refine (sameRec_any ps A1 A2 c1 c2 w4 L1 L2 (by omega)).mono ?_
     rintro e w5 ⟨rfl,hb5⟩
     have hB5:=hB4.trans (hb5.mono hB4.size)
     have k5:=k4.below hb5 k4.lt
     have r5:=r4.below hb5 r4.lt
     have d5:=d4.below hb5 d4.lt
     replace L1:=(L1.below hb5 (Nat.le_refl _)).more hb5.size
     clear y0 y1 k4 r4 s4 d4 hB4 hb5 L2
     have x0:=k5.cell 0 rfl
     have x1:=k5.cell 1 rfl
     have x2:=k5.cell 2 rfl
     have lk:=k5.lt
     have xr:=r5.cell 0 rfl
     have y0:=d5.cell 0 rfl
     have y1:=d5.cell 1 rfl
     have y2:=d5.cell 2 rfl
     have y3:=d5.cell 3 rfl
     have y4:=d5.cell 4 rfl
     go_wp2_with fail
     refine (HK.out A1 c1 ⟨n0,n1,n2,n3,dn⟩ _ hB5 L1).mono ?_
     rintro e w6 ⟨rfl,hb6⟩
     rw [HCC.out,HQ.out]
     have hB6:=hB5.trans (hb6.mono hB5.size)
     have k6:=k5.below hb6 k5.lt
     have r6:=r5.below hb6 r5.lt
     have d6:=d5.below hb6 d5.lt
     replace L1:=(L1.below hb6 (Nat.le_refl _)).more hb6.size
     clear x0 x1 x2 lk xr y0 y1 y2 y3 y4 k5 r5 d5 hB5 hb6
     have x0:=k6.cell 0 rfl
     have x1:=k6.cell 1 rfl
     have x2:=k6.cell 2 rfl
     have lk:=k6.lt
     have xr:=r6.cell 0 rfl
     have y0:=d6.cell 0 rfl
     have y1:=d6.cell 1 rfl
     have y2:=d6.cell 2 rfl
     have y3:=d6.cell 3 rfl
     have y4:=d6.cell 4 rfl
     go_wp2_with fail
     refine (HRK.out A1 c1 ⟨n0,n1,n2,n3,dn⟩ _ hB6 L1).mono ?_
     rintro e w7 ⟨rfl,hb7⟩
     rw [HCC.out,HQ.out]
     have hB7:=hB6.trans (hb7.mono hB6.size)
     clear x0 x1 x2 lk xr y0 y1 y2 y3 y4 k6 r6 d6 hB6 hb7
     go_wp2_with fail
     refine (HM.out _).mono ?_
     rintro e w8 ⟨rfl,hb8⟩
     have hB8:=hB7.trans (hb8.mono hB7.size)
     go_wp2
     go_ret
     exact ⟨rfl,hB8⟩
  ·have h7I : (7 : Int) < (l.length : Int):=by omega
   have h12I : (l.length : Int) ≤ 12:=by omega
   clear hlt hs hs2 h0 g1 g2 h7
   go_enter Try.func6,Try.ntmps6
   go_wp2_with (first | (go_at_call 9; refine (HF.out _ (by exact bw)).mono ?_; rintro e w1 ⟨rfl,rfl⟩; rw [H0.out]) | (go_at_call 10; refine (HM.out _).mono ?_; rintro e w1 ⟨rfl,hb⟩))
   go_ret
   exact ⟨rfl,Below.trans bw (hb.mono (by first | omega | (simp; omega) | simp))⟩
 ·have H0:=Lib.hid (show fineB l 14 = false by simpa using h0)
  clear hlt hs h0
  go_enter Try.func6,Try.ntmps6
  go_wp2_with (first | (go_at_call 9; refine (HF.out _ (by exact bw)).mono ?_; rintro e w1 ⟨rfl,rfl⟩; rw [H0.out]) | (go_at_call 10; refine (HM.out _).mono ?_; rintro e w1 ⟨rfl,hb⟩))
  go_ret
  exact ⟨rfl,Below.trans bw (hb.mono (by first | omega | (simp; omega) | simp))⟩
end Go.Proofs.Ytkjceegmmhnajaa
