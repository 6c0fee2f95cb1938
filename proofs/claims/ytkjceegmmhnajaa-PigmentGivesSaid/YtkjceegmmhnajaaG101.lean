/- merged by wip/claimx.py -/
import Derived.Test.YtkjceegmmhnajaaG54
import Derived.Test.YtkjceegmmhnajaaG55
import Derived.Test.YtkjceegmmhnajaaG56
import Derived.Test.YtkjceegmmhnajaaG57
import Derived.Test.YtkjceegmmhnajaaG58
import Derived.Test.YtkjceegmmhnajaaG59
import Derived.Test.YtkjceegmmhnajaaG60
import Derived.Test.YtkjceegmmhnajaaG61
import Derived.Test.YtkjceegmmhnajaaG62
import Derived.Test.YtkjceegmmhnajaaG63
import Derived.Test.YtkjceegmmhnajaaG64
import Derived.Test.YtkjceegmmhnajaaG82
import Derived.Test.YtkjceegmmhnajaaG83
import Derived.Test.YtkjceegmmhnajaaG84
import Derived.Test.YtkjceegmmhnajaaG87
import Derived.Test.YtkjceegmmhnajaaG88
import Derived.Test.YtkjceegmmhnajaaG89
import Derived.Test.YtkjceegmmhnajaaG90
import Derived.Test.YtkjceegmmhnajaaG91
import Derived.Test.YtkjceegmmhnajaaG92
import Derived.Test.YtkjceegmmhnajaaG93
import Derived.Test.YtkjceegmmhnajaaG94
import Derived.Test.YtkjceegmmhnajaaG95
import Derived.Test.YtkjceegmmhnajaaG100

set_option linter.unusedVariables false
set_option linter.unusedSimpArgs false

namespace Go.Proofs.Ytkjceegmmhnajaa
open Go.RowKit LPX

set_option maxRecDepth 100000 in
set_option maxHeartbeats 8000000 in
theorem lawGives_any (l : List Tn) (x y z : Int) (nm : ByteArray) (a1 a2 a3 pr : Int) (At : Option Addr) (ct : Nat) (w : World) (hlt : Lies w w.heap.size At (tintsC l)) (hm2 : l.length ≤ maxLen) (hs : ∀ t ∈ l,t.name.size ≤ maxLen) (hnm : nm.size ≤ maxLen) :
  Calls Try.prog 4 #[.slice At l.length ct, .agg #[.int .i64 x, .int .i64 y, .int .i64 z], .agg #[.string nm, .int .i64 a1, .int .i64 a2, .int .i64 a3, .int .i64 pr]] w fun e w'=>e = .returned (.bool true) ∧ Below w.heap.size w w':=by
 have HF:=Lib.hid (fun W (hb : Below w.heap.size w W)=>fine_any l At ct 6 W ((hlt.below hb (Nat.le_refl _)).more hb.size) hm2 hs)
 have HM:=Lib.hid mixed_any
 unfold maxLen at hm2 hnm
 by_cases h0 : fineB l 6 = true
 ·obtain ⟨g1,g2⟩:=fine_facts h0
  have H0:=Lib.hid h0
  by_cases h60 : nm.size ≤ 60
  ·have hs2 : ∀ t ∈ l,t.name.size ≤ 100:=fun t ht=>by have:=g2 t ht; omega
   have HRE:=Lib.hid (fun W (hb : Below w.heap.size w W)=>reach_any l At ct x y z W ((hlt.below hb (Nat.le_refl _)).more hb.size) (by omega) hs2)
   by_cases hfd : chkW l x y z = 0 ∧ allR l ⟨x,y,z⟩ ≠ []
   ·obtain ⟨hq,hne⟩:=hfd
    obtain ⟨r,rs,hrs⟩ : ∃ r rs,allR l ⟨x,y,z⟩ = r :: rs:=List.exists_cons_of_ne_nil hne
    have hrm : r ∈ allR l ⟨x,y,z⟩:=by rw [hrs]; simp
    obtain ⟨_,hoff,hsh⟩:=chkW_ok hq
    have hV : shadeV ⟨x,y,z⟩:=hsh
    obtain ⟨ps,hbf⟩ : ∃ ps,bestF l (allR l ⟨x,y,z⟩) = some ps:=by
     cases hb : bestF l (allR l ⟨x,y,z⟩) with
     | none=>exact absurd (bestF_nil _ hb) hne
     | some b=>exact ⟨b,rfl⟩
    have hpm : ps ∈ allR l ⟨x,y,z⟩:=best_mem hoff hV hbf
    have hkr:=rcpK (x:=⟨x,y,z⟩) hoff hV hrm
    have hkp:=rcpK (x:=⟨x,y,z⟩) hoff hV hpm
    have HR1 : Hid (∀ W,Below w.heap.size w W → Calls Try.prog 15 #[.slice At l.length ct, .agg #[.int .i64 x, .int .i64 y, .int .i64 z]] W fun e w'=>∃ (A : Option Addr) (c : Nat),e = .returned (.tuple #[.agg #[.slice A r.length c], .bool true, .int .i64 0]) ∧ Lies w' w'.heap.size A (partsC r) ∧ Below W.heap.size W w'):=fun W hb=>(HRE.out W hb).mono (by
     rintro e w' ⟨hb1,(⟨h1,_⟩ | ⟨_,h1,_⟩ | ⟨_,f,fs,h1,rfl,h2⟩)⟩
     ·exact absurd hq h1
     ·exact absurd h1 hne
     ·rw [hrs] at h1
      cases h1
      exact ⟨f.A,f.c,rfl,h2.1,hb1⟩)
    have HC1 : Hid (∀ W,Below w.heap.size w W → Calls Try.prog 16 #[.slice At l.length ct, .agg #[.int .i64 x, .int .i64 y, .int .i64 z]] W fun e w'=>∃ (A : Option Addr) (c : Nat) (n0 n1 n2 n3 dn : Int),e = .returned (.tuple #[.agg #[.slice A ps.length c], .agg #[.int .i64 n0, .int .i64 n1, .int .i64 n2, .int .i64 n3, .int .i64 dn], .int .i64 0]) ∧ Lies w' w'.heap.size A (partsC ps) ∧ Below W.heap.size W w'):=fun W hb=>(cheapest_any l At ct x y z W ((hlt.below hb (Nat.le_refl _)).more hb.size) (by omega) hs2).mono (fun e w' h=>che_found hq hbf hne h)
    obtain ⟨er,pr_,mr0,mr1,mr2⟩:=found_ok hq hrm
    obtain ⟨ep,pp_,mp0,mp1,mp2⟩:=found_ok hq hpm
    have HP1 : Hid (∀ (A : Option Addr) (c : Nat) (W : World),Below w.heap.size w W → Lies W W.heap.size A (partsC r) → Calls Try.prog 13 #[.slice At l.length ct, .agg #[.slice A r.length c]] W (PriEnd (priL l r) 0 W)):=fun A c W hb hL=>by
     have:=prices_any l r At A ct c W ((hlt.below hb (Nat.le_refl _)).more hb.size) hL (by have:=hkr.len; omega) (by omega) hs2
     rw [er,pr_] at this; exact this
    have HP2 : Hid (∀ (A : Option Addr) (c : Nat) (W : World),Below w.heap.size w W → Lies W W.heap.size A (partsC ps) → Calls Try.prog 13 #[.slice At l.length ct, .agg #[.slice A ps.length c]] W (PriEnd (priL l ps) 0 W)):=fun A c W hb hL=>by
     have:=prices_any l ps At A ct c W ((hlt.below hb (Nat.le_refl _)).more hb.size) hL (by have:=hkp.len; omega) (by omega) hs2
     rw [ep,pp_] at this; exact this
    have HS1 : Hid (∀ (A : Option Addr) (c : Nat) (W : World),Below w.heap.size w W → Lies W W.heap.size A (partsC r) → Calls Try.prog 17 #[.slice At l.length ct, .agg #[.slice A r.length c], .agg #[.int .i64 x, .int .i64 y, .int .i64 z]] W (ShEnd true W)):=fun A c W hb hL=>shade17_any l r x y z At A ct c W ((hlt.below hb (Nat.le_refl _)).more hb.size) hL (by have:=hkr.len; omega) (by omega) hs2 er mr0 mr1 mr2
    have HS2 : Hid (∀ (A : Option Addr) (c : Nat) (W : World),Below w.heap.size w W → Lies W W.heap.size A (partsC ps) → Calls Try.prog 17 #[.slice At l.length ct, .agg #[.slice A ps.length c], .agg #[.int .i64 x, .int .i64 y, .int .i64 z]] W (ShEnd true W)):=fun A c W hb hL=>shade17_any l ps x y z At A ct c W ((hlt.below hb (Nat.le_refl _)).more hb.size) hL (by have:=hkp.len; omega) (by omega) hs2 ep mp0 mp1 mp2
    have HL1 : Hid (∀ W,Calls Try.prog 18 #[.agg #[.int .i64 (priL l r).1, .int .i64 (priL l r).2], .agg #[.int .i64 (priL l ps).1, .int .i64 (priL l ps).2]] W (LessEnd false W)):=fun W=>by
     have h:=less_any _ _ _ _ W hkr.p1.1 hkr.p1.2 hkr.p2.1 hkr.p2.2 hkp.p1.1 hkp.p1.2 hkp.p2.1 hkp.p2.2
     have h2:=best_less hoff hV hbf hrm
     unfold lessQ at h2
     rw [h2] at h; exact h
    have hg2' : ∀ t ∈ l ++ [(⟨nm,a1,a2,a3,pr⟩ : Tn)],t.name.size ≤ 100:=fun t ht=>by
     rcases List.mem_append.1 ht with h | h
     ·exact hs2 t h
     ·obtain rfl:=List.mem_singleton.1 h
      show nm.size ≤ 100
      omega
    have hML : (l ++ [(⟨nm,a1,a2,a3,pr⟩ : Tn)]).length = l.length + 1:=by simp
    obtain ⟨M,hM⟩ : ∃ M,M = l ++ [(⟨nm,a1,a2,a3,pr⟩ : Tn)]:=⟨_,rfl⟩
    have hl1 : 1 ≤ l.length:=by have:=(chkW_ok hq).1; omega
    have hpM : ps ∈ allR M ⟨x,y,z⟩:=by rw [hM]; exact allR_more hpm
    have hQM : priL M ps = priL l ps:=by rw [hM]; exact priL_more hkp.good
    rw [← hM] at hg2' hML
    have HTS : Hid (tintsC l ++ [.string nm, .int .i64 a1, .int .i64 a2, .int .i64 a3, .int .i64 pr] = tintsC M):=by show _ = _; rw [hM]; exact tintsC_snoc l ⟨nm,a1,a2,a3,pr⟩
    have HR2 : Hid (∀ (A' : Option Addr) (c' : Nat) (W : World),Lies W W.heap.size A' (tintsC M) → Calls Try.prog 15 #[.slice A' (l.length + 1) c', .agg #[.int .i64 x, .int .i64 y, .int .i64 z]] W fun e w'=>∃ (A : Option Addr) (n c : Nat) (b : Bool),e = .returned (.tuple #[.agg #[.slice A n c], .bool b, .int .i64 (chkW M x y z)]) ∧ Below W.heap.size W w' ∧ (chkW M x y z = 0 → b = true)):=fun A' c' W hL=>by
     have h:=reach_any M A' c' x y z W hL (by omega) hg2'
     rw [hML] at h
     refine h.mono fun e w' h=>?_
     obtain ⟨A,n,c,b,h1,h2,h3⟩:=reach_form h
     exact ⟨A,n,c,b,h1,h2,fun h0=>h3.2 ⟨h0,fun he=>by rw [he] at hpM; cases hpM⟩⟩
    have HALL : Hid (chkW M x y z = 0 → ∃ (p2 : List Pt) (R1 R2 : Int),(∀ (A' : Option Addr) (c' : Nat) (W : World),Lies W W.heap.size A' (tintsC M) → Calls Try.prog 16 #[.slice A' (l.length + 1) c', .agg #[.int .i64 x, .int .i64 y, .int .i64 z]] W fun e w'=>∃ (A : Option Addr) (c : Nat) (n0 n1 n2 n3 dn : Int),e = .returned (.tuple #[.agg #[.slice A p2.length c], .agg #[.int .i64 n0, .int .i64 n1, .int .i64 n2, .int .i64 n3, .int .i64 dn], .int .i64 0]) ∧ Lies w' w'.heap.size A (partsC p2) ∧ Below W.heap.size W w') ∧ (∀ (A' A : Option Addr) (c' c : Nat) (W : World),Lies W W.heap.size A' (tintsC M) → Lies W W.heap.size A (partsC p2) → Calls Try.prog 13 #[.slice A' (l.length + 1) c', .agg #[.slice A p2.length c]] W (PriEnd (R1,R2) 0 W)) ∧ (∀ W,Calls Try.prog 18 #[.agg #[.int .i64 (priL l ps).1, .int .i64 (priL l ps).2], .agg #[.int .i64 R1, .int .i64 R2]] W (LessEnd false W))):=fun h0=>by
     obtain ⟨_,hoM,_⟩:=chkW_ok h0
     have hneM : allR M ⟨x,y,z⟩ ≠ []:=fun he=>by rw [he] at hpM; cases hpM
     obtain ⟨p2,hb2⟩ : ∃ ps,bestF M (allR M ⟨x,y,z⟩) = some ps:=by
      cases hb : bestF M (allR M ⟨x,y,z⟩) with
      | none=>exact absurd (bestF_nil _ hb) hneM
      | some b=>exact ⟨b,rfl⟩
     have hm2 : p2 ∈ allR M ⟨x,y,z⟩:=best_mem hoM hV hb2
     have hk2:=rcpK (x:=⟨x,y,z⟩) hoM hV hm2
     obtain ⟨e2,f2,_⟩:=found_ok h0 hm2
     refine ⟨p2,(priL M p2).1,(priL M p2).2,fun A' c' W hL=>?_,fun A' A c' c W hL hL2=>?_,fun W=>?_⟩
     ·have h:=cheapest_any M A' c' x y z W hL (by omega) hg2'
      rw [hML] at h
      exact h.mono fun e w' h=>che_found h0 hb2 hneM h
     ·have h:=prices_any M p2 A' A c' c W hL hL2 (by have:=hk2.len; omega) (by omega) hg2'
      rw [hML,e2,f2] at h
      exact h
     ·have h:=less_any _ _ _ _ W hkp.p1.1 hkp.p1.2 hkp.p2.1 hkp.p2.2 hk2.p1.1 hk2.p1.2 hk2.p2.1 hk2.p2.2
      have h2:=best_less hoM hV hb2 hpM
      unfold lessQ at h2
      rw [hQM] at h2
      rw [h2] at h; exact h
    have HLT:=Lib.hid hlt
    have HL1':=Lib.hid hl1
    clear hpM hg2' hML hM hQM
    obtain ⟨P1,P2,hPP⟩ : ∃ a b,priL l r = (a,b):=⟨_,_,rfl⟩
    obtain ⟨Q1,Q2,hQQ⟩ : ∃ a b,priL l ps = (a,b):=⟨_,_,rfl⟩
    rw [hPP] at HP1 HL1
    rw [hQQ] at HP2 HL1 HALL
    clear hkr hkp hs2 hs hlt er pr_ mr0 mr1 mr2 ep pp_ mp0 mp1 mp2 hrs hrm hpm hbf hne hoff hsh hV hPP hQQ g2 h0 HRE hq
    have hlI : (l.length : Int) ≤ 6:=g1
    go_enter Try.func4,Try.ntmps4
    have bw_ : Bk ((w.alloc (.cells #[.int .i64 x, .int .i64 y, .int .i64 z] 37)).alloc (.cells #[.string nm, .int .i64 a1, .int .i64 a2, .int .i64 a3, .int .i64 pr] 39)) w.heap.size 37 #[.int .i64 x, .int .i64 y, .int .i64 z]:=(Bk.new _ _ _).alloc _
    have bm_ : Bk ((w.alloc (.cells #[.int .i64 x, .int .i64 y, .int .i64 z] 37)).alloc (.cells #[.string nm, .int .i64 a1, .int .i64 a2, .int .i64 a3, .int .i64 pr] 39)) (w.heap.size + 1) 39 #[.string nm, .int .i64 a1, .int .i64 a2, .int .i64 a3, .int .i64 pr]:=by simpa using Bk.new (w.alloc (.cells #[.int .i64 x, .int .i64 y, .int .i64 z] 37)) 39 #[.string nm, .int .i64 a1, .int .i64 a2, .int .i64 a3, .int .i64 pr]
    obtain ⟨v0,hw0⟩ : ∃ v,v = (w.alloc (.cells #[.int .i64 x, .int .i64 y, .int .i64 z] 37)).alloc (.cells #[.string nm, .int .i64 a1, .int .i64 a2, .int .i64 a3, .int .i64 pr] 39):=⟨_,rfl⟩
    have hBv0 : Below w.heap.size w v0:=by rw [hw0]; exact bw
    rw [← hw0] at bw_ bm_
    go_upto_region 1 with fail
    rw [← hw0]
    clear hw0
    have fbm_0:=bm_.cell 0 rfl
    have fbm_1:=bm_.cell 1 rfl
    have fbm_2:=bm_.cell 2 rfl
    have fbm_3:=bm_.cell 3 rfl
    have fbm_4:=bm_.cell 4 rfl
    have ltbm_:=bm_.lt
    go_wp2_with fail
    refine (HF.out _ hBv0).mono ?_
    rintro e w0 ⟨rfl,rfl⟩
    rw [H0.out]
    have hn60 : ¬ (60 : Int) < (nm.size : Int):=by omega
    have fbw_0:=bw_.cell 0 rfl
    have fbw_1:=bw_.cell 1 rfl
    have fbw_2:=bw_.cell 2 rfl
    have ltbw_:=bw_.lt
    go_wp2_with fail
    refine (HR1.out _ hBv0).mono ?_
    rintro e v1 ⟨A7,c7,rfl,L7,hbv1⟩
    clear fbw_0 fbw_1 fbw_2 ltbw_
    have hBv1 : Below w.heap.size w v1:=hBv0.trans (hbv1.mono hBv0.size)
    replace bw_:=bw_.below hbv1 bw_.lt
    replace bm_:=bm_.below hbv1 bm_.lt
    clear hBv0
    clear hbv1
    obtain ⟨v2,hwv2⟩ : ∃ v,v = v1.alloc (.cells #[.slice A7 r.length c7] 25):=⟨_,rfl⟩
    have hav2 : Below v1.heap.size v1 v2:=by rw [hwv2]; exact ((Below.refl _ v1).alloc (Nat.le_refl _) _)
    have b7 : Bk v2 v1.heap.size 25 #[.slice A7 r.length c7]:=by rw [hwv2]; simpa using Bk.new v1 25 #[.slice A7 r.length c7]
    have fbw_0:=bw_.cell 0 rfl
    have fbw_1:=bw_.cell 1 rfl
    have fbw_2:=bw_.cell 2 rfl
    have ltbw_:=bw_.lt
    go_upto_region 4 with fail
    rw [← hwv2]
    clear hwv2 fbw_0 fbw_1 fbw_2 ltbw_
    have hBv2 : Below w.heap.size w v2:=hBv1.trans (hav2.mono hBv1.size)
    replace bw_:=bw_.below hav2 bw_.lt
    replace bm_:=bm_.below hav2 bm_.lt
    replace L7:=(L7.below hav2 (Nat.le_refl _)).more hav2.size
    clear hBv1
    clear hav2
    generalize v1.heap.size = g2 at *
    have fbw_0:=bw_.cell 0 rfl
    have fbw_1:=bw_.cell 1 rfl
    have fbw_2:=bw_.cell 2 rfl
    have ltbw_:=bw_.lt
    go_wp2_with fail
    refine (HC1.out _ hBv2).mono ?_
    rintro e v3 ⟨A8,c8,n0,n1,n2,n3,dn,rfl,L8,hbv3⟩
    clear fbw_0 fbw_1 fbw_2 ltbw_
    have hBv3 : Below w.heap.size w v3:=hBv2.trans (hbv3.mono hBv2.size)
    replace bw_:=bw_.below hbv3 bw_.lt
    replace bm_:=bm_.below hbv3 bm_.lt
    replace b7:=b7.below hbv3 b7.lt
    replace L7:=(L7.below hbv3 (Nat.le_refl _)).more hbv3.size
    clear hBv2
    clear hbv3
    obtain ⟨v4,hwv4⟩ : ∃ v,v = (v3.alloc (.cells #[.slice A8 ps.length c8] 25)).alloc (.cells #[.int .i64 n0, .int .i64 n1, .int .i64 n2, .int .i64 n3, .int .i64 dn] 44):=⟨_,rfl⟩
    have hav4 : Below v3.heap.size v3 v4:=by rw [hwv4]; exact (((Below.refl _ v3).alloc (Nat.le_refl _) _).alloc (by simp) _)
    have b8 : Bk v4 v3.heap.size 25 #[.slice A8 ps.length c8]:=by rw [hwv4]; simpa using (Bk.new v3 25 #[.slice A8 ps.length c8]).alloc _
    have b9 : Bk v4 (v3.heap.size + 1) 44 #[.int .i64 n0, .int .i64 n1, .int .i64 n2, .int .i64 n3, .int .i64 dn]:=by rw [hwv4]; simpa using Bk.new (v3.alloc (.cells #[.slice A8 ps.length c8] 25)) 44 #[.int .i64 n0, .int .i64 n1, .int .i64 n2, .int .i64 n3, .int .i64 dn]
    have fbw_0:=bw_.cell 0 rfl
    have fbw_1:=bw_.cell 1 rfl
    have fbw_2:=bw_.cell 2 rfl
    have ltbw_:=bw_.lt
    go_upto_region 7 with fail
    rw [← hwv4]
    clear hwv4 fbw_0 fbw_1 fbw_2 ltbw_
    have hBv4 : Below w.heap.size w v4:=hBv3.trans (hav4.mono hBv3.size)
    replace bw_:=bw_.below hav4 bw_.lt
    replace bm_:=bm_.below hav4 bm_.lt
    replace b7:=b7.below hav4 b7.lt
    replace L7:=(L7.below hav4 (Nat.le_refl _)).more hav4.size
    replace L8:=(L8.below hav4 (Nat.le_refl _)).more hav4.size
    clear hBv3
    clear hav4
    generalize v3.heap.size = g4 at *
    have fb70:=b7.cell 0 rfl
    have ltb7:=b7.lt
    go_wp2_with fail
    refine (HP1.out A7 c7 _ hBv4 L7).mono ?_
    rintro e v5 ⟨rfl,hbv5⟩
    clear fb70 ltb7
    have hBv5 : Below w.heap.size w v5:=hBv4.trans (hbv5.mono hBv4.size)
    replace bw_:=bw_.below hbv5 bw_.lt
    replace bm_:=bm_.below hbv5 bm_.lt
    replace b7:=b7.below hbv5 b7.lt
    replace b8:=b8.below hbv5 b8.lt
    replace b9:=b9.below hbv5 b9.lt
    replace L7:=(L7.below hbv5 (Nat.le_refl _)).more hbv5.size
    replace L8:=(L8.below hbv5 (Nat.le_refl _)).more hbv5.size
    clear hBv4
    clear hbv5
    obtain ⟨v6,hwv6⟩ : ∃ v,v = v5.alloc (.cells #[.int .i64 P1, .int .i64 P2] 29):=⟨_,rfl⟩
    have hav6 : Below v5.heap.size v5 v6:=by rw [hwv6]; exact ((Below.refl _ v5).alloc (Nat.le_refl _) _)
    have b13 : Bk v6 v5.heap.size 29 #[.int .i64 P1, .int .i64 P2]:=by rw [hwv6]; simpa using Bk.new v5 29 #[.int .i64 P1, .int .i64 P2]
    have fb70:=b7.cell 0 rfl
    have ltb7:=b7.lt
    go_upto_region 8 with fail
    rw [← hwv6]
    clear hwv6 fb70 ltb7
    have hBv6 : Below w.heap.size w v6:=hBv5.trans (hav6.mono hBv5.size)
    replace bw_:=bw_.below hav6 bw_.lt
    replace bm_:=bm_.below hav6 bm_.lt
    replace b7:=b7.below hav6 b7.lt
    replace b8:=b8.below hav6 b8.lt
    replace b9:=b9.below hav6 b9.lt
    replace L7:=(L7.below hav6 (Nat.le_refl _)).more hav6.size
    replace L8:=(L8.below hav6 (Nat.le_refl _)).more hav6.size
    clear hBv5
    clear hav6
    generalize v5.heap.size = g6 at *
    have fb80:=b8.cell 0 rfl
    have ltb8:=b8.lt
    go_wp2_with fail
    refine (HP2.out A8 c8 _ hBv6 L8).mono ?_
    rintro e v7 ⟨rfl,hbv7⟩
    clear fb80 ltb8
    have hBv7 : Below w.heap.size w v7:=hBv6.trans (hbv7.mono hBv6.size)
    replace bw_:=bw_.below hbv7 bw_.lt
    replace bm_:=bm_.below hbv7 bm_.lt
    replace b7:=b7.below hbv7 b7.lt
    replace b8:=b8.below hbv7 b8.lt
    replace b9:=b9.below hbv7 b9.lt
    replace b13:=b13.below hbv7 b13.lt
    replace L7:=(L7.below hbv7 (Nat.le_refl _)).more hbv7.size
    replace L8:=(L8.below hbv7 (Nat.le_refl _)).more hbv7.size
    clear hBv6
    clear hbv7
    obtain ⟨v8,hwv8⟩ : ∃ v,v = v7.alloc (.cells #[.int .i64 Q1, .int .i64 Q2] 29):=⟨_,rfl⟩
    have hav8 : Below v7.heap.size v7 v8:=by rw [hwv8]; exact ((Below.refl _ v7).alloc (Nat.le_refl _) _)
    have b15 : Bk v8 v7.heap.size 29 #[.int .i64 Q1, .int .i64 Q2]:=by rw [hwv8]; simpa using Bk.new v7 29 #[.int .i64 Q1, .int .i64 Q2]
    have fb80:=b8.cell 0 rfl
    have ltb8:=b8.lt
    go_upto_region 9 with fail
    rw [← hwv8]
    clear hwv8 fb80 ltb8
    have hBv8 : Below w.heap.size w v8:=hBv7.trans (hav8.mono hBv7.size)
    replace bw_:=bw_.below hav8 bw_.lt
    replace bm_:=bm_.below hav8 bm_.lt
    replace b7:=b7.below hav8 b7.lt
    replace b8:=b8.below hav8 b8.lt
    replace b9:=b9.below hav8 b9.lt
    replace b13:=b13.below hav8 b13.lt
    replace L7:=(L7.below hav8 (Nat.le_refl _)).more hav8.size
    replace L8:=(L8.below hav8 (Nat.le_refl _)).more hav8.size
    clear hBv7
    clear hav8
    generalize v7.heap.size = g8 at *
    have fbw_0:=bw_.cell 0 rfl
    have fbw_1:=bw_.cell 1 rfl
    have fbw_2:=bw_.cell 2 rfl
    have ltbw_:=bw_.lt
    have fb70:=b7.cell 0 rfl
    have ltb7:=b7.lt
    go_wp2_with fail
    refine (HS1.out A7 c7 _ hBv8 L7).mono ?_
    rintro e v9 ⟨rfl,hbv9⟩
    clear fbw_0 fbw_1 fbw_2 ltbw_ fb70 ltb7
    have hBv9 : Below w.heap.size w v9:=hBv8.trans (hbv9.mono hBv8.size)
    replace bw_:=bw_.below hbv9 bw_.lt
    replace bm_:=bm_.below hbv9 bm_.lt
    replace b7:=b7.below hbv9 b7.lt
    replace b8:=b8.below hbv9 b8.lt
    replace b9:=b9.below hbv9 b9.lt
    replace b13:=b13.below hbv9 b13.lt
    replace b15:=b15.below hbv9 b15.lt
    replace L7:=(L7.below hbv9 (Nat.le_refl _)).more hbv9.size
    replace L8:=(L8.below hbv9 (Nat.le_refl _)).more hbv9.size
    clear hBv8
    clear hbv9
    have fbw_0:=bw_.cell 0 rfl
    have fbw_1:=bw_.cell 1 rfl
    have fbw_2:=bw_.cell 2 rfl
    have ltbw_:=bw_.lt
    have fb80:=b8.cell 0 rfl
    have ltb8:=b8.lt
    go_wp2_with fail
    refine (HS2.out A8 c8 _ hBv9 L8).mono ?_
    rintro e v10 ⟨rfl,hbv10⟩
    clear fbw_0 fbw_1 fbw_2 ltbw_ fb80 ltb8
    have hBv10 : Below w.heap.size w v10:=hBv9.trans (hbv10.mono hBv9.size)
    replace bw_:=bw_.below hbv10 bw_.lt
    replace bm_:=bm_.below hbv10 bm_.lt
    replace b7:=b7.below hbv10 b7.lt
    replace b8:=b8.below hbv10 b8.lt
    replace b9:=b9.below hbv10 b9.lt
    replace b13:=b13.below hbv10 b13.lt
    replace b15:=b15.below hbv10 b15.lt
    replace L7:=(L7.below hbv10 (Nat.le_refl _)).more hbv10.size
    replace L8:=(L8.below hbv10 (Nat.le_refl _)).more hbv10.size
    clear hBv9
    clear hbv10
    have fb130:=b13.cell 0 rfl
    have fb131:=b13.cell 1 rfl
    have ltb13:=b13.lt
    have fb150:=b15.cell 0 rfl
    have fb151:=b15.cell 1 rfl
    have ltb15:=b15.lt
    go_wp2_with fail
    refine (HL1.out _).mono ?_
    rintro e v11 ⟨rfl,hbv11⟩
    clear fb130 fb131 ltb13 fb150 fb151 ltb15
    have hBv11 : Below w.heap.size w v11:=hBv10.trans (hbv11.mono hBv10.size)
    replace bw_:=bw_.below hbv11 bw_.lt
    replace bm_:=bm_.below hbv11 bm_.lt
    replace b7:=b7.below hbv11 b7.lt
    replace b8:=b8.below hbv11 b8.lt
    replace b9:=b9.below hbv11 b9.lt
    replace b13:=b13.below hbv11 b13.lt
    replace b15:=b15.below hbv11 b15.lt
    replace L7:=(L7.below hbv11 (Nat.le_refl _)).more hbv11.size
    replace L8:=(L8.below hbv11 (Nat.le_refl _)).more hbv11.size
    clear hBv10
    clear hbv11
    go_upto_region 14 with fail
    go_cut [18] (fun s18 wx=>∃ (A6 : Option Addr) (c6 : Nat),s18 = .slice A6 (l.length + 1) c6 ∧ Lies wx wx.heap.size A6 (tintsC M) ∧ Below v11.heap.size v11 wx)
    case first =>
     obtain ⟨i0,hi0,hz0,hz1,hz2⟩:=info_parts info39
     have I3:=Lib.hid (And.intro hi0 (And.intro hz0 (And.intro hz1 hz2)))
     clear hi0 hz0 hz1 hz2
     have hl1:=HL1'.out
     obtain ⟨ad,rfl,hadb,hcd⟩:=HLT.out (fun e=>by have h5:=tintsC_length l; rw [e] at h5; simp at h5; omega)
     have hBV:=hBv11
     have HS : Hid (∀ u,Below v11.heap.size v11 u → u.cell? ⟨w.heap.size + 1,0,none⟩ = some (.string nm) ∧ u.cell? ⟨w.heap.size + 1,1,none⟩ = some (.int .i64 a1) ∧ u.cell? ⟨w.heap.size + 1,2,none⟩ = some (.int .i64 a2) ∧ u.cell? ⟨w.heap.size + 1,3,none⟩ = some (.int .i64 a3) ∧ u.cell? ⟨w.heap.size + 1,4,none⟩ = some (.int .i64 pr)):=fun u hu=>by
      have h:=bm_.below hu bm_.lt
      exact ⟨h.cell 0 rfl,h.cell 1 rfl,h.cell 2 rfl,h.cell 3 rfl,h.cell 4 rfl⟩
     refine wp_region_held_drew (S:=fun u=>u.cell? ⟨w.heap.size + 1,0,none⟩ = some (.string nm) ∧ u.cell? ⟨w.heap.size + 1,1,none⟩ = some (.int .i64 a1) ∧ u.cell? ⟨w.heap.size + 1,2,none⟩ = some (.int .i64 a2) ∧ u.cell? ⟨w.heap.size + 1,3,none⟩ = some (.int .i64 a3) ∧ u.cell? ⟨w.heap.size + 1,4,none⟩ = some (.int .i64 pr)) (by kernel_rfl) (HS.out _ (Below.refl _ _).drew) (fun hHeld=>?_)
     have hbu0 : Below v11.heap.size v11 v11.drew:=(Below.refl _ _).drew
     generalize v11.drew = u0 at *
     refine tk 1 106 ?_
     refine tk 3 108 ?_
     refine held_two 0 4 ⟨some 105, .buildSlice 22 0 #[],22,_,_,none⟩ ⟨some 109, .buildSlice 22 1 #[(0, .tmp 108)],22,_,_,none⟩ rfl rfl (by kernel_rfl) (by rfl) (by rfl) ?_ ?_
     ·unfold Oper.wp
      go_simp
      have hbu1 : Below v11.heap.size v11 (u0.alloc (.cells #[] 39)):=hbu0.alloc hbu0.size _
      refine ⟨HS.out _ hbu1,?_⟩
      (try simp only [Act.put,List.setIfInBounds_toArray,List.set_cons_zero,List.set_cons_succ])
      obtain ⟨gz,hgz⟩ : ∃ v,v = u0.heap.size:=⟨_,rfl⟩
      rw [← hgz]
      clear hgz
      obtain ⟨u1,huu1⟩ : ∃ v,v = u0.alloc (.cells #[] 39):=⟨_,rfl⟩
      rw [← huu1] at hbu1 ⊢
      clear huu1
      refine held_two 2 4 ⟨some 107, .call { callee:=.builtin .append,args:=#[.tmp 105, .tmp 106],argTypes:=#[22,22] },22,_,_,none⟩ ⟨some 109, .buildSlice 22 1 #[(0, .tmp 108)],22,_,_,none⟩ rfl rfl (by kernel_rfl) (by rfl) (by rfl) ?_ ?_
      ·refine wp_append_grows _ (.tmp 105) (.tmp 106) 22 rfl 39 i0 (.agg #[.string ByteArray.empty, .int .i64 0, .int .i64 0, .int .i64 0, .int .i64 0]) 5 48 Try.underlying22 I3.out.1 I3.out.2.1 I3.out.2.2.1 I3.out.2.2.2 rfl (by decide) (some ⟨gz,0,none⟩) 0 0 [] rfl (fun h=>by cases h) rfl (fun b _ j u h=>by simp at h) ad l.length ct (tintsC l) rfl (tintsC_length l) (fun j u hj=>((hBV.trans (hbu1.mono hBV.size)).cell (by rw [add_block]; exact hadb)).trans (hcd j u hj)) (tintsC_one l) (by omega) (by unfold maxLen; omega) (by omega) ?_
       intro va u2 ow hgu2
       have hbu2 : Below v11.heap.size v11 u2:=Below.grown hbu1 hgu2 hbu1.size (fun g e=>by cases e)
       have hbs:=hbu1.size
       replace ow:=own_more ow hbs
       refine ⟨HS.out _ hbu2,?_⟩
       (try simp only [Act.put,List.setIfInBounds_toArray,List.set_cons_zero,List.set_cons_succ])
       refine held_one 4 ⟨some 109, .buildSlice 22 1 #[(0, .tmp 108)],22,_,_,none⟩ rfl (by kernel_rfl) (by rfl) ?_
       unfold Oper.wp
       go_simp
       have hbu3 : Below v11.heap.size v11 (u2.alloc (.cells #[.string nm, .int .i64 a1, .int .i64 a2, .int .i64 a3, .int .i64 pr] 39)):=hbu2.alloc hbu2.size _
       have bx : Bk (u2.alloc (.cells #[.string nm, .int .i64 a1, .int .i64 a2, .int .i64 a3, .int .i64 pr] 39)) u2.heap.size 39 #[.string nm, .int .i64 a1, .int .i64 a2, .int .i64 a3, .int .i64 pr]:=Bk.new _ _ _
       have owu3:=ow.alloc (.cells #[.string nm, .int .i64 a1, .int .i64 a2, .int .i64 a3, .int .i64 pr] 39)
       refine ⟨HS.out _ hbu3,?_⟩
       (try simp only [Act.put,List.setIfInBounds_toArray,List.set_cons_zero,List.set_cons_succ])
       obtain ⟨gx,hgx⟩ : ∃ v,v = u2.heap.size:=⟨_,rfl⟩
       rw [← hgx] at bx ⊢
       clear hgx
       obtain ⟨u3,huu3⟩ : ∃ v,v = u2.alloc (.cells #[.string nm, .int .i64 a1, .int .i64 a2, .int .i64 a3, .int .i64 pr] 39):=⟨_,rfl⟩
       rw [← huu3] at hbu3 bx owu3 ⊢
       clear huu3
       replace ow:=owu3
       refine held_one 5 ⟨some 110, .call { callee:=.builtin .append,args:=#[.tmp 107, .tmp 109],argTypes:=#[22,22] },22,_,_,none⟩ rfl (by kernel_rfl) (by rfl) ?_
       refine wp_append_own _ (.tmp 107) (.tmp 109) 22 rfl 39 i0 (.agg #[.string ByteArray.empty, .int .i64 0, .int .i64 0, .int .i64 0, .int .i64 0]) 5 48 Try.underlying22 I3.out.1 I3.out.2.1 I3.out.2.2.1 I3.out.2.2.2 rfl (by decide) v11.heap.size va (0 + l.length) ([] ++ tintsC l) rfl ow ⟨gx,0,none⟩ 1 1 [.string nm, .int .i64 a1, .int .i64 a2, .int .i64 a3, .int .i64 pr] rfl rfl (bk_cells bx) ?_ (by unfold maxLen; omega) (by omega) hbu3.size ?_
       ·intro u hu; simp only [List.mem_cons,List.not_mem_nil,or_false] at hu; rcases hu with rfl | rfl | rfl | rfl | rfl <;> rfl
       intro vb u4 ow2 hgu4
       have hbu4 : Below v11.heap.size v11 u4:=Below.grown hbu3 hgu4 hbu3.size (fun g e=>(ow.lt g e).1)
       refine ⟨HS.out _ hbu4,?_⟩
       (try simp only [Act.put,List.setIfInBounds_toArray,List.set_cons_zero,List.set_cons_succ])
       have hHeld:=HS.out _ hbu4
       refine tk 6 18 ?_
       refine wpAnyH_done (by kernel_rfl) ?_ _
       rw [List.nil_append,HTS.out,Nat.zero_add] at ow2
       obtain ⟨A6,c6,rfl,_,_⟩:=ownsSlice ow2
       go_wp2_with fail
       go_meet
       exact ⟨A6,c6,rfl,ownsRow_lies ow2,hbu4⟩
      ·unfold Oper.wp
       go_simp
       have hbu2 : Below v11.heap.size v11 (u1.alloc (.cells #[.string nm, .int .i64 a1, .int .i64 a2, .int .i64 a3, .int .i64 pr] 39)):=hbu1.alloc hbu1.size _
       have bx : Bk (u1.alloc (.cells #[.string nm, .int .i64 a1, .int .i64 a2, .int .i64 a3, .int .i64 pr] 39)) u1.heap.size 39 #[.string nm, .int .i64 a1, .int .i64 a2, .int .i64 a3, .int .i64 pr]:=Bk.new _ _ _
       refine ⟨HS.out _ hbu2,?_⟩
       (try simp only [Act.put,List.setIfInBounds_toArray,List.set_cons_zero,List.set_cons_succ])
       obtain ⟨gx,hgx⟩ : ∃ v,v = u1.heap.size:=⟨_,rfl⟩
       rw [← hgx] at bx ⊢
       clear hgx
       obtain ⟨u2,huu2⟩ : ∃ v,v = u1.alloc (.cells #[.string nm, .int .i64 a1, .int .i64 a2, .int .i64 a3, .int .i64 pr] 39):=⟨_,rfl⟩
       rw [← huu2] at hbu2 bx ⊢
       clear huu2
       refine held_one 2 ⟨some 107, .call { callee:=.builtin .append,args:=#[.tmp 105, .tmp 106],argTypes:=#[22,22] },22,_,_,none⟩ rfl (by kernel_rfl) (by rfl) ?_
       refine wp_append_grows _ (.tmp 105) (.tmp 106) 22 rfl 39 i0 (.agg #[.string ByteArray.empty, .int .i64 0, .int .i64 0, .int .i64 0, .int .i64 0]) 5 48 Try.underlying22 I3.out.1 I3.out.2.1 I3.out.2.2.1 I3.out.2.2.2 rfl (by decide) (some ⟨gz,0,none⟩) 0 0 [] rfl (fun h=>by cases h) rfl (fun b _ j u h=>by simp at h) ad l.length ct (tintsC l) rfl (tintsC_length l) (fun j u hj=>((hBV.trans (hbu2.mono hBV.size)).cell (by rw [add_block]; exact hadb)).trans (hcd j u hj)) (tintsC_one l) (by omega) (by unfold maxLen; omega) (by omega) ?_
       intro va u3 ow hgu3
       have hbu3 : Below v11.heap.size v11 u3:=Below.grown hbu2 hgu3 hbu2.size (fun g e=>by cases e)
       replace bx:=bx.grown hgu3 (fun e=>by cases e)
       have hbs:=hbu2.size
       replace ow:=own_more ow hbs
       refine ⟨HS.out _ hbu3,?_⟩
       (try simp only [Act.put,List.setIfInBounds_toArray,List.set_cons_zero,List.set_cons_succ])
       refine held_one 5 ⟨some 110, .call { callee:=.builtin .append,args:=#[.tmp 107, .tmp 109],argTypes:=#[22,22] },22,_,_,none⟩ rfl (by kernel_rfl) (by rfl) ?_
       refine wp_append_own _ (.tmp 107) (.tmp 109) 22 rfl 39 i0 (.agg #[.string ByteArray.empty, .int .i64 0, .int .i64 0, .int .i64 0, .int .i64 0]) 5 48 Try.underlying22 I3.out.1 I3.out.2.1 I3.out.2.2.1 I3.out.2.2.2 rfl (by decide) v11.heap.size va (0 + l.length) ([] ++ tintsC l) rfl ow ⟨gx,0,none⟩ 1 1 [.string nm, .int .i64 a1, .int .i64 a2, .int .i64 a3, .int .i64 pr] rfl rfl (bk_cells bx) ?_ (by unfold maxLen; omega) (by omega) hbu3.size ?_
       ·intro u hu; simp only [List.mem_cons,List.not_mem_nil,or_false] at hu; rcases hu with rfl | rfl | rfl | rfl | rfl <;> rfl
       intro vb u4 ow2 hgu4
       have hbu4 : Below v11.heap.size v11 u4:=Below.grown hbu3 hgu4 hbu3.size (fun g e=>(ow.lt g e).1)
       refine ⟨HS.out _ hbu4,?_⟩
       (try simp only [Act.put,List.setIfInBounds_toArray,List.set_cons_zero,List.set_cons_succ])
       have hHeld:=HS.out _ hbu4
       refine tk 6 18 ?_
       refine wpAnyH_done (by kernel_rfl) ?_ _
       rw [List.nil_append,HTS.out,Nat.zero_add] at ow2
       obtain ⟨A6,c6,rfl,_,_⟩:=ownsSlice ow2
       go_wp2_with fail
       go_meet
       exact ⟨A6,c6,rfl,ownsRow_lies ow2,hbu4⟩
     ·unfold Oper.wp
      go_simp
      have hbu1 : Below v11.heap.size v11 (u0.alloc (.cells #[.string nm, .int .i64 a1, .int .i64 a2, .int .i64 a3, .int .i64 pr] 39)):=hbu0.alloc hbu0.size _
      have bx : Bk (u0.alloc (.cells #[.string nm, .int .i64 a1, .int .i64 a2, .int .i64 a3, .int .i64 pr] 39)) u0.heap.size 39 #[.string nm, .int .i64 a1, .int .i64 a2, .int .i64 a3, .int .i64 pr]:=Bk.new _ _ _
      refine ⟨HS.out _ hbu1,?_⟩
      (try simp only [Act.put,List.setIfInBounds_toArray,List.set_cons_zero,List.set_cons_succ])
      obtain ⟨gx,hgx⟩ : ∃ v,v = u0.heap.size:=⟨_,rfl⟩
      rw [← hgx] at bx ⊢
      clear hgx
      obtain ⟨u1,huu1⟩ : ∃ v,v = u0.alloc (.cells #[.string nm, .int .i64 a1, .int .i64 a2, .int .i64 a3, .int .i64 pr] 39):=⟨_,rfl⟩
      rw [← huu1] at hbu1 bx ⊢
      clear huu1
      refine held_one 0 ⟨some 105, .buildSlice 22 0 #[],22,_,_,none⟩ rfl (by kernel_rfl) (by rfl) ?_
      unfold Oper.wp
      go_simp
      have hbu2 : Below v11.heap.size v11 (u1.alloc (.cells #[] 39)):=hbu1.alloc hbu1.size _
      have bxu2:=bx.alloc (.cells #[] 39)
      refine ⟨HS.out _ hbu2,?_⟩
      (try simp only [Act.put,List.setIfInBounds_toArray,List.set_cons_zero,List.set_cons_succ])
      obtain ⟨gz,hgz⟩ : ∃ v,v = u1.heap.size:=⟨_,rfl⟩
      rw [← hgz]
      clear hgz
      obtain ⟨u2,huu2⟩ : ∃ v,v = u1.alloc (.cells #[] 39):=⟨_,rfl⟩
      rw [← huu2] at hbu2 bxu2 ⊢
      clear huu2
      replace bx:=bxu2
      refine held_one 2 ⟨some 107, .call { callee:=.builtin .append,args:=#[.tmp 105, .tmp 106],argTypes:=#[22,22] },22,_,_,none⟩ rfl (by kernel_rfl) (by rfl) ?_
      refine wp_append_grows _ (.tmp 105) (.tmp 106) 22 rfl 39 i0 (.agg #[.string ByteArray.empty, .int .i64 0, .int .i64 0, .int .i64 0, .int .i64 0]) 5 48 Try.underlying22 I3.out.1 I3.out.2.1 I3.out.2.2.1 I3.out.2.2.2 rfl (by decide) (some ⟨gz,0,none⟩) 0 0 [] rfl (fun h=>by cases h) rfl (fun b _ j u h=>by simp at h) ad l.length ct (tintsC l) rfl (tintsC_length l) (fun j u hj=>((hBV.trans (hbu2.mono hBV.size)).cell (by rw [add_block]; exact hadb)).trans (hcd j u hj)) (tintsC_one l) (by omega) (by unfold maxLen; omega) (by omega) ?_
      intro va u3 ow hgu3
      have hbu3 : Below v11.heap.size v11 u3:=Below.grown hbu2 hgu3 hbu2.size (fun g e=>by cases e)
      replace bx:=bx.grown hgu3 (fun e=>by cases e)
      have hbs:=hbu2.size
      replace ow:=own_more ow hbs
      refine ⟨HS.out _ hbu3,?_⟩
      (try simp only [Act.put,List.setIfInBounds_toArray,List.set_cons_zero,List.set_cons_succ])
      refine held_one 5 ⟨some 110, .call { callee:=.builtin .append,args:=#[.tmp 107, .tmp 109],argTypes:=#[22,22] },22,_,_,none⟩ rfl (by kernel_rfl) (by rfl) ?_
      refine wp_append_own _ (.tmp 107) (.tmp 109) 22 rfl 39 i0 (.agg #[.string ByteArray.empty, .int .i64 0, .int .i64 0, .int .i64 0, .int .i64 0]) 5 48 Try.underlying22 I3.out.1 I3.out.2.1 I3.out.2.2.1 I3.out.2.2.2 rfl (by decide) v11.heap.size va (0 + l.length) ([] ++ tintsC l) rfl ow ⟨gx,0,none⟩ 1 1 [.string nm, .int .i64 a1, .int .i64 a2, .int .i64 a3, .int .i64 pr] rfl rfl (bk_cells bx) ?_ (by unfold maxLen; omega) (by omega) hbu3.size ?_
      ·intro u hu; simp only [List.mem_cons,List.not_mem_nil,or_false] at hu; rcases hu with rfl | rfl | rfl | rfl | rfl <;> rfl
      intro vb u4 ow2 hgu4
      have hbu4 : Below v11.heap.size v11 u4:=Below.grown hbu3 hgu4 hbu3.size (fun g e=>(ow.lt g e).1)
      refine ⟨HS.out _ hbu4,?_⟩
      (try simp only [Act.put,List.setIfInBounds_toArray,List.set_cons_zero,List.set_cons_succ])
      have hHeld:=HS.out _ hbu4
      refine tk 6 18 ?_
      refine wpAnyH_done (by kernel_rfl) ?_ _
      rw [List.nil_append,HTS.out,Nat.zero_add] at ow2
      obtain ⟨A6,c6,rfl,_,_⟩:=ownsSlice ow2
      go_wp2_with fail
      go_meet
      exact ⟨A6,c6,rfl,ownsRow_lies ow2,hbu4⟩
    case rest =>
    obtain ⟨A6,c6,rfl,L6,hbc⟩:=hcut
    have hBwc : Below w.heap.size w wc:=hBv11.trans (hbc.mono hBv11.size)
    replace bw_:=bw_.below hbc bw_.lt
    replace bm_:=bm_.below hbc bm_.lt
    replace b7:=b7.below hbc b7.lt
    replace b8:=b8.below hbc b8.lt
    replace b9:=b9.below hbc b9.lt
    replace b13:=b13.below hbc b13.lt
    replace b15:=b15.below hbc b15.lt
    replace L7:=(L7.below hbc (Nat.le_refl _)).more hbc.size
    replace L8:=(L8.below hbc (Nat.le_refl _)).more hbc.size
    clear hBv11
    clear hbc
    obtain ⟨q2,hq2⟩ : ∃ q,q = chkW M x y z:=⟨_,rfl⟩
    rw [← hq2] at HR2 HALL
    clear hq2
    by_cases h2 : q2 = 0
    ·subst h2
     obtain ⟨p2,R1,R2,hc2,hp2,hl2⟩:=HALL.out rfl
     have HC2:=Lib.hid hc2
     have HP3:=Lib.hid hp2
     have HL2:=Lib.hid hl2
     clear hc2 hp2 hl2
     have fbw_0:=bw_.cell 0 rfl
     have fbw_1:=bw_.cell 1 rfl
     have fbw_2:=bw_.cell 2 rfl
     have ltbw_:=bw_.lt
     go_wp2_with fail
     refine (HR2.out A6 c6 _ L6).mono ?_
     rintro e v12 ⟨A19,n19,c19,bb,rfl,hbv12,hbb⟩
     obtain rfl:=hbb (by first | trivial | rfl)
     clear fbw_0 fbw_1 fbw_2 ltbw_
     have hBv12 : Below w.heap.size w v12:=hBwc.trans (hbv12.mono hBwc.size)
     replace bw_:=bw_.below hbv12 bw_.lt
     replace bm_:=bm_.below hbv12 bm_.lt
     replace b7:=b7.below hbv12 b7.lt
     replace b8:=b8.below hbv12 b8.lt
     replace b9:=b9.below hbv12 b9.lt
     replace b13:=b13.below hbv12 b13.lt
     replace b15:=b15.below hbv12 b15.lt
     replace L7:=(L7.below hbv12 (Nat.le_refl _)).more hbv12.size
     replace L8:=(L8.below hbv12 (Nat.le_refl _)).more hbv12.size
     replace L6:=(L6.below hbv12 (Nat.le_refl _)).more hbv12.size
     clear hBwc
     clear hbv12
     obtain ⟨v13,hwv13⟩ : ∃ v,v = v12.alloc (.cells #[.slice A19 n19 c19] 25):=⟨_,rfl⟩
     have hav13 : Below v12.heap.size v12 v13:=by rw [hwv13]; exact ((Below.refl _ v12).alloc (Nat.le_refl _) _)
     have b19 : Bk v13 v12.heap.size 25 #[.slice A19 n19 c19]:=by rw [hwv13]; simpa using Bk.new v12 25 #[.slice A19 n19 c19]
     have fbw_0:=bw_.cell 0 rfl
     have fbw_1:=bw_.cell 1 rfl
     have fbw_2:=bw_.cell 2 rfl
     have ltbw_:=bw_.lt
     go_upto_region 16 with fail
     rw [← hwv13]
     clear hwv13 fbw_0 fbw_1 fbw_2 ltbw_
     have hBv13 : Below w.heap.size w v13:=hBv12.trans (hav13.mono hBv12.size)
     replace bw_:=bw_.below hav13 bw_.lt
     replace bm_:=bm_.below hav13 bm_.lt
     replace b7:=b7.below hav13 b7.lt
     replace b8:=b8.below hav13 b8.lt
     replace b9:=b9.below hav13 b9.lt
     replace b13:=b13.below hav13 b13.lt
     replace b15:=b15.below hav13 b15.lt
     replace L7:=(L7.below hav13 (Nat.le_refl _)).more hav13.size
     replace L8:=(L8.below hav13 (Nat.le_refl _)).more hav13.size
     replace L6:=(L6.below hav13 (Nat.le_refl _)).more hav13.size
     clear hBv12
     clear hav13
     generalize v12.heap.size = g13 at *
     have fbw_0:=bw_.cell 0 rfl
     have fbw_1:=bw_.cell 1 rfl
     have fbw_2:=bw_.cell 2 rfl
     have ltbw_:=bw_.lt
     go_wp2_with fail
     refine (HC2.out A6 c6 _ L6).mono ?_
     rintro e v14 ⟨A22,c22,k0,k1,k2,k3,kn,rfl,L22,hbv14⟩
     clear fbw_0 fbw_1 fbw_2 ltbw_
     have hBv14 : Below w.heap.size w v14:=hBv13.trans (hbv14.mono hBv13.size)
     replace bw_:=bw_.below hbv14 bw_.lt
     replace bm_:=bm_.below hbv14 bm_.lt
     replace b7:=b7.below hbv14 b7.lt
     replace b8:=b8.below hbv14 b8.lt
     replace b9:=b9.below hbv14 b9.lt
     replace b13:=b13.below hbv14 b13.lt
     replace b15:=b15.below hbv14 b15.lt
     replace b19:=b19.below hbv14 b19.lt
     replace L7:=(L7.below hbv14 (Nat.le_refl _)).more hbv14.size
     replace L8:=(L8.below hbv14 (Nat.le_refl _)).more hbv14.size
     replace L6:=(L6.below hbv14 (Nat.le_refl _)).more hbv14.size
     clear hBv13
     clear hbv14
     obtain ⟨v15,hwv15⟩ : ∃ v,v = (v14.alloc (.cells #[.slice A22 p2.length c22] 25)).alloc (.cells #[.int .i64 k0, .int .i64 k1, .int .i64 k2, .int .i64 k3, .int .i64 kn] 44):=⟨_,rfl⟩
     have hav15 : Below v14.heap.size v14 v15:=by rw [hwv15]; exact (((Below.refl _ v14).alloc (Nat.le_refl _) _).alloc (by simp) _)
     have b22 : Bk v15 v14.heap.size 25 #[.slice A22 p2.length c22]:=by rw [hwv15]; simpa using (Bk.new v14 25 #[.slice A22 p2.length c22]).alloc _
     have b23 : Bk v15 (v14.heap.size + 1) 44 #[.int .i64 k0, .int .i64 k1, .int .i64 k2, .int .i64 k3, .int .i64 kn]:=by rw [hwv15]; simpa using Bk.new (v14.alloc (.cells #[.slice A22 p2.length c22] 25)) 44 #[.int .i64 k0, .int .i64 k1, .int .i64 k2, .int .i64 k3, .int .i64 kn]
     have fbw_0:=bw_.cell 0 rfl
     have fbw_1:=bw_.cell 1 rfl
     have fbw_2:=bw_.cell 2 rfl
     have ltbw_:=bw_.lt
     go_upto_region 19 with fail
     rw [← hwv15]
     clear hwv15 fbw_0 fbw_1 fbw_2 ltbw_
     have hBv15 : Below w.heap.size w v15:=hBv14.trans (hav15.mono hBv14.size)
     replace bw_:=bw_.below hav15 bw_.lt
     replace bm_:=bm_.below hav15 bm_.lt
     replace b7:=b7.below hav15 b7.lt
     replace b8:=b8.below hav15 b8.lt
     replace b9:=b9.below hav15 b9.lt
     replace b13:=b13.below hav15 b13.lt
     replace b15:=b15.below hav15 b15.lt
     replace b19:=b19.below hav15 b19.lt
     replace L7:=(L7.below hav15 (Nat.le_refl _)).more hav15.size
     replace L8:=(L8.below hav15 (Nat.le_refl _)).more hav15.size
     replace L6:=(L6.below hav15 (Nat.le_refl _)).more hav15.size
     replace L22:=(L22.below hav15 (Nat.le_refl _)).more hav15.size
     clear hBv14
     clear hav15
     generalize v14.heap.size = g15 at *
     have fb220:=b22.cell 0 rfl
     have ltb22:=b22.lt
     go_wp2_with fail
     refine (HP3.out A6 A22 c6 c22 _ L6 L22).mono ?_
     rintro e v16 ⟨rfl,hbv16⟩
     clear fb220 ltb22
     have hBv16 : Below w.heap.size w v16:=hBv15.trans (hbv16.mono hBv15.size)
     replace bw_:=bw_.below hbv16 bw_.lt
     replace bm_:=bm_.below hbv16 bm_.lt
     replace b7:=b7.below hbv16 b7.lt
     replace b8:=b8.below hbv16 b8.lt
     replace b9:=b9.below hbv16 b9.lt
     replace b13:=b13.below hbv16 b13.lt
     replace b15:=b15.below hbv16 b15.lt
     replace b19:=b19.below hbv16 b19.lt
     replace b22:=b22.below hbv16 b22.lt
     replace b23:=b23.below hbv16 b23.lt
     replace L7:=(L7.below hbv16 (Nat.le_refl _)).more hbv16.size
     replace L8:=(L8.below hbv16 (Nat.le_refl _)).more hbv16.size
     replace L6:=(L6.below hbv16 (Nat.le_refl _)).more hbv16.size
     replace L22:=(L22.below hbv16 (Nat.le_refl _)).more hbv16.size
     clear hBv15
     clear hbv16
     obtain ⟨v17,hwv17⟩ : ∃ v,v = v16.alloc (.cells #[.int .i64 R1, .int .i64 R2] 29):=⟨_,rfl⟩
     have hav17 : Below v16.heap.size v16 v17:=by rw [hwv17]; exact ((Below.refl _ v16).alloc (Nat.le_refl _) _)
     have b25 : Bk v17 v16.heap.size 29 #[.int .i64 R1, .int .i64 R2]:=by rw [hwv17]; simpa using Bk.new v16 29 #[.int .i64 R1, .int .i64 R2]
     have fb220:=b22.cell 0 rfl
     have ltb22:=b22.lt
     go_upto_region 20 with fail
     rw [← hwv17]
     clear hwv17 fb220 ltb22
     have hBv17 : Below w.heap.size w v17:=hBv16.trans (hav17.mono hBv16.size)
     replace bw_:=bw_.below hav17 bw_.lt
     replace bm_:=bm_.below hav17 bm_.lt
     replace b7:=b7.below hav17 b7.lt
     replace b8:=b8.below hav17 b8.lt
     replace b9:=b9.below hav17 b9.lt
     replace b13:=b13.below hav17 b13.lt
     replace b15:=b15.below hav17 b15.lt
     replace b19:=b19.below hav17 b19.lt
     replace b22:=b22.below hav17 b22.lt
     replace b23:=b23.below hav17 b23.lt
     replace L7:=(L7.below hav17 (Nat.le_refl _)).more hav17.size
     replace L8:=(L8.below hav17 (Nat.le_refl _)).more hav17.size
     replace L6:=(L6.below hav17 (Nat.le_refl _)).more hav17.size
     replace L22:=(L22.below hav17 (Nat.le_refl _)).more hav17.size
     clear hBv16
     clear hav17
     generalize v16.heap.size = g17 at *
     have fb150:=b15.cell 0 rfl
     have fb151:=b15.cell 1 rfl
     have ltb15:=b15.lt
     have fb250:=b25.cell 0 rfl
     have fb251:=b25.cell 1 rfl
     have ltb25:=b25.lt
     go_wp2_with fail
     refine (HL2.out _).mono ?_
     rintro e v18 ⟨rfl,hbv18⟩
     clear fb150 fb151 ltb15 fb250 fb251 ltb25
     have hBv18 : Below w.heap.size w v18:=hBv17.trans (hbv18.mono hBv17.size)
     replace bw_:=bw_.below hbv18 bw_.lt
     replace bm_:=bm_.below hbv18 bm_.lt
     replace b7:=b7.below hbv18 b7.lt
     replace b8:=b8.below hbv18 b8.lt
     replace b9:=b9.below hbv18 b9.lt
     replace b13:=b13.below hbv18 b13.lt
     replace b15:=b15.below hbv18 b15.lt
     replace b19:=b19.below hbv18 b19.lt
     replace b22:=b22.below hbv18 b22.lt
     replace b23:=b23.below hbv18 b23.lt
     replace b25:=b25.below hbv18 b25.lt
     replace L7:=(L7.below hbv18 (Nat.le_refl _)).more hbv18.size
     replace L8:=(L8.below hbv18 (Nat.le_refl _)).more hbv18.size
     replace L6:=(L6.below hbv18 (Nat.le_refl _)).more hbv18.size
     replace L22:=(L22.below hbv18 (Nat.le_refl _)).more hbv18.size
     clear hBv17
     clear hbv18
     go_wp2_with fail
     refine (HM.out _).mono ?_
     rintro e ve ⟨rfl,hbe⟩
     have hBe : Below w.heap.size w ve:=hBv18.trans (hbe.mono hBv18.size)
     go_wp2
     go_ret
     exact ⟨rfl,hBe⟩
    ·have fbw_0:=bw_.cell 0 rfl
     have fbw_1:=bw_.cell 1 rfl
     have fbw_2:=bw_.cell 2 rfl
     have ltbw_:=bw_.lt
     go_wp2_with fail
     refine (HR2.out A6 c6 _ L6).mono ?_
     rintro e v12 ⟨A19,n19,c19,bb,rfl,hbv12,hbb⟩
     clear hbb
     clear fbw_0 fbw_1 fbw_2 ltbw_
     have hBv12 : Below w.heap.size w v12:=hBwc.trans (hbv12.mono hBwc.size)
     replace bw_:=bw_.below hbv12 bw_.lt
     replace bm_:=bm_.below hbv12 bm_.lt
     replace b7:=b7.below hbv12 b7.lt
     replace b8:=b8.below hbv12 b8.lt
     replace b9:=b9.below hbv12 b9.lt
     replace b13:=b13.below hbv12 b13.lt
     replace b15:=b15.below hbv12 b15.lt
     replace L7:=(L7.below hbv12 (Nat.le_refl _)).more hbv12.size
     replace L8:=(L8.below hbv12 (Nat.le_refl _)).more hbv12.size
     replace L6:=(L6.below hbv12 (Nat.le_refl _)).more hbv12.size
     clear hBwc
     clear hbv12
     obtain ⟨v13,hwv13⟩ : ∃ v,v = v12.alloc (.cells #[.slice A19 n19 c19] 25):=⟨_,rfl⟩
     have hav13 : Below v12.heap.size v12 v13:=by rw [hwv13]; exact ((Below.refl _ v12).alloc (Nat.le_refl _) _)
     have b19 : Bk v13 v12.heap.size 25 #[.slice A19 n19 c19]:=by rw [hwv13]; simpa using Bk.new v12 25 #[.slice A19 n19 c19]
     have fbw_0:=bw_.cell 0 rfl
     have fbw_1:=bw_.cell 1 rfl
     have fbw_2:=bw_.cell 2 rfl
     have ltbw_:=bw_.lt
     go_upto_region 16 with fail
     rw [← hwv13]
     clear hwv13 fbw_0 fbw_1 fbw_2 ltbw_
     have hBv13 : Below w.heap.size w v13:=hBv12.trans (hav13.mono hBv12.size)
     replace bw_:=bw_.below hav13 bw_.lt
     replace bm_:=bm_.below hav13 bm_.lt
     replace b7:=b7.below hav13 b7.lt
     replace b8:=b8.below hav13 b8.lt
     replace b9:=b9.below hav13 b9.lt
     replace b13:=b13.below hav13 b13.lt
     replace b15:=b15.below hav13 b15.lt
     replace L7:=(L7.below hav13 (Nat.le_refl _)).more hav13.size
     replace L8:=(L8.below hav13 (Nat.le_refl _)).more hav13.size
     replace L6:=(L6.below hav13 (Nat.le_refl _)).more hav13.size
     clear hBv12
     clear hav13
     generalize v12.heap.size = g13 at *
     go_wp2_with fail
     refine (HM.out _).mono ?_
     rintro e ve ⟨rfl,hbe⟩
     have hBe : Below w.heap.size w ve:=hBv13.trans (hbe.mono hBv13.size)
     go_wp2
     go_ret
     exact ⟨rfl,hBe⟩
   ·have HRN : Hid (∀ W,Below w.heap.size w W → Calls Try.prog 15 #[.slice At l.length ct, .agg #[.int .i64 x, .int .i64 y, .int .i64 z]] W fun e w'=>e = .returned (.tuple #[.agg #[.slice none 0 0], .bool false, .int .i64 (chkW l x y z)]) ∧ Below W.heap.size W w'):=fun W hb=>(HRE.out W hb).mono (by
     rintro e w' ⟨hb1,(⟨_,rfl⟩ | ⟨h1,_,rfl⟩ | ⟨h1,f,fs,h2,_⟩)⟩
     ·exact ⟨rfl,hb1⟩
     ·exact ⟨by rw [h1],hb1⟩
     ·exact absurd ⟨h1,by rw [h2]; simp⟩ hfd)
    obtain ⟨q,hq⟩ : ∃ q,q = chkW l x y z:=⟨_,rfl⟩
    rw [← hq] at HRN
    clear hq hfd HRE hs2 hs hlt g2 h0
    go_enter Try.func4,Try.ntmps4
    have bw_ : Bk ((w.alloc (.cells #[.int .i64 x, .int .i64 y, .int .i64 z] 37)).alloc (.cells #[.string nm, .int .i64 a1, .int .i64 a2, .int .i64 a3, .int .i64 pr] 39)) w.heap.size 37 #[.int .i64 x, .int .i64 y, .int .i64 z]:=(Bk.new _ _ _).alloc _
    have bm_ : Bk ((w.alloc (.cells #[.int .i64 x, .int .i64 y, .int .i64 z] 37)).alloc (.cells #[.string nm, .int .i64 a1, .int .i64 a2, .int .i64 a3, .int .i64 pr] 39)) (w.heap.size + 1) 39 #[.string nm, .int .i64 a1, .int .i64 a2, .int .i64 a3, .int .i64 pr]:=by simpa using Bk.new (w.alloc (.cells #[.int .i64 x, .int .i64 y, .int .i64 z] 37)) 39 #[.string nm, .int .i64 a1, .int .i64 a2, .int .i64 a3, .int .i64 pr]
    obtain ⟨v0,hw0⟩ : ∃ v,v = (w.alloc (.cells #[.int .i64 x, .int .i64 y, .int .i64 z] 37)).alloc (.cells #[.string nm, .int .i64 a1, .int .i64 a2, .int .i64 a3, .int .i64 pr] 39):=⟨_,rfl⟩
    have hBv0 : Below w.heap.size w v0:=by rw [hw0]; exact bw
    rw [← hw0] at bw_ bm_
    go_upto_region 1 with fail
    rw [← hw0]
    clear hw0
    have fbm_0:=bm_.cell 0 rfl
    have fbm_1:=bm_.cell 1 rfl
    have fbm_2:=bm_.cell 2 rfl
    have fbm_3:=bm_.cell 3 rfl
    have fbm_4:=bm_.cell 4 rfl
    have ltbm_:=bm_.lt
    go_wp2_with fail
    refine (HF.out _ hBv0).mono ?_
    rintro e w0 ⟨rfl,rfl⟩
    rw [H0.out]
    have hn60 : ¬ (60 : Int) < (nm.size : Int):=by omega
    have fbw_0:=bw_.cell 0 rfl
    have fbw_1:=bw_.cell 1 rfl
    have fbw_2:=bw_.cell 2 rfl
    have ltbw_:=bw_.lt
    go_wp2_with fail
    refine (HRN.out _ hBv0).mono ?_
    rintro e v1 ⟨rfl,hbv1⟩
    clear fbw_0 fbw_1 fbw_2 ltbw_
    have hBv1 : Below w.heap.size w v1:=hBv0.trans (hbv1.mono hBv0.size)
    replace bw_:=bw_.below hbv1 bw_.lt
    replace bm_:=bm_.below hbv1 bm_.lt
    clear hBv0
    clear hbv1
    obtain ⟨v2,hwv2⟩ : ∃ v,v = v1.alloc (.cells #[.slice none 0 0] 25):=⟨_,rfl⟩
    have hav2 : Below v1.heap.size v1 v2:=by rw [hwv2]; exact ((Below.refl _ v1).alloc (Nat.le_refl _) _)
    have b7 : Bk v2 v1.heap.size 25 #[.slice none 0 0]:=by rw [hwv2]; simpa using Bk.new v1 25 #[.slice none 0 0]
    have fbw_0:=bw_.cell 0 rfl
    have fbw_1:=bw_.cell 1 rfl
    have fbw_2:=bw_.cell 2 rfl
    have ltbw_:=bw_.lt
    go_upto_region 4 with fail
    rw [← hwv2]
    clear hwv2 fbw_0 fbw_1 fbw_2 ltbw_
    have hBv2 : Below w.heap.size w v2:=hBv1.trans (hav2.mono hBv1.size)
    replace bw_:=bw_.below hav2 bw_.lt
    replace bm_:=bm_.below hav2 bm_.lt
    clear hBv1
    clear hav2
    generalize v1.heap.size = g2 at *
    by_cases hq0 : q = 0
    ·subst hq0
     go_wp2_with fail
     refine (HM.out _).mono ?_
     rintro e ve ⟨rfl,hbe⟩
     have hBe : Below w.heap.size w ve:=hBv2.trans (hbe.mono hBv2.size)
     replace b7:=b7.below hbe b7.lt
     have y0:=b7.cell 0 rfl
     go_wp2
     go_ret
     exact ⟨rfl,hBe⟩
    ·go_wp2_with fail
     refine (HM.out _).mono ?_
     rintro e ve ⟨rfl,hbe⟩
     have hBe : Below w.heap.size w ve:=hBv2.trans (hbe.mono hBv2.size)
     replace b7:=b7.below hbe b7.lt
     have y0:=b7.cell 0 rfl
     go_wp2
     go_ret
     exact ⟨rfl,hBe⟩
  ·clear hs hlt g2 h0
   go_enter Try.func4,Try.ntmps4
   have bw_ : Bk ((w.alloc (.cells #[.int .i64 x, .int .i64 y, .int .i64 z] 37)).alloc (.cells #[.string nm, .int .i64 a1, .int .i64 a2, .int .i64 a3, .int .i64 pr] 39)) w.heap.size 37 #[.int .i64 x, .int .i64 y, .int .i64 z]:=(Bk.new _ _ _).alloc _
   have bm_ : Bk ((w.alloc (.cells #[.int .i64 x, .int .i64 y, .int .i64 z] 37)).alloc (.cells #[.string nm, .int .i64 a1, .int .i64 a2, .int .i64 a3, .int .i64 pr] 39)) (w.heap.size + 1) 39 #[.string nm, .int .i64 a1, .int .i64 a2, .int .i64 a3, .int .i64 pr]:=by simpa using Bk.new (w.alloc (.cells #[.int .i64 x, .int .i64 y, .int .i64 z] 37)) 39 #[.string nm, .int .i64 a1, .int .i64 a2, .int .i64 a3, .int .i64 pr]
   obtain ⟨v0,hw0⟩ : ∃ v,v = (w.alloc (.cells #[.int .i64 x, .int .i64 y, .int .i64 z] 37)).alloc (.cells #[.string nm, .int .i64 a1, .int .i64 a2, .int .i64 a3, .int .i64 pr] 39):=⟨_,rfl⟩
   have hBv0 : Below w.heap.size w v0:=by rw [hw0]; exact bw
   rw [← hw0] at bw_ bm_
   go_upto_region 1 with fail
   rw [← hw0]
   clear hw0
   have fbm_0:=bm_.cell 0 rfl
   have fbm_1:=bm_.cell 1 rfl
   have fbm_2:=bm_.cell 2 rfl
   have fbm_3:=bm_.cell 3 rfl
   have fbm_4:=bm_.cell 4 rfl
   have ltbm_:=bm_.lt
   go_wp2_with fail
   refine (HF.out _ hBv0).mono ?_
   rintro e w0 ⟨rfl,rfl⟩
   rw [H0.out]
   have hn60 : (60 : Int) < (nm.size : Int):=by omega
   go_wp2_with fail
   refine (HM.out _).mono ?_
   rintro e ve ⟨rfl,hbe⟩
   have hBe : Below w.heap.size w ve:=hBv0.trans (hbe.mono hBv0.size)
   go_wp2
   go_ret
   exact ⟨rfl,hBe⟩
 ·have H0:=Lib.hid (show fineB l 6 = false by simpa using h0)
  clear hlt hs h0
  go_enter Try.func4,Try.ntmps4
  have bw_ : Bk ((w.alloc (.cells #[.int .i64 x, .int .i64 y, .int .i64 z] 37)).alloc (.cells #[.string nm, .int .i64 a1, .int .i64 a2, .int .i64 a3, .int .i64 pr] 39)) w.heap.size 37 #[.int .i64 x, .int .i64 y, .int .i64 z]:=(Bk.new _ _ _).alloc _
  have bm_ : Bk ((w.alloc (.cells #[.int .i64 x, .int .i64 y, .int .i64 z] 37)).alloc (.cells #[.string nm, .int .i64 a1, .int .i64 a2, .int .i64 a3, .int .i64 pr] 39)) (w.heap.size + 1) 39 #[.string nm, .int .i64 a1, .int .i64 a2, .int .i64 a3, .int .i64 pr]:=by simpa using Bk.new (w.alloc (.cells #[.int .i64 x, .int .i64 y, .int .i64 z] 37)) 39 #[.string nm, .int .i64 a1, .int .i64 a2, .int .i64 a3, .int .i64 pr]
  obtain ⟨v0,hw0⟩ : ∃ v,v = (w.alloc (.cells #[.int .i64 x, .int .i64 y, .int .i64 z] 37)).alloc (.cells #[.string nm, .int .i64 a1, .int .i64 a2, .int .i64 a3, .int .i64 pr] 39):=⟨_,rfl⟩
  have hBv0 : Below w.heap.size w v0:=by rw [hw0]; exact bw
  rw [← hw0] at bw_ bm_
  go_upto_region 1 with fail
  rw [← hw0]
  clear hw0
  have fbm_0:=bm_.cell 0 rfl
  have fbm_1:=bm_.cell 1 rfl
  have fbm_2:=bm_.cell 2 rfl
  have fbm_3:=bm_.cell 3 rfl
  have fbm_4:=bm_.cell 4 rfl
  have ltbm_:=bm_.lt
  go_wp2_with fail
  refine (HF.out _ hBv0).mono ?_
  rintro e w0 ⟨rfl,rfl⟩
  rw [H0.out]
  go_wp2_with fail
  refine (HM.out _).mono ?_
  rintro e ve ⟨rfl,hbe⟩
  have hBe : Below w.heap.size w ve:=hBv0.trans (hbe.mono hBv0.size)
  go_wp2
  go_ret
  exact ⟨rfl,hBe⟩
end Go.Proofs.Ytkjceegmmhnajaa
