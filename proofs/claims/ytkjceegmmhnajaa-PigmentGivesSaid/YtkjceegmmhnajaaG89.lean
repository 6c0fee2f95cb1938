/- pigment.choices: the walk that hands over the lists. -/
import Derived.Test.YtkjceegmmhnajaaG61
import Derived.Test.YtkjceegmmhnajaaG62
import Derived.Test.YtkjceegmmhnajaaG84
import Derived.Test.YtkjceegmmhnajaaG88

set_option linter.unusedVariables false
set_option linter.unusedSimpArgs false

namespace Go.Proofs.Ytkjceegmmhnajaa
open Go.RowKit LPX
attribute [local go_sem] Oper.semAt_some

structure WalkW (lb bm by_ bn bw many n : Nat) (W : World) : Prop where
 many : W.cell? ⟨bm,0,none⟩ = some (.int .i64 (many : Int))
 yield : W.cell? ⟨by_,0,none⟩ = some (.func (.yield lb) #[] #[])
 n : W.cell? ⟨bn,0,none⟩ = some (.int .i64 (n : Int))
 walk : W.cell? ⟨bw,0,none⟩ = some (.func (.func 73) #[] #[.pointer (some ⟨bm,0,none⟩), .pointer (some ⟨by_,0,none⟩), .pointer (some ⟨bn,0,none⟩), .pointer (some ⟨bw,0,none⟩)])
theorem cell_lt {W : World} {p : Addr} {v : Value} (h : W.cell? p = some v) : p.block < W.heap.size:=World.block_lt_of_cell? W p h
section
variable {lb bm by_ bn bw many n : Nat} {W W' : World}
theorem WalkW.below (h : WalkW lb bm by_ bn bw many n W) (hb : Below W.heap.size W W') : WalkW lb bm by_ bn bw many n W' :=
 ⟨(hb.cell (cell_lt h.many)).trans h.many,(hb.cell (cell_lt h.yield)).trans h.yield,(hb.cell (cell_lt h.n)).trans h.n,(hb.cell (cell_lt h.walk)).trans h.walk⟩
theorem WalkW.kp {own : Nat → Prop} (h : WalkW lb bm by_ bn bw many n W) (k : KpC own W W') (h1 : ¬ own bm) (h2 : ¬ own by_) (h3 : ¬ own bn) (h4 : ¬ own bw) : WalkW lb bm by_ bn bw many n W' :=
 ⟨k.cell h.many h1,k.cell h.yield h2,k.cell h.n h3,k.cell h.walk h4⟩
end
def WalkE (own : Nat → Prop) (J Jx : List El → World → Prop) (pre : List El) (Ls : List (List Nat)) (W : World) (e : Ending) (W' : World) : Prop :=
 (e = .returned (.bool true) ∧ ∃ xs : List El,xs.map El.L = Ls ∧ J (pre ++ xs) W' ∧ KpC own W W') ∨ (e = .returned (.bool false) ∧ ∃ xs : List El,xs.map El.L <+: Ls ∧ Jx (pre ++ xs) W' ∧ KpC own W W')
def upto (n k a i : Nat) (l : List Nat) : List (List Nat):=(List.range' a (i - a)).flatMap fun j=>(chs n k (j + 1)).map fun M=>l ++ (j :: M)
theorem upto_all (n k a : Nat) (l : List Nat) : upto n k a n l = (chs n (k + 1) a).map (l ++ ·):=by
 unfold upto
 simp only [chs,List.map_flatMap,List.map_map]
 rfl
theorem upto_succ {n k a i : Nat} (l : List Nat) (h : a ≤ i) : upto n k a (i + 1) l = upto n k a i l ++ (chs n k (i + 1)).map ((l ++ [i]) ++ ·):=by
 unfold upto
 rw [show i + 1 - a = (i - a) + 1 by omega,List.range'_1_concat,List.flatMap_append]
 congr 1
 simp only [List.flatMap_cons,List.flatMap_nil,List.append_nil,show a + (i - a) = i by omega]
 refine List.map_congr_left fun M _=>?_
 simp
theorem upto_pre {n k a i : Nat} (l : List Nat) (h1 : a ≤ i) : ∀ j,i ≤ j → upto n k a i l <+: upto n k a j l:=fun j h=>by
 obtain ⟨d,rfl⟩ : ∃ d,j = i + d:=⟨j - i,by omega⟩
 clear h
 induction d with
 | zero=>exact List.prefix_refl _
 | succ d ih=>rw [← Nat.add_assoc,upto_succ l (by omega)]; exact ih.trans (List.prefix_append _ _)

set_option maxRecDepth 100000 in
set_option maxHeartbeats 1000000 in
theorem walkI (m : Nat) (own : Nat → Prop) (B0 : Nat) (hown : ∀ g,own g → g < B0) (lb bm by_ bn bw many n : Nat) (h1 : ¬ own bm) (h2 : ¬ own by_) (h3 : ¬ own bn) (h4 : ¬ own bw) (hn : n ≤ 1000) (hmany : many ≤ 1000)
  (J Jx : List El → World → Prop) (base : Nat) (hJ : OwnFrom base J) (N : Nat) (Ok : List Nat → Prop)
  (hY : ∀ pre x W1,J pre W1 → x.At W1 ∧ Ok x.L → pre.length < N → YieldAt Fence.wide (m - 1) Try.prog lb #[x.v] W1 fun e W'=>(e = .returned (.bool true) ∧ J (pre ++ [x]) W' ∧ KpC own W1 W') ∨ (e = .returned (.bool false) ∧ Jx (pre ++ [x]) W' ∧ KpC own W1 W')) :
  ∀ (k : Nat) (l : List Nat) (a : Nat) (A : Option Addr) (c : Nat) (pre : List El) (W : World),l.length + k = many → a ≤ n → (⟨l,A,c⟩ : El).At W → c ≤ maxLen → (∀ ad,A = some ad → B0 ≤ ad.block) → B0 ≤ W.heap.size → base ≤ W.heap.size → WalkW lb bm by_ bn bw many n W → J pre W → pre.length + (chs n k a).length ≤ N → (∀ M ∈ chs n k a,Ok (l ++ M)) →
   Calls Try.prog 73 #[.slice A l.length c, .int .i64 (a : Int), .pointer (some ⟨bm,0,none⟩), .pointer (some ⟨by_,0,none⟩), .pointer (some ⟨bn,0,none⟩), .pointer (some ⟨bw,0,none⟩)] W (WalkE own J Jx pre ((chs n k a).map (l ++ ·)) W)
 | 0,l,a,A,c,pre,W,hl,ha,hat,hcm,hA,hB,hbs,hw,hj,hN,hOk=>by
  have c2:=hw.many
  have c3:=hw.yield
  have hq : ((l.length : Int) == (many : Int)) = true:=by rw [beq_iff_eq]; omega
  obtain ⟨fn,tmps,assign,body,hy,hR⟩:=hY pre ⟨l,A,c⟩ W hj ⟨hat,by have:=hOk [] (by simp [chs]); rw [List.append_nil] at this; exact this⟩ (by simp [chs] at hN; omega)
  have hy : (Instr.yield lb #[.slice A l.length c]).run Try.prog W = .ok (.round lb fn tmps assign body) W:=hy
  have HRR:=Lib.hid hR
  have HE : Hid ((chs n 0 a).map (l ++ ·) = [l]):=by show _ = _; simp [chs]
  clear hR hY hJ hj hat hA hB hbs hw hown h1 h2 h3 h4 hl hN hOk
  go_enter Try.func73,Try.ntmps73
  go_upto_region 2 with fail
  refine (wpIn_wide (n:=m)).1 ?_
  gi_wp2
  refine ⟨fun h=>(by cases h),HRR.out.mono ?_⟩
  rintro e w6 (⟨rfl,hj6,hk6⟩ | ⟨rfl,hx6,hk6⟩)
  ·gi_wp2
   go_wp2
   go_ret
   refine .inl ⟨rfl,[⟨l,A,c⟩],?_,hj6,hk6⟩
   rw [HE.out]; rfl
  ·gi_wp2
   go_wp2
   go_ret
   refine .inr ⟨rfl,[⟨l,A,c⟩],?_,hx6,hk6⟩
   rw [HE.out]; exact List.prefix_refl _
 | k + 1,l,a,A,c,pre,W,hl,ha,hat,hcm,hA,hB,hbs,hw,hj,hN,hOk=>by
  have IH:=walkI m own B0 hown lb bm by_ bn bw many n h1 h2 h3 h4 hn hmany J Jx base hJ N Ok hY k
  have c2:=hw.many
  have hq : ((l.length : Int) == (many : Int)) = false:=by rw [beq_eq_false_iff_ne]; omega
  have hlm : l.length < many:=by omega
  have HW:=Lib.hid (fun W' (hk : KpC own W W')=>hw.kp hk h1 h2 h3 h4)
  have HL : Hid (∀ W',KpC own W W' → (⟨l,A,c⟩ : El).At W'):=fun W' hk=>⟨(hk.lies hat.1 (fun ad e ho=>by have:=hA ad e; have:=hown _ ho; omega)).more hk.size,hat.2⟩
  have HJ:=Lib.hid hJ
  have HIH : Hid (∀ (i : Nat) (A6 : Option Addr) (c6 : Nat) (xs : List El) (W' : World),a ≤ i → i < n → (⟨l ++ [i],A6,c6⟩ : El).At W' → c6 ≤ maxLen → (∀ ad,A6 = some ad → B0 ≤ ad.block) → KpC own W W' → J (pre ++ xs) W' → pre.length + xs.length + (chs n k (i + 1)).length ≤ N →
    Calls Try.prog 73 #[.slice A6 (l ++ [i]).length c6, .int .i64 ((i : Int) + 1), .pointer (some ⟨bm,0,none⟩), .pointer (some ⟨by_,0,none⟩), .pointer (some ⟨bn,0,none⟩), .pointer (some ⟨bw,0,none⟩)] W' (WalkE own J Jx (pre ++ xs) ((chs n k (i + 1)).map ((l ++ [i]) ++ ·)) W')):=fun i A6 c6 xs W' hai hi ha6 hc6 hb6 hk6 hj6 hN6=>by
   have h:=IH (l ++ [i]) (i + 1) A6 c6 (pre ++ xs) W' (by simp; omega) (by omega) ha6 hc6 hb6 (Nat.le_trans hB hk6.size) (Nat.le_trans hbs hk6.size) (hw.kp hk6 h1 h2 h3 h4) hj6 (by simp; omega) (fun M hM=>by
    have:=hOk (i :: M) (by
     simp only [chs,List.mem_flatMap,List.mem_range'_1,List.mem_map]
     exact ⟨i,by omega,M,hM,rfl⟩)
    simpa using this)
   rw [show ((i + 1 : Nat) : Int) = (i : Int) + 1 by omega] at h
   exact h
  have HALL:=Lib.hid (upto_all n k a l)
  have HNN : Hid (pre.length + (upto n k a n l).length ≤ N):=by show _ ≤ _; rw [upto_all,List.length_map]; exact hN
  have HC:=Lib.hid (fun W'=>clip_any A l.length c W' hat.2.2 (fun e=>by have:=(hat.2.1 e).1; change l = [] at this; rw [this]; rfl) hcm)
  obtain ⟨i0,hi0,hz0,hz1,hz2⟩:=info_parts info3
  have I3:=Lib.hid (And.intro hi0 (And.intro hz0 (And.intro hz1 hz2))); clear hi0 hz0 hz1 hz2
  have HLN : Hid ((nats l).length = l.length * 1):=by show _ = _; rw [nats_len]; omega
  have hHAD : Hid (∀ i : Nat,i < 1000 → IntKind.i64.wrap ((i : Int) + 1) = (i : Int) + 1):=fun i hi=>IntWalk.i64_in _ (by omega)
  have hj0 : Hid (J (pre ++ []) W):=by show J _ _; rw [List.append_nil]; exact hj
  have hat2:=hat.2.1
  change A = none → l = [] ∧ c = 0 at hat2
  have HAN : Hid (A = none → l.length = 0 ∧ l.length = 0):=fun e=>by rw [(hat2 e).1]; exact ⟨rfl,rfl⟩
  have hanI : (a : Int) ≤ (n : Int):=by omega
  clear IH hJ hY hw hj hat hat2 hA hown h1 h2 h3 h4 hN hl hbs hOk
  go_enter Try.func73,Try.ntmps73
  go_wp2
  go_loopw [9] (fun y wr=>∃ (i : Nat) (xs : List El),a ≤ i ∧ i ≤ n ∧ y = .int .i64 (i : Int) ∧ Hid (xs.map El.L = upto n k a i l) ∧ Hid (J (pre ++ xs) wr) ∧ Hid (KpC own W wr)) (fun y _=>n - (intOf y).toNat)
  case atStart=>exact ⟨a,[],Nat.le_refl _,ha,rfl,by show _ = _; unfold upto; simp,hj0,KpC.refl W⟩
  case round =>
  clear c2 hj0
  obtain ⟨i,xs,hai,hin,rfl,HX,HJi,HKi⟩:=hrel
  have hWr:=HW.out wr HKi.out
  have c4:=hWr.n
  have c5:=hWr.walk
  clear hWr
  by_cases hlt : i < n
  ·have hiI : (i : Int) < (n : Int):=by omega
   have hadd0:=Lib.hid (hHAD.out i (by omega))
   have HS : Hid (∀ W',Below wr.heap.size wr W' → W'.cell? ⟨bw,0,none⟩ = some (.func (.func 73) #[] #[.pointer (some ⟨bm,0,none⟩), .pointer (some ⟨by_,0,none⟩), .pointer (some ⟨bn,0,none⟩), .pointer (some ⟨bw,0,none⟩)])):=fun W' hb=>(hb.cell (cell_lt c5)).trans c5
   have HAt : Hid (∀ W',Below wr.heap.size wr W' → (⟨l,A,c⟩ : El).At W'):=fun W' hb=>HL.out W' (HKi.out.trans (KpC.of_below hb))
   have HSU:=Lib.hid (upto_succ (n:=n) (k:=k) l hai)
   have HPR:=Lib.hid (upto_pre (n:=n) (k:=k) l (show a ≤ i + 1 by omega) n hlt)
   have HNX : Hid (∀ ys : List El,ys.map El.L <+: (chs n k (i + 1)).map ((l ++ [i]) ++ ·) → (xs ++ ys).map El.L <+: upto n k a n l):=fun ys hy=>by
    rw [List.map_append,HX.out]
    refine List.IsPrefix.trans ?_ HPR.out
    rw [HSU.out]
    exact List.prefix_append_right_inj _ |>.2 hy
   have HLEN : Hid (pre.length + xs.length + (chs n k (i + 1)).length ≤ N):=by
    show _ ≤ _
    have e1:=HPR.out.length_le
    have e2 : xs.length = (upto n k a i l).length:=by rw [← HX.out,List.length_map]
    rw [HSU.out,List.length_append,List.length_map] at e1
    have:=HNN.out
    omega
   have hzw:=HKi.out.size
   have hadd:=hadd0.out
   go_upto_region 6 with fail
   clear c4
   refine wp_region_held_drew (S:=(fun w'=>w'.cell? ⟨bw,0,none⟩ = some (.func (.func 73) #[] #[.pointer (some ⟨bm,0,none⟩), .pointer (some ⟨by_,0,none⟩), .pointer (some ⟨bn,0,none⟩), .pointer (some ⟨bw,0,none⟩)]))) (by kernel_rfl) ?_ (fun hHeld=>?_)
   ·exact HS.out _ (Below.refl _ _).drew
   have hb_w3 : Below wr.heap.size wr wr.drew:=(Below.refl _ _).drew
   have hz_w3 : wr.heap.size ≤ wr.drew.heap.size:=hb_w3.size
   have HLS : Hid (l.length + 1 = (l ++ [i]).length):=by show _ = _; simp
   generalize wr.drew = w3 at *
   refine tk 0 23 ?_
   refine tk 1 24 ?_
   refine tk 3 26 ?_
   refine tk 6 29 ?_
   refine tk 7 30 ?_
   clear hadd
   refine held_two 2 4 ⟨some 25, .call { callee:=.value (.func 74),args:=#[.tmp 24],argTypes:=#[77] },77,_,_,none⟩ ⟨some 27, .buildSlice 77 1 #[(0, .tmp 26)],77,_,_,none⟩ rfl rfl (by kernel_rfl) (by rfl) (by rfl) ?_ ?_
   ·refine wp_call (f:=74) (args:=#[.slice A l.length c]) (by go_simp) (HC.out _) ?_
    rintro e w' ⟨rfl,hw'⟩
    obtain rfl : w3 = w':=hw'.symm
    refine ⟨_,rfl,HS.out _ hb_w3,?_⟩
    (try simp only [Act.put,List.setIfInBounds_toArray,List.set_cons_zero,List.set_cons_succ])
    refine held_one 4 ⟨some 27, .buildSlice 77 1 #[(0, .tmp 26)],77,_,_,none⟩ rfl (by kernel_rfl) (by rfl) ?_
    unfold Oper.wp
    go_simp
    have hb4 : Below wr.heap.size wr (w3.alloc (.cells #[.int .i64 (i : Int)] 3)):=hb_w3.alloc hz_w3 _
    have bx : Bk (w3.alloc (.cells #[.int .i64 (i : Int)] 3)) w3.heap.size 3 #[.int .i64 (i : Int)]:=Bk.new _ _ _
    refine ⟨HS.out _ hb4,?_⟩
    (try simp only [Act.put,List.setIfInBounds_toArray,List.set_cons_zero,List.set_cons_succ])
    generalize w3.alloc (.cells #[.int .i64 (i : Int)] 3) = w4 at *
    have hb_w4:=hb4
    have hz_w4:=hb4.size
    clear hb4
    refine held_one 5 ⟨some 28, .call { callee:=.builtin .append,args:=#[.tmp 25, .tmp 27],argTypes:=#[77,77] },77,_,_,none⟩ rfl (by kernel_rfl) (by rfl) ?_
    refine wp_append_grows _ (.tmp 25) (.tmp 27) 77 rfl 3 i0 (.int .i64 0) 1 8 Try.underlying77 I3.out.1 I3.out.2.1 I3.out.2.2.1 I3.out.2.2.2 rfl (by decide) A l.length l.length (nats l) rfl HAN.out HLN.out (fun b hb j u hj=>by
     obtain ⟨ad,e,_,hc⟩:=(HAt.out _ hb_w4).1 (by intro h0; rw [h0] at hj; simp at hj)
     change A = some ad at e
     rw [hb] at e; cases e
     exact hc j u hj) ⟨w3.heap.size,0,none⟩ 1 1 [.int .i64 (i : Int)] rfl rfl (bk_cells bx) ?_ (by omega) ?_ ?_ ?_
    ·intro u hu; simp at hu; subst hu; rfl
    ·unfold maxLen; omega
    ·omega
    intro v5 w5 ow5 hg5
    have hb5 : Below wr.heap.size wr w5:=Below.grown hb_w4 hg5 hz_w4 (fun g e=>by cases e)
    rw [nats_snoc] at ow5
    obtain ⟨A6,c6,rfl,hc6,hcm6⟩:=ownsSlice ow5
    obtain ⟨g6,rfl,hge6⟩:=own_some ow5 (Nat.succ_pos _)
    have hat6 : (⟨l ++ [i],some ⟨g6,0,none⟩,c6⟩ : El).At w5:=⟨ownsRow_lies ow5,(fun e=>by cases e),by show (l ++ [i]).length ≤ c6; simp; omega⟩
    have hj5 : J (pre ++ xs) w5:=HJ.out _ _ _ none HJi.out (grown_below hb5) (fun r e=>by cases e)
    have hk5 : KpC own W w5:=HKi.out.trans (KpC.of_below hb5)
    refine ⟨HS.out _ hb5,?_⟩
    (try simp only [Act.put,List.setIfInBounds_toArray,List.set_cons_zero,List.set_cons_succ])
    rw [HLS.out]
    (refine held_call 8 (some 31) 73 _ rfl (by kernel_rfl) (by rfl) ?_ ((HIH.out i (some ⟨g6,0,none⟩) c6 xs w5 hai hlt hat6 hcm6 (fun ad e=>by cases e; show B0 ≤ g6; omega) hk5 hj5 HLEN.out)) ?_; rotate_left; rotate_left; (simp only [List.getElem?_toArray,List.getElem?_cons_zero,List.getElem?_cons_succ,Option.map_some]; refine congrArg some ?_; go_simp))
    rintro e w7 (⟨rfl,ys,hy1,hy2,hy3⟩ | ⟨rfl,ys,hy1,hy2,hy3⟩)
    ·refine ⟨_,rfl,(HW.out w7 (hk5.trans hy3)).walk,fun hHeld=>?_⟩
     (try simp only [Act.put,List.setIfInBounds_toArray,List.set_cons_zero,List.set_cons_succ])
     refine tk 9 32 ?_
     refine wpAnyH_done (by kernel_rfl) ?_ _
     have HJ7:=Lib.hid hy2
     have HK7:=Lib.hid (hk5.trans hy3)
     have HX7 : Hid ((xs ++ ys).map El.L = upto n k a (i + 1) l):=by show _ = _; rw [List.map_append,HX.out,hy1,HSU.out]
     clear hHeld hg5 ow5 hat6 hj5 hk5 hy1 hy2 hy3 hb5 bx
     go_wp2
     go_roundw
     case rel=>exact ⟨i + 1,xs ++ ys,by omega,by omega,by go_num,HX7,by show J _ _; rw [← List.append_assoc]; exact HJ7.out,HK7⟩
     case measure=>simp [intOf] <;> omega
    ·refine ⟨_,rfl,(HW.out w7 (hk5.trans hy3)).walk,fun hHeld=>?_⟩
     (try simp only [Act.put,List.setIfInBounds_toArray,List.set_cons_zero,List.set_cons_succ])
     refine tk 9 32 ?_
     refine wpAnyH_done (by kernel_rfl) ?_ _
     have HJ7:=Lib.hid hy2
     have HK7:=Lib.hid (hk5.trans hy3)
     have HX7:=Lib.hid (HNX.out ys hy1)
     clear hHeld hg5 ow5 hat6 hj5 hk5 hy1 hy2 hy3 hb5 bx
     go_wp2
     go_ret
     exact .inr ⟨rfl,xs ++ ys,by rw [← HALL.out]; exact HX7.out,by rw [← List.append_assoc]; exact HJ7.out,HK7.out⟩
   ·unfold Oper.wp
    go_simp
    have hb4 : Below wr.heap.size wr (w3.alloc (.cells #[.int .i64 (i : Int)] 3)):=hb_w3.alloc hz_w3 _
    have bx : Bk (w3.alloc (.cells #[.int .i64 (i : Int)] 3)) w3.heap.size 3 #[.int .i64 (i : Int)]:=Bk.new _ _ _
    refine ⟨HS.out _ hb4,?_⟩
    (try simp only [Act.put,List.setIfInBounds_toArray,List.set_cons_zero,List.set_cons_succ])
    generalize w3.alloc (.cells #[.int .i64 (i : Int)] 3) = w4 at *
    have hb_w4:=hb4
    have hz_w4:=hb4.size
    clear hb4
    refine held_one 2 ⟨some 25, .call { callee:=.value (.func 74),args:=#[.tmp 24],argTypes:=#[77] },77,_,_,none⟩ rfl (by kernel_rfl) (by rfl) ?_
    refine wp_call (f:=74) (args:=#[.slice A l.length c]) (by go_simp) (HC.out _) ?_
    rintro e w' ⟨rfl,hw'⟩
    obtain rfl : w4 = w':=hw'.symm
    refine ⟨_,rfl,HS.out _ hb_w4,?_⟩
    (try simp only [Act.put,List.setIfInBounds_toArray,List.set_cons_zero,List.set_cons_succ])
    refine held_one 5 ⟨some 28, .call { callee:=.builtin .append,args:=#[.tmp 25, .tmp 27],argTypes:=#[77,77] },77,_,_,none⟩ rfl (by kernel_rfl) (by rfl) ?_
    refine wp_append_grows _ (.tmp 25) (.tmp 27) 77 rfl 3 i0 (.int .i64 0) 1 8 Try.underlying77 I3.out.1 I3.out.2.1 I3.out.2.2.1 I3.out.2.2.2 rfl (by decide) A l.length l.length (nats l) rfl HAN.out HLN.out (fun b hb j u hj=>by
     obtain ⟨ad,e,_,hc⟩:=(HAt.out _ hb_w4).1 (by intro h0; rw [h0] at hj; simp at hj)
     change A = some ad at e
     rw [hb] at e; cases e
     exact hc j u hj) ⟨w3.heap.size,0,none⟩ 1 1 [.int .i64 (i : Int)] rfl rfl (bk_cells bx) ?_ (by omega) ?_ ?_ ?_
    ·intro u hu; simp at hu; subst hu; rfl
    ·unfold maxLen; omega
    ·omega
    intro v5 w5 ow5 hg5
    have hb5 : Below wr.heap.size wr w5:=Below.grown hb_w4 hg5 hz_w4 (fun g e=>by cases e)
    rw [nats_snoc] at ow5
    obtain ⟨A6,c6,rfl,hc6,hcm6⟩:=ownsSlice ow5
    obtain ⟨g6,rfl,hge6⟩:=own_some ow5 (Nat.succ_pos _)
    have hat6 : (⟨l ++ [i],some ⟨g6,0,none⟩,c6⟩ : El).At w5:=⟨ownsRow_lies ow5,(fun e=>by cases e),by show (l ++ [i]).length ≤ c6; simp; omega⟩
    have hj5 : J (pre ++ xs) w5:=HJ.out _ _ _ none HJi.out (grown_below hb5) (fun r e=>by cases e)
    have hk5 : KpC own W w5:=HKi.out.trans (KpC.of_below hb5)
    refine ⟨HS.out _ hb5,?_⟩
    (try simp only [Act.put,List.setIfInBounds_toArray,List.set_cons_zero,List.set_cons_succ])
    rw [HLS.out]
    (refine held_call 8 (some 31) 73 _ rfl (by kernel_rfl) (by rfl) ?_ ((HIH.out i (some ⟨g6,0,none⟩) c6 xs w5 hai hlt hat6 hcm6 (fun ad e=>by cases e; show B0 ≤ g6; omega) hk5 hj5 HLEN.out)) ?_; rotate_left; rotate_left; (simp only [List.getElem?_toArray,List.getElem?_cons_zero,List.getElem?_cons_succ,Option.map_some]; refine congrArg some ?_; go_simp))
    rintro e w7 (⟨rfl,ys,hy1,hy2,hy3⟩ | ⟨rfl,ys,hy1,hy2,hy3⟩)
    ·refine ⟨_,rfl,(HW.out w7 (hk5.trans hy3)).walk,fun hHeld=>?_⟩
     (try simp only [Act.put,List.setIfInBounds_toArray,List.set_cons_zero,List.set_cons_succ])
     refine tk 9 32 ?_
     refine wpAnyH_done (by kernel_rfl) ?_ _
     have HJ7:=Lib.hid hy2
     have HK7:=Lib.hid (hk5.trans hy3)
     have HX7 : Hid ((xs ++ ys).map El.L = upto n k a (i + 1) l):=by show _ = _; rw [List.map_append,HX.out,hy1,HSU.out]
     clear hHeld hg5 ow5 hat6 hj5 hk5 hy1 hy2 hy3 hb5 bx
     go_wp2
     go_roundw
     case rel=>exact ⟨i + 1,xs ++ ys,by omega,by omega,by go_num,HX7,by show J _ _; rw [← List.append_assoc]; exact HJ7.out,HK7⟩
     case measure=>simp [intOf] <;> omega
    ·refine ⟨_,rfl,(HW.out w7 (hk5.trans hy3)).walk,fun hHeld=>?_⟩
     (try simp only [Act.put,List.setIfInBounds_toArray,List.set_cons_zero,List.set_cons_succ])
     refine tk 9 32 ?_
     refine wpAnyH_done (by kernel_rfl) ?_ _
     have HJ7:=Lib.hid hy2
     have HK7:=Lib.hid (hk5.trans hy3)
     have HX7:=Lib.hid (HNX.out ys hy1)
     clear hHeld hg5 ow5 hat6 hj5 hk5 hy1 hy2 hy3 hb5 bx
     go_wp2
     go_ret
     exact .inr ⟨rfl,xs ++ ys,by rw [← HALL.out]; exact HX7.out,by rw [← List.append_assoc]; exact HJ7.out,HK7.out⟩
  ·obtain rfl : i = n:=by omega
   have hirr : ¬ (i : Int) < (i : Int):=by omega
   go_wp2
   go_ret
   refine .inl ⟨rfl,xs,?_,HJi.out,HKi.out⟩
   rw [HX.out,HALL.out]
end Go.Proofs.Ytkjceegmmhnajaa

namespace Go.Proofs.Ytkjceegmmhnajaa
open Go.RowKit LPX
attribute [local go_sem] Oper.semAt_some

def choFn (bm bn : Nat) : Value:=.func (.func 72) #[] #[.pointer (some ⟨bm,0,none⟩), .pointer (some ⟨bn,0,none⟩)]
set_option maxHeartbeats 400000 in
theorem choices_any (n k : Nat) (w : World) : Calls Try.prog 39 #[.int .i64 (n : Int), .int .i64 (k : Int)] w fun e w'=>e = .returned (choFn (w.heap.size + 1) w.heap.size) ∧ w'.cell? ⟨w.heap.size + 1,0,none⟩ = some (.int .i64 (k : Int)) ∧ w'.cell? ⟨w.heap.size,0,none⟩ = some (.int .i64 (n : Int)) ∧ Below w.heap.size w w' ∧ w'.heap.size = w.heap.size + 2:=by
 have k1 : Bk ((w.alloc (.cells #[.int .i64 (n : Int)] 3)).alloc (.cells #[.int .i64 (k : Int)] 3)) w.heap.size 3 #[.int .i64 (n : Int)]:=(Bk.new _ _ _).alloc _
 have k2 : Bk ((w.alloc (.cells #[.int .i64 (n : Int)] 3)).alloc (.cells #[.int .i64 (k : Int)] 3)) (w.heap.size + 1) 3 #[.int .i64 (k : Int)]:=by simpa using Bk.new (w.alloc (.cells #[.int .i64 (n : Int)] 3)) 3 #[.int .i64 (k : Int)]
 have hb : Below w.heap.size w ((w.alloc (.cells #[.int .i64 (n : Int)] 3)).alloc (.cells #[.int .i64 (k : Int)] 3)):=by exact (by repeat (first | with_reducible exact Below.refl _ _ | with_reducible assumption | with_reducible refine Below.drew ?_ | with_reducible refine below_drewN ?_ _ | (with_reducible refine Below.alloc ?_ ?_ _; rotate_left; (try simp) <;> omega) | (with_reducible refine Below.setCell ?_ ?_ _; rotate_left; (try simp) <;> omega)))
 have HE:=Lib.hid (And.intro (k2.cell 0 rfl) (And.intro (k1.cell 0 rfl) (And.intro hb (show ((w.alloc (.cells #[.int .i64 (n : Int)] 3)).alloc (.cells #[.int .i64 (k : Int)] 3)).heap.size = w.heap.size + 2 by simp))))
 clear k1 k2 hb
 go_enter Try.func39,Try.ntmps39
 go_wp2
 go_ret
 exact ⟨rfl,HE.out⟩

def choEnc (x : El) : Array Value:=#[x.v]
set_option maxRecDepth 100000 in
set_option maxHeartbeats 1000000 in
theorem choices_seq (m : Nat) (own : Nat → Prop) (bm bn many n : Nat) (hn : n ≤ 1000) (hmany : many ≤ 1000) (w : World) (hown : ∀ g,own g → g < w.heap.size) (h1 : ¬ own bm) (h2 : ¬ own bn) (hm : w.cell? ⟨bm,0,none⟩ = some (.int .i64 (many : Int))) (hnn : w.cell? ⟨bn,0,none⟩ = some (.int .i64 (n : Int))) :
  SeqP Fence.wide m Try.prog 72 #[.pointer (some ⟨bm,0,none⟩), .pointer (some ⟨bn,0,none⟩)] choEnc (fun x W=>x.At W ∧ x.L ∈ chs n many 0) (KpC own) (fun xs=>xs.map El.L = chs n many 0) (fun pre=>pre.map El.L <+: chs n many 0) (chs n many 0).length w:=by
 intro lb J Jx W _ hW hJ _ hY0 h0
 have hY:=fun pre x W1 h1 h2 h3=>YieldAt.mono (hY0 pre x W1 h1 h2 h3) (fun e W' h=>h.imp (fun h=>And.intro h.1 (And.intro h.2.1 h.2.2.1)) (fun h=>And.intro h.1 (And.intro h.2.1 h.2.2.1)))
 clear hY0
 refine callsIn_wide.2 ?_
 let C : Value:=.func (.func 73) #[] #[.pointer (some ⟨bm,0,none⟩), .pointer (some ⟨W.heap.size,0,none⟩), .pointer (some ⟨bn,0,none⟩), .pointer (some ⟨W.heap.size + 1,0,none⟩)]
 let W2 : World:=(W.alloc (.cells #[.func (.yield lb) #[] #[]] 105)).alloc (.cells #[C] 106)
 have hz:=hW.size
 have k1 : Bk W2 W.heap.size 105 #[.func (.yield lb) #[] #[]]:=(Bk.new _ _ _).alloc _
 have k2 : Bk W2 (W.heap.size + 1) 106 #[C]:=by simpa using Bk.new (W.alloc (.cells #[.func (.yield lb) #[] #[]] 105)) 106 #[C]
 have hb : Below W.heap.size W W2:=(((Below.refl _ W).alloc (Nat.le_refl _) _).alloc (by simp) _)
 have hw : WalkW lb bm W.heap.size bn (W.heap.size + 1) many n W2 :=
  ⟨(hb.cell (by have:=cell_lt hm; show bm < _; simp at this; omega)).trans ((hW.cell (cell_lt hm)).trans hm),k1.cell 0 rfl,(hb.cell (by have:=cell_lt hnn; show bn < _; simp at this; omega)).trans ((hW.cell (cell_lt hnn)).trans hnn),k2.cell 0 rfl⟩
 have hj2 : J [] W2:=hJ _ _ _ none h0 (grown_below hb) (fun r e=>by cases e)
 have HWK:=Lib.hid (walkI m own w.heap.size hown lb bm W.heap.size bn (W.heap.size + 1) many n h1 (fun h=>by have:=hown _ h; omega) h2 (fun h=>by have:=hown _ h; omega) hn hmany J Jx W.heap.size hJ (chs n many 0).length (fun L=>L ∈ chs n many 0) hY many [] 0 none 0 [] W2 (by simp) (Nat.zero_le _)
  ⟨fun h=>absurd rfl h,fun _=>⟨rfl,rfl⟩,Nat.le_refl _⟩ (Nat.zero_le _) (fun ad e=>by cases e) (Nat.le_trans hz hb.size) hb.size hw hj2 (by simp) (fun M hM=>by simpa using hM))
 have HID : Hid ((chs n many 0).map (([] : List Nat) ++ ·) = chs n many 0):=by show _ = _; simp
 have hrs:=fun (a : Addr) (m : Mode) (W : World) (cs : Array Value)=>run_store Try.prog W a (.func (.func 73) #[] cs) m rfl
 clear hY hJ hj2 hw hb k1 k2
 go_enter Try.func72,Try.ntmps72
 go_wp2_with (go_at_call 73; refine HWK.out.mono ?_; rintro e w6 (⟨rfl,xs,hx1,hx2,_⟩ | ⟨rfl,xs,hx1,hx2,_⟩))
 ·go_end0
  exact ⟨⟨_,rfl⟩, .inl ⟨xs,by rw [hx1,HID.out],hx2⟩⟩
 ·go_end0
  exact ⟨⟨_,rfl⟩, .inr ⟨xs,by rw [HID.out] at hx1; exact hx1,hx2⟩⟩
end Go.Proofs.Ytkjceegmmhnajaa

namespace Go.Proofs.Ytkjceegmmhnajaa
open Go.RowKit

def mark (D : Nat) : Deferred:={ target:=.collected D,args:=#[] }
def marks (Ds : List Nat) : List Deferred:=Ds.map mark
structure Marks (B : Nat) (Ds : List Nat) (w : World) : Prop where
 nodup : Ds.Nodup
 at_ : ∀ D ∈ Ds,B ≤ D ∧ w.heap[D]? = some (.deferred (some []))
def shut : List Nat → World → World
 | [],w=>w
 | D :: Ds,w=>shut Ds (w.putObj D (.deferred none))
theorem below_putObj {a w : World} {D : Nat} (h : Below a.heap.size a w) (hD : a.heap.size ≤ D) (o : Obj) : Below a.heap.size a (w.putObj D o):=h.grown (grownBy_putObj' w D o) h.size (fun k e=>by cases e; exact hD)
theorem Marks.nil (B : Nat) (w : World) : Marks B [] w:=⟨List.nodup_nil,fun _ h=>by cases h⟩
theorem Marks.lt {B : Nat} {Ds : List Nat} {w : World} (h : Marks B Ds w) {D : Nat} (hD : D ∈ Ds) : D < w.heap.size:=(Array.getElem?_eq_some_iff.1 (h.at_ D hD).2).1
theorem Marks.keep {B : Nat} {Ds : List Nat} {w w' : World} (h : Marks B Ds w) (hk : ∀ D,B ≤ D → w.heap[D]? = some (.deferred (some [])) → w'.heap[D]? = some (.deferred (some []))) : Marks B Ds w':=⟨h.nodup,fun D hD=>⟨(h.at_ D hD).1,hk D (h.at_ D hD).1 (h.at_ D hD).2⟩⟩
theorem Marks.grown {B : Nat} {Ds : List Nat} {w w' : World} {row : Option Nat} (h : Marks B Ds w) (hg : w.grownBy w' row) (hr : ∀ r,row = some r → r ∉ Ds) : Marks B Ds w' :=
 ⟨h.nodup,fun D hD=>⟨(h.at_ D hD).1,(hg.block D (h.lt hD) (fun e=>hr D e.symm hD)).trans (h.at_ D hD).2⟩⟩
theorem Marks.below_ {B : Nat} {Ds : List Nat} {w w' : World} (h : Marks B Ds w) (hb : Below w.heap.size w w') : Marks B Ds w':=h.grown (grown_below hb) (fun r e=>by cases e)
theorem Marks.cons {B : Nat} {Ds : List Nat} {w : World} {D : Nat} (h : Marks B Ds w) (hB : B ≤ D) (hn : D ∉ Ds) (hD : w.heap[D]? = some (.deferred (some []))) : Marks B (D :: Ds) w :=
 ⟨List.nodup_cons.2 ⟨hn,h.nodup⟩,fun E hE=>by
  rcases List.mem_cons.1 hE with rfl | h1
  ·exact ⟨hB,hD⟩
  ·exact h.at_ E h1⟩
theorem Marks.tail {B : Nat} {Ds : List Nat} {w : World} {D : Nat} (h : Marks B (D :: Ds) w) : Marks B Ds (w.putObj D (.deferred none)) :=
 ⟨(List.nodup_cons.1 h.nodup).2,fun E hE=>⟨(h.at_ E (List.mem_cons_of_mem _ hE)).1,(World.putObj_heap_other (fun e=>(List.nodup_cons.1 h.nodup).1 (by rw [← e]; exact hE))).trans (h.at_ E (List.mem_cons_of_mem _ hE)).2⟩⟩
theorem Marks.bk {B : Nat} : ∀ {Ds : List Nat} {w : World},Marks B Ds w → ∀ {g t : Nat} {cs : Array Value},Bk w g t cs → Bk (shut Ds w) g t cs
 | [],_,_,_,_,_,hk=>hk
 | D :: Ds,w,h,g,t,cs,hk=>by
  refine Marks.bk h.tail ((World.putObj_heap_other (fun e=>?_)).trans hk)
  subst e
  have h1:=(h.at_ g (List.mem_cons_self ..)).2
  have h2 : w.heap[g]? = some (.cells cs t):=hk
  rw [h1] at h2; cases h2
theorem Marks.below {B : Nat} {a : World} (hB : a.heap.size ≤ B) : ∀ {Ds : List Nat} {w : World},Marks B Ds w → Below a.heap.size a w → Below a.heap.size a (shut Ds w)
 | [],_,_,hb=>hb
 | D :: Ds,w,h,hb=>Marks.below (Ds:=Ds) (w:=w.putObj D (.deferred none)) hB h.tail (below_putObj hb (Nat.le_trans hB (h.at_ D (List.mem_cons_self ..)).1) _)
theorem Marks.own {β : Type} {B base : Nat} {J : β → World → Prop} (hJ : OwnFrom base J) (hB : base ≤ B) {s : β} : ∀ {Ds : List Nat} {w : World},Marks B Ds w → J s w → J s (shut Ds w)
 | [],_,_,h=>h
 | D :: Ds,w,hm,h=>Marks.own hJ hB (Ds:=Ds) (w:=w.putObj D (.deferred none)) hm.tail (hJ.putObj _ h (Nat.le_trans hB (hm.at_ D (List.mem_cons_self ..)).1) (hm.at_ D (List.mem_cons_self ..)).2 rfl)
theorem Marks.leave {B : Nat} {F : Fence} {n : Nat} {P : Program} {fn : Func} {tmps : Array Value} {R : Ending → World → Prop} {v : Value} : ∀ {Ds : List Nat} {w : World},Marks B Ds w →
  (results fn tmps).run P (shut Ds w) = .ok v (shut Ds w) → R (.returned v) (shut Ds w) → LeavesInM F n P fn tmps R (marks Ds) .returning w
 | [],w,_,hr,hR=>⟨v,hr,hR⟩
 | D :: Ds,w,h,hr,hR=>⟨by simp, .inl ⟨D,_,rfl,run_takeDeferred (h.at_ D (List.mem_cons_self ..)).2,Marks.leave h.tail hr hR⟩⟩
theorem leaves_marks {B : Nat} {Ds : List Nat} {F : Fence} {n : Nat} {P : Program} {fn : Func} {R : Ending → World → Prop} {a : Act} {w : World} {v : Value} {ex : Exit} (he : ex = .ret ∨ ex = .normal) (h : Marks B Ds w) (hd : a.defers = marks Ds)
  (hr : (results fn a.tmps).run P (shut Ds w) = .ok v (shut Ds w)) (hR : R (.returned v) (shut Ds w)) : bodyPostM F n P fn R ex a w:=by
 rcases he with rfl | rfl
 ·show LeavesInM F n P fn a.tmps R a.defers .returning w
  rw [hd]
  exact h.leave hr hR
 ·show LeavesInM F n P fn a.tmps R a.defers .returning w
  rw [hd]
  exact h.leave hr hR
end Go.Proofs.Ytkjceegmmhnajaa

namespace Go.Proofs.Ytkjceegmmhnajaa
open Go.RowKit LPX
attribute [local go_sem] Oper.semAt_some choEnc

structure Er where
 ps : List Pt
 A : Option Addr
 c : Nat
def Er.v (x : Er) : Value:=.agg #[.slice x.A x.ps.length x.c]
def Er.At (B0 : Nat) (x : Er) (W : World) : Prop:=Lies W W.heap.size x.A (partsC x.ps) ∧ ∀ ad,x.A = some ad → B0 ≤ ad.block
def erEnc (x : Er) : Array Value:=#[x.v]
def allR (l : List Tn) (x : Vc) : List (List Pt):=(allc l.length).filterMap (rcpF l x)
def levC (n k : Nat) : List (List Nat):=(List.range' 1 (k - 1)).flatMap fun j=>chs n j 0
def lev (l : List Tn) (x : Vc) (k : Nat) : List (List Pt):=(levC l.length k).filterMap (rcpF l x)

theorem levC_succ (n : Nat) {k : Nat} (h : 1 ≤ k) : levC n (k + 1) = levC n k ++ chs n k 0:=by
 unfold levC
 rw [show k + 1 - 1 = (k - 1) + 1 by omega,List.range'_1_concat,List.flatMap_append]
 congr 1
 simp [show 1 + (k - 1) = k by omega]
theorem levC_all (n : Nat) : levC n 5 = allc n:=by
 unfold levC allc
 simp [List.range',List.flatMap_cons]
theorem lev_succ (l : List Tn) (x : Vc) {k : Nat} (h : 1 ≤ k) : lev l x (k + 1) = lev l x k ++ (chs l.length k 0).filterMap (rcpF l x):=by
 unfold lev; rw [levC_succ _ h,List.filterMap_append]
theorem lev_all (l : List Tn) (x : Vc) : lev l x 5 = allR l x:=by
 unfold lev allR; rw [levC_all]
theorem levC_pre (n : Nat) {k : Nat} (h : 1 ≤ k) : ∀ j,k ≤ j → levC n k <+: levC n j:=fun j hj=>by
 obtain ⟨d,rfl⟩ : ∃ d,j = k + d:=⟨j - k,by omega⟩
 clear hj
 induction d with
 | zero=>exact List.prefix_refl _
 | succ d ih=>rw [← Nat.add_assoc,levC_succ n (by omega)]; exact ih.trans (List.prefix_append _ _)
theorem lev_len (l : List Tn) (x : Vc) {k : Nat} (h : 1 ≤ k) (h4 : k ≤ 4) : (lev l x k).length + (chs l.length k 0).length ≤ (allc l.length).length:=by
 have h1:=(levC_pre l.length (show 1 ≤ k + 1 by omega) 5 (by omega)).length_le
 rw [levC_all,levC_succ _ h,List.length_append] at h1
 have h2 : (lev l x k).length ≤ (levC l.length k).length:=List.length_filterMap_le _ _
 omega
theorem lev_pre (l : List Tn) (x : Vc) {k : Nat} (h : 1 ≤ k) (h4 : k ≤ 4) : lev l x k ++ (chs l.length k 0).filterMap (rcpF l x) <+: allR l x:=by
 rw [← lev_succ l x h]
 unfold lev allR
 rw [← levC_all]
 obtain ⟨t,ht⟩:=levC_pre l.length (show 1 ≤ k + 1 by omega) 5 (by omega)
 rw [← ht,List.filterMap_append]
 exact List.prefix_append _ _
theorem keeps_below {B : Nat} {W W' : World} (h : Below W.heap.size W W') : KeepsFrom B W W':=⟨h.size,fun k _ _ h1 _=>(h.block k (Array.getElem?_eq_some_iff.1 h1).1).trans h1⟩
theorem keeps_up {B B' : Nat} {W W' : World} (h : KeepsFrom B W W') (hB : B ≤ B') : KeepsFrom B' W W':=⟨h.size,fun k o hk h1 h2=>h.same k o (Nat.le_trans hB hk) h1 h2⟩
theorem Marks.from_ {B B' : Nat} {Ds : List Nat} {W W' : World} (h : Marks B Ds W) (hk : KeepsFrom B' W W') (hB : B' ≤ B) : Marks B Ds W':=h.keep fun D hD h1=>hk.same D _ (Nat.le_trans hB hD) h1 rfl
theorem KpC.of_grown {own : Nat → Prop} {A B : World} {row : Option Nat} (hg : A.grownBy B row) (hr : ∀ r,row = some r → ∃ o : Obj,A.heap[r]? = some o ∧ o.isCells = false) : KpC own A B :=
 ⟨hg.size,fun g o h1 h2 _=>(hg.block g (Array.getElem?_eq_some_iff.1 h1).1 (fun e=>by
  obtain ⟨o',h3,h4⟩:=hr g e.symm
  rw [h1] at h3; cases h3; rw [h2] at h4; cases h4)).trans h1⟩
theorem Er.At.kp {B0 : Nat} {x : Er} {W W' : World} (h : x.At B0 W) (hk : KpC (fun _=>False) W W') : x.At B0 W':=⟨(hk.lies h.1 (fun _ _ h=>h)).more hk.size,h.2⟩
theorem El.At.kp {x : El} {W W' : World} (h : x.At W) (hk : KpC (fun _=>False) W W') : x.At W':=⟨(hk.lies h.1 (fun _ _ h=>h)).more hk.size,h.2⟩
theorem KpC.bk {own : Nat → Prop} {W W' : World} (h : KpC own W W') {g t : Nat} {C : Array Value} (hk : Bk W g t C) (ho : ¬ own g) : Bk W' g t C:=h.keep g _ hk rfl ho

set_option maxRecDepth 100000 in
set_option maxHeartbeats 1000000 in
theorem recipes_seqM (m : Nat) (own : Nat → Prop) (bt bw : Nat) (l : List Tn) (At : Option Addr) (ct : Nat) (x y z : Int) (w : World) (hown : ∀ g,own g → g < w.heap.size) (h1 : ¬ own bt) (h2 : ¬ own bw) (hoA : ∀ ad,At = some ad → ¬ own ad.block)
  (hbt : w.cell? ⟨bt,0,none⟩ = some (.slice At l.length ct)) (hbw : Bk w bw 37 #[.int .i64 x, .int .i64 y, .int .i64 z]) (hlt_ : Lies w w.heap.size At (tintsC l)) (hm2 : l.length ≤ 1000) (hsh : ∀ t ∈ l,shIn t.a t.b t.c) (hx : shIn x y z) :
  SeqP Fence.wide m Try.prog 68 #[.pointer (some ⟨bt,0,none⟩), .pointer (some ⟨bw,0,none⟩)] erEnc (fun e W=>Er.At w.heap.size e W ∧ e.ps ∈ allR l ⟨x,y,z⟩) (KpC own) (fun xs=>xs.map Er.ps = allR l ⟨x,y,z⟩) (fun pre=>pre.map Er.ps <+: allR l ⟨x,y,z⟩) (allc l.length).length w:=by
 intro lb J Jx W hlW hW hJ hJx hY h0
 have hz:=hW.size
 have kY : Bk (W.alloc (.cells #[.func (.yield lb) #[] #[]] 104)) W.heap.size 104 #[.func (.yield lb) #[] #[]]:=Bk.new _ _ _
 have hb0 : Below W.heap.size W (W.alloc (.cells #[.func (.yield lb) #[] #[]] 104)):=(Below.refl _ W).alloc (Nat.le_refl _) _
 refine callsIn_of_wp_marks Try.func68 rfl trivial ?_ rfl
 simp only [Try.ntmps68,List.size_toArray,List.length_cons,List.length_nil,Nat.reduceAdd,Nat.reduceSub,Array.replicate_succ,Array.replicate_zero,List.push_toArray,List.append_toArray,List.nil_append,List.cons_append]
 refine wpIn_wide.2 ?_
 go_wp2
 refine wp_loop (fun a' wr=>∃ (k : Nat) (xs : List Er) (Ds : List Nat) (u8 u9 u10 u11 u12 u13 u14 u15 : Value),(1 ≤ k ∧ k ≤ 5 ∧ Hid (xs.map Er.ps = lev l ⟨x,y,z⟩ k) ∧ Hid (J xs wr) ∧ KpC own (W.alloc (.cells #[.func (.yield lb) #[] #[]] 104)) wr ∧ Marks (W.heap.size + 1) Ds wr) ∧ a' = { tmps:=#[.func (.yield lb) #[] #[], .pointer (some ⟨bt,0,none⟩), .pointer (some ⟨bw,0,none⟩), .pointer (some ⟨W.heap.size,0,none⟩), .int .i64 k,undef,undef,undef,u8,u9,u10,u11,u12,u13,u14,u15,undef,undef,undef,undef,undef,undef,undef,undef,undef,undef,undef,undef,undef,undef,undef],defers:=marks Ds }) (fun a' _=>5 - (intOf (a'.tmps.getD 4 undef)).toNat) ?_ ?_
 ·refine ⟨1,[],[],undef,undef,undef,undef,undef,undef,undef,undef,⟨by omega,by omega,?_,?_,?_,Marks.nil _ _⟩,rfl⟩
  ·show _ = _; rfl
  ·exact hJ _ _ _ none h0 (grown_below hb0) (fun r e=>by cases e)
  ·exact KpC.refl _
 rintro _ wr ⟨k,xs,Ds,u8,u9,u10,u11,u12,u13,u14,u15,⟨hk1,hk5,HX,HJr,hkp,hM⟩,rfl⟩
 have kp0 : KpC own w wr:=(KpC.of_below hW).trans ((KpC.of_below hb0).trans hkp)
 have hoY : ¬ own W.heap.size:=fun h=>by have:=hown _ h; omega
 by_cases hlt : k ≤ 4
 ·have c1:=kp0.cell hbt h1
  have HLEN : Hid (xs.length + (chs l.length k 0).length ≤ (allc l.length).length):=by
   show _ ≤ _
   have:=lev_len l ⟨x,y,z⟩ hk1 hlt
   rw [← HX.out,List.length_map] at this
   exact this
  have HPR:=Lib.hid (lev_pre l ⟨x,y,z⟩ hk1 hlt)
  have HSU:=Lib.hid (lev_succ l ⟨x,y,z⟩ hk1)
  have HREC : Hid (∀ (e : El) (W' : World),KpC own w W' → e.At W' → e.L ∈ chs l.length k 0 → Calls Try.prog 69 #[.slice At l.length ct, .slice e.A e.L.length e.c, .agg #[.int .i64 x, .int .i64 y, .int .i64 z]] W' (RecR (rcpF l ⟨x,y,z⟩ e.L) W')):=fun e W' hk hat hm=>by
   obtain ⟨m1,_,m3⟩:=(mem_chs _ _ _ _).1 hm
   exact recipe_any l e.L x y z At e.A ct e.c W' ((hk.lies hlt_ hoA).more hk.size) hat.1 (by omega) (fun i hi=>(m3 i hi).2) hm2 hsh hx
  have HBT:=Lib.hid hbt
  have HBW:=Lib.hid hbw
  have HHJ:=Lib.hid hJ
  have HHX:=Lib.hid hJx
  have HY:=Lib.hid hY
  clear hbt hbw hlt_ hsh hx hJ hJx hY h0 kY
  go_wp2_with (go_at_call 39; refine (choices_any l.length k wr).mono ?_; rintro e w2 ⟨rfl,hm_,hn_,hb2,hz2⟩)
  have hz0:=kp0.size
  have hzW:=hkp.size
  simp at hzW
  have hB2:=KpC.of_below (own:=own) hb2
  have kp2:=kp0.trans hB2
  have hkp2:=hkp.trans hB2
  have hM2:=hM.below_ hb2
  have hM2l : ∀ E ∈ Ds,E < w2.heap.size:=fun E hE=>hM2.lt hE
  refine (wpIn_wide (n:=m + 2)).1 ?_
  refine rangeFunc_pre (n:=m + 2) rfl (by omega) (gf:=72) (lb:=#[.pointer (some ⟨wr.heap.size + 1,0,none⟩), .pointer (some ⟨wr.heap.size,0,none⟩)]) rfl trivial (enters_of Try.func72 (by kernel_rfl) rfl)
   (encs:=choEnc) (Pre:=fun x W=>x.At W ∧ x.L ∈ chs l.length k 0) (Kp:=KpC own) (S:=fun xs=>xs.map El.L = chs l.length k 0) (Sp:=fun pre=>pre.map El.L <+: chs l.length k 0) (N:=(chs l.length k 0).length) (w0:=w2) ?seq (fun h k=>h.trans k) (fun W l o o' _ h1 h2 _=>KpC.putObj o' h1 h2) (Below.refl _ _) (fun _=>rfl)
   (fun pre W'=>∃ ys : List Er,ys.map Er.ps = (pre.map El.L).filterMap (rcpF l ⟨x,y,z⟩) ∧ J (xs ++ ys) W' ∧ KpC own w2 W' ∧ Marks (W.heap.size + 1) Ds W')
   (fun c pre W'=>c = .ret ∧ ∃ ys : List Er,ys.map Er.ps = (pre.map El.L).filterMap (rcpF l ⟨x,y,z⟩) ∧ Jx (xs ++ ys) W' ∧ Marks (W.heap.size + 1) Ds W') ?own ?ownx ?pre ?start
   (fun e=>{ tmps:=#[.func (.yield lb) #[] #[], .pointer (some ⟨bt,0,none⟩), .pointer (some ⟨bw,0,none⟩), .pointer (some ⟨W.heap.size,0,none⟩), .int .i64 k,e.v,undef,undef, .int .i64 k, .bool true,u10,u11, .slice At l.length ct, .int .i64 l.length, .int .i64 k,choFn (wr.heap.size + 1) wr.heap.size,e.v,undef,undef,undef,undef,undef,undef,undef,undef,undef,undef,undef,undef,undef,undef],defers:=[] }) ?assign ?body ?done ?stop
  case seq=>exact choices_seq (m + 1) own (wr.heap.size + 1) wr.heap.size k l.length hm2 (by omega) w2 (fun g h=>by have:=hown g h; omega) (fun h=>by have:=hown _ h; omega) (fun h=>by have:=hown _ h; omega) hm_ hn_
  case own =>
   rintro pre A B row ⟨ys,h1,h2,h3,h4⟩ hg hr
   exact ⟨ys,h1,HHJ.out _ _ _ _ h2 hg (fun r e=>⟨by have:=(hr r e).1; omega,(hr r e).2⟩),h3.trans (KpC.of_grown hg (fun r e=>(hr r e).2)),h4.grown hg (fun r e hm=>by have:=(hr r e).1; have:=hM2l r hm; omega)⟩
  case ownx =>
   rintro c pre A B row ⟨h0,ys,h1,h2,h4⟩ hg hr
   exact ⟨h0,ys,h1,HHX.out _ _ _ _ h2 hg (fun r e=>⟨by have:=(hr r e).1; omega,(hr r e).2⟩),h4.grown hg (fun r e hm=>by have:=(hr r e).1; have:=hM2l r hm; omega)⟩
  case pre =>
   rintro e A B row ⟨h1,h2⟩ hg hr
   exact ⟨h1.kp (KpC.of_grown hg (fun r e=>(hr r e).2)),h2⟩
  case start=>exact ⟨[],rfl,by rw [List.append_nil]; exact HHJ.out _ _ _ none HJr.out (grown_below hb2) (fun r e=>by cases e),KpC.refl _,hM2⟩
  case assign =>
   intro lb x W K hK
   gi_wp2
   exact hK
  case body =>
   rintro lb' pre e W' ⟨ys,h1,h2,h3,h4⟩ ⟨hat,hmem⟩ hlen
   have kpW:=kp2.trans h3
   have d1:=kpW.cell HBT.out ‹¬ own bt›
   have d2:=kpW.bk HBW.out ‹¬ own bw›
   have d20:=d2.cell 0 rfl
   have d21:=d2.cell 1 rfl
   have d22:=d2.cell 2 rfl
   have kY2:=(hkp2.trans h3).bk (Bk.new W 104 #[.func (.yield lb) #[] #[]]) hoY
   have HC:=Lib.hid (HREC.out e W' kpW hat hmem)
   have HMM:=Lib.hid hmem
   clear d2
   gi_wp2
   refine ⟨trivial,fun h=>(by cases h),?_⟩
   cases hr : rcpF l ⟨x,y,z⟩ e.L with
   | none =>
    have hc:=HC.out
    rw [hr] at hc
    refine CallsIn.mono (callsIn_round hc) ?_
    rintro ee w5 ⟨rfl,hb5⟩
    gi_wp2
    refine ⟨fun f h=>(by cases h),?_⟩
    gi_wp2
    have hz5:=hb5.size
    have hb6 : Below W'.heap.size W' (w5.alloc (.cells #[.slice none 0 0] 25)):=by exact (by repeat (first | with_reducible exact Below.refl _ _ | with_reducible assumption | with_reducible refine Below.drew ?_ | with_reducible refine below_drewN ?_ _ | (with_reducible refine Below.alloc ?_ ?_ _; rotate_left; (try simp) <;> omega) | (with_reducible refine Below.setCell ?_ ?_ _; rotate_left; (try simp) <;> omega)))
    exact ⟨keeps_below hb6,KpC.of_below hb6,ys,by simp [hr,h1],HHJ.out _ _ _ none h2 (grown_below hb6) (fun r e=>by cases e),h3.trans (KpC.of_below hb6),h4.below_ hb6⟩
   | some ps =>
    have hc:=HC.out
    rw [hr] at hc
    refine CallsIn.mono (callsIn_round hc) ?_
    rintro ee w5 ⟨v,rfl,ho5,hb5⟩
    obtain ⟨A5,c5,rfl,_,_⟩:=ownsSlice ho5
    have hz5:=hb5.size
    have hb6 : Below W'.heap.size W' (w5.alloc (.cells #[.slice A5 ps.length c5] 25)):=by exact (by repeat (first | with_reducible exact Below.refl _ _ | with_reducible assumption | with_reducible refine Below.drew ?_ | with_reducible refine below_drewN ?_ _ | (with_reducible refine Below.alloc ?_ ?_ _; rotate_left; (try simp) <;> omega) | (with_reducible refine Below.setCell ?_ ?_ _; rotate_left; (try simp) <;> omega)))
    have hq0:=(kY2.below hb6 kY2.lt).cell 0 rfl
    have hq1 : (w5.alloc (.cells #[.slice A5 ps.length c5] 25)).cell? ⟨w5.heap.size,0,none⟩ = some (.slice A5 ps.length c5):=(Bk.new w5 25 #[.slice A5 ps.length c5]).cell 0 rfl
    have hj6:=HHJ.out _ _ _ none h2 (grown_below hb6) (fun r e=>by cases e)
    have hk6:=h3.trans (KpC.of_below (own:=own) hb6)
    have hM6:=h4.below_ hb6
    have hls : Lies (w5.alloc (.cells #[.slice A5 ps.length c5] 25)) (w5.alloc (.cells #[.slice A5 ps.length c5] 25)).heap.size A5 (partsC ps):=((ownsRow_lies ho5).below ((Below.refl _ _).alloc (Nat.le_refl _) _) (Nat.le_refl _)).more (by simp)
    have hys : ys.length ≤ pre.length:=by
     have e1 : ys.length = ((pre.map El.L).filterMap (rcpF l ⟨x,y,z⟩)).length:=by rw [← h1,List.length_map]
     have e2:=List.length_filterMap_le (rcpF l ⟨x,y,z⟩) (pre.map El.L)
     rw [List.length_map] at e2
     omega
    have hpl : (xs ++ ys).length < (allc l.length).length:=by have:=HLEN.out; simp; omega
    obtain ⟨fn,tmps,assign,body,hy,hR⟩:=HY.out (xs ++ ys) ⟨ps,A5,c5⟩ _ hj6 ⟨⟨hls,fun ad e=>by subst e; rcases ho5.2 with ⟨h,_⟩ | ⟨g,cap,cur,h,hg,_⟩ <;> cases h; have:=kpW.size; show w.heap.size ≤ g; omega⟩,HPR.out.subset (List.mem_append_right _ (List.mem_filterMap.2 ⟨e.L,HMM.out,hr⟩))⟩ hpl
    have hy : (Instr.yield lb #[.agg #[.slice A5 ps.length c5]]).run Try.prog _ = .ok (.round lb fn tmps assign body) _:=hy
    have HRR:=Lib.hid hR
    generalize hw6 : w5.alloc (.cells #[.slice A5 ps.length c5] 25) = w6 at *
    clear hR hls ho5
    gi_wp2
    refine ⟨fun h=>(by cases h),RoundIn.mono (show RoundIn (Fence.wide.inRound lb') _ _ _ _ _ _ _ _ _ from HRR.out) ?_⟩
    have HYS : Hid ((ys ++ [(⟨ps,A5,c5⟩ : Er)]).map Er.ps = ((pre ++ [e]).map El.L).filterMap (rcpF l ⟨x,y,z⟩)):=by show _ = _; simp [hr,h1]
    rintro e8 w8 (⟨rfl,hj8,hk8,hf8⟩ | ⟨rfl,hx8,hk8,hf8⟩)
    ·have hj9 : J (xs ++ (ys ++ [⟨ps,A5,c5⟩])) w8:=by rw [← List.append_assoc]; exact hj8
     gi_wp2
     exact ⟨(keeps_below hb6).trans (keeps_up hf8 (by omega)),(KpC.of_below hb6).trans hk8,ys ++ [⟨ps,A5,c5⟩],HYS.out,hj9,hk6.trans hk8,hM6.from_ hf8 (by omega)⟩
    ·have hj9 : Jx (xs ++ (ys ++ [⟨ps,A5,c5⟩])) w8:=by rw [← List.append_assoc]; exact hx8
     gi_wp2
     exact ⟨(keeps_below hb6).trans (keeps_up hf8 (by omega)),(KpC.of_below hb6).trans hk8,rfl,ys ++ [⟨ps,A5,c5⟩],HYS.out,hj9,hM6.from_ hf8 (by omega)⟩
  case done =>
   rintro D xs' W' hwD hS ⟨ys,h1,h2,h3,h4⟩ hK
   have hMW:=Marks.cons h4 (by omega : W.heap.size + 1 ≤ D) (fun hm=>by have:=hM2l D hm; omega) hK
   have HX' : Hid ((xs ++ ys).map Er.ps = lev l ⟨x,y,z⟩ (k + 1)):=by show _ = _; rw [HSU.out,List.map_append,HX.out,h1,hS]
   have HJ':=Lib.hid h2
   have hkp':=hkp2.trans h3
   clear h1 h2 h3 h4 hK hS
   go_wp2
   refine ⟨⟨k + 1,xs ++ ys,D :: Ds,_,_,_,_,_,_,_,_,⟨by omega,by omega,HX',HJ',hkp',hMW⟩,rfl⟩,?_⟩
   simp [intOf]
   omega
  case stop =>
   rintro D cc pre W' hwD hp ⟨rfl,ys,h1,h2,h4⟩ hK
   have hMW:=Marks.cons h4 (by omega : W.heap.size + 1 ≤ D) (fun hm=>by have:=hM2l D hm; omega) hK
   gi_wp2
   refine leaves_marks (.inl rfl) hMW rfl (results_none rfl _ _ _) ⟨⟨_,rfl⟩, .inr ⟨xs ++ ys,?_,hMW.own HHX.out (by omega) h2⟩⟩
   show (xs ++ ys).map Er.ps <+: _
   refine List.IsPrefix.trans ?_ HPR.out
   rw [List.map_append,HX.out,h1]
   refine (List.prefix_append_right_inj _).2 ?_
   obtain ⟨t,ht⟩:=hp
   rw [← ht,List.filterMap_append]
   exact List.prefix_append _ _
 ·obtain rfl : k = 5:=by omega
  go_wp2
  refine leaves_marks (.inr rfl) hM rfl (results_none rfl _ _ _) ⟨⟨_,rfl⟩, .inl ⟨xs,?_,hM.own hJ (by omega) HJr.out⟩⟩
  rw [HX.out,lev_all]
end Go.Proofs.Ytkjceegmmhnajaa

namespace Go.Proofs.Ytkjceegmmhnajaa
open Go.RowKit LPX
attribute [local go_sem] Oper.semAt_some erEnc Er.v

set_option maxHeartbeats 400000 in
theorem recipes_any (A : Option Addr) (n c : Nat) (x y z : Int) (w : World) : Calls Try.prog 37 #[.slice A n c, .agg #[.int .i64 x, .int .i64 y, .int .i64 z]] w fun e w'=>e = .returned (.func (.func 68) #[] #[.pointer (some ⟨w.heap.size,0,none⟩), .pointer (some ⟨w.heap.size + 1,0,none⟩)]) ∧ Bk w' w.heap.size 22 #[.slice A n c] ∧ Bk w' (w.heap.size + 1) 37 #[.int .i64 x, .int .i64 y, .int .i64 z] ∧ Below w.heap.size w w' ∧ w'.heap.size = w.heap.size + 2:=by
 have k1 : Bk ((w.alloc (.cells #[.slice A n c] 22)).alloc (.cells #[.int .i64 x, .int .i64 y, .int .i64 z] 37)) w.heap.size 22 #[.slice A n c]:=(Bk.new _ _ _).alloc _
 have k2 : Bk ((w.alloc (.cells #[.slice A n c] 22)).alloc (.cells #[.int .i64 x, .int .i64 y, .int .i64 z] 37)) (w.heap.size + 1) 37 #[.int .i64 x, .int .i64 y, .int .i64 z]:=by simpa using Bk.new (w.alloc (.cells #[.slice A n c] 22)) 37 #[.int .i64 x, .int .i64 y, .int .i64 z]
 have hb : Below w.heap.size w ((w.alloc (.cells #[.slice A n c] 22)).alloc (.cells #[.int .i64 x, .int .i64 y, .int .i64 z] 37)):=by exact (by repeat (first | with_reducible exact Below.refl _ _ | with_reducible assumption | with_reducible refine Below.drew ?_ | with_reducible refine below_drewN ?_ _ | (with_reducible refine Below.alloc ?_ ?_ _; rotate_left; (try simp) <;> omega) | (with_reducible refine Below.setCell ?_ ?_ _; rotate_left; (try simp) <;> omega)))
 have HE:=Lib.hid (And.intro k1 (And.intro k2 (And.intro hb (show ((w.alloc (.cells #[.slice A n c] 22)).alloc (.cells #[.int .i64 x, .int .i64 y, .int .i64 z] 37)).heap.size = w.heap.size + 2 by simp))))
 clear k1 k2 hb
 go_enter Try.func37,Try.ntmps37
 go_wp2
 go_ret
 exact ⟨rfl,HE.out⟩

theorem offTint_sh {t : Tn} (h : offTint t = false) : shIn t.a t.b t.c:=by
 have h1:=sel_in h 0
 have h2:=sel_in h 1
 have h3:=sel_in h 2
 unfold shIn
 simp [sel] at h1 h2 h3
 omega
theorem chkW_ok {l : List Tn} {x y z : Int} (h : chkW l x y z = 0) : (l.length ≤ 12 ∧ 1 ≤ l.length) ∧ (∀ t ∈ l,offTint t = false) ∧ shIn x y z:=by
 unfold chkW at h
 split at h
 ·rename_i hc
  have hk:=chkT_ok hc
  split at h
  ·rename_i hs
   exact ⟨⟨hk.1,hk.2.1⟩,hk.2.2.1,shIn_of hs⟩
  ·cases h
 ·rename_i hc; exact absurd h hc
end Go.Proofs.Ytkjceegmmhnajaa

namespace Go.Proofs.Ytkjceegmmhnajaa
open Go.RowKit LPX

theorem rrecipe_any (l : List Tn) (L : List Nat) (x y z : Int) (At A : Option Addr) (ct c : Nat) (w : World) (hlt : Lies w w.heap.size At (tintsC l)) (hl : Lies w w.heap.size A (nats L)) (h4 : 1 ≤ L.length ∧ L.length ≤ 4) (hr : ∀ i ∈ L,i < l.length) (hm2 : l.length ≤ 1000)
  (hsh : ∀ t ∈ l,shIn t.a t.b t.c) (hx : shIn x y z) : Calls Try.prog 52 #[.slice At l.length ct, .slice A L.length c, .agg #[.int .i64 x, .int .i64 y, .int .i64 z]] w (RecR (rrcpF l ⟨x,y,z⟩ L) w):=by
 have hl':=hl
 rw [nats_ints] at hl'
 have h4' : 1 ≤ (natI L).length ∧ (natI L).length ≤ 4:=by rw [natI_len]; exact h4
 have hr' : ∀ i ∈ natI L,0 ≤ i ∧ i < l.length:=fun i hi=>by
  unfold natI at hi
  obtain ⟨j,hj,rfl⟩:=List.mem_map.1 hi
  have:=hr j hj
  omega
 have hpts : ∀ p ∈ ptsOf l (natI L),shadeV p:=fun p hp=>by
  unfold ptsOf at hp
  obtain ⟨i,hi,rfl⟩:=List.mem_map.1 hp
  obtain ⟨h1,h2⟩:=hr' i hi
  have h3 : i.toNat < l.length:=by omega
  rw [List.getElem?_eq_getElem h3]
  exact hsh _ (List.getElem_mem h3)
 have h:=rrecipe_all l (natI L) x y z At A ct c w hlt hl' h4' hr' hm2 hsh hx _ rfl (fun ws hws=>by
  obtain ⟨b1,b2⟩:=rpw_bd hws hpts hx
  exact ⟨by rw [b1]; simp [ptsOf],fun v hv=>by have:=b2 v hv; unfold ab at this; omega⟩)
 rw [natI_len] at h
 exact h
theorem rec_form {r : Option (List Pt)} {w w' : World} {e : Ending} (h : RecR r w e w') : ∃ (A : Option Addr) (n c : Nat) (b : Bool),e = .returned (.tuple #[.agg #[.slice A n c], .bool b]) ∧ Below w.heap.size w w' ∧ ((b = false ∧ r = none) ∨ (b = true ∧ ∃ ps,r = some ps ∧ n = ps.length ∧ w'.ownsRow w.heap.size 64 2 (.slice A n c) n (partsC ps))):=by
 cases r with
 | none=>exact ⟨none,0,0,false,h.1,h.2, .inl ⟨rfl,rfl⟩⟩
 | some ps =>
  obtain ⟨v,he,ho,hb⟩:=h
  obtain ⟨A,c,rfl,_,_⟩:=ownsSlice ho
  exact ⟨A,ps.length,c,true,he,hb, .inr ⟨rfl,ps,rfl,rfl,ho⟩⟩
theorem own_setCell2 {w : World} {base b o : Nat} {e : TypeId} {size n : Nat} {v u : Value} {xs : List Value} (ho : w.ownsRow base e size v n xs) (hb : v.ownBlock = some b → False) : (w.setCell ⟨b,o,none⟩ u).ownsRow base e size v n xs:=by
 refine ⟨ho.1,?_⟩
 rcases ho.2 with h | ⟨g,cap,cur,rfl,h2,h3,h4⟩
 ·exact .inl h
 ·exact .inr ⟨g,cap,cur,rfl,h2,(Below.heap_setCell _ _ _ g (show g ≠ b by intro e; subst e; exact hb rfl)).trans h3,h4⟩
def rallR (l : List Tn) (x : Vc) : List (List Pt):=(allc l.length).filterMap (rrcpF l x)
end Go.Proofs.Ytkjceegmmhnajaa
