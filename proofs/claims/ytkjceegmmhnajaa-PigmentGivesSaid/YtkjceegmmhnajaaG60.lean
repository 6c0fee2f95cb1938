/- merged by wip/claimm.py -/
import Derived.Maps.AppendAt
import Derived.Deep.AppendLies
import Derived.Test.YtkjceegmmhnajaaG54
import Derived.Test.YtkjceegmmhnajaaG59

set_option linter.unusedVariables false
set_option linter.unusedSimpArgs false

namespace Go.Proofs.Ytkjceegmmhnajaa
open Go.RowKit

abbrev Tn.agg (t : Tn) : Value:=.agg #[.string t.name, .int .i64 t.a, .int .i64 t.b, .int .i64 t.c, .int .i64 t.price]
def priceB (p : Int) : Bool:=decide (0 ≤ p) && decide (p ≤ 10000)
def offTint (t : Tn) : Bool:=!nameB t.name || !shadeB t.a t.b t.c || !priceB t.price

set_option maxHeartbeats 1000000 in
theorem checkTints1_any (t : Tn) (w : World) (hs : t.name.size ≤ 100) :
  Calls Try.prog 57 #[t.agg] w (ShEnd (offTint t) w):=by
 have h57 : offTint t = (!nameB t.name || !shadeB t.a t.b t.c || !priceB t.price):=rfl
 have H57:=Lib.hid h57; clear h57
 obtain ⟨nm,a,b,c,p⟩:=t
 have HP : Hid (priceB p = (decide (0 ≤ p) && decide (p ≤ 10000))):=rfl
 dsimp only at *
 by_cases h1 : nameB nm = true
 ·have H1:=Lib.hid h1; clear h1
  by_cases h2 : shadeB a b c = true
  ·have H2:=Lib.hid h2; clear h2
   go_enter Try.func57,Try.ntmps57
   go_wp2_with (first | (go_at_call 58; refine (isName_any _ _ hs).mono ?_; rintro e w' ⟨rfl,rfl⟩; rw [H1.out]) | (go_at_call 59; refine (isShade_any _ _ _ _).mono ?_; rintro e w1 ⟨rfl,hb⟩; rw [H2.out]; obtain ⟨hc,hf⟩:=bcell hb; have hz:=hb.size; simp at hz) | (go_at_call 45; refine (among_any _ _ _ _).mono ?_; rintro e w' ⟨rfl,rfl⟩))
   go_ret
   refine sh_ret ?_ ?_
   ·rw [H57.out,H1.out,H2.out,HP.out]; simp
   ·exact ((Below.refl w.heap.size w).alloc (Nat.le_refl _) _).trans (hb.mono (by simp))
  ·have h2' : shadeB a b c = false:=by simpa using h2
   have H2:=Lib.hid h2'; clear h2 h2'
   go_enter Try.func57,Try.ntmps57
   go_wp2_with (first | (go_at_call 58; refine (isName_any _ _ hs).mono ?_; rintro e w' ⟨rfl,rfl⟩; rw [H1.out]) | (go_at_call 59; refine (isShade_any _ _ _ _).mono ?_; rintro e w1 ⟨rfl,hb⟩; rw [H2.out]; obtain ⟨hc,hf⟩:=bcell hb; have hz:=hb.size; simp at hz))
   go_ret
   refine sh_ret ?_ ?_
   ·rw [H57.out,H1.out,H2.out]; simp
   ·exact ((Below.refl w.heap.size w).alloc (Nat.le_refl _) _).trans (hb.mono (by simp))
 ·have h1' : nameB nm = false:=by simpa using h1
  have H1:=Lib.hid h1'; clear h1 h1'
  go_enter Try.func57,Try.ntmps57
  go_wp2_with (first | (go_at_call 58; refine (isName_any _ _ hs).mono ?_; rintro e w' ⟨rfl,rfl⟩; rw [H1.out]))
  go_ret
  exact sh_ret (by rw [H57.out,H1.out]; simp) (by repeat (first | with_reducible exact Below.refl _ _ | with_reducible assumption | with_reducible refine Below.drew ?_ | with_reducible refine below_drewN ?_ _ | (with_reducible refine Below.alloc ?_ ?_ _; rotate_left; (try simp) <;> omega) | (with_reducible refine Below.setCell ?_ ?_ _; rotate_left; (try simp) <;> omega)))

set_option maxHeartbeats 400000 in
theorem idxT57 (p : Tn → Bool) (l : List Tn) (A : Option Addr) (c : Nat) (w : World)  (hl : Lies w w.heap.size A (tintsC l)) (hm : l.length ≤ 1000)
  (hp : Hid (∀ t ∈ l,∀ W : World,Below w.heap.size w W → Calls Try.prog 57 (#[t.agg] ++ #[]) W (ShEnd (p t) W))) :
  Calls Try.prog 79 #[.slice A l.length c, .func (.func 57) #[] #[]] w fun e w'=>e = .returned (.int .i64 (idxL p l)) ∧ Below w.heap.size w w':=by
 go_enter Try.func79,Try.ntmps79
 go_wp2
 go_loopw [8] (fun y wr=>∃ k : Nat,k ≤ l.length ∧ y = .int .i64 k ∧ Hid (∀ j (hj : j < k) (h' : j < l.length),p l[j] = false) ∧ Below w.heap.size w wr) (fun y _=>l.length - (intOf y).toNat)
 case atStart=>exact ⟨0,by omega,rfl,fun j hj=>absurd hj (by omega),Below.refl _ _⟩
 case round =>
  obtain ⟨k,hk,rfl,hg,hbw⟩:=hrel
  have hbs:=hbw.size
  by_cases hlt : k < l.length
  ·obtain ⟨ad,rfl,_,c0,c1,c2,c3,c4⟩:=tint_at (hl.below hbw (Nat.le_refl _)) hlt
   have HC:=Lib.hid (hp.out l[k] (List.getElem_mem hlt))
   clear hl
   by_cases h0 : p l[k] = true
   ·have H : Hid (idxL p l = (k : Int)):=by
     have:=idxL_drop p l k hk hg.out (.inr ⟨hlt,h0⟩)
     rw [if_pos hlt] at this; exact this
    have H0:=Lib.hid h0; clear h0
    go_wp2_with (go_at_call 57; refine (HC.out _ (by exact (by repeat (first | with_reducible exact Below.refl _ _ | with_reducible assumption | with_reducible refine Below.drew ?_ | with_reducible refine below_drewN ?_ _ | (with_reducible refine Below.alloc ?_ ?_ _; rotate_left; (try simp) <;> omega) | (with_reducible refine Below.setCell ?_ ?_ _; rotate_left; (try simp) <;> omega))))).mono ?_; rintro e w1 ⟨rfl,hb⟩; rw [H0.out])
    go_ret
    exact ⟨ret_int H.out.symm,hbw.trans (hb.mono (by omega))⟩
   ·have h0' : p l[k] = false:=by simpa using h0
    have H : Hid (∀ j (hj : j < k + 1) (h' : j < l.length),p l[j] = false):=fun j hj h'=>by
     by_cases e : j = k
     ·subst e; exact h0'
     ·exact hg.out j (by omega) h'
    have H0:=Lib.hid h0'; clear h0 h0'
    go_wp2_with (go_at_call 57; refine (HC.out _ (by exact (by repeat (first | with_reducible exact Below.refl _ _ | with_reducible assumption | with_reducible refine Below.drew ?_ | with_reducible refine below_drewN ?_ _ | (with_reducible refine Below.alloc ?_ ?_ _; rotate_left; (try simp) <;> omega) | (with_reducible refine Below.setCell ?_ ?_ _; rotate_left; (try simp) <;> omega))))).mono ?_; rintro e w1 ⟨rfl,hb⟩; rw [H0.out])
    go_roundw
    case rel=>exact ⟨k + 1,by omega,by go_num,H,hbw.trans (hb.mono (by omega))⟩
    case measure=>simp [intOf]; omega
  ·obtain rfl : k = l.length:=by omega
   have H : Hid (idxL p l = -1):=by
    have:=idxL_drop p l _ hk hg.out (.inl rfl)
    rw [if_neg (by omega)] at this; exact this
   go_wp2
   go_ret
   exact ⟨ret_int H.out.symm,hbw⟩
set_option maxHeartbeats 400000 in
theorem anyT57 (p : Tn → Bool) (l : List Tn) (A : Option Addr) (c : Nat) (w : World)  (hl : Lies w w.heap.size A (tintsC l)) (hm : l.length ≤ 1000)
  (hp : Hid (∀ t ∈ l,∀ W : World,Below w.heap.size w W → Calls Try.prog 57 (#[t.agg] ++ #[]) W (ShEnd (p t) W))) :
  Calls Try.prog 47 #[.slice A l.length c, .func (.func 57) #[] #[]] w (ShEnd (l.any p) w):=by
 have HE:=Lib.hid (idxL_dec p l)
 go_enter Try.func47,Try.ntmps47
 go_wp2_with (go_at_call 79; refine (idxT57 p l _ _ _  hl hm hp).mono ?_; rintro e w1 ⟨rfl,hb⟩)
 go_ret
 exact sh_ret HE.out hb

end Go.Proofs.Ytkjceegmmhnajaa

namespace Go.Proofs.Ytkjceegmmhnajaa
open Go.RowKit

theorem info9 : (Try.prog.info? 9).map (fun i=>(i.zero,i.size,i.bytes)) = some (some (.string ByteArray.empty),1,16):=by kernel_rfl
def names (l : List Tn) : List ByteArray:=l.map Tn.name
def chkT (l : List Tn) : Int:=if 12 < l.length then 2 else if l.length = 0 ∨ l.any offTint = true then 1 else if twiceB (names l) = true then 6 else 0

def IntEnd (n : Int) (w : World) (e : Ending) (w' : World) : Prop:=e = .returned (.int .i64 n) ∧ Below w.heap.size w w'
theorem int_end {m n : Int} {w w' : World} (h : m = n) (hb : Below w.heap.size w w') : IntEnd n w (.returned (.int .i64 m)) w':=⟨by rw [h],hb⟩

open World in
theorem ownsRow_lies {w : World} {base : Nat} {e : TypeId} {A : Option Addr} {size n c : Nat} {xs : List Value} (h : w.ownsRow base e size (.slice A n c) n xs) : Lies w w.heap.size A xs:=fun hn=>by
 have hpos : 0 < n:=by
  have:=h.1
  rcases Nat.eq_zero_or_pos n with h0 | h0
  ·subst h0; simp at this; exact absurd this hn
  ·exact h0
 obtain ⟨g,cap,hv,_,hlt⟩:=h.form hpos
 have hA : A = some ⟨g,0,none⟩:=by injection hv
 subst hA
 exact ⟨_,rfl,hlt,h.cells (g:=g) rfl⟩

set_option maxHeartbeats 1000000 in
theorem checkTints_any (l : List Tn) (A : Option Addr) (c : Nat) (w : World) (hl : Lies w w.heap.size A (tintsC l)) (hm : l.length ≤ 1000) (hs : ∀ t ∈ l,t.name.size ≤ 100) :
  Calls Try.prog 28 #[.slice A l.length c] w (IntEnd (chkT l) w):=by
 obtain ⟨i0,hi0,hz0,hz1,hz2⟩:=info_parts info9
 have I9:=Lib.hid (And.intro hi0 (And.intro hz0 (And.intro hz1 hz2))); clear hi0 hz0 hz1 hz2
 have hAny:=anyT57 offTint l A c w hl hm (show Hid _ from fun t ht W hb=>checkTints1_any t W (hs t ht))
 have HA:=Lib.hid hAny; clear hAny
 have HC : Hid (chkT l = if 12 < l.length then 2 else if l.length = 0 ∨ l.any offTint = true then 1 else if twiceB (names l) = true then 6 else 0):=rfl
 by_cases h12 : 12 < l.length
 ·go_enter Try.func28,Try.ntmps28
  go_wp2
  go_ret
  exact int_end (by rw [HC.out,if_pos h12]) (by repeat (first | with_reducible exact Below.refl _ _ | with_reducible assumption | with_reducible refine Below.drew ?_ | with_reducible refine below_drewN ?_ _ | (with_reducible refine Below.alloc ?_ ?_ _; rotate_left; (try simp) <;> omega) | (with_reducible refine Below.setCell ?_ ?_ _; rotate_left; (try simp) <;> omega)))
 ·by_cases h0 : l.length = 0
  ·have hb0 : ((l.length : Int) == 0) = true:=by rw [beq_iff_eq]; omega
   have H : Hid (chkT l = 1):=by rw [HC.out,if_neg h12,if_pos (.inl h0)]; rfl
   have H0:=Lib.hid h0; clear h0
   go_enter Try.func28,Try.ntmps28
   go_wp2
   go_ret
   exact int_end H.out.symm (by repeat (first | with_reducible exact Below.refl _ _ | with_reducible assumption | with_reducible refine Below.drew ?_ | with_reducible refine below_drewN ?_ _ | (with_reducible refine Below.alloc ?_ ?_ _; rotate_left; (try simp) <;> omega) | (with_reducible refine Below.setCell ?_ ?_ _; rotate_left; (try simp) <;> omega)))
  ·have hb0 : ((l.length : Int) == 0) = false:=by rw [beq_eq_false_iff_ne]; omega
   by_cases h1 : l.any offTint = true
   ·have H : Hid (chkT l = 1):=by rw [HC.out,if_neg h12,if_pos (.inr h1)]; rfl
    have H1:=Lib.hid h1; clear h1
    go_enter Try.func28,Try.ntmps28
    go_wp2_with (go_at_call 47; refine HA.out.mono ?_; rintro e w1 ⟨rfl,hb⟩; rw [H1.out])
    go_ret
    exact int_end H.out.symm hb
   ·have h1' : l.any offTint = false:=by simpa using h1
    have HC' : Hid (chkT l = if twiceB (names l) = true then 6 else 0):=by
     show _ = _
     rw [HC.out,if_neg h12,if_neg (by intro h; rcases h with h | h <;> contradiction)]
    have H1:=Lib.hid h1'; clear h1 h1' HC
    go_enter Try.func28,Try.ntmps28
    go_wp2_with (go_at_call 47; refine HA.out.mono ?_; rintro e w1 ⟨rfl,hb⟩; rw [H1.out])
    have hbs:=hb.size
    go_loopw [3,18] (fun v y wr=>∃ k : Nat,k ≤ l.length ∧ y = .int .i64 k ∧ wr.ownsRow w.heap.size 9 1 v k (strsC (names (l.take k))) ∧ Below w.heap.size w wr) (fun _ y _=>l.length - (intOf y).toNat)
    case atStart=>exact ⟨0,by omega,rfl,World.ownsRow_nil _ _ _ _,hb⟩
    case round =>
     clear hb hbs
     obtain ⟨k,hk,rfl,hown,hbw⟩:=hrel
     have hbs:=hbw.size
     by_cases hlt : k < l.length
     ·obtain ⟨ad,rfl,_,c0,c1,c2,c3,c4⟩:=tint_at (hl.below hbw (Nat.le_refl _)) hlt
      have HN : Hid (strsC (names (l.take k)) ++ [.string l[k].name] = strsC (names (l.take (k + 1)))):=by
       show _ = _
       rw [List.take_succ_eq_append_getElem hlt]; simp only [strsC,names,List.map_append,List.map_cons,List.map_nil]
      clear hl
      go_wp2_with (at_builtin; refine wpList_append_own _ rfl (.tmp 22) (.tmp 25) 99 rfl w.heap.size 9 i0 (.string ByteArray.empty) 1 16 Try.underlying99 I9.out.1 I9.out.2.1 I9.out.2.2.1 I9.out.2.2.2 rfl (by decide) _ k (strsC (names (l.take k))) rfl ((hown.alloc _).alloc _) ⟨wr.heap.size + 1,0,none⟩ 1 1 [.string l[k].name] rfl rfl ?c1 ?c2 ?c3 ?c4 ?c5 ?_)
      case c1=>simpa using cell_one_new (wr.alloc (.cells #[.string l[k].name, .int .i64 l[k].a, .int .i64 l[k].b, .int .i64 l[k].c, .int .i64 l[k].price] 39)) (.string l[k].name) 9
      case c2=>intro u hu; simp at hu; subst hu; rfl
      case c3=>unfold maxLen; omega
      case c4=>omega
      case c5=>simp; omega
      intro v' w1 hown' hgrow _
      rw [HN.out] at hown'
      have hb1 : Below w.heap.size w w1:=Below.grown (w:=(wr.alloc _).alloc _) (by repeat (first | with_reducible exact Below.refl _ _ | with_reducible assumption | with_reducible refine Below.drew ?_ | with_reducible refine below_drewN ?_ _ | (with_reducible refine Below.alloc ?_ ?_ _; rotate_left; (try simp) <;> omega) | (with_reducible refine Below.setCell ?_ ?_ _; rotate_left; (try simp) <;> omega))) hgrow (by simp; omega) (fun g hg=>by
       rcases hown.2 with ⟨rfl,_⟩ | ⟨g',_,_,rfl,hge,_⟩
       ·simp [Value.ownBlock] at hg
       ·simp [Value.ownBlock] at hg; omega)
      clear hgrow hown
      go_wp2
      go_roundw
      case rel=>exact ⟨k + 1,by omega,by go_num,hown',hb1⟩
      case measure=>simp [intOf]; omega
     ·obtain rfl : k = l.length:=by omega
      have hlen : (names (l.take l.length)).length = l.length:=by rw [List.take_length]; simp [names]
      have hform : ∃ A2 c2,u3 = .slice A2 l.length c2 ∧ l.length ≤ c2 ∧ c2 ≤ maxLen:=by
       rcases hown.2 with h | ⟨g',c2,_,h,hge,_,h1,h2,_⟩
       ·exact absurd h.2 h0
       ·exact ⟨_,_,h,h1,h2⟩
      obtain ⟨A2,c2,rfl,hc1,hc2⟩:=hform
      have hL:=ownsRow_lies hown
      rw [List.take_length] at hL
      have hn : (names l).length = l.length:=by simp [names]
      have hT:=twice_any (names l) A2 c2 wr hL (by omega) (by omega) hc2
      rw [hn] at hT
      have HT:=Lib.hid hT
      clear hT hL hc1 hc2 hn hlen hown
      by_cases ht : twiceB (names l) = true
      ·have H : Hid (chkT l = 6):=by show _ = _; rw [HC'.out,if_pos ht]
       have H2:=Lib.hid ht; clear ht
       go_wp2_with (go_at_call 60; refine HT.out.mono ?_; rintro e w1 ⟨rfl,rfl⟩; rw [H2.out])
       go_ret
       exact int_end H.out.symm hbw
      ·have ht' : twiceB (names l) = false:=by simpa using ht
       have H : Hid (chkT l = 0):=by show _ = _; rw [HC'.out,if_neg ht]
       have H2:=Lib.hid ht'; clear ht ht'
       go_wp2_with (go_at_call 60; refine HT.out.mono ?_; rintro e w1 ⟨rfl,rfl⟩; rw [H2.out])
       go_ret
       exact int_end H.out.symm hbw

/-! checkWant -/
def chkW (l : List Tn) (a b c : Int) : Int:=if chkT l = 0 then (if shadeB a b c = true then 0 else 1) else chkT l
set_option maxHeartbeats 1000000 in
theorem checkWant_any (l : List Tn) (A : Option Addr) (c : Nat) (x y z : Int) (w : World) (hl : Lies w w.heap.size A (tintsC l)) (hm : l.length ≤ 1000) (hs : ∀ t ∈ l,t.name.size ≤ 100) :
  Calls Try.prog 36 #[.slice A l.length c, .agg #[.int .i64 x, .int .i64 y, .int .i64 z]] w (IntEnd (chkW l x y z) w):=by
 have HT:=Lib.hid (fun W (hb : Below w.heap.size w W)=>checkTints_any l A c W ((hl.below hb (Nat.le_refl _)).more hb.size) hm hs)
 have HC : Hid (chkW l x y z = if chkT l = 0 then (if shadeB x y z = true then 0 else 1) else chkT l):=rfl
 generalize hq : chkT l = q at *
 by_cases h0 : q = 0
 ·subst h0
  by_cases h1 : shadeB x y z = true
  ·have H : Hid (chkW l x y z = 0):=by show _ = _; rw [HC.out,if_pos rfl,if_pos h1]
   have H1:=Lib.hid h1; clear h1 hq hs hl
   go_enter Try.func36,Try.ntmps36
   go_wp2_with (first | (go_at_call 28; refine (HT.out _ (by repeat (first | with_reducible exact Below.refl _ _ | with_reducible assumption | with_reducible refine Below.drew ?_ | with_reducible refine below_drewN ?_ _ | (with_reducible refine Below.alloc ?_ ?_ _; rotate_left; (try simp) <;> omega) | (with_reducible refine Below.setCell ?_ ?_ _; rotate_left; (try simp) <;> omega)))).mono ?_; rintro e w1 ⟨rfl,hb⟩; obtain ⟨hc,hf⟩:=bcell hb; have hz:=hb.size; simp at hz) | (go_at_call 59; refine (isShade_any _ _ _ _).mono ?_; rintro e w2 ⟨rfl,hb2⟩; rw [H1.out]))
   go_ret
   exact int_end H.out.symm ((((Below.refl _ _).alloc (Nat.le_refl _) _).trans (hb.mono (by simp))).trans (hb2.mono (by omega)))
  ·have h1' : shadeB x y z = false:=by simpa using h1
   have H : Hid (chkW l x y z = 1):=by show _ = _; rw [HC.out,if_pos rfl,if_neg h1]
   have H1:=Lib.hid h1'; clear h1 h1' hq hs hl
   go_enter Try.func36,Try.ntmps36
   go_wp2_with (first | (go_at_call 28; refine (HT.out _ (by repeat (first | with_reducible exact Below.refl _ _ | with_reducible assumption | with_reducible refine Below.drew ?_ | with_reducible refine below_drewN ?_ _ | (with_reducible refine Below.alloc ?_ ?_ _; rotate_left; (try simp) <;> omega) | (with_reducible refine Below.setCell ?_ ?_ _; rotate_left; (try simp) <;> omega)))).mono ?_; rintro e w1 ⟨rfl,hb⟩; obtain ⟨hc,hf⟩:=bcell hb; have hz:=hb.size; simp at hz) | (go_at_call 59; refine (isShade_any _ _ _ _).mono ?_; rintro e w2 ⟨rfl,hb2⟩; rw [H1.out]))
   go_ret
   exact int_end H.out.symm ((((Below.refl _ _).alloc (Nat.le_refl _) _).trans (hb.mono (by simp))).trans (hb2.mono (by omega)))
 ·have H : Hid (chkW l x y z = q):=by show _ = _; rw [HC.out,if_neg h0]
  have hb1 : (q != 0) = true:=by rw [bne_iff_ne]; exact h0
  have hb2 : (q == 0) = false:=by rw [beq_eq_false_iff_ne]; exact h0
  have H0:=Lib.hid h0; clear h0 hq hs hl
  go_enter Try.func36,Try.ntmps36
  go_wp2_with (first | (go_at_call 28; refine (HT.out _ (by repeat (first | with_reducible exact Below.refl _ _ | with_reducible assumption | with_reducible refine Below.drew ?_ | with_reducible refine below_drewN ?_ _ | (with_reducible refine Below.alloc ?_ ?_ _; rotate_left; (try simp) <;> omega) | (with_reducible refine Below.setCell ?_ ?_ _; rotate_left; (try simp) <;> omega)))).mono ?_; rintro e w1 ⟨rfl,hb⟩; obtain ⟨hc,hf⟩:=bcell hb; have hz:=hb.size; simp at hz))
  go_ret
  exact int_end H.out.symm (((Below.refl _ _).alloc (Nat.le_refl _) _).trans (hb.mono (by simp)))
end Go.Proofs.Ytkjceegmmhnajaa

namespace Go.Proofs.Ytkjceegmmhnajaa
open Go.RowKit

theorem twice_names_yes {l : List Tn} {i k : Nat} (hi : i < l.length) (hk : k < i) (h : l[i].name = (l[k]'(by omega)).name) : twiceB (names l) = true:=by
 refine twiceB_yes (j:=i) (by simpa [names] using hi) ?_
 rw [List.any_eq_true]
 refine ⟨(l[k]'(by omega)).name,?_,by simpa [names] using h⟩
 rw [List.mem_take_iff_getElem]
 exact ⟨k,by simp [names]; omega,by simp [names]⟩
theorem twice_names_no {l : List Tn} (h : ∀ i (hi : i < l.length) k (hk : k < i),l[i].name ≠ (l[k]'(by omega)).name) : twiceB (names l) = false:=by
 refine twiceB_no (fun j hj=>?_)
 rw [List.any_eq_false]
 intro x hx
 rw [List.mem_take_iff_getElem] at hx
 obtain ⟨k,hk,rfl⟩:=hx
 simp only [names,List.getElem_map,decide_eq_true_iff]
 refine h j (by simpa [names] using hj) k ?_
 omega
theorem any_off_no {l : List Tn} (h : ∀ j (_ : j < l.length),offTint (l[j]'‹_›) = false) : l.any offTint = false:=by
 rw [List.any_eq_false]
 intro x hx
 obtain ⟨j,hj,rfl⟩:=List.getElem_of_mem hx
 rw [h j hj]; exact Bool.false_ne_true
theorem any_off_yes {l : List Tn} {j : Nat} (hj : j < l.length) (h : offTint l[j] = true) : l.any offTint = true:=List.any_eq_true.2 ⟨_,List.getElem_mem hj,h⟩

set_option maxHeartbeats 1000000 in
theorem rtints_any (l : List Tn) (A : Option Addr) (c : Nat) (w : World) (hl : Lies w w.heap.size A (tintsC l)) (hm : l.length ≤ 1000) (hs : ∀ t ∈ l,t.name.size ≤ 100) :
  Calls Try.prog 31 #[.slice A l.length c] w (IntEnd (chkT l) w):=by
 have HC : Hid (chkT l = if 12 < l.length then 2 else if l.length = 0 ∨ l.any offTint = true then 1 else if twiceB (names l) = true then 6 else 0):=rfl
 by_cases h12 : 12 < l.length
 ·go_enter Try.func31,Try.ntmps31
  go_wp2
  go_ret
  exact int_end (by rw [HC.out,if_pos h12]) (by repeat (first | with_reducible exact Below.refl _ _ | with_reducible assumption | with_reducible refine Below.drew ?_ | with_reducible refine below_drewN ?_ _ | (with_reducible refine Below.alloc ?_ ?_ _; rotate_left; (try simp) <;> omega) | (with_reducible refine Below.setCell ?_ ?_ _; rotate_left; (try simp) <;> omega)))
 ·by_cases h0 : l.length = 0
  ·have hb0 : ((l.length : Int) == 0) = true:=by rw [beq_iff_eq]; omega
   have H : Hid (chkT l = 1):=by rw [HC.out,if_neg h12,if_pos (.inl h0)]; rfl
   have H0:=Lib.hid h0; clear h0
   go_enter Try.func31,Try.ntmps31
   go_wp2
   go_ret
   exact int_end H.out.symm (by repeat (first | with_reducible exact Below.refl _ _ | with_reducible assumption | with_reducible refine Below.drew ?_ | with_reducible refine below_drewN ?_ _ | (with_reducible refine Below.alloc ?_ ?_ _; rotate_left; (try simp) <;> omega) | (with_reducible refine Below.setCell ?_ ?_ _; rotate_left; (try simp) <;> omega)))
  ·have hb0 : ((l.length : Int) == 0) = false:=by rw [beq_eq_false_iff_ne]; omega
   have HO : Hid (∀ t : Tn,offTint t = (!nameB t.name || !shadeB t.a t.b t.c || !priceB t.price)):=fun _=>rfl
   have HP : Hid (∀ p,priceB p = (decide (0 ≤ p) && decide (p ≤ 10000))):=fun _=>rfl
   have HS:=Lib.hid hs; clear hs
   go_enter Try.func31,Try.ntmps31
   go_wp2
   go_loopw [3] (fun y wr=>∃ k : Nat,k ≤ l.length ∧ y = .int .i64 k ∧ Hid (∀ j (hj : j < k) (h' : j < l.length),offTint l[j] = false) ∧ Below w.heap.size w wr) (fun y _=>l.length - (intOf y).toNat)
   case atStart=>exact ⟨0,by omega,rfl,fun j hj=>absurd hj (by omega),Below.refl _ _⟩
   case round =>
    obtain ⟨k,hk,rfl,hg,hbw⟩:=hrel
    have hbs:=hbw.size
    by_cases hlt : k < l.length
    ·obtain ⟨ad,rfl,hadb,c0,c1,c2,c3,c4⟩:=tint_at (hl.below hbw (Nat.le_refl _)) hlt
     have hsz:=HS.out _ (List.getElem_mem hlt)
     have hadb' : ((ad.add (k * 5)).block) < w.heap.size:=by rw [add_block]; exact hadb
     have hc4 : wr.cell? ⟨(ad.add (k * 5)).block,(ad.add (k * 5)).off + 4,none⟩ = some (.int .i64 l[k].price):=c4
     have HY : offTint l[k] = false → Hid (∀ j (hj : j < k + 1) (h' : j < l.length),offTint l[j] = false):=fun ho j hj h'=>by
      by_cases e : j = k
      ·subst e; exact ho
      ·exact hg.out j (by omega) h'
     have HY':=Lib.hid HY; clear HY
     have HX : offTint l[k] = true → chkT l = 1:=fun ho=>by rw [HC.out,if_neg h12,if_pos (.inr (any_off_yes hlt ho))]
     have HX':=Lib.hid HX; clear HX hl hg
     have HOk:=Lib.hid (HO.out l[k])
     have HPk:=Lib.hid (HP.out l[k].price)
     have hadb2 : (ad.add (k * 5)).block < wr.heap.size:=by omega
     by_cases h1 : nameB l[k].name = true
     ·have H1:=Lib.hid h1; clear h1
      by_cases h2 : shadeB l[k].a l[k].b l[k].c = true
      ·have H2:=Lib.hid h2; clear h2
       by_cases h3 : 0 ≤ l[k].price
       ·by_cases h4 : l[k].price ≤ 10000
        ·have H:=HY'.out (by rw [HOk.out,H1.out,H2.out,HPk.out]; simp [h3,h4])
         clear HX' HY' HOk HPk
         go_wp2_with (first | (go_at_call 64; refine (rName_any _ _ hsz).mono ?_; rintro e w' ⟨rfl,rfl⟩; rw [H1.out]) | (go_at_call 65; refine (rshade_any _ _ _ _).mono ?_; rintro e w1 ⟨rfl,hb⟩; rw [H2.out]; obtain ⟨hc,hf⟩:=bcell hb; have hz:=hb.size; try simp at hz))
         go_roundw
         case rel=>exact ⟨k + 1,by omega,by go_num,H,hbw.trans (hb.mono (by omega))⟩
         case measure=>simp [intOf]; omega
        ·have H:=Lib.hid (HX'.out (by rw [HOk.out,HPk.out]; simp [h4]))
         clear HX' HY' HOk HPk
         go_wp2_with (first | (go_at_call 64; refine (rName_any _ _ hsz).mono ?_; rintro e w' ⟨rfl,rfl⟩; rw [H1.out]) | (go_at_call 65; refine (rshade_any _ _ _ _).mono ?_; rintro e w1 ⟨rfl,hb⟩; rw [H2.out]; obtain ⟨hc,hf⟩:=bcell hb; have hz:=hb.size; try simp at hz))
         go_ret
         exact int_end H.out.symm (hbw.trans (hb.mono (by omega)))
       ·have H:=Lib.hid (HX'.out (by rw [HOk.out,HPk.out]; simp [h3]))
        clear HX' HY' HOk HPk
        go_wp2_with (first | (go_at_call 64; refine (rName_any _ _ hsz).mono ?_; rintro e w' ⟨rfl,rfl⟩; rw [H1.out]) | (go_at_call 65; refine (rshade_any _ _ _ _).mono ?_; rintro e w1 ⟨rfl,hb⟩; rw [H2.out]; obtain ⟨hc,hf⟩:=bcell hb; have hz:=hb.size; try simp at hz))
        go_ret
        exact int_end H.out.symm (hbw.trans (hb.mono (by omega)))
      ·have h2' : shadeB l[k].a l[k].b l[k].c = false:=by simpa using h2
       have H2:=Lib.hid h2'; clear h2 h2'
       have H:=Lib.hid (HX'.out (by rw [HOk.out,H2.out]; simp))
       clear HX' HY' HOk HPk
       go_wp2_with (first | (go_at_call 64; refine (rName_any _ _ hsz).mono ?_; rintro e w' ⟨rfl,rfl⟩; rw [H1.out]) | (go_at_call 65; refine (rshade_any _ _ _ _).mono ?_; rintro e w1 ⟨rfl,hb⟩; rw [H2.out]; obtain ⟨hc,hf⟩:=bcell hb; have hz:=hb.size; try simp at hz))
       go_ret
       exact int_end H.out.symm (hbw.trans (hb.mono (by omega)))
     ·have h1' : nameB l[k].name = false:=by simpa using h1
      have H1:=Lib.hid h1'; clear h1 h1'
      by_cases h2 : shadeB l[k].a l[k].b l[k].c = true
      ·have H2:=Lib.hid h2; clear h2
       have H:=Lib.hid (HX'.out (by rw [HOk.out,H1.out]; simp))
       clear HX' HY' HOk HPk
       go_wp2_with (first | (go_at_call 64; refine (rName_any _ _ hsz).mono ?_; rintro e w' ⟨rfl,rfl⟩; rw [H1.out]) | (go_at_call 65; refine (rshade_any _ _ _ _).mono ?_; rintro e w1 ⟨rfl,hb⟩; rw [H2.out]; obtain ⟨hc,hf⟩:=bcell hb; have hz:=hb.size; try simp at hz))
       go_ret
       exact int_end H.out.symm (hbw.trans (hb.mono (by omega)))
      ·have h2' : shadeB l[k].a l[k].b l[k].c = false:=by simpa using h2
       have H2:=Lib.hid h2'; clear h2 h2'
       have H:=Lib.hid (HX'.out (by rw [HOk.out,H1.out]; simp))
       clear HX' HY' HOk HPk
       go_wp2_with (first | (go_at_call 64; refine (rName_any _ _ hsz).mono ?_; rintro e w' ⟨rfl,rfl⟩; rw [H1.out]) | (go_at_call 65; refine (rshade_any _ _ _ _).mono ?_; rintro e w1 ⟨rfl,hb⟩; rw [H2.out]; obtain ⟨hc,hf⟩:=bcell hb; have hz:=hb.size; try simp at hz))
       go_ret
       exact int_end H.out.symm (hbw.trans (hb.mono (by omega)))
    ·obtain rfl : k = l.length:=by omega
     have HC' : Hid (chkT l = if twiceB (names l) = true then 6 else 0):=by
      show _ = _
      rw [HC.out,if_neg h12,if_neg (fun h=>h.elim h0 (fun h=>by rw [any_off_no (fun j hj=>hg.out j hj hj)] at h; cases h))]
     have HL:=Lib.hid (hl.below hbw (Nat.le_refl _))
     clear HC hg HS HO HP hl
     go_wp2
     go_loopw [6,7] (fun y z w2=>∃ k : Nat,k ≤ l.length ∧ y = .int .i64 k ∧ Hid (∀ i (hi : i < k) (h' : i < l.length) m (hm : m < i),l[i].name ≠ (l[m]'(by omega)).name) ∧ ∃ n,w2 = wr.drewN n) (fun y _ _=>l.length - (intOf y).toNat)
     case atStart=>exact ⟨0,by omega,rfl,fun j hj=>absurd hj (by omega),0,rfl⟩
     case round =>
      obtain ⟨i,hi,rfl,hq,n1,rfl⟩:=hrel
      by_cases hlt2 : i < l.length
      ·go_wp2
       go_loopw [7] (fun y w2=>∃ m : Nat,m ≤ i ∧ y = .int .i64 m ∧ Hid (∀ j (hj : j < m) (h' : j < l.length),l[i].name ≠ l[j].name) ∧ ∃ n,w2 = wr.drewN n) (fun y _=>i - (intOf y).toNat)
       case atStart=>exact ⟨0,by omega,rfl,fun j hj=>absurd hj (by omega),n1,rfl⟩
       case round =>
        obtain ⟨m,hmi,rfl,hqq,n2,rfl⟩:=hrel
        by_cases hlt3 : m < i
        ·obtain ⟨ad,rfl,_,c0,_,_,_,_⟩:=tint_at HL.out hlt2
         obtain ⟨ad',e',_,c0',_,_,_,_⟩:=tint_at HL.out (k:=m) (by omega)
         cases e'
         have c0m : wr.cell? (ad.add (m * 5)) = some (.string (l[m]'(by omega)).name):=c0'
         clear c0'
         by_cases he : l[i].name = (l[m]'(by omega)).name
         ·have H:=Lib.hid (HC'.out.trans (if_pos (twice_names_yes hlt2 hlt3 he)))
          have he' : (l[i].name.toList == (l[m]'(by omega)).name.toList) = true:=by rw [str_eq]; simpa using he
          have HE:=Lib.hid he; clear he
          go_wp2
          go_quiet (fail)
          go_wp2
          go_ret
          exact int_end H.out.symm (by repeat (first | with_reducible exact Below.refl _ _ | with_reducible assumption | with_reducible refine Below.drew ?_ | with_reducible refine below_drewN ?_ _ | (with_reducible refine Below.alloc ?_ ?_ _; rotate_left; (try simp) <;> omega) | (with_reducible refine Below.setCell ?_ ?_ _; rotate_left; (try simp) <;> omega)))
         ·have he' : (l[i].name.toList == (l[m]'(by omega)).name.toList) = false:=by rw [str_eq]; simpa using he
          have H : Hid (∀ j (hj : j < m + 1) (h' : j < l.length),l[i].name ≠ l[j].name):=fun j hj h'=>by
           by_cases e : j = m
           ·subst e; exact he
           ·exact hqq.out j (by omega) h'
          have HE:=Lib.hid he; clear he
          go_wp2
          go_quiet (fail)
          go_wp2
          go_roundw
          case rel=>exact ⟨m + 1,by omega,by go_num,H,_,rfl⟩
          case measure=>simp [intOf]; omega
        ·obtain rfl : m = i:=by omega
         have H : Hid (∀ i (hi : i < m + 1) (h' : i < l.length) k (hk : k < i),l[i].name ≠ (l[k]'(by omega)).name):=fun i hi h' k hk=>by
          by_cases e : i = m
          ·subst e; exact hqq.out k hk (by omega)
          ·exact hq.out i (by omega) h' k hk
         go_wp2
         go_roundw
         case rel=>exact ⟨m + 1,by omega,by go_num,H,_,rfl⟩
         case measure=>simp [intOf]; omega
      ·obtain rfl : i = l.length:=by omega
       have H:=Lib.hid (HC'.out.trans (if_neg (by rw [twice_names_no (fun i hi k hk=>hq.out i hi hi k hk)]; exact Bool.false_ne_true)))
       go_wp2
       go_ret
       exact int_end H.out.symm (by repeat (first | with_reducible exact Below.refl _ _ | with_reducible assumption | with_reducible refine Below.drew ?_ | with_reducible refine below_drewN ?_ _ | (with_reducible refine Below.alloc ?_ ?_ _; rotate_left; (try simp) <;> omega) | (with_reducible refine Below.setCell ?_ ?_ _; rotate_left; (try simp) <;> omega)))
set_option maxHeartbeats 1000000 in
theorem rwanted_any (l : List Tn) (A : Option Addr) (c : Nat) (x y z : Int) (w : World) (hl : Lies w w.heap.size A (tintsC l)) (hm : l.length ≤ 1000) (hs : ∀ t ∈ l,t.name.size ≤ 100) :
  Calls Try.prog 49 #[.slice A l.length c, .agg #[.int .i64 x, .int .i64 y, .int .i64 z]] w (IntEnd (chkW l x y z) w):=by
 have HT:=Lib.hid (fun W (hb : Below w.heap.size w W)=>rtints_any l A c W ((hl.below hb (Nat.le_refl _)).more hb.size) hm hs)
 have HC : Hid (chkW l x y z = if chkT l = 0 then (if shadeB x y z = true then 0 else 1) else chkT l):=rfl
 generalize hq : chkT l = q at *
 by_cases h0 : q = 0
 ·subst h0
  by_cases h1 : shadeB x y z = true
  ·have H : Hid (chkW l x y z = 0):=by show _ = _; rw [HC.out,if_pos rfl,if_pos h1]
   have H1:=Lib.hid h1; clear h1 hq hs hl
   go_enter Try.func49,Try.ntmps49
   go_wp2_with (first | (go_at_call 31; refine (HT.out _ (by repeat (first | with_reducible exact Below.refl _ _ | with_reducible assumption | with_reducible refine Below.drew ?_ | with_reducible refine below_drewN ?_ _ | (with_reducible refine Below.alloc ?_ ?_ _; rotate_left; (try simp) <;> omega) | (with_reducible refine Below.setCell ?_ ?_ _; rotate_left; (try simp) <;> omega)))).mono ?_; rintro e w1 ⟨rfl,hb⟩; obtain ⟨hc,hf⟩:=bcell hb; have hz:=hb.size; simp at hz) | (go_at_call 65; refine (rshade_any _ _ _ _).mono ?_; rintro e w2 ⟨rfl,hb2⟩; rw [H1.out]))
   go_ret
   exact int_end H.out.symm ((((Below.refl _ _).alloc (Nat.le_refl _) _).trans (hb.mono (by simp))).trans (hb2.mono (by omega)))
  ·have h1' : shadeB x y z = false:=by simpa using h1
   have H : Hid (chkW l x y z = 1):=by show _ = _; rw [HC.out,if_pos rfl,if_neg h1]
   have H1:=Lib.hid h1'; clear h1 h1' hq hs hl
   go_enter Try.func49,Try.ntmps49
   go_wp2_with (first | (go_at_call 31; refine (HT.out _ (by repeat (first | with_reducible exact Below.refl _ _ | with_reducible assumption | with_reducible refine Below.drew ?_ | with_reducible refine below_drewN ?_ _ | (with_reducible refine Below.alloc ?_ ?_ _; rotate_left; (try simp) <;> omega) | (with_reducible refine Below.setCell ?_ ?_ _; rotate_left; (try simp) <;> omega)))).mono ?_; rintro e w1 ⟨rfl,hb⟩; obtain ⟨hc,hf⟩:=bcell hb; have hz:=hb.size; simp at hz) | (go_at_call 65; refine (rshade_any _ _ _ _).mono ?_; rintro e w2 ⟨rfl,hb2⟩; rw [H1.out]))
   go_ret
   exact int_end H.out.symm ((((Below.refl _ _).alloc (Nat.le_refl _) _).trans (hb.mono (by simp))).trans (hb2.mono (by omega)))
 ·have H : Hid (chkW l x y z = q):=by show _ = _; rw [HC.out,if_neg h0]
  have hb1 : (q != 0) = true:=by rw [bne_iff_ne]; exact h0
  have hb2 : (q == 0) = false:=by rw [beq_eq_false_iff_ne]; exact h0
  have H0:=Lib.hid h0; clear h0 hq hs hl
  go_enter Try.func49,Try.ntmps49
  go_wp2_with (first | (go_at_call 31; refine (HT.out _ (by repeat (first | with_reducible exact Below.refl _ _ | with_reducible assumption | with_reducible refine Below.drew ?_ | with_reducible refine below_drewN ?_ _ | (with_reducible refine Below.alloc ?_ ?_ _; rotate_left; (try simp) <;> omega) | (with_reducible refine Below.setCell ?_ ?_ _; rotate_left; (try simp) <;> omega)))).mono ?_; rintro e w1 ⟨rfl,hb⟩; obtain ⟨hc,hf⟩:=bcell hb; have hz:=hb.size; simp at hz))
  go_ret
  exact int_end H.out.symm (((Below.refl _ _).alloc (Nat.le_refl _) _).trans (hb.mono (by simp)))
end Go.Proofs.Ytkjceegmmhnajaa

namespace Go.Proofs.Ytkjceegmmhnajaa
open Go.RowKit

structure Pt where
 t : Int
 w : Int
def Pt.cells (p : Pt) : List Value:=[.int .i64 p.t, .int .i64 p.w]
def partsC (l : List Pt) : List Value:=l.flatMap Pt.cells
theorem partsC_length (l : List Pt) : (partsC l).length = l.length * 2:=by
 induction l with
 | nil=>rfl
 | cons t r ih=>simp only [partsC,List.flatMap_cons,List.length_append] at *; rw [ih]; simp [Pt.cells]; omega
theorem partsC_at (l : List Pt) (k : Nat) (hk : k < l.length) (j : Nat) (hj : j < 2) : (partsC l)[k * 2 + j]? = (l[k]).cells[j]?:=by
 induction l generalizing k with
 | nil=>simp at hk
 | cons t r ih =>
  simp only [partsC,List.flatMap_cons] at *
  cases k with
  | zero=>rw [List.getElem?_append_left (by simp [Pt.cells]; omega)]; simp
  | succ k =>
   rw [List.getElem?_append_right (by simp [Pt.cells]; omega)]
   have : (k + 1) * 2 + j - t.cells.length = k * 2 + j:=by simp [Pt.cells]; omega
   rw [this,ih k (by simpa using hk)]; simp
theorem part_at {w : World} {B : Nat} {A : Option Addr} {l : List Pt} (h : Lies w B A (partsC l)) {k : Nat} (hk : k < l.length) :
  ∃ ad,A = some ad ∧ ad.block < B ∧ w.cell? (ad.add (k * 2)) = some (.int .i64 l[k].t) ∧ w.cell? ⟨(ad.add (k * 2)).block,(ad.add (k * 2)).off + 1,none⟩ = some (.int .i64 l[k].w):=by
 obtain ⟨ad,e,hb,hc⟩:=h (by intro e; have:=partsC_length l; rw [e] at this; simp at this; omega)
 refine ⟨ad,e,hb,hc _ _ (partsC_at l k hk 0 (by omega)),?_⟩
 rw [← add_rec _ _ _ (by omega)]; exact hc _ _ (partsC_at l k hk 1 (by omega))

def okPt (nt : Nat) (l : List Pt) (i : Nat) (h : i < l.length) : Prop:=(0 ≤ l[i].t ∧ l[i].t ≤ (nt : Int) - 1) ∧ (∀ h' : 0 < i,(l[i - 1]'(by omega)).t < l[i].t) ∧ (1 ≤ l[i].w ∧ l[i].w ≤ 1000000000000)
instance (nt : Nat) (l : List Pt) (i : Nat) (h : i < l.length) : Decidable (okPt nt l i h):=by unfold okPt; exact inferInstance
def weightsOf (l : List Pt) : List Int:=l.map Pt.w
def recP (nt : Nat) (l : List Pt) : Prop:=(1 ≤ l.length ∧ l.length ≤ 4) ∧ (∀ i (h : i < l.length),okPt nt l i h) ∧ gcdL (weightsOf l) = 1
instance (nt : Nat) (l : List Pt) : Decidable (recP nt l):=by unfold recP; exact inferInstance
def recB (nt : Nat) (l : List Pt) : Bool:=decide (recP nt l)

theorem among_same (n a b : Int) (w : World) :
  Calls Try.prog 45 #[.int .i64 n, .int .i64 a, .int .i64 b] w fun e w'=>e = .returned (.bool (decide (a ≤ n) && decide (n ≤ b))) ∧ w' = w :=
 (among_any n a b w).mono fun _ _ h=>⟨h.1,h.2.symm⟩
theorem among_is (n a b : Int) (r : Bool) (w : World) (h : (decide (a ≤ n) && decide (n ≤ b)) = r) :
  Calls Try.prog 45 #[.int .i64 n, .int .i64 a, .int .i64 b] w fun e w'=>e = .returned (.bool r) ∧ w' = w :=
 (among_same n a b w).mono fun _ _ hh=>⟨by rw [hh.1,h],hh.2⟩
theorem divisor2 (d x : Int) (b : Nat) (w X : World) (hX : w.heap = X.heap.push (.cells #[.int .i64 d, .int .i64 x] 3)) (hb : X.heap.size = b) (hd : bigP d) (hx : bigP x) :
  Calls Try.prog 61 #[.slice (some ⟨b,0,none⟩) 2 2] w fun e w'=>e = .returned (.int .i64 (gcdL [d,x])) ∧ ∃ n,w' = w.drewN n:=by
 have hl : Lies w w.heap.size (some ⟨b,0,none⟩) (ints [d,x]):=Lies.fresh hX hb (by rw [hX]; simp; omega) rfl
 exact divisor_aux [d,x] _ 2 w hl (by intro n hn; simp at hn; rcases hn with rfl | rfl <;> assumption) (by simp)

theorem gcd_take {l : List Pt} {k : Nat} {g : Int} (hlt : k < l.length) (hg : g = gcdL (weightsOf (l.take k))) : (gcdL (weightsOf (l.take (k + 1))) : Int) = gcdL [g,l[k].w]:=by
 have : weightsOf (l.take (k + 1)) = weightsOf (l.take k) ++ [l[k].w]:=by
  rw [List.take_succ_eq_append_getElem hlt]; simp only [weightsOf,List.map_append,List.map_cons,List.map_nil]
 rw [this,gcdL_snoc,hg]
 simp [gcdL]
theorem gcd2_le {g x : Int} (hg : 0 ≤ g) (hx : 1 ≤ x ∧ x ≤ 1000000000000) : (gcdL [g,x] : Int) ≤ 1000000000000:=by
 have h1 : gcdL [g,x] ≤ x.natAbs:=by
  simp only [gcdL,List.foldl_cons,List.foldl_nil]
  exact Nat.gcd_le_right _ (by omega)
 omega

set_option maxRecDepth 100000 in
set_option maxHeartbeats 4000000 in
theorem isRecipe_any (nt : Nat) (l : List Pt) (At A : Option Addr) (ct c : Nat) (w : World) (hl : Lies w w.heap.size A (partsC l)) (hm : l.length ≤ 1000) (hnt : nt ≤ 1000) :
  Calls Try.prog 29 #[.slice At nt ct, .agg #[.slice A l.length c]] w (ShEnd (recB nt l) w):=by
 by_cases h14 : 1 ≤ l.length ∧ l.length ≤ 4
 ·obtain ⟨h1,h4⟩:=h14
  have d1 : decide (1 ≤ (l.length : Int)) = true:=by simp; omega
  have d4 : decide ((l.length : Int) ≤ 4) = true:=by simp; omega
  go_enter Try.func29,Try.ntmps29
  go_wp2_with (go_at_call 45; refine (among_any _ _ _ _).mono ?_; rintro e w' ⟨rfl,rfl⟩)
  go_loopw [5,16] (fun d y wr=>∃ k : Nat,∃ g : Int,k ≤ l.length ∧ y = .int .i64 k ∧ d = .int .i64 g ∧ Hid (g = gcdL (weightsOf (l.take k))) ∧ (0 ≤ g ∧ g ≤ 1000000000000) ∧ Hid (∀ i (hi : i < k) (h : i < l.length),okPt nt l i h) ∧ Below w.heap.size w wr ∧ Bk wr w.heap.size 25 #[.slice A l.length c]) (fun _ y _=>l.length - (intOf y).toNat)
  case atStart=>exact ⟨0,0,by omega,rfl,rfl,rfl,by omega,fun i hi=>absurd hi (by omega),bw,Bk.new _ _ _⟩
  case round =>
   obtain ⟨k,g,hk,rfl,rfl,hg,⟨hg1,hg2⟩,hok,hbw,hbk⟩:=hrel
   have hbs:=hbw.size
   have hbl:=hbk.lt
   by_cases hlt : k < l.length
   ·obtain ⟨ad,rfl,hadb,c0,c1⟩:=part_at (hl.below hbw (Nat.le_refl _)) hlt
    have x0:=hbk.cell 0 rfl
    have hadb' : (ad.add (k * 2)).block < wr.heap.size:=by rw [add_block]; omega
    cases k with
    | zero =>
     replace c0 : wr.cell? ad = some (.int .i64 l[0].t):=c0
     replace c1 : wr.cell? ⟨ad.block,ad.off + 1,none⟩ = some (.int .i64 l[0].w):=c1
     replace hadb' : ad.block < wr.heap.size:=hadb'
     by_cases a1 : 0 ≤ l[0].t ∧ l[0].t ≤ (nt : Int) - 1
     ·have R1 : Hid ((decide (0 ≤ l[0].t) && decide (l[0].t ≤ (nt : Int) - 1)) = true):=by show _ = _; simpa using a1
      by_cases a4 : 1 ≤ l[0].w ∧ l[0].w ≤ 1000000000000
      ·have R2 : Hid ((decide (1 ≤ l[0].w) && decide (l[0].w ≤ 1000000000000)) = true):=by show _ = _; simpa using a4
       have H : Hid (∀ i (hi : i < 0 + 1) (h : i < l.length),okPt nt l i h):=fun i hi h=>by
        by_cases e : i = 0
        ·subst e; exact ⟨a1,fun h=>absurd h (by omega),a4⟩
        ·exact hok.out i (by omega) h
       obtain ⟨g',hg',hgr⟩ : ∃ g' : Int,Hid (g' = gcdL (weightsOf (l.take (0 + 1)))) ∧ Hid (g' = gcdL [g,l[0].w]) ∧ 0 ≤ g' ∧ g' ≤ 1000000000000:=by
        refine ⟨_,rfl,?_,by omega,?_⟩
        ·show _ = _; exact gcd_take hlt hg.out
        ·rw [gcd_take hlt hg.out]; exact gcd2_le (by omega) (by omega)
       obtain ⟨hg2',hgr1,hgr2⟩:=hgr
       obtain ⟨a4,a5⟩:=a4
       clear hok hg
       go_wp2
       go_quiet ((first | (go_at_call 45; with_reducible exact Calls.quiet_of_same (among_is _ _ _ _ _ R1.out)) | (go_at_call 45; with_reducible exact Calls.quiet_of_same (among_is _ _ _ _ _ R2.out))))
       go_wp2_with (go_at_call 61; refine (divisor2 g l[0].w _ _ _ rfl (by simp) (by unfold bigP; omega) (by unfold bigP; omega)).mono ?_; rintro e w1 ⟨rfl,n1,rfl⟩; rw [← hg2'.out])
       go_roundw
       case rel=>exact ⟨0 + 1,g',by omega,by go_num,rfl,hg',⟨hgr1,hgr2⟩,H,bw,(((hbk.alloc _).drewN _).alloc _).drewN _⟩
       case measure=>simp [intOf]; omega
      ·have R2 : Hid ((decide (1 ≤ l[0].w) && decide (l[0].w ≤ 1000000000000)) = false):=by show _ = _; simpa using a4
       have HB : Hid (¬ recB nt l = true):=fun h=>by
        have h':=(of_decide_eq_true h).2.1 (0) hlt
        unfold okPt at h'
        exact a4 h'.2.2
       clear hok hg
       go_wp2
       go_quiet ((first | (go_at_call 45; with_reducible exact Calls.quiet_of_same (among_is _ _ _ _ _ R1.out)) | (go_at_call 45; with_reducible exact Calls.quiet_of_same (among_is _ _ _ _ _ R2.out))))
       go_wp2
       all_goals
        go_ret
        exact sh_ret (by have:=HB.out; simpa using this) bw
     ·have R1 : Hid ((decide (0 ≤ l[0].t) && decide (l[0].t ≤ (nt : Int) - 1)) = false):=by show _ = _; simpa using a1
      have HB : Hid (¬ recB nt l = true):=fun h=>by
       have h':=(of_decide_eq_true h).2.1 (0) hlt
       unfold okPt at h'
       exact a1 h'.1
      clear hok hg
      go_wp2
      go_quiet ((first | (go_at_call 45; with_reducible exact Calls.quiet_of_same (among_is _ _ _ _ _ R1.out))))
      go_wp2
      all_goals
       go_ret
       exact sh_ret (by have:=HB.out; simpa using this) bw
    | succ k =>
     obtain ⟨ad',ead,_,p0,_⟩:=part_at (hl.below hbw (Nat.le_refl _)) (k:=k) (by omega)
     cases ead
     have hadb2 : (ad.add (k * 2)).block < wr.heap.size:=by rw [add_block]; omega
     by_cases a1 : 0 ≤ l[k + 1].t ∧ l[k + 1].t ≤ (nt : Int) - 1
     ·have R1 : Hid ((decide (0 ≤ l[k + 1].t) && decide (l[k + 1].t ≤ (nt : Int) - 1)) = true):=by show _ = _; simpa using a1
      by_cases a3 : l[k].t < l[k + 1].t
      ·have e3 : decide (l[k + 1].t ≤ l[k].t) = false:=by simp; omega
       by_cases a4 : 1 ≤ l[k + 1].w ∧ l[k + 1].w ≤ 1000000000000
       ·have R2 : Hid ((decide (1 ≤ l[k + 1].w) && decide (l[k + 1].w ≤ 1000000000000)) = true):=by show _ = _; simpa using a4
        have H : Hid (∀ i (hi : i < k + 1 + 1) (h : i < l.length),okPt nt l i h):=fun i hi h=>by
         by_cases e : i = k + 1
         ·subst e; exact ⟨a1,fun _=>a3,a4⟩
         ·exact hok.out i (by omega) h
        obtain ⟨g',hg',hgr⟩ : ∃ g' : Int,Hid (g' = gcdL (weightsOf (l.take (k + 1 + 1)))) ∧ Hid (g' = gcdL [g,l[k + 1].w]) ∧ 0 ≤ g' ∧ g' ≤ 1000000000000:=by
         refine ⟨_,rfl,?_,by omega,?_⟩
         ·show _ = _; exact gcd_take hlt hg.out
         ·rw [gcd_take hlt hg.out]; exact gcd2_le (by omega) (by omega)
        obtain ⟨hg2',hgr1,hgr2⟩:=hgr
        obtain ⟨a4,a5⟩:=a4
        clear hok hg
        go_wp2
        go_quiet ((first | (go_at_call 45; with_reducible exact Calls.quiet_of_same (among_is _ _ _ _ _ R1.out)) | (go_at_call 45; with_reducible exact Calls.quiet_of_same (among_is _ _ _ _ _ R2.out))))
        go_wp2_with (go_at_call 61; refine (divisor2 g l[k + 1].w _ _ _ rfl (by simp) (by unfold bigP; omega) (by unfold bigP; omega)).mono ?_; rintro e w1 ⟨rfl,n1,rfl⟩; rw [← hg2'.out])
        go_roundw
        case rel=>exact ⟨k + 1 + 1,g',by omega,by go_num,rfl,hg',⟨hgr1,hgr2⟩,H,bw,(((hbk.alloc _).drewN _).alloc _).drewN _⟩
        case measure=>simp [intOf]; omega
       ·have R2 : Hid ((decide (1 ≤ l[k + 1].w) && decide (l[k + 1].w ≤ 1000000000000)) = false):=by show _ = _; simpa using a4
        have HB : Hid (¬ recB nt l = true):=fun h=>by
         have h':=(of_decide_eq_true h).2.1 (k + 1) hlt
         unfold okPt at h'
         exact a4 h'.2.2
        clear hok hg
        go_wp2
        go_quiet ((first | (go_at_call 45; with_reducible exact Calls.quiet_of_same (among_is _ _ _ _ _ R1.out)) | (go_at_call 45; with_reducible exact Calls.quiet_of_same (among_is _ _ _ _ _ R2.out))))
        go_wp2
        all_goals
         go_ret
         exact sh_ret (by have:=HB.out; simpa using this) bw
      ·have e3 : decide (l[k + 1].t ≤ l[k].t) = true:=by simp; omega
       have HB : Hid (¬ recB nt l = true):=fun h=>by
        have h':=(of_decide_eq_true h).2.1 (k + 1) hlt
        unfold okPt at h'
        exact a3 (h'.2.1 (by omega))
       clear hok hg
       go_wp2
       go_quiet ((first | (go_at_call 45; with_reducible exact Calls.quiet_of_same (among_is _ _ _ _ _ R1.out))))
       go_wp2
       all_goals
        go_ret
        exact sh_ret (by have:=HB.out; simpa using this) bw
     ·have R1 : Hid ((decide (0 ≤ l[k + 1].t) && decide (l[k + 1].t ≤ (nt : Int) - 1)) = false):=by show _ = _; simpa using a1
      have HB : Hid (¬ recB nt l = true):=fun h=>by
       have h':=(of_decide_eq_true h).2.1 (k + 1) hlt
       unfold okPt at h'
       exact a1 h'.1
      clear hok hg
      go_wp2
      go_quiet ((first | (go_at_call 45; with_reducible exact Calls.quiet_of_same (among_is _ _ _ _ _ R1.out))))
      go_wp2
      all_goals
       go_ret
       exact sh_ret (by have:=HB.out; simpa using this) bw
   ·obtain rfl : k = l.length:=by omega
    have x0:=hbk.cell 0 rfl
    rw [List.take_length] at hg
    by_cases hgo : g = 1
    ·have HB : Hid (recB nt l = true):=decide_eq_true ⟨⟨h1,h4⟩,fun i h=>hok.out i h h,by have:=hg.out; omega⟩
     have hgb : (g == 1) = true:=by rw [beq_iff_eq]; exact hgo
     have HGO:=Lib.hid hgo; clear hgo
     go_wp2
     go_ret
     exact sh_ret (by rw [HB.out]) bw
    ·have HB : Hid (¬ recB nt l = true):=fun h=>by
      have h':=(of_decide_eq_true h).2.2
      have:=hg.out; omega
     have hgb : (g == 1) = false:=by rw [beq_eq_false_iff_ne]; exact hgo
     have HGO:=Lib.hid hgo; clear hgo
     go_wp2
     go_ret
     exact sh_ret (by have:=HB.out; simpa using this) bw
 ·have HB : Hid (¬ recB nt l = true):=fun h=>h14 (of_decide_eq_true h).1
  by_cases h1 : 1 ≤ l.length
  ·have d1 : decide (1 ≤ (l.length : Int)) = true:=by simp; omega
   have d4 : decide ((l.length : Int) ≤ 4) = false:=by simp; omega
   go_enter Try.func29,Try.ntmps29
   go_wp2_with (go_at_call 45; refine (among_any _ _ _ _).mono ?_; rintro e w' ⟨rfl,rfl⟩)
   go_ret
   exact sh_ret (by have:=HB.out; simpa using this) bw
  ·have d1 : decide (1 ≤ (l.length : Int)) = false:=by simp; omega
   go_enter Try.func29,Try.ntmps29
   go_wp2_with (go_at_call 45; refine (among_any _ _ _ _).mono ?_; rintro e w' ⟨rfl,rfl⟩)
   go_ret
   exact sh_ret (by have:=HB.out; simpa using this) bw
end Go.Proofs.Ytkjceegmmhnajaa

namespace Go.Proofs.Ytkjceegmmhnajaa
open Go.RowKit
theorem gcdL_two (a b : Int) : (gcdL [a,b] : Int) = (Int.gcd a b : Int):=by
 simp [gcdL,Int.gcd]

set_option maxRecDepth 100000 in
set_option maxHeartbeats 4000000 in
theorem validRecipe_any (nt : Nat) (l : List Pt) (At A : Option Addr) (ct c : Nat) (w : World) (hl : Lies w w.heap.size A (partsC l)) (hm : l.length ≤ 1000) (hnt : nt ≤ 1000) :
  Calls Try.prog 32 #[.slice At nt ct, .agg #[.slice A l.length c]] w (ShEnd (recB nt l) w):=by
 by_cases h14 : 1 ≤ l.length ∧ l.length ≤ 4
 ·obtain ⟨h1,h4⟩:=h14
  have d1 : decide ((l.length : Int) < 1) = false:=by simp; omega
  have d4 : decide (4 < (l.length : Int)) = false:=by simp; omega
  go_enter Try.func32,Try.ntmps32
  go_wp2
  go_loopw [5,6] (fun d y wr=>∃ k : Nat,∃ g : Int,k ≤ l.length ∧ d = .int .i64 g ∧ y = .int .i64 k ∧ Hid (g = gcdL (weightsOf (l.take k))) ∧ (0 ≤ g ∧ g ≤ 1000000000000) ∧ Hid (∀ i (hi : i < k) (h : i < l.length),okPt nt l i h) ∧ Below w.heap.size w wr ∧ Bk wr w.heap.size 25 #[.slice A l.length c]) (fun _ y _=>l.length - (intOf y).toNat)
  case atStart=>exact ⟨0,0,by omega,rfl,rfl,rfl,by omega,fun i hi=>absurd hi (by omega),bw,Bk.new _ _ _⟩
  case round =>
   obtain ⟨k,g,hk,rfl,rfl,hg,⟨hg1,hg2⟩,hok,hbw,hbk⟩:=hrel
   have hbs:=hbw.size
   have hbl:=hbk.lt
   have x0:=hbk.cell 0 rfl
   by_cases hlt : k < l.length
   ·obtain ⟨ad,rfl,hadb,c0,c1⟩:=part_at (hl.below hbw (Nat.le_refl _)) hlt
    have hadb' : (ad.add (k * 2)).block < wr.heap.size:=by rw [add_block]; omega
    cases k with
    | zero =>
     replace c0 : wr.cell? ad = some (.int .i64 l[0].t):=c0
     replace c1 : wr.cell? ⟨ad.block,ad.off + 1,none⟩ = some (.int .i64 l[0].w):=c1
     replace hadb' : ad.block < wr.heap.size:=hadb'
     by_cases a1 : l[0].t < 0
     ·have e1 : decide (l[0].t < 0) = true:=by simpa using a1
      have HB : Hid (¬ recB nt l = true):=fun h=>by
       have h':=(of_decide_eq_true h).2.1 (0) hlt
       unfold okPt at h'
       exact absurd h'.1.1 (by omega)
      clear hok hg
      go_wp2
      go_quiet (fail)
      go_wp2
      all_goals
       go_ret
       exact sh_ret (by have:=HB.out; simpa using this) bw
     have e1 : decide (l[0].t < 0) = false:=by simpa using a1
     by_cases a2 : (nt : Int) ≤ l[0].t
     ·have e2 : decide ((nt : Int) ≤ l[0].t) = true:=by simpa using a2
      have HB : Hid (¬ recB nt l = true):=fun h=>by
       have h':=(of_decide_eq_true h).2.1 (0) hlt
       unfold okPt at h'
       exact absurd h'.1.2 (by omega)
      clear hok hg
      go_wp2
      go_quiet (fail)
      go_wp2
      all_goals
       go_ret
       exact sh_ret (by have:=HB.out; simpa using this) bw
     have e2 : decide ((nt : Int) ≤ l[0].t) = false:=by simp; omega
     by_cases a4 : l[0].w < 1
     ·have e4 : decide (l[0].w < 1) = true:=by simpa using a4
      have HB : Hid (¬ recB nt l = true):=fun h=>by
       have h':=(of_decide_eq_true h).2.1 (0) hlt
       unfold okPt at h'
       exact absurd h'.2.2.1 (by omega)
      clear hok hg
      go_wp2
      go_quiet (fail)
      go_wp2
      all_goals
       go_ret
       exact sh_ret (by have:=HB.out; simpa using this) bw
     have e4 : decide (l[0].w < 1) = false:=by simp; omega
     by_cases a5 : (1000000000000 : Int) < l[0].w
     ·have e5 : decide ((1000000000000 : Int) < l[0].w) = true:=by simpa using a5
      have HB : Hid (¬ recB nt l = true):=fun h=>by
       have h':=(of_decide_eq_true h).2.1 (0) hlt
       unfold okPt at h'
       exact absurd h'.2.2.2 (by omega)
      clear hok hg
      go_wp2
      go_quiet (fail)
      go_wp2
      all_goals
       go_ret
       exact sh_ret (by have:=HB.out; simpa using this) bw
     have e5 : decide ((1000000000000 : Int) < l[0].w) = false:=by simp; omega
     have H : Hid (∀ i (hi : i < 0 + 1) (h : i < l.length),okPt nt l i h):=fun i hi h=>by
      by_cases e : i = 0
      ·subst e; exact ⟨⟨by omega,by omega⟩,fun h=>absurd h (by omega),by omega,by omega⟩
      ·exact hok.out i (by omega) h
     obtain ⟨g',hg',hgr⟩ : ∃ g' : Int,Hid (g' = gcdL (weightsOf (l.take (0 + 1)))) ∧ Hid (g' = (Int.gcd g l[0].w : Int)) ∧ 0 ≤ g' ∧ g' ≤ 1000000000000:=by
      refine ⟨_,rfl,?_,by omega,?_⟩
      ·show _ = _; rw [gcd_take hlt hg.out,gcdL_two]
      ·rw [gcd_take hlt hg.out]; exact gcd2_le (by omega) (by omega)
     obtain ⟨hg2',hgr1,hgr2⟩:=hgr
     clear hok hg
     go_wp2
     go_quiet (fail)
     go_wp2_with (go_at_call 66; refine (rgcd_any g l[0].w _ (by unfold bigP; omega) (by unfold bigP; omega)).mono ?_; rintro e w1 ⟨rfl,rfl⟩; rw [← hg2'.out])
     go_roundw
     case rel=>exact ⟨0 + 1,g',by omega,rfl,by go_num,hg',⟨hgr1,hgr2⟩,H,bw,((hbk.alloc _).drewN _)⟩
     case measure=>simp [intOf]; omega
    | succ k =>
     obtain ⟨ad',ead,_,p0,_⟩:=part_at (hl.below hbw (Nat.le_refl _)) (k:=k) (by omega)
     cases ead
     have hadb2 : (ad.add (k * 2)).block < wr.heap.size:=by rw [add_block]; omega
     by_cases a1 : l[k + 1].t < 0
     ·have e1 : decide (l[k + 1].t < 0) = true:=by simpa using a1
      have HB : Hid (¬ recB nt l = true):=fun h=>by
       have h':=(of_decide_eq_true h).2.1 (k + 1) hlt
       unfold okPt at h'
       exact absurd h'.1.1 (by omega)
      clear hok hg
      go_wp2
      go_quiet (fail)
      go_wp2
      all_goals
       go_ret
       exact sh_ret (by have:=HB.out; simpa using this) bw
     have e1 : decide (l[k + 1].t < 0) = false:=by simpa using a1
     by_cases a2 : (nt : Int) ≤ l[k + 1].t
     ·have e2 : decide ((nt : Int) ≤ l[k + 1].t) = true:=by simpa using a2
      have HB : Hid (¬ recB nt l = true):=fun h=>by
       have h':=(of_decide_eq_true h).2.1 (k + 1) hlt
       unfold okPt at h'
       exact absurd h'.1.2 (by omega)
      clear hok hg
      go_wp2
      go_quiet (fail)
      go_wp2
      all_goals
       go_ret
       exact sh_ret (by have:=HB.out; simpa using this) bw
     have e2 : decide ((nt : Int) ≤ l[k + 1].t) = false:=by simp; omega
     by_cases a4 : l[k + 1].w < 1
     ·have e4 : decide (l[k + 1].w < 1) = true:=by simpa using a4
      have HB : Hid (¬ recB nt l = true):=fun h=>by
       have h':=(of_decide_eq_true h).2.1 (k + 1) hlt
       unfold okPt at h'
       exact absurd h'.2.2.1 (by omega)
      clear hok hg
      go_wp2
      go_quiet (fail)
      go_wp2
      all_goals
       go_ret
       exact sh_ret (by have:=HB.out; simpa using this) bw
     have e4 : decide (l[k + 1].w < 1) = false:=by simp; omega
     by_cases a5 : (1000000000000 : Int) < l[k + 1].w
     ·have e5 : decide ((1000000000000 : Int) < l[k + 1].w) = true:=by simpa using a5
      have HB : Hid (¬ recB nt l = true):=fun h=>by
       have h':=(of_decide_eq_true h).2.1 (k + 1) hlt
       unfold okPt at h'
       exact absurd h'.2.2.2 (by omega)
      clear hok hg
      go_wp2
      go_quiet (fail)
      go_wp2
      all_goals
       go_ret
       exact sh_ret (by have:=HB.out; simpa using this) bw
     have e5 : decide ((1000000000000 : Int) < l[k + 1].w) = false:=by simp; omega
     by_cases a3 : l[k + 1].t ≤ l[k].t
     ·have e3 : decide (l[k + 1].t ≤ l[k].t) = true:=by simpa using a3
      have HB : Hid (¬ recB nt l = true):=fun h=>by
       have h':=(of_decide_eq_true h).2.1 (k + 1) hlt
       unfold okPt at h'
       exact absurd (h'.2.1 (by omega)) (by simp only [Nat.add_sub_cancel]; omega)
      clear hok hg
      go_wp2
      go_quiet (fail)
      go_wp2
      all_goals
       go_ret
       exact sh_ret (by have:=HB.out; simpa using this) bw
     have e3 : decide (l[k + 1].t ≤ l[k].t) = false:=by simp; omega
     have H : Hid (∀ i (hi : i < k + 1 + 1) (h : i < l.length),okPt nt l i h):=fun i hi h=>by
      by_cases e : i = k + 1
      ·subst e; exact ⟨⟨by omega,by omega⟩,fun _=>by simp only [Nat.add_sub_cancel]; omega,by omega,by omega⟩
      ·exact hok.out i (by omega) h
     obtain ⟨g',hg',hgr⟩ : ∃ g' : Int,Hid (g' = gcdL (weightsOf (l.take (k + 1 + 1)))) ∧ Hid (g' = (Int.gcd g l[k + 1].w : Int)) ∧ 0 ≤ g' ∧ g' ≤ 1000000000000:=by
      refine ⟨_,rfl,?_,by omega,?_⟩
      ·show _ = _; rw [gcd_take hlt hg.out,gcdL_two]
      ·rw [gcd_take hlt hg.out]; exact gcd2_le (by omega) (by omega)
     obtain ⟨hg2',hgr1,hgr2⟩:=hgr
     clear hok hg
     go_wp2
     go_quiet (fail)
     go_wp2_with (go_at_call 66; refine (rgcd_any g l[k + 1].w _ (by unfold bigP; omega) (by unfold bigP; omega)).mono ?_; rintro e w1 ⟨rfl,rfl⟩; rw [← hg2'.out])
     go_roundw
     case rel=>exact ⟨k + 1 + 1,g',by omega,rfl,by go_num,hg',⟨hgr1,hgr2⟩,H,bw,((hbk.alloc _).drewN _)⟩
     case measure=>simp [intOf]; omega
   ·obtain rfl : k = l.length:=by omega
    rw [List.take_length] at hg
    by_cases hgo : g = 1
    ·have HB : Hid (recB nt l = true):=decide_eq_true ⟨⟨h1,h4⟩,fun i h=>hok.out i h h,by have:=hg.out; omega⟩
     have hgb : (g == 1) = true:=by rw [beq_iff_eq]; exact hgo
     have HGO:=Lib.hid hgo; clear hgo
     go_wp2
     go_ret
     exact sh_ret (by rw [HB.out]) bw
    ·have HB : Hid (¬ recB nt l = true):=fun h=>by
      have h':=(of_decide_eq_true h).2.2
      have:=hg.out; omega
     have hgb : (g == 1) = false:=by rw [beq_eq_false_iff_ne]; exact hgo
     have HGO:=Lib.hid hgo; clear hgo
     go_wp2
     go_ret
     exact sh_ret (by have:=HB.out; simpa using this) bw
 ·have HB : Hid (¬ recB nt l = true):=fun h=>h14 (of_decide_eq_true h).1
  by_cases h1 : 1 ≤ l.length
  ·have d1 : decide ((l.length : Int) < 1) = false:=by simp; omega
   have d4 : decide (4 < (l.length : Int)) = true:=by simp; omega
   go_enter Try.func32,Try.ntmps32
   go_wp2
   go_ret
   exact sh_ret (by have:=HB.out; simpa using this) bw
  ·have d1 : decide ((l.length : Int) < 1) = true:=by simp; omega
   go_enter Try.func32,Try.ntmps32
   go_wp2
   go_ret
   exact sh_ret (by have:=HB.out; simpa using this) bw
end Go.Proofs.Ytkjceegmmhnajaa
