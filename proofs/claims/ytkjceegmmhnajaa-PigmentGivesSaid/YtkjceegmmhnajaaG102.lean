/- merged by wip/claimx.py -/
import Derived.Test.YtkjceegmmhnajaaG54
import Derived.Test.YtkjceegmmhnajaaG55
import Derived.Test.YtkjceegmmhnajaaG56
import Derived.Test.YtkjceegmmhnajaaG57
import Derived.Test.YtkjceegmmhnajaaG58
import Derived.Test.YtkjceegmmhnajaaG59
import Derived.Test.YtkjceegmmhnajaaG60
import Derived.Test.YtkjceegmmhnajaaG61
import Derived.Test.YtkjceegmmhnajaaG62
import Derived.Test.YtkjceegmmhnajaaG63
import Derived.Test.YtkjceegmmhnajaaG64
import Derived.Test.YtkjceegmmhnajaaG82
import Derived.Test.YtkjceegmmhnajaaG83
import Derived.Test.YtkjceegmmhnajaaG84
import Derived.Test.YtkjceegmmhnajaaG87
import Derived.Test.YtkjceegmmhnajaaG88
import Derived.Test.YtkjceegmmhnajaaG89
import Derived.Test.YtkjceegmmhnajaaG90
import Derived.Test.YtkjceegmmhnajaaG91
import Derived.Test.YtkjceegmmhnajaaG92
import Derived.Test.YtkjceegmmhnajaaG93
import Derived.Test.YtkjceegmmhnajaaG94
import Derived.Test.YtkjceegmmhnajaaG95
import Derived.Test.YtkjceegmmhnajaaG100
import Derived.Test.YtkjceegmmhnajaaG101

set_option linter.unusedVariables false
set_option linter.unusedSimpArgs false

namespace Go.Proofs.Ytkjceegmmhnajaa
open Go.ChangeShapes Go.WideShapes Go.ChangeAt Go.RowKit Go.Deep

section
variable {H : Type} {enc : TypeId × Value → H} {W : World} {sp : Nat → Bool} {hd : Bool}
set_option maxRecDepth 100000 in
theorem open_tint {v : Value} {r : Reach} {b0 : Nat} {d : DataW H} {p : List MemPlace} (hv : Value.okWide Try.prog W r b0 39 v) (h : DataW.Trod enc Try.prog W 0 sp hd 39 v d p) :
  ∃ t : Tn,v = .agg #[.string t.name, .int .i64 t.a, .int .i64 t.b, .int .i64 t.c, .int .i64 t.price] ∧ t.name.size ≤ maxLen:=by
 obtain ⟨cs,rfl,_⟩:=okWide_struct Try.underlying39 hv
 obtain ⟨fuel,hf⟩:=h
 obtain ⟨cl⟩:=cs
 simp only [Value.cells] at hf
 obtain ⟨t,ht,hn⟩:=tint_cells hf
 refine ⟨t,?_,hn⟩
 rw [show cl = t.cells from ht]
 rfl
end

set_option maxRecDepth 100000 in
theorem gives_lifted (os : Os) (started : os.Started) (H : Type) (enc : TypeId × Value → H) :
  ReturnsInHanded {} Try.checked os 4 .any (Rows.pigmentGivesSpec.pre6 enc Try.prog Try.f4 Rows.pigmentGivesRow.domain false) (Rows.pigmentGivesSpec.post enc Try.prog Try.f4 false true false false):=by
 refine returnsInHanded_of_change (C:=Try.checked) Try.own started (by kernel_rfl) Try.func4
  (ChangeSpec.witness6 (enc:=enc) (C:=Try.checked) false ⟨#[],#[.slice none 0 0, .agg #[.int .i64 0, .int .i64 0, .int .i64 0], .agg #[.string ByteArray.empty, .int .i64 0, .int .i64 0, .int .i64 0, .int .i64 0]],[]⟩ 8 (by kernel_rfl) (by kernel_rfl) (by kernel_rfl) (by kernel_rfl)) ?_
 intro W base args ds gs before hval0 hW hcnd _
 have hval : ∀ (j : Nat) t v,Try.f4.params[j]? = some t → args[j]? = some v → Value.okWide Try.prog W .any base t v:=hval0
 have hW':=hW
 obtain ⟨p,q,hA0,hV,rfl,hfz,hnd⟩:=hW
 have hA : DataW.TrodAll enc Try.prog W 0 (fun _=>true) true Try.f4.params.toList args.toList ds p:=hA0
 have hlt : ∀ x ∈ p ++ q,x.block < W.heap.size:=fun x hx=>hW'.lt x hx
 rw [Try.params4] at hA hval
 obtain ⟨v0,v1,v2,d0,d1,d2,p0,p1,p2,rfl,rfl,rfl,h0,h1,h2⟩:=trodAll_three hA
 obtain ⟨rfl,rfl⟩:=trodVars_none hV
 obtain ⟨l,At,ct,rfl,l1,l2,l3⟩:=open_tintsV (hval 0 22 v0 rfl rfl) h0
 obtain ⟨x,y,z,rfl⟩:=open_want (hval 1 37 v1 rfl rfl) h1
 obtain ⟨t,rfl,ht⟩:=open_tint (hval 2 39 v2 rfl rfl) h2
 clear hA0 hval0
 simp only [List.append_nil] at hW' hlt
 refine (lawGives_any l x y z t.name t.a t.b t.c t.price At ct W l1 l2 l3 ht).mono fun e W' ⟨he,hb⟩=>?_
 subst he
 refine ⟨_,rfl,post_of_below (pa:=p0 ++ (p1 ++ p2)) (pv:=[]) hW' (fun _ _ _=>trodAll_mk1 (shut_bool Try.underlying4 true)) (fun sp hsp=>?_) (fun _ _=>rfl) (by simp) hb (ok_one (by kernel_rfl) rfl (okWide_bool_mk Try.underlying4 true))⟩
 refine trodAll_mk3 ?_ ?_ ?_
 ·exact WideElems.Trod_stays Try.laidOut (by kernel_rfl) (by decide +kernel) h0 (fun x hx=>hb.same (hlt x (by simp [hx]))) (fun x hx=>hsp x (by simp [hx]))
 ·exact WideElems.Trod_stays Try.laidOut (by kernel_rfl) (by decide +kernel) h1 (fun x hx=>hb.same (hlt x (by simp [hx]))) (fun x hx=>hsp x (by simp [hx]))
 ·exact WideElems.Trod_stays Try.laidOut (by kernel_rfl) (by decide +kernel) h2 (fun x hx=>hb.same (hlt x (by simp [hx]))) (fun x hx=>hsp x (by simp [hx]))

theorem gives_holds : Rows.PigmentGivesSaid :=
 OpenClaim.holds_of_wide 4 Try.f4 rfl rfl rfl rfl rfl rfl rfl ⟨rfl,rfl,rfl,rfl,rfl⟩ rfl rfl rfl rfl rfl (by kernel_rfl) Try.func4 (by kernel_rfl)
  (of_decide_eq_true (by kernel_rfl)) (by unfold Func.isWrapper; first | (rw [if_pos (by decide +kernel)]; kernel_rfl) | (rw [if_neg (by decide +kernel)]; exact ⟨rfl,rfl⟩))
  (fun os started H enc _=>gives_lifted os started H enc)
#print axioms gives_holds
end Go.Proofs.Ytkjceegmmhnajaa
