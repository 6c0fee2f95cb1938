/- The second machine over this program: a call without arguments. -/
import Derived.Test.YtkjceegmmhnajaaN0
namespace Go.Proofs.Ytkjceegmmhnajaa
open Go.RowKit
set_option maxRecDepth 100000 in
theorem E0_ok : EnvOk E0 where
  tv := show TvOk Try.prog (tree (mkTv Try.prog) 145 .e).get from tvOk_of Try.prog 145
  mixed := show Try.prog.follows .mixedOrders = true by kernel_rfl
  fns := fun f fi h => fnsOk_of Try.prog [68, 72, 73] 94 fns_ok f fi h
  ext := fun f args H v h => nomatch h

/-- a call without arguments, reckoned out -/
theorem closed_call {E : Env} (hE : EnvOk E) {k g : Nat} {v : Value} {H : Tr AO} {n : Nat} (h : callF E (exec E k) 0 g #[] .e 0 = some (v, H, n)) (hg : ground 2 v = true) (hx : ∀ j a H, E.exty j a H = none) (hf : ∀ j a H, E.extf j a H = none) (w : World) :
    Calls E.P g #[] w fun e w' => e = .returned v ∧ Below w.heap.size w w' := by
  obtain ⟨_, hc⟩ := callF_ok hE (exec_sound hE k) h (Nat.le_refl _) (fun i _ => Tr.get_e i)
  have := hc (B := ⟨w.heap.size, 0, Nat.le_refl _⟩) (w0 := w) (p := fun _ => none) (h := fun _ => none) (w := w) (args' := #[]) (R := fun e w' => e = .returned v ∧ Below w.heap.size w w') (ro := none)
    (fun i o hi => by rw [Tr.get_e] at hi; cases hi) (fun i _ _ => rfl) ⟨Nat.le_refl _, Below.refl _ _, fun q hq j args args' H v w _ _ _ => ⟨fun he => (by rw [hx] at he; cases he), fun he => (by rw [hf] at he; cases he)⟩, fun i o hi => (by cases hi), fun i j b k k' hi => (by cases hi)⟩ (AR.empty _)
    (fun v' w' q hv _ hr => ⟨by rw [VR.eq_of_ground 2 hg hv], hr.low⟩)
  exact callsIn_wide.1 this
end Go.Proofs.Ytkjceegmmhnajaa
