/- The non-vacuity check 'mixed' is true. -/
import Derived.Test.YtkjceegmmhnajaaN1
namespace Go.Proofs.Ytkjceegmmhnajaa
open Go.RowKit
noncomputable def isTrueR (x : Option (Value × Tr AO × Nat)) : Bool := match x with | some (.bool b, _, _) => b | _ => false
set_option maxRecDepth 100000 in
theorem mixed_run : isTrueR (callF E0 (exec E0 100000) 0 10 #[] .e 0) = true := by decide +kernel
theorem mixed_any (w : World) : Calls Try.prog 10 #[] w fun e w' => e = .returned (.bool true) ∧ Below w.heap.size w w' := by
  have h := mixed_run
  unfold isTrueR at h
  split at h
  · rename_i b H n hc
    subst h
    exact closed_call E0_ok hc rfl (fun _ _ _ => rfl) (fun _ _ _ => rfl) w
  · cases h
end Go.Proofs.Ytkjceegmmhnajaa
