/- The closed cells of PigmentStrokes's row. -/
import Derived.Test.YtkfeagokmcakgaaGreatDoorG07

set_option linter.unusedVariables false
set_option linter.unusedSimpArgs false

namespace Go.Proofs.YtkfeagokmcakgaaGreatDoor
open Go.ChangeShapes Go.WideShapes Go.ChangeAt Go.RowKit Go.Deep

set_option maxHeartbeats 20000000 in
set_option maxRecDepth 100000 in
theorem strokes_facts : joinedFacts Tryz.prog 4 Tryz.f4 Rows.pigmentStrokesSpec Rows.pigmentStrokesRow = true := by
  unfold joinedFacts
  simp only [Bool.and_eq_true]
  repeat' (refine And.intro ?_ ?_)
  all_goals (as_aux_lemma => kernel_rfl)
end Go.Proofs.YtkfeagokmcakgaaGreatDoor
