/-
  No cell of these rows narrows 'for every input' (looked for: loops, veiled, ifaces, maps, wideKeys, modest, calm, conditions, laid).
  DERIVED. THE GIVEN ROWS OF THIS SEAT. 6 by the template 'for every input the law returns true; each argument reads behind the call as it read before'; 0 by the template 'total and deterministic' (their statements: YtkjceegmmhnajaaTotals.lean).
  GIVEN WITH THE SEED: the statements are not yours to turn. If you find one false, say at which input.
  Laid BY PROGRAM, IN A SANDBOX (cutbox-rows.mjs): the forced cells as the released guide's own fill.sh prints them over the translation 0cc1edad5511fdbe… (all of the seat's roots in one cut). By AI agents, Wed Nov 11 2026. No macro, syntax, notation, axiom, sorry.
-/
import Derived.Test.YtkjceegmmhnajaaChecked
import GoSem.Claim
import GoSem.ClaimJoined
import GoSem.ClaimMapViews
import Derived.JoinedTies
import Derived.KernelRfl
namespace Go.Proofs.Ytkjceegmmhnajaa
/- THE CELL 'sum', in the pinned program and in every row, IS THE sha256 OF THE DUMP (.gsa) THAT YtkjceegmmhnajaaProg.lean LOADS. Nothing in Lean hashes anything: it is a label: what it is worth is what the hold of that sum in a sandbox is worth. -/
noncomputable def Try.pinned : Pinned := { name := "ytkjceegmmhnajaa", sum := "0cc1edad5511fdbe1e55ab371ff9b3d8e4a8f594d5a2e36c8bb4d70eb6672bb2", checked := Try.checked }
namespace Rows
def none {H : Type} : Left H := { results := [], args := [] }

/-- 'giornatalaw06.PigmentMixes': WHATEVER THE INPUT: true; the input reads as it did. -/
def pigmentMixesSpec : ChangeSpec := { name := "pigmentMixes", fn := fun _ => fun
  | [d1, d2] => { results := [.lit (.bool true)], args := [d1, d2] }
  | _ => none }
def pigmentMixesRow : OpenClaim := { program := "ytkjceegmmhnajaa", sum := "0cc1edad5511fdbe1e55ab371ff9b3d8e4a8f594d5a2e36c8bb4d70eb6672bb2", func := "giornata/giornatalaw06.PigmentMixes", spec := "pigmentMixes", unfollowed := true, recurses := true, apart := false }
def PigmentMixesSaid : Prop := pigmentMixesRow.holds Try.pinned (OpenSpec.ofChange pigmentMixesSpec)

/-- ITS FALSE NEIGHBOUR: 'it returns false'. Refute it at one input. -/
def pigmentMixesWrong : ChangeSpec := { name := "pigmentMixes", fn := fun _ => fun
  | [d1, d2] => { results := [.lit (.bool false)], args := [d1, d2] }
  | _ => none }
def PigmentMixesWrongFalsely : Prop := pigmentMixesRow.holds Try.pinned (OpenSpec.ofChange pigmentMixesWrong)

/-- 'giornatalaw06.PigmentGives': WHATEVER THE INPUT: true; the input reads as it did. -/
def pigmentGivesSpec : ChangeSpec := { name := "pigmentGives", fn := fun _ => fun
  | [d1, d2, d3] => { results := [.lit (.bool true)], args := [d1, d2, d3] }
  | _ => none }
def pigmentGivesRow : OpenClaim := { program := "ytkjceegmmhnajaa", sum := "0cc1edad5511fdbe1e55ab371ff9b3d8e4a8f594d5a2e36c8bb4d70eb6672bb2", func := "giornata/giornatalaw06.PigmentGives", spec := "pigmentGives", unfollowed := true, recurses := true, apart := false }
def PigmentGivesSaid : Prop := pigmentGivesRow.holds Try.pinned (OpenSpec.ofChange pigmentGivesSpec)

/-- ITS FALSE NEIGHBOUR: 'it returns false'. Refute it at one input. -/
def pigmentGivesWrong : ChangeSpec := { name := "pigmentGives", fn := fun _ => fun
  | [d1, d2, d3] => { results := [.lit (.bool false)], args := [d1, d2, d3] }
  | _ => none }
def PigmentGivesWrongFalsely : Prop := pigmentGivesRow.holds Try.pinned (OpenSpec.ofChange pigmentGivesWrong)

/-- 'giornatalaw06.PigmentPlanes': WHATEVER THE INPUT: true; the input reads as it did. -/
def pigmentPlanesSpec : ChangeSpec := { name := "pigmentPlanes", fn := fun _ => fun
  | [d1, d2, d3] => { results := [.lit (.bool true)], args := [d1, d2, d3] }
  | _ => none }
def pigmentPlanesRow : OpenClaim := { program := "ytkjceegmmhnajaa", sum := "0cc1edad5511fdbe1e55ab371ff9b3d8e4a8f594d5a2e36c8bb4d70eb6672bb2", func := "giornata/giornatalaw06.PigmentPlanes", spec := "pigmentPlanes", unfollowed := true, recurses := true, apart := false }
def PigmentPlanesSaid : Prop := pigmentPlanesRow.holds Try.pinned (OpenSpec.ofChange pigmentPlanesSpec)

/-- ITS FALSE NEIGHBOUR: 'it returns false'. Refute it at one input. -/
def pigmentPlanesWrong : ChangeSpec := { name := "pigmentPlanes", fn := fun _ => fun
  | [d1, d2, d3] => { results := [.lit (.bool false)], args := [d1, d2, d3] }
  | _ => none }
def PigmentPlanesWrongFalsely : Prop := pigmentPlanesRow.holds Try.pinned (OpenSpec.ofChange pigmentPlanesWrong)

/-- 'giornatalaw06.PigmentCheapest': WHATEVER THE INPUT: true; the input reads as it did. -/
def pigmentCheapestSpec : ChangeSpec := { name := "pigmentCheapest", fn := fun _ => fun
  | [d1, d2] => { results := [.lit (.bool true)], args := [d1, d2] }
  | _ => none }
def pigmentCheapestRow : OpenClaim := { program := "ytkjceegmmhnajaa", sum := "0cc1edad5511fdbe1e55ab371ff9b3d8e4a8f594d5a2e36c8bb4d70eb6672bb2", func := "giornata/giornatalaw06.PigmentCheapest", spec := "pigmentCheapest", unfollowed := true, recurses := true, apart := false }
def PigmentCheapestSaid : Prop := pigmentCheapestRow.holds Try.pinned (OpenSpec.ofChange pigmentCheapestSpec)

/-- ITS FALSE NEIGHBOUR: 'it returns false'. Refute it at one input. -/
def pigmentCheapestWrong : ChangeSpec := { name := "pigmentCheapest", fn := fun _ => fun
  | [d1, d2] => { results := [.lit (.bool false)], args := [d1, d2] }
  | _ => none }
def PigmentCheapestWrongFalsely : Prop := pigmentCheapestRow.holds Try.pinned (OpenSpec.ofChange pigmentCheapestWrong)

/-- 'giornatalaw06.PigmentDuals': WHATEVER THE INPUT: true; the input reads as it did. -/
def pigmentDualsSpec : ChangeSpec := { name := "pigmentDuals", fn := fun _ => fun
  | [d1, d2, d3, d4, d5] => { results := [.lit (.bool true)], args := [d1, d2, d3, d4, d5] }
  | _ => none }
def pigmentDualsRow : OpenClaim := { program := "ytkjceegmmhnajaa", sum := "0cc1edad5511fdbe1e55ab371ff9b3d8e4a8f594d5a2e36c8bb4d70eb6672bb2", func := "giornata/giornatalaw06.PigmentDuals", spec := "pigmentDuals", unfollowed := true, recurses := true, apart := false }
def PigmentDualsSaid : Prop := pigmentDualsRow.holds Try.pinned (OpenSpec.ofChange pigmentDualsSpec)

/-- ITS FALSE NEIGHBOUR: 'it returns false'. Refute it at one input. -/
def pigmentDualsWrong : ChangeSpec := { name := "pigmentDuals", fn := fun _ => fun
  | [d1, d2, d3, d4, d5] => { results := [.lit (.bool false)], args := [d1, d2, d3, d4, d5] }
  | _ => none }
def PigmentDualsWrongFalsely : Prop := pigmentDualsRow.holds Try.pinned (OpenSpec.ofChange pigmentDualsWrong)

/-- 'giornatalaw06.PigmentReaches': WHATEVER THE INPUT: true; the input reads as it did. -/
def pigmentReachesSpec : ChangeSpec := { name := "pigmentReaches", fn := fun _ => fun
  | [d1, d2] => { results := [.lit (.bool true)], args := [d1, d2] }
  | _ => none }
def pigmentReachesRow : OpenClaim := { program := "ytkjceegmmhnajaa", sum := "0cc1edad5511fdbe1e55ab371ff9b3d8e4a8f594d5a2e36c8bb4d70eb6672bb2", func := "giornata/giornatalaw06.PigmentReaches", spec := "pigmentReaches", unfollowed := true, recurses := true, apart := false }
def PigmentReachesSaid : Prop := pigmentReachesRow.holds Try.pinned (OpenSpec.ofChange pigmentReachesSpec)

/-- ITS FALSE NEIGHBOUR: 'it returns false'. Refute it at one input. -/
def pigmentReachesWrong : ChangeSpec := { name := "pigmentReaches", fn := fun _ => fun
  | [d1, d2] => { results := [.lit (.bool false)], args := [d1, d2] }
  | _ => none }
def PigmentReachesWrongFalsely : Prop := pigmentReachesRow.holds Try.pinned (OpenSpec.ofChange pigmentReachesWrong)

/- THE SECOND FORM. 'bulk': how many values and letters a reading holds, each counted each time it is reached (what is shared counts as often as it is met; a slice's spare places count too). A statement '..UptoSaid' is the law's where the arguments, and the package variables that the reading takes, are together of bulk at most 1048576: NARROWER than '..Said'. Prove '..Said' where nothing that the law and all that it calls make is longer than what came in: it says more and counts as full. Else prove '..UptoSaid'. A law counts once. -/
mutual
def uptoBulk {H : Type} : DataW H → Nat
  | .lit (.string bytes) => bytes.length + 1
  | .lit _ => 1
  | .nil => 1
  | .ptr d => uptoBulk d + 1
  | .slice elems spare => uptoBulkAll elems + uptoBulkAll spare + 1
  | .agg parts => uptoBulkAll parts + 1
  | .iface _ d => uptoBulk d + 1
  | .map entries => uptoBulkEntries entries + 1
  | .held _ => 1
def uptoBulkAll {H : Type} : List (DataW H) → Nat
  | [] => 0
  | d :: r => uptoBulk d + uptoBulkAll r
def uptoBulkEntries {H : Type} : List (Lit × DataW H) → Nat
  | [] => 0
  | x :: r => uptoBulkEntry x + uptoBulkEntries r
def uptoBulkEntry {H : Type} : Lit × DataW H → Nat
  | (.string bytes, d) => bytes.length + uptoBulk d + 1
  | (_, d) => uptoBulk d + 1
 end
def uptoSmall : (H : Type) → List (DataW H) → Bool := fun _ ds => decide (uptoBulkAll ds ≤ 1048576)
def OpenSpec.upto (s : _root_.Go.ChangeSpec) : _root_.Go.OpenSpec := { _root_.Go.OpenSpec.ofChange s with cond := some uptoSmall }

/-- 'giornatalaw06.PigmentMixes', WHERE WHAT IT READS IS OF BULK AT MOST 1048576: true; the input reads as it did. -/
def pigmentMixesUptoRow : OpenClaim := { program := "ytkjceegmmhnajaa", sum := "0cc1edad5511fdbe1e55ab371ff9b3d8e4a8f594d5a2e36c8bb4d70eb6672bb2", func := "giornata/giornatalaw06.PigmentMixes", spec := "pigmentMixes", unfollowed := true, recurses := true, apart := false, narrowed := true }
def PigmentMixesUptoSaid : Prop := pigmentMixesUptoRow.holds Try.pinned (OpenSpec.upto pigmentMixesSpec)

/-- 'giornatalaw06.PigmentGives', WHERE WHAT IT READS IS OF BULK AT MOST 1048576: true; the input reads as it did. -/
def pigmentGivesUptoRow : OpenClaim := { program := "ytkjceegmmhnajaa", sum := "0cc1edad5511fdbe1e55ab371ff9b3d8e4a8f594d5a2e36c8bb4d70eb6672bb2", func := "giornata/giornatalaw06.PigmentGives", spec := "pigmentGives", unfollowed := true, recurses := true, apart := false, narrowed := true }
def PigmentGivesUptoSaid : Prop := pigmentGivesUptoRow.holds Try.pinned (OpenSpec.upto pigmentGivesSpec)

/-- 'giornatalaw06.PigmentPlanes', WHERE WHAT IT READS IS OF BULK AT MOST 1048576: true; the input reads as it did. -/
def pigmentPlanesUptoRow : OpenClaim := { program := "ytkjceegmmhnajaa", sum := "0cc1edad5511fdbe1e55ab371ff9b3d8e4a8f594d5a2e36c8bb4d70eb6672bb2", func := "giornata/giornatalaw06.PigmentPlanes", spec := "pigmentPlanes", unfollowed := true, recurses := true, apart := false, narrowed := true }
def PigmentPlanesUptoSaid : Prop := pigmentPlanesUptoRow.holds Try.pinned (OpenSpec.upto pigmentPlanesSpec)

/-- 'giornatalaw06.PigmentCheapest', WHERE WHAT IT READS IS OF BULK AT MOST 1048576: true; the input reads as it did. -/
def pigmentCheapestUptoRow : OpenClaim := { program := "ytkjceegmmhnajaa", sum := "0cc1edad5511fdbe1e55ab371ff9b3d8e4a8f594d5a2e36c8bb4d70eb6672bb2", func := "giornata/giornatalaw06.PigmentCheapest", spec := "pigmentCheapest", unfollowed := true, recurses := true, apart := false, narrowed := true }
def PigmentCheapestUptoSaid : Prop := pigmentCheapestUptoRow.holds Try.pinned (OpenSpec.upto pigmentCheapestSpec)

/-- 'giornatalaw06.PigmentDuals', WHERE WHAT IT READS IS OF BULK AT MOST 1048576: true; the input reads as it did. -/
def pigmentDualsUptoRow : OpenClaim := { program := "ytkjceegmmhnajaa", sum := "0cc1edad5511fdbe1e55ab371ff9b3d8e4a8f594d5a2e36c8bb4d70eb6672bb2", func := "giornata/giornatalaw06.PigmentDuals", spec := "pigmentDuals", unfollowed := true, recurses := true, apart := false, narrowed := true }
def PigmentDualsUptoSaid : Prop := pigmentDualsUptoRow.holds Try.pinned (OpenSpec.upto pigmentDualsSpec)

/-- 'giornatalaw06.PigmentReaches', WHERE WHAT IT READS IS OF BULK AT MOST 1048576: true; the input reads as it did. -/
def pigmentReachesUptoRow : OpenClaim := { program := "ytkjceegmmhnajaa", sum := "0cc1edad5511fdbe1e55ab371ff9b3d8e4a8f594d5a2e36c8bb4d70eb6672bb2", func := "giornata/giornatalaw06.PigmentReaches", spec := "pigmentReaches", unfollowed := true, recurses := true, apart := false, narrowed := true }
def PigmentReachesUptoSaid : Prop := pigmentReachesUptoRow.holds Try.pinned (OpenSpec.upto pigmentReachesSpec)

end Rows
end Go.Proofs.Ytkjceegmmhnajaa
