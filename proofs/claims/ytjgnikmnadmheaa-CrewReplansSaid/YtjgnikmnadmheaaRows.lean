/-
  No cell of these rows narrows 'for every input' (looked for: loops, veiled, ifaces, maps, wideKeys, modest, calm, conditions, laid).
  DERIVED. THE GIVEN ROWS OF THIS SEAT. 11 by the template 'for every input the law returns true; each argument reads behind the call as it read before'; 0 by the template 'total and deterministic' (their statements: YtjgnikmnadmheaaTotals.lean).
  GIVEN WITH THE SEED: the statements are not yours to turn. If you find one false, say at which input.
  Laid BY PROGRAM, IN A SANDBOX (cutbox-rows.mjs): the forced cells as the released guide's own fill.sh prints them over the translation 6a73699595be1676… (all of the seat's roots in one cut). By AI agents, Wed Nov 11 2026. No macro, syntax, notation, axiom, sorry.
-/
import Derived.Test.YtjgnikmnadmheaaChecked
import GoSem.Claim
import GoSem.ClaimJoined
import GoSem.ClaimMapViews
import Derived.JoinedTies
import Derived.KernelRfl
namespace Go.Proofs.Ytjgnikmnadmheaa
/- THE CELL 'sum', in the pinned program and in every row, IS THE sha256 OF THE DUMP (.gsa) THAT YtjgnikmnadmheaaProg.lean LOADS. Nothing in Lean hashes anything: it is a label: what it is worth is what the hold of that sum in a sandbox is worth. -/
noncomputable def Try.pinned : Pinned := { name := "ytjgnikmnadmheaa", sum := "6a73699595be16768c99d6e77a15feaf00d34afb29040e852b46420c765fad90", checked := Try.checked }
namespace Rows
def none {H : Type} : Left H := { results := [], args := [] }

/-- 'giornatalaw07.CrewChecks': WHATEVER THE INPUT: true; the input reads as it did. -/
def crewChecksSpec : ChangeSpec := { name := "crewChecks", fn := fun _ => fun
  | [d1, d2] => { results := [.lit (.bool true)], args := [d1, d2] }
  | _ => none }
def crewChecksRow : OpenClaim := { program := "ytjgnikmnadmheaa", sum := "6a73699595be16768c99d6e77a15feaf00d34afb29040e852b46420c765fad90", func := "giornata/giornatalaw07.CrewChecks", spec := "crewChecks", inPlace := ["slices.overlaps[int]"], unfollowed := true, recurses := true, apart := false }
def CrewChecksSaid : Prop := crewChecksRow.holds Try.pinned (OpenSpec.ofChange crewChecksSpec)

/-- ITS FALSE NEIGHBOUR: 'it returns false'. Refute it at one input. -/
def crewChecksWrong : ChangeSpec := { name := "crewChecks", fn := fun _ => fun
  | [d1, d2] => { results := [.lit (.bool false)], args := [d1, d2] }
  | _ => none }
def CrewChecksWrongFalsely : Prop := crewChecksRow.holds Try.pinned (OpenSpec.ofChange crewChecksWrong)

/-- 'giornatalaw07.CrewCloses': WHATEVER THE INPUT: true; the input reads as it did. -/
def crewClosesSpec : ChangeSpec := { name := "crewCloses", fn := fun _ => fun
  | [d1, d2] => { results := [.lit (.bool true)], args := [d1, d2] }
  | _ => none }
def crewClosesRow : OpenClaim := { program := "ytjgnikmnadmheaa", sum := "6a73699595be16768c99d6e77a15feaf00d34afb29040e852b46420c765fad90", func := "giornata/giornatalaw07.CrewCloses", spec := "crewCloses", inPlace := ["slices.overlaps[int]"], unfollowed := true, recurses := true, apart := false }
def CrewClosesSaid : Prop := crewClosesRow.holds Try.pinned (OpenSpec.ofChange crewClosesSpec)

/-- ITS FALSE NEIGHBOUR: 'it returns false'. Refute it at one input. -/
def crewClosesWrong : ChangeSpec := { name := "crewCloses", fn := fun _ => fun
  | [d1, d2] => { results := [.lit (.bool false)], args := [d1, d2] }
  | _ => none }
def CrewClosesWrongFalsely : Prop := crewClosesRow.holds Try.pinned (OpenSpec.ofChange crewClosesWrong)

/-- 'giornatalaw07.CrewDelays': WHATEVER THE INPUT: true; the input reads as it did. -/
def crewDelaysSpec : ChangeSpec := { name := "crewDelays", fn := fun _ => fun
  | [d1, d2, d3, d4, d5, d6] => { results := [.lit (.bool true)], args := [d1, d2, d3, d4, d5, d6] }
  | _ => none }
def crewDelaysRow : OpenClaim := { program := "ytjgnikmnadmheaa", sum := "6a73699595be16768c99d6e77a15feaf00d34afb29040e852b46420c765fad90", func := "giornata/giornatalaw07.CrewDelays", spec := "crewDelays", inPlace := ["slices.overlaps[int]"], unfollowed := true, recurses := true, apart := false }
def CrewDelaysSaid : Prop := crewDelaysRow.holds Try.pinned (OpenSpec.ofChange crewDelaysSpec)

/-- ITS FALSE NEIGHBOUR: 'it returns false'. Refute it at one input. -/
def crewDelaysWrong : ChangeSpec := { name := "crewDelays", fn := fun _ => fun
  | [d1, d2, d3, d4, d5, d6] => { results := [.lit (.bool false)], args := [d1, d2, d3, d4, d5, d6] }
  | _ => none }
def CrewDelaysWrongFalsely : Prop := crewDelaysRow.holds Try.pinned (OpenSpec.ofChange crewDelaysWrong)

/-- 'giornatalaw07.CrewChanges': WHATEVER THE INPUT: true; the input reads as it did. -/
def crewChangesSpec : ChangeSpec := { name := "crewChanges", fn := fun _ => fun
  | [d1, d2, d3, d4, d5, d6] => { results := [.lit (.bool true)], args := [d1, d2, d3, d4, d5, d6] }
  | _ => none }
def crewChangesRow : OpenClaim := { program := "ytjgnikmnadmheaa", sum := "6a73699595be16768c99d6e77a15feaf00d34afb29040e852b46420c765fad90", func := "giornata/giornatalaw07.CrewChanges", spec := "crewChanges", inPlace := ["slices.overlaps[int]"], unfollowed := true, recurses := true, apart := false }
def CrewChangesSaid : Prop := crewChangesRow.holds Try.pinned (OpenSpec.ofChange crewChangesSpec)

/-- ITS FALSE NEIGHBOUR: 'it returns false'. Refute it at one input. -/
def crewChangesWrong : ChangeSpec := { name := "crewChanges", fn := fun _ => fun
  | [d1, d2, d3, d4, d5, d6] => { results := [.lit (.bool false)], args := [d1, d2, d3, d4, d5, d6] }
  | _ => none }
def CrewChangesWrongFalsely : Prop := crewChangesRow.holds Try.pinned (OpenSpec.ofChange crewChangesWrong)

/-- 'giornatalaw07.CrewEarliest': WHATEVER THE INPUT: true; the input reads as it did. -/
def crewEarliestSpec : ChangeSpec := { name := "crewEarliest", fn := fun _ => fun
  | [d1, d2, d3] => { results := [.lit (.bool true)], args := [d1, d2, d3] }
  | _ => none }
def crewEarliestRow : OpenClaim := { program := "ytjgnikmnadmheaa", sum := "6a73699595be16768c99d6e77a15feaf00d34afb29040e852b46420c765fad90", func := "giornata/giornatalaw07.CrewEarliest", spec := "crewEarliest", inPlace := ["slices.overlaps[int]"], unfollowed := true, recurses := true, apart := false }
def CrewEarliestSaid : Prop := crewEarliestRow.holds Try.pinned (OpenSpec.ofChange crewEarliestSpec)

/-- ITS FALSE NEIGHBOUR: 'it returns false'. Refute it at one input. -/
def crewEarliestWrong : ChangeSpec := { name := "crewEarliest", fn := fun _ => fun
  | [d1, d2, d3] => { results := [.lit (.bool false)], args := [d1, d2, d3] }
  | _ => none }
def CrewEarliestWrongFalsely : Prop := crewEarliestRow.holds Try.pinned (OpenSpec.ofChange crewEarliestWrong)

/-- 'giornatalaw07.CrewReplans': WHATEVER THE INPUT: true; the input reads as it did. -/
def crewReplansSpec : ChangeSpec := { name := "crewReplans", fn := fun _ => fun
  | [d1, d2, d3, d4, d5, d6] => { results := [.lit (.bool true)], args := [d1, d2, d3, d4, d5, d6] }
  | _ => none }
def crewReplansRow : OpenClaim := { program := "ytjgnikmnadmheaa", sum := "6a73699595be16768c99d6e77a15feaf00d34afb29040e852b46420c765fad90", func := "giornata/giornatalaw07.CrewReplans", spec := "crewReplans", inPlace := ["slices.overlaps[int]"], unfollowed := true, recurses := true, apart := false }
def CrewReplansSaid : Prop := crewReplansRow.holds Try.pinned (OpenSpec.ofChange crewReplansSpec)

/-- ITS FALSE NEIGHBOUR: 'it returns false'. Refute it at one input. -/
def crewReplansWrong : ChangeSpec := { name := "crewReplans", fn := fun _ => fun
  | [d1, d2, d3, d4, d5, d6] => { results := [.lit (.bool false)], args := [d1, d2, d3, d4, d5, d6] }
  | _ => none }
def CrewReplansWrongFalsely : Prop := crewReplansRow.holds Try.pinned (OpenSpec.ofChange crewReplansWrong)

/-- 'giornatalaw07.CrewStays': WHATEVER THE INPUT: true; the input reads as it did. -/
def crewStaysSpec : ChangeSpec := { name := "crewStays", fn := fun _ => fun
  | [d1, d2, d3, d4] => { results := [.lit (.bool true)], args := [d1, d2, d3, d4] }
  | _ => none }
def crewStaysRow : OpenClaim := { program := "ytjgnikmnadmheaa", sum := "6a73699595be16768c99d6e77a15feaf00d34afb29040e852b46420c765fad90", func := "giornata/giornatalaw07.CrewStays", spec := "crewStays", inPlace := ["slices.overlaps[int]"], unfollowed := true, recurses := true, apart := false }
def CrewStaysSaid : Prop := crewStaysRow.holds Try.pinned (OpenSpec.ofChange crewStaysSpec)

/-- ITS FALSE NEIGHBOUR: 'it returns false'. Refute it at one input. -/
def crewStaysWrong : ChangeSpec := { name := "crewStays", fn := fun _ => fun
  | [d1, d2, d3, d4] => { results := [.lit (.bool false)], args := [d1, d2, d3, d4] }
  | _ => none }
def CrewStaysWrongFalsely : Prop := crewStaysRow.holds Try.pinned (OpenSpec.ofChange crewStaysWrong)

/-- 'giornatalaw07.CrewLeast': WHATEVER THE INPUT: true; the input reads as it did. -/
def crewLeastSpec : ChangeSpec := { name := "crewLeast", fn := fun _ => fun
  | [d1, d2, d3, d4, d5] => { results := [.lit (.bool true)], args := [d1, d2, d3, d4, d5] }
  | _ => none }
def crewLeastRow : OpenClaim := { program := "ytjgnikmnadmheaa", sum := "6a73699595be16768c99d6e77a15feaf00d34afb29040e852b46420c765fad90", func := "giornata/giornatalaw07.CrewLeast", spec := "crewLeast", inPlace := ["slices.overlaps[int]"], unfollowed := true, recurses := true, apart := false }
def CrewLeastSaid : Prop := crewLeastRow.holds Try.pinned (OpenSpec.ofChange crewLeastSpec)

/-- ITS FALSE NEIGHBOUR: 'it returns false'. Refute it at one input. -/
def crewLeastWrong : ChangeSpec := { name := "crewLeast", fn := fun _ => fun
  | [d1, d2, d3, d4, d5] => { results := [.lit (.bool false)], args := [d1, d2, d3, d4, d5] }
  | _ => none }
def CrewLeastWrongFalsely : Prop := crewLeastRow.holds Try.pinned (OpenSpec.ofChange crewLeastWrong)

/-- 'giornatalaw07.CrewPlans': WHATEVER THE INPUT: true; the input reads as it did. -/
def crewPlansSpec : ChangeSpec := { name := "crewPlans", fn := fun _ => fun
  | [d1, d2, d3, d4, d5] => { results := [.lit (.bool true)], args := [d1, d2, d3, d4, d5] }
  | _ => none }
def crewPlansRow : OpenClaim := { program := "ytjgnikmnadmheaa", sum := "6a73699595be16768c99d6e77a15feaf00d34afb29040e852b46420c765fad90", func := "giornata/giornatalaw07.CrewPlans", spec := "crewPlans", inPlace := ["slices.overlaps[int]"], unfollowed := true, recurses := true, apart := false }
def CrewPlansSaid : Prop := crewPlansRow.holds Try.pinned (OpenSpec.ofChange crewPlansSpec)

/-- ITS FALSE NEIGHBOUR: 'it returns false'. Refute it at one input. -/
def crewPlansWrong : ChangeSpec := { name := "crewPlans", fn := fun _ => fun
  | [d1, d2, d3, d4, d5] => { results := [.lit (.bool false)], args := [d1, d2, d3, d4, d5] }
  | _ => none }
def CrewPlansWrongFalsely : Prop := crewPlansRow.holds Try.pinned (OpenSpec.ofChange crewPlansWrong)

/-- 'giornatalaw07.CrewSlack': WHATEVER THE INPUT: true; the input reads as it did. -/
def crewSlackSpec : ChangeSpec := { name := "crewSlack", fn := fun _ => fun
  | [d1, d2, d3, d4, d5] => { results := [.lit (.bool true)], args := [d1, d2, d3, d4, d5] }
  | _ => none }
def crewSlackRow : OpenClaim := { program := "ytjgnikmnadmheaa", sum := "6a73699595be16768c99d6e77a15feaf00d34afb29040e852b46420c765fad90", func := "giornata/giornatalaw07.CrewSlack", spec := "crewSlack", inPlace := ["slices.overlaps[int]"], unfollowed := true, recurses := true, apart := false }
def CrewSlackSaid : Prop := crewSlackRow.holds Try.pinned (OpenSpec.ofChange crewSlackSpec)

/-- ITS FALSE NEIGHBOUR: 'it returns false'. Refute it at one input. -/
def crewSlackWrong : ChangeSpec := { name := "crewSlack", fn := fun _ => fun
  | [d1, d2, d3, d4, d5] => { results := [.lit (.bool false)], args := [d1, d2, d3, d4, d5] }
  | _ => none }
def CrewSlackWrongFalsely : Prop := crewSlackRow.holds Try.pinned (OpenSpec.ofChange crewSlackWrong)

/-- 'giornatalaw07.CrewDays': WHATEVER THE INPUT: true; the input reads as it did. -/
def crewDaysSpec : ChangeSpec := { name := "crewDays", fn := fun _ => fun
  | [d1, d2, d3, d4, d5, d6] => { results := [.lit (.bool true)], args := [d1, d2, d3, d4, d5, d6] }
  | _ => none }
def crewDaysRow : OpenClaim := { program := "ytjgnikmnadmheaa", sum := "6a73699595be16768c99d6e77a15feaf00d34afb29040e852b46420c765fad90", func := "giornata/giornatalaw07.CrewDays", spec := "crewDays", inPlace := ["slices.overlaps[int]"], unfollowed := true, recurses := true, apart := false }
def CrewDaysSaid : Prop := crewDaysRow.holds Try.pinned (OpenSpec.ofChange crewDaysSpec)

/-- ITS FALSE NEIGHBOUR: 'it returns false'. Refute it at one input. -/
def crewDaysWrong : ChangeSpec := { name := "crewDays", fn := fun _ => fun
  | [d1, d2, d3, d4, d5, d6] => { results := [.lit (.bool false)], args := [d1, d2, d3, d4, d5, d6] }
  | _ => none }
def CrewDaysWrongFalsely : Prop := crewDaysRow.holds Try.pinned (OpenSpec.ofChange crewDaysWrong)

/- THE SECOND FORM. 'bulk': how many values and letters a reading holds, each counted each time it is reached (what is shared counts as often as it is met; a slice's spare places count too). A statement '..UptoSaid' is the law's where the arguments, and the package variables that the reading takes, are together of bulk at most 1048576: NARROWER than '..Said'. Prove '..Said' where nothing that the law and all that it calls make is longer than what came in: it says more and counts as full. Else prove '..UptoSaid'. A law counts once. -/
mutual
def uptoBulk {H : Type} : DataW H → Nat
  | .lit (.string bytes) => bytes.length + 1
  | .lit _ => 1
  | .nil => 1
  | .ptr d => uptoBulk d + 1
  | .slice elems spare => uptoBulkAll elems + uptoBulkAll spare + 1
  | .agg parts => uptoBulkAll parts + 1
  | .iface _ d => uptoBulk d + 1
  | .map entries => uptoBulkEntries entries + 1
  | .held _ => 1
def uptoBulkAll {H : Type} : List (DataW H) → Nat
  | [] => 0
  | d :: r => uptoBulk d + uptoBulkAll r
def uptoBulkEntries {H : Type} : List (Lit × DataW H) → Nat
  | [] => 0
  | x :: r => uptoBulkEntry x + uptoBulkEntries r
def uptoBulkEntry {H : Type} : Lit × DataW H → Nat
  | (.string bytes, d) => bytes.length + uptoBulk d + 1
  | (_, d) => uptoBulk d + 1
 end
def uptoSmall : (H : Type) → List (DataW H) → Bool := fun _ ds => decide (uptoBulkAll ds ≤ 1048576)
def OpenSpec.upto (s : _root_.Go.ChangeSpec) : _root_.Go.OpenSpec := { _root_.Go.OpenSpec.ofChange s with cond := some uptoSmall }

/-- 'giornatalaw07.CrewChecks', WHERE WHAT IT READS IS OF BULK AT MOST 1048576: true; the input reads as it did. -/
def crewChecksUptoRow : OpenClaim := { program := "ytjgnikmnadmheaa", sum := "6a73699595be16768c99d6e77a15feaf00d34afb29040e852b46420c765fad90", func := "giornata/giornatalaw07.CrewChecks", spec := "crewChecks", inPlace := ["slices.overlaps[int]"], unfollowed := true, recurses := true, apart := false, narrowed := true }
def CrewChecksUptoSaid : Prop := crewChecksUptoRow.holds Try.pinned (OpenSpec.upto crewChecksSpec)

/-- 'giornatalaw07.CrewCloses', WHERE WHAT IT READS IS OF BULK AT MOST 1048576: true; the input reads as it did. -/
def crewClosesUptoRow : OpenClaim := { program := "ytjgnikmnadmheaa", sum := "6a73699595be16768c99d6e77a15feaf00d34afb29040e852b46420c765fad90", func := "giornata/giornatalaw07.CrewCloses", spec := "crewCloses", inPlace := ["slices.overlaps[int]"], unfollowed := true, recurses := true, apart := false, narrowed := true }
def CrewClosesUptoSaid : Prop := crewClosesUptoRow.holds Try.pinned (OpenSpec.upto crewClosesSpec)

/-- 'giornatalaw07.CrewDelays', WHERE WHAT IT READS IS OF BULK AT MOST 1048576: true; the input reads as it did. -/
def crewDelaysUptoRow : OpenClaim := { program := "ytjgnikmnadmheaa", sum := "6a73699595be16768c99d6e77a15feaf00d34afb29040e852b46420c765fad90", func := "giornata/giornatalaw07.CrewDelays", spec := "crewDelays", inPlace := ["slices.overlaps[int]"], unfollowed := true, recurses := true, apart := false, narrowed := true }
def CrewDelaysUptoSaid : Prop := crewDelaysUptoRow.holds Try.pinned (OpenSpec.upto crewDelaysSpec)

/-- 'giornatalaw07.CrewChanges', WHERE WHAT IT READS IS OF BULK AT MOST 1048576: true; the input reads as it did. -/
def crewChangesUptoRow : OpenClaim := { program := "ytjgnikmnadmheaa", sum := "6a73699595be16768c99d6e77a15feaf00d34afb29040e852b46420c765fad90", func := "giornata/giornatalaw07.CrewChanges", spec := "crewChanges", inPlace := ["slices.overlaps[int]"], unfollowed := true, recurses := true, apart := false, narrowed := true }
def CrewChangesUptoSaid : Prop := crewChangesUptoRow.holds Try.pinned (OpenSpec.upto crewChangesSpec)

/-- 'giornatalaw07.CrewEarliest', WHERE WHAT IT READS IS OF BULK AT MOST 1048576: true; the input reads as it did. -/
def crewEarliestUptoRow : OpenClaim := { program := "ytjgnikmnadmheaa", sum := "6a73699595be16768c99d6e77a15feaf00d34afb29040e852b46420c765fad90", func := "giornata/giornatalaw07.CrewEarliest", spec := "crewEarliest", inPlace := ["slices.overlaps[int]"], unfollowed := true, recurses := true, apart := false, narrowed := true }
def CrewEarliestUptoSaid : Prop := crewEarliestUptoRow.holds Try.pinned (OpenSpec.upto crewEarliestSpec)

/-- 'giornatalaw07.CrewReplans', WHERE WHAT IT READS IS OF BULK AT MOST 1048576: true; the input reads as it did. -/
def crewReplansUptoRow : OpenClaim := { program := "ytjgnikmnadmheaa", sum := "6a73699595be16768c99d6e77a15feaf00d34afb29040e852b46420c765fad90", func := "giornata/giornatalaw07.CrewReplans", spec := "crewReplans", inPlace := ["slices.overlaps[int]"], unfollowed := true, recurses := true, apart := false, narrowed := true }
def CrewReplansUptoSaid : Prop := crewReplansUptoRow.holds Try.pinned (OpenSpec.upto crewReplansSpec)

/-- 'giornatalaw07.CrewStays', WHERE WHAT IT READS IS OF BULK AT MOST 1048576: true; the input reads as it did. -/
def crewStaysUptoRow : OpenClaim := { program := "ytjgnikmnadmheaa", sum := "6a73699595be16768c99d6e77a15feaf00d34afb29040e852b46420c765fad90", func := "giornata/giornatalaw07.CrewStays", spec := "crewStays", inPlace := ["slices.overlaps[int]"], unfollowed := true, recurses := true, apart := false, narrowed := true }
def CrewStaysUptoSaid : Prop := crewStaysUptoRow.holds Try.pinned (OpenSpec.upto crewStaysSpec)

/-- 'giornatalaw07.CrewLeast', WHERE WHAT IT READS IS OF BULK AT MOST 1048576: true; the input reads as it did. -/
def crewLeastUptoRow : OpenClaim := { program := "ytjgnikmnadmheaa", sum := "6a73699595be16768c99d6e77a15feaf00d34afb29040e852b46420c765fad90", func := "giornata/giornatalaw07.CrewLeast", spec := "crewLeast", inPlace := ["slices.overlaps[int]"], unfollowed := true, recurses := true, apart := false, narrowed := true }
def CrewLeastUptoSaid : Prop := crewLeastUptoRow.holds Try.pinned (OpenSpec.upto crewLeastSpec)

/-- 'giornatalaw07.CrewPlans', WHERE WHAT IT READS IS OF BULK AT MOST 1048576: true; the input reads as it did. -/
def crewPlansUptoRow : OpenClaim := { program := "ytjgnikmnadmheaa", sum := "6a73699595be16768c99d6e77a15feaf00d34afb29040e852b46420c765fad90", func := "giornata/giornatalaw07.CrewPlans", spec := "crewPlans", inPlace := ["slices.overlaps[int]"], unfollowed := true, recurses := true, apart := false, narrowed := true }
def CrewPlansUptoSaid : Prop := crewPlansUptoRow.holds Try.pinned (OpenSpec.upto crewPlansSpec)

/-- 'giornatalaw07.CrewSlack', WHERE WHAT IT READS IS OF BULK AT MOST 1048576: true; the input reads as it did. -/
def crewSlackUptoRow : OpenClaim := { program := "ytjgnikmnadmheaa", sum := "6a73699595be16768c99d6e77a15feaf00d34afb29040e852b46420c765fad90", func := "giornata/giornatalaw07.CrewSlack", spec := "crewSlack", inPlace := ["slices.overlaps[int]"], unfollowed := true, recurses := true, apart := false, narrowed := true }
def CrewSlackUptoSaid : Prop := crewSlackUptoRow.holds Try.pinned (OpenSpec.upto crewSlackSpec)

/-- 'giornatalaw07.CrewDays', WHERE WHAT IT READS IS OF BULK AT MOST 1048576: true; the input reads as it did. -/
def crewDaysUptoRow : OpenClaim := { program := "ytjgnikmnadmheaa", sum := "6a73699595be16768c99d6e77a15feaf00d34afb29040e852b46420c765fad90", func := "giornata/giornatalaw07.CrewDays", spec := "crewDays", inPlace := ["slices.overlaps[int]"], unfollowed := true, recurses := true, apart := false, narrowed := true }
def CrewDaysUptoSaid : Prop := crewDaysUptoRow.holds Try.pinned (OpenSpec.upto crewDaysSpec)

end Rows
end Go.Proofs.Ytjgnikmnadmheaa
