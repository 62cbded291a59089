/-
  No cell of these rows narrows 'for every input' (looked for: loops, veiled, ifaces, maps, wideKeys, modest, calm, conditions, laid).
  DERIVED. THE GIVEN ROWS OF THIS SEAT. 9 by the template 'for every input the law returns true; each argument reads behind the call as it read before'; 0 by the template 'total and deterministic' (their statements: YteckhmbkagigjaaTotals.lean).
  GIVEN WITH THE SEED: the statements are not yours to turn. If you find one false, say at which input.
  Laid BY PROGRAM, IN A SANDBOX (cutbox-rows.mjs): the forced cells as the released guide's own fill.sh prints them over the translation ca44170625421382… (all of the seat's roots in one cut). By AI agents, Wed Nov 11 2026. No macro, syntax, notation, axiom, sorry.
-/
import Derived.Test.YteckhmbkagigjaaChecked
import GoSem.Claim
import GoSem.ClaimJoined
import GoSem.ClaimMapViews
import Derived.JoinedTies
import Derived.KernelRfl
namespace Go.Proofs.Yteckhmbkagigjaa
/- THE CELL 'sum', in the pinned program and in every row, IS THE sha256 OF THE DUMP (.gsa) THAT YteckhmbkagigjaaProg.lean LOADS. Nothing in Lean hashes anything: it is a label: what it is worth is what the hold of that sum in a sandbox is worth. -/
noncomputable def Try.pinned : Pinned := { name := "yteckhmbkagigjaa", sum := "ca441706254213822575dd382951767feb6d00fecdab2b8f28be4cb9cf6fb6bc", checked := Try.checked }
namespace Rows
def none {H : Type} : Left H := { results := [], args := [] }

/-- 'laws.FnExactIsOrder': WHATEVER THE INPUT: true; the input reads as it did. -/
def fnExactIsOrderSpec : ChangeSpec := { name := "fnExactIsOrder", fn := fun _ => fun
  | [d1, d2] => { results := [.lit (.bool true)], args := [d1, d2] }
  | _ => none }
def fnExactIsOrderRow : OpenClaim := { program := "yteckhmbkagigjaa", sum := "ca441706254213822575dd382951767feb6d00fecdab2b8f28be4cb9cf6fb6bc", func := "loop.example/g03407/laws.FnExactIsOrder", spec := "fnExactIsOrder", apart := false }
def FnExactIsOrderSaid : Prop := fnExactIsOrderRow.holds Try.pinned (OpenSpec.ofChange fnExactIsOrderSpec)

/-- ITS FALSE NEIGHBOUR: 'it returns false'. Refute it at one input. -/
def fnExactIsOrderWrong : ChangeSpec := { name := "fnExactIsOrder", fn := fun _ => fun
  | [d1, d2] => { results := [.lit (.bool false)], args := [d1, d2] }
  | _ => none }
def FnExactIsOrderWrongFalsely : Prop := fnExactIsOrderRow.holds Try.pinned (OpenSpec.ofChange fnExactIsOrderWrong)

/-- 'laws.FnExactAreTasks': WHATEVER THE INPUT: true; the input reads as it did. -/
def fnExactAreTasksSpec : ChangeSpec := { name := "fnExactAreTasks", fn := fun _ => fun
  | [d] => { results := [.lit (.bool true)], args := [d] }
  | _ => none }
def fnExactAreTasksRow : OpenClaim := { program := "yteckhmbkagigjaa", sum := "ca441706254213822575dd382951767feb6d00fecdab2b8f28be4cb9cf6fb6bc", func := "loop.example/g03407/laws.FnExactAreTasks", spec := "fnExactAreTasks", apart := false }
def FnExactAreTasksSaid : Prop := fnExactAreTasksRow.holds Try.pinned (OpenSpec.ofChange fnExactAreTasksSpec)

/-- ITS FALSE NEIGHBOUR: 'it returns false'. Refute it at one input. -/
def fnExactAreTasksWrong : ChangeSpec := { name := "fnExactAreTasks", fn := fun _ => fun
  | [d] => { results := [.lit (.bool false)], args := [d] }
  | _ => none }
def FnExactAreTasksWrongFalsely : Prop := fnExactAreTasksRow.holds Try.pinned (OpenSpec.ofChange fnExactAreTasksWrong)

/-- 'laws.FnExactWaitIn': WHATEVER THE INPUT: true; the input reads as it did. -/
def fnExactWaitInSpec : ChangeSpec := { name := "fnExactWaitIn", fn := fun _ => fun
  | [d1, d2] => { results := [.lit (.bool true)], args := [d1, d2] }
  | _ => none }
def fnExactWaitInRow : OpenClaim := { program := "yteckhmbkagigjaa", sum := "ca441706254213822575dd382951767feb6d00fecdab2b8f28be4cb9cf6fb6bc", func := "loop.example/g03407/laws.FnExactWaitIn", spec := "fnExactWaitIn", apart := false }
def FnExactWaitInSaid : Prop := fnExactWaitInRow.holds Try.pinned (OpenSpec.ofChange fnExactWaitInSpec)

/-- ITS FALSE NEIGHBOUR: 'it returns false'. Refute it at one input. -/
def fnExactWaitInWrong : ChangeSpec := { name := "fnExactWaitIn", fn := fun _ => fun
  | [d1, d2] => { results := [.lit (.bool false)], args := [d1, d2] }
  | _ => none }
def FnExactWaitInWrongFalsely : Prop := fnExactWaitInRow.holds Try.pinned (OpenSpec.ofChange fnExactWaitInWrong)

/-- 'laws.FnExactLatenessIn': WHATEVER THE INPUT: true; the input reads as it did. -/
def fnExactLatenessInSpec : ChangeSpec := { name := "fnExactLatenessIn", fn := fun _ => fun
  | [d1, d2] => { results := [.lit (.bool true)], args := [d1, d2] }
  | _ => none }
def fnExactLatenessInRow : OpenClaim := { program := "yteckhmbkagigjaa", sum := "ca441706254213822575dd382951767feb6d00fecdab2b8f28be4cb9cf6fb6bc", func := "loop.example/g03407/laws.FnExactLatenessIn", spec := "fnExactLatenessIn", apart := false }
def FnExactLatenessInSaid : Prop := fnExactLatenessInRow.holds Try.pinned (OpenSpec.ofChange fnExactLatenessInSpec)

/-- ITS FALSE NEIGHBOUR: 'it returns false'. Refute it at one input. -/
def fnExactLatenessInWrong : ChangeSpec := { name := "fnExactLatenessIn", fn := fun _ => fun
  | [d1, d2] => { results := [.lit (.bool false)], args := [d1, d2] }
  | _ => none }
def FnExactLatenessInWrongFalsely : Prop := fnExactLatenessInRow.holds Try.pinned (OpenSpec.ofChange fnExactLatenessInWrong)

/-- 'laws.FnExactLateIn': WHATEVER THE INPUT: true; the input reads as it did. -/
def fnExactLateInSpec : ChangeSpec := { name := "fnExactLateIn", fn := fun _ => fun
  | [d1, d2] => { results := [.lit (.bool true)], args := [d1, d2] }
  | _ => none }
def fnExactLateInRow : OpenClaim := { program := "yteckhmbkagigjaa", sum := "ca441706254213822575dd382951767feb6d00fecdab2b8f28be4cb9cf6fb6bc", func := "loop.example/g03407/laws.FnExactLateIn", spec := "fnExactLateIn", apart := false }
def FnExactLateInSaid : Prop := fnExactLateInRow.holds Try.pinned (OpenSpec.ofChange fnExactLateInSpec)

/-- ITS FALSE NEIGHBOUR: 'it returns false'. Refute it at one input. -/
def fnExactLateInWrong : ChangeSpec := { name := "fnExactLateIn", fn := fun _ => fun
  | [d1, d2] => { results := [.lit (.bool false)], args := [d1, d2] }
  | _ => none }
def FnExactLateInWrongFalsely : Prop := fnExactLateInRow.holds Try.pinned (OpenSpec.ofChange fnExactLateInWrong)

/-- 'laws.FnExactEarliestDue': WHATEVER THE INPUT: true; the input reads as it did. -/
def fnExactEarliestDueSpec : ChangeSpec := { name := "fnExactEarliestDue", fn := fun _ => fun
  | [d] => { results := [.lit (.bool true)], args := [d] }
  | _ => none }
def fnExactEarliestDueRow : OpenClaim := { program := "yteckhmbkagigjaa", sum := "ca441706254213822575dd382951767feb6d00fecdab2b8f28be4cb9cf6fb6bc", func := "loop.example/g03407/laws.FnExactEarliestDue", spec := "fnExactEarliestDue", unfollowed := true, recurses := true, apart := false }
def FnExactEarliestDueSaid : Prop := fnExactEarliestDueRow.holds Try.pinned (OpenSpec.ofChange fnExactEarliestDueSpec)

/-- ITS FALSE NEIGHBOUR: 'it returns false'. Refute it at one input. -/
def fnExactEarliestDueWrong : ChangeSpec := { name := "fnExactEarliestDue", fn := fun _ => fun
  | [d] => { results := [.lit (.bool false)], args := [d] }
  | _ => none }
def FnExactEarliestDueWrongFalsely : Prop := fnExactEarliestDueRow.holds Try.pinned (OpenSpec.ofChange fnExactEarliestDueWrong)

/-- 'laws.FnExactShortestWeighted': WHATEVER THE INPUT: true; the input reads as it did. -/
def fnExactShortestWeightedSpec : ChangeSpec := { name := "fnExactShortestWeighted", fn := fun _ => fun
  | [d] => { results := [.lit (.bool true)], args := [d] }
  | _ => none }
def fnExactShortestWeightedRow : OpenClaim := { program := "yteckhmbkagigjaa", sum := "ca441706254213822575dd382951767feb6d00fecdab2b8f28be4cb9cf6fb6bc", func := "loop.example/g03407/laws.FnExactShortestWeighted", spec := "fnExactShortestWeighted", unfollowed := true, recurses := true, apart := false }
def FnExactShortestWeightedSaid : Prop := fnExactShortestWeightedRow.holds Try.pinned (OpenSpec.ofChange fnExactShortestWeightedSpec)

/-- ITS FALSE NEIGHBOUR: 'it returns false'. Refute it at one input. -/
def fnExactShortestWeightedWrong : ChangeSpec := { name := "fnExactShortestWeighted", fn := fun _ => fun
  | [d] => { results := [.lit (.bool false)], args := [d] }
  | _ => none }
def FnExactShortestWeightedWrongFalsely : Prop := fnExactShortestWeightedRow.holds Try.pinned (OpenSpec.ofChange fnExactShortestWeightedWrong)

/-- 'laws.FnExactFewestLate': WHATEVER THE INPUT: true; the input reads as it did. -/
def fnExactFewestLateSpec : ChangeSpec := { name := "fnExactFewestLate", fn := fun _ => fun
  | [d] => { results := [.lit (.bool true)], args := [d] }
  | _ => none }
def fnExactFewestLateRow : OpenClaim := { program := "yteckhmbkagigjaa", sum := "ca441706254213822575dd382951767feb6d00fecdab2b8f28be4cb9cf6fb6bc", func := "loop.example/g03407/laws.FnExactFewestLate", spec := "fnExactFewestLate", unfollowed := true, recurses := true, apart := false }
def FnExactFewestLateSaid : Prop := fnExactFewestLateRow.holds Try.pinned (OpenSpec.ofChange fnExactFewestLateSpec)

/-- ITS FALSE NEIGHBOUR: 'it returns false'. Refute it at one input. -/
def fnExactFewestLateWrong : ChangeSpec := { name := "fnExactFewestLate", fn := fun _ => fun
  | [d] => { results := [.lit (.bool false)], args := [d] }
  | _ => none }
def FnExactFewestLateWrongFalsely : Prop := fnExactFewestLateRow.holds Try.pinned (OpenSpec.ofChange fnExactFewestLateWrong)

/-- 'laws.FnSequences': WHATEVER THE INPUT: true; the input reads as it did. -/
def fnSequencesSpec : ChangeSpec := { name := "fnSequences", fn := fun _ => fun
  | [d] => { results := [.lit (.bool true)], args := [d] }
  | _ => none }
def fnSequencesRow : OpenClaim := { program := "yteckhmbkagigjaa", sum := "ca441706254213822575dd382951767feb6d00fecdab2b8f28be4cb9cf6fb6bc", func := "loop.example/g03407/laws.FnSequences", spec := "fnSequences", unfollowed := true, recurses := true, apart := false }
def FnSequencesSaid : Prop := fnSequencesRow.holds Try.pinned (OpenSpec.ofChange fnSequencesSpec)

/-- ITS FALSE NEIGHBOUR: 'it returns false'. Refute it at one input. -/
def fnSequencesWrong : ChangeSpec := { name := "fnSequences", fn := fun _ => fun
  | [d] => { results := [.lit (.bool false)], args := [d] }
  | _ => none }
def FnSequencesWrongFalsely : Prop := fnSequencesRow.holds Try.pinned (OpenSpec.ofChange fnSequencesWrong)

/- THE SECOND FORM. 'bulk': how many values and letters a reading holds, each counted each time it is reached (what is shared counts as often as it is met; a slice's spare places count too). A statement '..UptoSaid' is the law's where the arguments, and the package variables that the reading takes, are together of bulk at most 1048576: NARROWER than '..Said'. Prove '..Said' where nothing that the law and all that it calls make is longer than what came in: it says more and counts as full. Else prove '..UptoSaid'. A law counts once. -/
mutual
def uptoBulk {H : Type} : DataW H → Nat
  | .lit (.string bytes) => bytes.length + 1
  | .lit _ => 1
  | .nil => 1
  | .ptr d => uptoBulk d + 1
  | .slice elems spare => uptoBulkAll elems + uptoBulkAll spare + 1
  | .agg parts => uptoBulkAll parts + 1
  | .iface _ d => uptoBulk d + 1
  | .map entries => uptoBulkEntries entries + 1
  | .held _ => 1
def uptoBulkAll {H : Type} : List (DataW H) → Nat
  | [] => 0
  | d :: r => uptoBulk d + uptoBulkAll r
def uptoBulkEntries {H : Type} : List (Lit × DataW H) → Nat
  | [] => 0
  | x :: r => uptoBulkEntry x + uptoBulkEntries r
def uptoBulkEntry {H : Type} : Lit × DataW H → Nat
  | (.string bytes, d) => bytes.length + uptoBulk d + 1
  | (_, d) => uptoBulk d + 1
 end
def uptoSmall : (H : Type) → List (DataW H) → Bool := fun _ ds => decide (uptoBulkAll ds ≤ 1048576)
def OpenSpec.upto (s : _root_.Go.ChangeSpec) : _root_.Go.OpenSpec := { _root_.Go.OpenSpec.ofChange s with cond := some uptoSmall }

/-- 'laws.FnExactIsOrder', WHERE WHAT IT READS IS OF BULK AT MOST 1048576: true; the input reads as it did. -/
def fnExactIsOrderUptoRow : OpenClaim := { program := "yteckhmbkagigjaa", sum := "ca441706254213822575dd382951767feb6d00fecdab2b8f28be4cb9cf6fb6bc", func := "loop.example/g03407/laws.FnExactIsOrder", spec := "fnExactIsOrder", apart := false, narrowed := true }
def FnExactIsOrderUptoSaid : Prop := fnExactIsOrderUptoRow.holds Try.pinned (OpenSpec.upto fnExactIsOrderSpec)

/-- 'laws.FnExactAreTasks', WHERE WHAT IT READS IS OF BULK AT MOST 1048576: true; the input reads as it did. -/
def fnExactAreTasksUptoRow : OpenClaim := { program := "yteckhmbkagigjaa", sum := "ca441706254213822575dd382951767feb6d00fecdab2b8f28be4cb9cf6fb6bc", func := "loop.example/g03407/laws.FnExactAreTasks", spec := "fnExactAreTasks", apart := false, narrowed := true }
def FnExactAreTasksUptoSaid : Prop := fnExactAreTasksUptoRow.holds Try.pinned (OpenSpec.upto fnExactAreTasksSpec)

/-- 'laws.FnExactWaitIn', WHERE WHAT IT READS IS OF BULK AT MOST 1048576: true; the input reads as it did. -/
def fnExactWaitInUptoRow : OpenClaim := { program := "yteckhmbkagigjaa", sum := "ca441706254213822575dd382951767feb6d00fecdab2b8f28be4cb9cf6fb6bc", func := "loop.example/g03407/laws.FnExactWaitIn", spec := "fnExactWaitIn", apart := false, narrowed := true }
def FnExactWaitInUptoSaid : Prop := fnExactWaitInUptoRow.holds Try.pinned (OpenSpec.upto fnExactWaitInSpec)

/-- 'laws.FnExactLatenessIn', WHERE WHAT IT READS IS OF BULK AT MOST 1048576: true; the input reads as it did. -/
def fnExactLatenessInUptoRow : OpenClaim := { program := "yteckhmbkagigjaa", sum := "ca441706254213822575dd382951767feb6d00fecdab2b8f28be4cb9cf6fb6bc", func := "loop.example/g03407/laws.FnExactLatenessIn", spec := "fnExactLatenessIn", apart := false, narrowed := true }
def FnExactLatenessInUptoSaid : Prop := fnExactLatenessInUptoRow.holds Try.pinned (OpenSpec.upto fnExactLatenessInSpec)

/-- 'laws.FnExactLateIn', WHERE WHAT IT READS IS OF BULK AT MOST 1048576: true; the input reads as it did. -/
def fnExactLateInUptoRow : OpenClaim := { program := "yteckhmbkagigjaa", sum := "ca441706254213822575dd382951767feb6d00fecdab2b8f28be4cb9cf6fb6bc", func := "loop.example/g03407/laws.FnExactLateIn", spec := "fnExactLateIn", apart := false, narrowed := true }
def FnExactLateInUptoSaid : Prop := fnExactLateInUptoRow.holds Try.pinned (OpenSpec.upto fnExactLateInSpec)

/-- 'laws.FnExactEarliestDue', WHERE WHAT IT READS IS OF BULK AT MOST 1048576: true; the input reads as it did. -/
def fnExactEarliestDueUptoRow : OpenClaim := { program := "yteckhmbkagigjaa", sum := "ca441706254213822575dd382951767feb6d00fecdab2b8f28be4cb9cf6fb6bc", func := "loop.example/g03407/laws.FnExactEarliestDue", spec := "fnExactEarliestDue", unfollowed := true, recurses := true, apart := false, narrowed := true }
def FnExactEarliestDueUptoSaid : Prop := fnExactEarliestDueUptoRow.holds Try.pinned (OpenSpec.upto fnExactEarliestDueSpec)

/-- 'laws.FnExactShortestWeighted', WHERE WHAT IT READS IS OF BULK AT MOST 1048576: true; the input reads as it did. -/
def fnExactShortestWeightedUptoRow : OpenClaim := { program := "yteckhmbkagigjaa", sum := "ca441706254213822575dd382951767feb6d00fecdab2b8f28be4cb9cf6fb6bc", func := "loop.example/g03407/laws.FnExactShortestWeighted", spec := "fnExactShortestWeighted", unfollowed := true, recurses := true, apart := false, narrowed := true }
def FnExactShortestWeightedUptoSaid : Prop := fnExactShortestWeightedUptoRow.holds Try.pinned (OpenSpec.upto fnExactShortestWeightedSpec)

/-- 'laws.FnExactFewestLate', WHERE WHAT IT READS IS OF BULK AT MOST 1048576: true; the input reads as it did. -/
def fnExactFewestLateUptoRow : OpenClaim := { program := "yteckhmbkagigjaa", sum := "ca441706254213822575dd382951767feb6d00fecdab2b8f28be4cb9cf6fb6bc", func := "loop.example/g03407/laws.FnExactFewestLate", spec := "fnExactFewestLate", unfollowed := true, recurses := true, apart := false, narrowed := true }
def FnExactFewestLateUptoSaid : Prop := fnExactFewestLateUptoRow.holds Try.pinned (OpenSpec.upto fnExactFewestLateSpec)

/-- 'laws.FnSequences', WHERE WHAT IT READS IS OF BULK AT MOST 1048576: true; the input reads as it did. -/
def fnSequencesUptoRow : OpenClaim := { program := "yteckhmbkagigjaa", sum := "ca441706254213822575dd382951767feb6d00fecdab2b8f28be4cb9cf6fb6bc", func := "loop.example/g03407/laws.FnSequences", spec := "fnSequences", unfollowed := true, recurses := true, apart := false, narrowed := true }
def FnSequencesUptoSaid : Prop := fnSequencesUptoRow.holds Try.pinned (OpenSpec.upto fnSequencesSpec)

end Rows
end Go.Proofs.Yteckhmbkagigjaa
