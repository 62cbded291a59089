/-
  No cell of these rows narrows 'for every input' (looked for: loops, veiled, ifaces, maps, wideKeys, modest, calm, conditions, laid).
  DERIVED. THE GIVEN ROWS OF THIS SEAT. 6 by the template 'for every input the law returns true; each argument reads behind the call as it read before'; 0 by the template 'total and deterministic' (their statements: YtembbgkhmnalpaaTotals.lean).
  GIVEN WITH THE SEED: the statements are not yours to turn. If you find one false, say at which input.
  Laid BY PROGRAM, IN A SANDBOX (cutbox-rows.mjs): the forced cells as the released guide's own fill.sh prints them over the translation 846bc5b907bd73dc… (all of the seat's roots in one cut). By AI agents, Wed Nov 11 2026. No macro, syntax, notation, axiom, sorry.
-/
import Derived.Test.YtembbgkhmnalpaaChecked
import GoSem.Claim
import GoSem.ClaimJoined
import GoSem.ClaimMapViews
import Derived.JoinedTies
import Derived.KernelRfl
namespace Go.Proofs.Ytembbgkhmnalpaa
/- THE CELL 'sum', in the pinned program and in every row, IS THE sha256 OF THE DUMP (.gsa) THAT YtembbgkhmnalpaaProg.lean LOADS. Nothing in Lean hashes anything: it is a label: what it is worth is what the hold of that sum in a sandbox is worth. -/
noncomputable def Try.pinned : Pinned := { name := "ytembbgkhmnalpaa", sum := "846bc5b907bd73dcb35e8cd1d0abc3b597ebf6612f86b61a3ae45d2c5aac9c51", checked := Try.checked }
namespace Rows
def none {H : Type} : Left H := { results := [], args := [] }

/-- 'laws.FnExactIsStop': WHATEVER THE INPUT: true; the input reads as it did. -/
def fnExactIsStopSpec : ChangeSpec := { name := "fnExactIsStop", fn := fun _ => fun
  | [d] => { results := [.lit (.bool true)], args := [d] }
  | _ => none }
def fnExactIsStopRow : OpenClaim := { program := "ytembbgkhmnalpaa", sum := "846bc5b907bd73dcb35e8cd1d0abc3b597ebf6612f86b61a3ae45d2c5aac9c51", func := "loop.example/g03407/laws.FnExactIsStop", spec := "fnExactIsStop", apart := false }
def FnExactIsStopSaid : Prop := fnExactIsStopRow.holds Try.pinned (OpenSpec.ofChange fnExactIsStopSpec)

/-- ITS FALSE NEIGHBOUR: 'it returns false'. Refute it at one input. -/
def fnExactIsStopWrong : ChangeSpec := { name := "fnExactIsStop", fn := fun _ => fun
  | [d] => { results := [.lit (.bool false)], args := [d] }
  | _ => none }
def FnExactIsStopWrongFalsely : Prop := fnExactIsStopRow.holds Try.pinned (OpenSpec.ofChange fnExactIsStopWrong)

/-- 'laws.FnExactMovedOf': WHATEVER THE INPUT: true; the input reads as it did. -/
def fnExactMovedOfSpec : ChangeSpec := { name := "fnExactMovedOf", fn := fun _ => fun
  | [d1, d2] => { results := [.lit (.bool true)], args := [d1, d2] }
  | _ => none }
def fnExactMovedOfRow : OpenClaim := { program := "ytembbgkhmnalpaa", sum := "846bc5b907bd73dcb35e8cd1d0abc3b597ebf6612f86b61a3ae45d2c5aac9c51", func := "loop.example/g03407/laws.FnExactMovedOf", spec := "fnExactMovedOf", apart := false }
def FnExactMovedOfSaid : Prop := fnExactMovedOfRow.holds Try.pinned (OpenSpec.ofChange fnExactMovedOfSpec)

/-- ITS FALSE NEIGHBOUR: 'it returns false'. Refute it at one input. -/
def fnExactMovedOfWrong : ChangeSpec := { name := "fnExactMovedOf", fn := fun _ => fun
  | [d1, d2] => { results := [.lit (.bool false)], args := [d1, d2] }
  | _ => none }
def FnExactMovedOfWrongFalsely : Prop := fnExactMovedOfRow.holds Try.pinned (OpenSpec.ofChange fnExactMovedOfWrong)

/-- 'laws.FnExactKeepsStop': WHATEVER THE INPUT: true; the input reads as it did. -/
def fnExactKeepsStopSpec : ChangeSpec := { name := "fnExactKeepsStop", fn := fun _ => fun
  | [d1, d2] => { results := [.lit (.bool true)], args := [d1, d2] }
  | _ => none }
def fnExactKeepsStopRow : OpenClaim := { program := "ytembbgkhmnalpaa", sum := "846bc5b907bd73dcb35e8cd1d0abc3b597ebf6612f86b61a3ae45d2c5aac9c51", func := "loop.example/g03407/laws.FnExactKeepsStop", spec := "fnExactKeepsStop", apart := false }
def FnExactKeepsStopSaid : Prop := fnExactKeepsStopRow.holds Try.pinned (OpenSpec.ofChange fnExactKeepsStopSpec)

/-- ITS FALSE NEIGHBOUR: 'it returns false'. Refute it at one input. -/
def fnExactKeepsStopWrong : ChangeSpec := { name := "fnExactKeepsStop", fn := fun _ => fun
  | [d1, d2] => { results := [.lit (.bool false)], args := [d1, d2] }
  | _ => none }
def FnExactKeepsStopWrongFalsely : Prop := fnExactKeepsStopRow.holds Try.pinned (OpenSpec.ofChange fnExactKeepsStopWrong)

/-- 'laws.FnExactDispatchJobs': WHATEVER THE INPUT: true; the input reads as it did. -/
def fnExactDispatchJobsSpec : ChangeSpec := { name := "fnExactDispatchJobs", fn := fun _ => fun
  | [d1, d2] => { results := [.lit (.bool true)], args := [d1, d2] }
  | _ => none }
def fnExactDispatchJobsRow : OpenClaim := { program := "ytembbgkhmnalpaa", sum := "846bc5b907bd73dcb35e8cd1d0abc3b597ebf6612f86b61a3ae45d2c5aac9c51", func := "loop.example/g03407/laws.FnExactDispatchJobs", spec := "fnExactDispatchJobs", unfollowed := true, recurses := true, apart := false }
def FnExactDispatchJobsSaid : Prop := fnExactDispatchJobsRow.holds Try.pinned (OpenSpec.ofChange fnExactDispatchJobsSpec)

/-- ITS FALSE NEIGHBOUR: 'it returns false'. Refute it at one input. -/
def fnExactDispatchJobsWrong : ChangeSpec := { name := "fnExactDispatchJobs", fn := fun _ => fun
  | [d1, d2] => { results := [.lit (.bool false)], args := [d1, d2] }
  | _ => none }
def FnExactDispatchJobsWrongFalsely : Prop := fnExactDispatchJobsRow.holds Try.pinned (OpenSpec.ofChange fnExactDispatchJobsWrong)

/-- 'laws.FnExactRepairSlots': WHATEVER THE INPUT: true; the input reads as it did. -/
def fnExactRepairSlotsSpec : ChangeSpec := { name := "fnExactRepairSlots", fn := fun _ => fun
  | [d1, d2, d3] => { results := [.lit (.bool true)], args := [d1, d2, d3] }
  | _ => none }
def fnExactRepairSlotsRow : OpenClaim := { program := "ytembbgkhmnalpaa", sum := "846bc5b907bd73dcb35e8cd1d0abc3b597ebf6612f86b61a3ae45d2c5aac9c51", func := "loop.example/g03407/laws.FnExactRepairSlots", spec := "fnExactRepairSlots", unfollowed := true, recurses := true, apart := false }
def FnExactRepairSlotsSaid : Prop := fnExactRepairSlotsRow.holds Try.pinned (OpenSpec.ofChange fnExactRepairSlotsSpec)

/-- ITS FALSE NEIGHBOUR: 'it returns false'. Refute it at one input. -/
def fnExactRepairSlotsWrong : ChangeSpec := { name := "fnExactRepairSlots", fn := fun _ => fun
  | [d1, d2, d3] => { results := [.lit (.bool false)], args := [d1, d2, d3] }
  | _ => none }
def FnExactRepairSlotsWrongFalsely : Prop := fnExactRepairSlotsRow.holds Try.pinned (OpenSpec.ofChange fnExactRepairSlotsWrong)

/-- 'laws.FnRepaired': WHATEVER THE INPUT: true; the input reads as it did. -/
def fnRepairedSpec : ChangeSpec := { name := "fnRepaired", fn := fun _ => fun
  | [d] => { results := [.lit (.bool true)], args := [d] }
  | _ => none }
def fnRepairedRow : OpenClaim := { program := "ytembbgkhmnalpaa", sum := "846bc5b907bd73dcb35e8cd1d0abc3b597ebf6612f86b61a3ae45d2c5aac9c51", func := "loop.example/g03407/laws.FnRepaired", spec := "fnRepaired", unfollowed := true, recurses := true, apart := false }
def FnRepairedSaid : Prop := fnRepairedRow.holds Try.pinned (OpenSpec.ofChange fnRepairedSpec)

/-- ITS FALSE NEIGHBOUR: 'it returns false'. Refute it at one input. -/
def fnRepairedWrong : ChangeSpec := { name := "fnRepaired", fn := fun _ => fun
  | [d] => { results := [.lit (.bool false)], args := [d] }
  | _ => none }
def FnRepairedWrongFalsely : Prop := fnRepairedRow.holds Try.pinned (OpenSpec.ofChange fnRepairedWrong)

/- THE SECOND FORM. 'bulk': how many values and letters a reading holds, each counted each time it is reached (what is shared counts as often as it is met; a slice's spare places count too). A statement '..UptoSaid' is the law's where the arguments, and the package variables that the reading takes, are together of bulk at most 1048576: NARROWER than '..Said'. Prove '..Said' where nothing that the law and all that it calls make is longer than what came in: it says more and counts as full. Else prove '..UptoSaid'. A law counts once. -/
mutual
def uptoBulk {H : Type} : DataW H → Nat
  | .lit (.string bytes) => bytes.length + 1
  | .lit _ => 1
  | .nil => 1
  | .ptr d => uptoBulk d + 1
  | .slice elems spare => uptoBulkAll elems + uptoBulkAll spare + 1
  | .agg parts => uptoBulkAll parts + 1
  | .iface _ d => uptoBulk d + 1
  | .map entries => uptoBulkEntries entries + 1
  | .held _ => 1
def uptoBulkAll {H : Type} : List (DataW H) → Nat
  | [] => 0
  | d :: r => uptoBulk d + uptoBulkAll r
def uptoBulkEntries {H : Type} : List (Lit × DataW H) → Nat
  | [] => 0
  | x :: r => uptoBulkEntry x + uptoBulkEntries r
def uptoBulkEntry {H : Type} : Lit × DataW H → Nat
  | (.string bytes, d) => bytes.length + uptoBulk d + 1
  | (_, d) => uptoBulk d + 1
 end
def uptoSmall : (H : Type) → List (DataW H) → Bool := fun _ ds => decide (uptoBulkAll ds ≤ 1048576)
def OpenSpec.upto (s : _root_.Go.ChangeSpec) : _root_.Go.OpenSpec := { _root_.Go.OpenSpec.ofChange s with cond := some uptoSmall }

/-- 'laws.FnExactIsStop', WHERE WHAT IT READS IS OF BULK AT MOST 1048576: true; the input reads as it did. -/
def fnExactIsStopUptoRow : OpenClaim := { program := "ytembbgkhmnalpaa", sum := "846bc5b907bd73dcb35e8cd1d0abc3b597ebf6612f86b61a3ae45d2c5aac9c51", func := "loop.example/g03407/laws.FnExactIsStop", spec := "fnExactIsStop", apart := false, narrowed := true }
def FnExactIsStopUptoSaid : Prop := fnExactIsStopUptoRow.holds Try.pinned (OpenSpec.upto fnExactIsStopSpec)

/-- 'laws.FnExactMovedOf', WHERE WHAT IT READS IS OF BULK AT MOST 1048576: true; the input reads as it did. -/
def fnExactMovedOfUptoRow : OpenClaim := { program := "ytembbgkhmnalpaa", sum := "846bc5b907bd73dcb35e8cd1d0abc3b597ebf6612f86b61a3ae45d2c5aac9c51", func := "loop.example/g03407/laws.FnExactMovedOf", spec := "fnExactMovedOf", apart := false, narrowed := true }
def FnExactMovedOfUptoSaid : Prop := fnExactMovedOfUptoRow.holds Try.pinned (OpenSpec.upto fnExactMovedOfSpec)

/-- 'laws.FnExactKeepsStop', WHERE WHAT IT READS IS OF BULK AT MOST 1048576: true; the input reads as it did. -/
def fnExactKeepsStopUptoRow : OpenClaim := { program := "ytembbgkhmnalpaa", sum := "846bc5b907bd73dcb35e8cd1d0abc3b597ebf6612f86b61a3ae45d2c5aac9c51", func := "loop.example/g03407/laws.FnExactKeepsStop", spec := "fnExactKeepsStop", apart := false, narrowed := true }
def FnExactKeepsStopUptoSaid : Prop := fnExactKeepsStopUptoRow.holds Try.pinned (OpenSpec.upto fnExactKeepsStopSpec)

/-- 'laws.FnExactDispatchJobs', WHERE WHAT IT READS IS OF BULK AT MOST 1048576: true; the input reads as it did. -/
def fnExactDispatchJobsUptoRow : OpenClaim := { program := "ytembbgkhmnalpaa", sum := "846bc5b907bd73dcb35e8cd1d0abc3b597ebf6612f86b61a3ae45d2c5aac9c51", func := "loop.example/g03407/laws.FnExactDispatchJobs", spec := "fnExactDispatchJobs", unfollowed := true, recurses := true, apart := false, narrowed := true }
def FnExactDispatchJobsUptoSaid : Prop := fnExactDispatchJobsUptoRow.holds Try.pinned (OpenSpec.upto fnExactDispatchJobsSpec)

/-- 'laws.FnExactRepairSlots', WHERE WHAT IT READS IS OF BULK AT MOST 1048576: true; the input reads as it did. -/
def fnExactRepairSlotsUptoRow : OpenClaim := { program := "ytembbgkhmnalpaa", sum := "846bc5b907bd73dcb35e8cd1d0abc3b597ebf6612f86b61a3ae45d2c5aac9c51", func := "loop.example/g03407/laws.FnExactRepairSlots", spec := "fnExactRepairSlots", unfollowed := true, recurses := true, apart := false, narrowed := true }
def FnExactRepairSlotsUptoSaid : Prop := fnExactRepairSlotsUptoRow.holds Try.pinned (OpenSpec.upto fnExactRepairSlotsSpec)

/-- 'laws.FnRepaired', WHERE WHAT IT READS IS OF BULK AT MOST 1048576: true; the input reads as it did. -/
def fnRepairedUptoRow : OpenClaim := { program := "ytembbgkhmnalpaa", sum := "846bc5b907bd73dcb35e8cd1d0abc3b597ebf6612f86b61a3ae45d2c5aac9c51", func := "loop.example/g03407/laws.FnRepaired", spec := "fnRepaired", unfollowed := true, recurses := true, apart := false, narrowed := true }
def FnRepairedUptoSaid : Prop := fnRepairedUptoRow.holds Try.pinned (OpenSpec.upto fnRepairedSpec)

end Rows
end Go.Proofs.Ytembbgkhmnalpaa
