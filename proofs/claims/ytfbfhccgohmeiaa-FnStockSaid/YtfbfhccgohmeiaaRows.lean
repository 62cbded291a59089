/-
  No cell of these rows narrows 'for every input' (looked for: loops, veiled, ifaces, maps, wideKeys, modest, calm, conditions, laid).
  DERIVED. THE GIVEN ROWS OF THIS SEAT. 9 by the template 'for every input the law returns true; each argument reads behind the call as it read before'; 0 by the template 'total and deterministic' (their statements: YtfbfhccgohmeiaaTotals.lean).
  GIVEN WITH THE SEED: the statements are not yours to turn. If you find one false, say at which input.
  Laid BY PROGRAM, IN A SANDBOX (cutbox-rows.mjs): the forced cells as the released guide's own fill.sh prints them over the translation a9f9d73295f10031… (all of the seat's roots in one cut). By AI agents, Wed Nov 11 2026. No macro, syntax, notation, axiom, sorry.
-/
import Derived.Test.YtfbfhccgohmeiaaChecked
import GoSem.Claim
import GoSem.ClaimJoined
import GoSem.ClaimMapViews
import Derived.JoinedTies
import Derived.KernelRfl
namespace Go.Proofs.Ytfbfhccgohmeiaa
/- THE CELL 'sum', in the pinned program and in every row, IS THE sha256 OF THE DUMP (.gsa) THAT YtfbfhccgohmeiaaProg.lean LOADS. Nothing in Lean hashes anything: it is a label: what it is worth is what the hold of that sum in a sandbox is worth. -/
noncomputable def Try.pinned : Pinned := { name := "ytfbfhccgohmeiaa", sum := "a9f9d73295f100319df91c9eaa59db1e79d356246a401ee31b1d846c180447b1", checked := Try.checked }
namespace Rows
def none {H : Type} : Left H := { results := [], args := [] }

/-- 'laws.FnExactIsMove': WHATEVER THE INPUT: true; the input reads as it did. -/
def fnExactIsMoveSpec : ChangeSpec := { name := "fnExactIsMove", fn := fun _ => fun
  | [d] => { results := [.lit (.bool true)], args := [d] }
  | _ => none }
def fnExactIsMoveRow : OpenClaim := { program := "ytfbfhccgohmeiaa", sum := "a9f9d73295f100319df91c9eaa59db1e79d356246a401ee31b1d846c180447b1", func := "loop.example/g03407/laws.FnExactIsMove", spec := "fnExactIsMove", apart := false }
def FnExactIsMoveSaid : Prop := fnExactIsMoveRow.holds Try.pinned (OpenSpec.ofChange fnExactIsMoveSpec)

/-- ITS FALSE NEIGHBOUR: 'it returns false'. Refute it at one input. -/
def fnExactIsMoveWrong : ChangeSpec := { name := "fnExactIsMove", fn := fun _ => fun
  | [d] => { results := [.lit (.bool false)], args := [d] }
  | _ => none }
def FnExactIsMoveWrongFalsely : Prop := fnExactIsMoveRow.holds Try.pinned (OpenSpec.ofChange fnExactIsMoveWrong)

/-- 'laws.FnExactAreHoldings': WHATEVER THE INPUT: true; the input reads as it did. -/
def fnExactAreHoldingsSpec : ChangeSpec := { name := "fnExactAreHoldings", fn := fun _ => fun
  | [d] => { results := [.lit (.bool true)], args := [d] }
  | _ => none }
def fnExactAreHoldingsRow : OpenClaim := { program := "ytfbfhccgohmeiaa", sum := "a9f9d73295f100319df91c9eaa59db1e79d356246a401ee31b1d846c180447b1", func := "loop.example/g03407/laws.FnExactAreHoldings", spec := "fnExactAreHoldings", apart := false }
def FnExactAreHoldingsSaid : Prop := fnExactAreHoldingsRow.holds Try.pinned (OpenSpec.ofChange fnExactAreHoldingsSpec)

/-- ITS FALSE NEIGHBOUR: 'it returns false'. Refute it at one input. -/
def fnExactAreHoldingsWrong : ChangeSpec := { name := "fnExactAreHoldings", fn := fun _ => fun
  | [d] => { results := [.lit (.bool false)], args := [d] }
  | _ => none }
def FnExactAreHoldingsWrongFalsely : Prop := fnExactAreHoldingsRow.holds Try.pinned (OpenSpec.ofChange fnExactAreHoldingsWrong)

/-- 'laws.FnExactQuantityAt': WHATEVER THE INPUT: true; the input reads as it did. -/
def fnExactQuantityAtSpec : ChangeSpec := { name := "fnExactQuantityAt", fn := fun _ => fun
  | [d1, d2, d3, d4] => { results := [.lit (.bool true)], args := [d1, d2, d3, d4] }
  | _ => none }
def fnExactQuantityAtRow : OpenClaim := { program := "ytfbfhccgohmeiaa", sum := "a9f9d73295f100319df91c9eaa59db1e79d356246a401ee31b1d846c180447b1", func := "loop.example/g03407/laws.FnExactQuantityAt", spec := "fnExactQuantityAt", apart := false }
def FnExactQuantityAtSaid : Prop := fnExactQuantityAtRow.holds Try.pinned (OpenSpec.ofChange fnExactQuantityAtSpec)

/-- ITS FALSE NEIGHBOUR: 'it returns false'. Refute it at one input. -/
def fnExactQuantityAtWrong : ChangeSpec := { name := "fnExactQuantityAt", fn := fun _ => fun
  | [d1, d2, d3, d4] => { results := [.lit (.bool false)], args := [d1, d2, d3, d4] }
  | _ => none }
def FnExactQuantityAtWrongFalsely : Prop := fnExactQuantityAtRow.holds Try.pinned (OpenSpec.ofChange fnExactQuantityAtWrong)

/-- 'laws.FnExactFlowIn': WHATEVER THE INPUT: true; the input reads as it did. -/
def fnExactFlowInSpec : ChangeSpec := { name := "fnExactFlowIn", fn := fun _ => fun
  | [d1, d2, d3, d4] => { results := [.lit (.bool true)], args := [d1, d2, d3, d4] }
  | _ => none }
def fnExactFlowInRow : OpenClaim := { program := "ytfbfhccgohmeiaa", sum := "a9f9d73295f100319df91c9eaa59db1e79d356246a401ee31b1d846c180447b1", func := "loop.example/g03407/laws.FnExactFlowIn", spec := "fnExactFlowIn", apart := false }
def FnExactFlowInSaid : Prop := fnExactFlowInRow.holds Try.pinned (OpenSpec.ofChange fnExactFlowInSpec)

/-- ITS FALSE NEIGHBOUR: 'it returns false'. Refute it at one input. -/
def fnExactFlowInWrong : ChangeSpec := { name := "fnExactFlowIn", fn := fun _ => fun
  | [d1, d2, d3, d4] => { results := [.lit (.bool false)], args := [d1, d2, d3, d4] }
  | _ => none }
def FnExactFlowInWrongFalsely : Prop := fnExactFlowInRow.holds Try.pinned (OpenSpec.ofChange fnExactFlowInWrong)

/-- 'laws.FnExactApplyMove': WHATEVER THE INPUT: true; the input reads as it did. -/
def fnExactApplyMoveSpec : ChangeSpec := { name := "fnExactApplyMove", fn := fun _ => fun
  | [d1, d2] => { results := [.lit (.bool true)], args := [d1, d2] }
  | _ => none }
def fnExactApplyMoveRow : OpenClaim := { program := "ytfbfhccgohmeiaa", sum := "a9f9d73295f100319df91c9eaa59db1e79d356246a401ee31b1d846c180447b1", func := "loop.example/g03407/laws.FnExactApplyMove", spec := "fnExactApplyMove", apart := false }
def FnExactApplyMoveSaid : Prop := fnExactApplyMoveRow.holds Try.pinned (OpenSpec.ofChange fnExactApplyMoveSpec)

/-- ITS FALSE NEIGHBOUR: 'it returns false'. Refute it at one input. -/
def fnExactApplyMoveWrong : ChangeSpec := { name := "fnExactApplyMove", fn := fun _ => fun
  | [d1, d2] => { results := [.lit (.bool false)], args := [d1, d2] }
  | _ => none }
def FnExactApplyMoveWrongFalsely : Prop := fnExactApplyMoveRow.holds Try.pinned (OpenSpec.ofChange fnExactApplyMoveWrong)

/-- 'laws.FnExactUndoMove': WHATEVER THE INPUT: true; the input reads as it did. -/
def fnExactUndoMoveSpec : ChangeSpec := { name := "fnExactUndoMove", fn := fun _ => fun
  | [d1, d2] => { results := [.lit (.bool true)], args := [d1, d2] }
  | _ => none }
def fnExactUndoMoveRow : OpenClaim := { program := "ytfbfhccgohmeiaa", sum := "a9f9d73295f100319df91c9eaa59db1e79d356246a401ee31b1d846c180447b1", func := "loop.example/g03407/laws.FnExactUndoMove", spec := "fnExactUndoMove", apart := false }
def FnExactUndoMoveSaid : Prop := fnExactUndoMoveRow.holds Try.pinned (OpenSpec.ofChange fnExactUndoMoveSpec)

/-- ITS FALSE NEIGHBOUR: 'it returns false'. Refute it at one input. -/
def fnExactUndoMoveWrong : ChangeSpec := { name := "fnExactUndoMove", fn := fun _ => fun
  | [d1, d2] => { results := [.lit (.bool false)], args := [d1, d2] }
  | _ => none }
def FnExactUndoMoveWrongFalsely : Prop := fnExactUndoMoveRow.holds Try.pinned (OpenSpec.ofChange fnExactUndoMoveWrong)

/-- 'laws.FnExactApplyMoves': WHATEVER THE INPUT: true; the input reads as it did. -/
def fnExactApplyMovesSpec : ChangeSpec := { name := "fnExactApplyMoves", fn := fun _ => fun
  | [d] => { results := [.lit (.bool true)], args := [d] }
  | _ => none }
def fnExactApplyMovesRow : OpenClaim := { program := "ytfbfhccgohmeiaa", sum := "a9f9d73295f100319df91c9eaa59db1e79d356246a401ee31b1d846c180447b1", func := "loop.example/g03407/laws.FnExactApplyMoves", spec := "fnExactApplyMoves", apart := false }
def FnExactApplyMovesSaid : Prop := fnExactApplyMovesRow.holds Try.pinned (OpenSpec.ofChange fnExactApplyMovesSpec)

/-- ITS FALSE NEIGHBOUR: 'it returns false'. Refute it at one input. -/
def fnExactApplyMovesWrong : ChangeSpec := { name := "fnExactApplyMoves", fn := fun _ => fun
  | [d] => { results := [.lit (.bool false)], args := [d] }
  | _ => none }
def FnExactApplyMovesWrongFalsely : Prop := fnExactApplyMovesRow.holds Try.pinned (OpenSpec.ofChange fnExactApplyMovesWrong)

/-- 'laws.FnStock': WHATEVER THE INPUT: true; the input reads as it did. -/
def fnStockSpec : ChangeSpec := { name := "fnStock", fn := fun _ => fun
  | [d] => { results := [.lit (.bool true)], args := [d] }
  | _ => none }
def fnStockRow : OpenClaim := { program := "ytfbfhccgohmeiaa", sum := "a9f9d73295f100319df91c9eaa59db1e79d356246a401ee31b1d846c180447b1", func := "loop.example/g03407/laws.FnStock", spec := "fnStock", apart := false }
def FnStockSaid : Prop := fnStockRow.holds Try.pinned (OpenSpec.ofChange fnStockSpec)

/-- ITS FALSE NEIGHBOUR: 'it returns false'. Refute it at one input. -/
def fnStockWrong : ChangeSpec := { name := "fnStock", fn := fun _ => fun
  | [d] => { results := [.lit (.bool false)], args := [d] }
  | _ => none }
def FnStockWrongFalsely : Prop := fnStockRow.holds Try.pinned (OpenSpec.ofChange fnStockWrong)

/-- 'laws.FnMoveBack': WHATEVER THE INPUT: true; the input reads as it did. -/
def fnMoveBackSpec : ChangeSpec := { name := "fnMoveBack", fn := fun _ => fun
  | [d] => { results := [.lit (.bool true)], args := [d] }
  | _ => none }
def fnMoveBackRow : OpenClaim := { program := "ytfbfhccgohmeiaa", sum := "a9f9d73295f100319df91c9eaa59db1e79d356246a401ee31b1d846c180447b1", func := "loop.example/g03407/laws.FnMoveBack", spec := "fnMoveBack", apart := false }
def FnMoveBackSaid : Prop := fnMoveBackRow.holds Try.pinned (OpenSpec.ofChange fnMoveBackSpec)

/-- ITS FALSE NEIGHBOUR: 'it returns false'. Refute it at one input. -/
def fnMoveBackWrong : ChangeSpec := { name := "fnMoveBack", fn := fun _ => fun
  | [d] => { results := [.lit (.bool false)], args := [d] }
  | _ => none }
def FnMoveBackWrongFalsely : Prop := fnMoveBackRow.holds Try.pinned (OpenSpec.ofChange fnMoveBackWrong)

/- THE SECOND FORM. 'bulk': how many values and letters a reading holds, each counted each time it is reached (what is shared counts as often as it is met; a slice's spare places count too). A statement '..UptoSaid' is the law's where the arguments, and the package variables that the reading takes, are together of bulk at most 1048576: NARROWER than '..Said'. Prove '..Said' where nothing that the law and all that it calls make is longer than what came in: it says more and counts as full. Else prove '..UptoSaid'. A law counts once. -/
mutual
def uptoBulk {H : Type} : DataW H → Nat
  | .lit (.string bytes) => bytes.length + 1
  | .lit _ => 1
  | .nil => 1
  | .ptr d => uptoBulk d + 1
  | .slice elems spare => uptoBulkAll elems + uptoBulkAll spare + 1
  | .agg parts => uptoBulkAll parts + 1
  | .iface _ d => uptoBulk d + 1
  | .map entries => uptoBulkEntries entries + 1
  | .held _ => 1
def uptoBulkAll {H : Type} : List (DataW H) → Nat
  | [] => 0
  | d :: r => uptoBulk d + uptoBulkAll r
def uptoBulkEntries {H : Type} : List (Lit × DataW H) → Nat
  | [] => 0
  | x :: r => uptoBulkEntry x + uptoBulkEntries r
def uptoBulkEntry {H : Type} : Lit × DataW H → Nat
  | (.string bytes, d) => bytes.length + uptoBulk d + 1
  | (_, d) => uptoBulk d + 1
 end
def uptoSmall : (H : Type) → List (DataW H) → Bool := fun _ ds => decide (uptoBulkAll ds ≤ 1048576)
def OpenSpec.upto (s : _root_.Go.ChangeSpec) : _root_.Go.OpenSpec := { _root_.Go.OpenSpec.ofChange s with cond := some uptoSmall }

/-- 'laws.FnExactIsMove', WHERE WHAT IT READS IS OF BULK AT MOST 1048576: true; the input reads as it did. -/
def fnExactIsMoveUptoRow : OpenClaim := { program := "ytfbfhccgohmeiaa", sum := "a9f9d73295f100319df91c9eaa59db1e79d356246a401ee31b1d846c180447b1", func := "loop.example/g03407/laws.FnExactIsMove", spec := "fnExactIsMove", apart := false, narrowed := true }
def FnExactIsMoveUptoSaid : Prop := fnExactIsMoveUptoRow.holds Try.pinned (OpenSpec.upto fnExactIsMoveSpec)

/-- 'laws.FnExactAreHoldings', WHERE WHAT IT READS IS OF BULK AT MOST 1048576: true; the input reads as it did. -/
def fnExactAreHoldingsUptoRow : OpenClaim := { program := "ytfbfhccgohmeiaa", sum := "a9f9d73295f100319df91c9eaa59db1e79d356246a401ee31b1d846c180447b1", func := "loop.example/g03407/laws.FnExactAreHoldings", spec := "fnExactAreHoldings", apart := false, narrowed := true }
def FnExactAreHoldingsUptoSaid : Prop := fnExactAreHoldingsUptoRow.holds Try.pinned (OpenSpec.upto fnExactAreHoldingsSpec)

/-- 'laws.FnExactQuantityAt', WHERE WHAT IT READS IS OF BULK AT MOST 1048576: true; the input reads as it did. -/
def fnExactQuantityAtUptoRow : OpenClaim := { program := "ytfbfhccgohmeiaa", sum := "a9f9d73295f100319df91c9eaa59db1e79d356246a401ee31b1d846c180447b1", func := "loop.example/g03407/laws.FnExactQuantityAt", spec := "fnExactQuantityAt", apart := false, narrowed := true }
def FnExactQuantityAtUptoSaid : Prop := fnExactQuantityAtUptoRow.holds Try.pinned (OpenSpec.upto fnExactQuantityAtSpec)

/-- 'laws.FnExactFlowIn', WHERE WHAT IT READS IS OF BULK AT MOST 1048576: true; the input reads as it did. -/
def fnExactFlowInUptoRow : OpenClaim := { program := "ytfbfhccgohmeiaa", sum := "a9f9d73295f100319df91c9eaa59db1e79d356246a401ee31b1d846c180447b1", func := "loop.example/g03407/laws.FnExactFlowIn", spec := "fnExactFlowIn", apart := false, narrowed := true }
def FnExactFlowInUptoSaid : Prop := fnExactFlowInUptoRow.holds Try.pinned (OpenSpec.upto fnExactFlowInSpec)

/-- 'laws.FnExactApplyMove', WHERE WHAT IT READS IS OF BULK AT MOST 1048576: true; the input reads as it did. -/
def fnExactApplyMoveUptoRow : OpenClaim := { program := "ytfbfhccgohmeiaa", sum := "a9f9d73295f100319df91c9eaa59db1e79d356246a401ee31b1d846c180447b1", func := "loop.example/g03407/laws.FnExactApplyMove", spec := "fnExactApplyMove", apart := false, narrowed := true }
def FnExactApplyMoveUptoSaid : Prop := fnExactApplyMoveUptoRow.holds Try.pinned (OpenSpec.upto fnExactApplyMoveSpec)

/-- 'laws.FnExactUndoMove', WHERE WHAT IT READS IS OF BULK AT MOST 1048576: true; the input reads as it did. -/
def fnExactUndoMoveUptoRow : OpenClaim := { program := "ytfbfhccgohmeiaa", sum := "a9f9d73295f100319df91c9eaa59db1e79d356246a401ee31b1d846c180447b1", func := "loop.example/g03407/laws.FnExactUndoMove", spec := "fnExactUndoMove", apart := false, narrowed := true }
def FnExactUndoMoveUptoSaid : Prop := fnExactUndoMoveUptoRow.holds Try.pinned (OpenSpec.upto fnExactUndoMoveSpec)

/-- 'laws.FnExactApplyMoves', WHERE WHAT IT READS IS OF BULK AT MOST 1048576: true; the input reads as it did. -/
def fnExactApplyMovesUptoRow : OpenClaim := { program := "ytfbfhccgohmeiaa", sum := "a9f9d73295f100319df91c9eaa59db1e79d356246a401ee31b1d846c180447b1", func := "loop.example/g03407/laws.FnExactApplyMoves", spec := "fnExactApplyMoves", apart := false, narrowed := true }
def FnExactApplyMovesUptoSaid : Prop := fnExactApplyMovesUptoRow.holds Try.pinned (OpenSpec.upto fnExactApplyMovesSpec)

/-- 'laws.FnStock', WHERE WHAT IT READS IS OF BULK AT MOST 1048576: true; the input reads as it did. -/
def fnStockUptoRow : OpenClaim := { program := "ytfbfhccgohmeiaa", sum := "a9f9d73295f100319df91c9eaa59db1e79d356246a401ee31b1d846c180447b1", func := "loop.example/g03407/laws.FnStock", spec := "fnStock", apart := false, narrowed := true }
def FnStockUptoSaid : Prop := fnStockUptoRow.holds Try.pinned (OpenSpec.upto fnStockSpec)

/-- 'laws.FnMoveBack', WHERE WHAT IT READS IS OF BULK AT MOST 1048576: true; the input reads as it did. -/
def fnMoveBackUptoRow : OpenClaim := { program := "ytfbfhccgohmeiaa", sum := "a9f9d73295f100319df91c9eaa59db1e79d356246a401ee31b1d846c180447b1", func := "loop.example/g03407/laws.FnMoveBack", spec := "fnMoveBack", apart := false, narrowed := true }
def FnMoveBackUptoSaid : Prop := fnMoveBackUptoRow.holds Try.pinned (OpenSpec.upto fnMoveBackSpec)

end Rows
end Go.Proofs.Ytfbfhccgohmeiaa
