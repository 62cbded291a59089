/-
  No cell of these rows narrows 'for every input' (looked for: loops, veiled, ifaces, maps, wideKeys, modest, calm, conditions, laid).
  DERIVED. THE GIVEN ROWS OF THIS SEAT. 4 by the template 'for every input the law returns true; each argument reads behind the call as it read before'; 0 by the template 'total and deterministic' (their statements: YtbmfhdncifcieaaTotals.lean).
  GIVEN WITH THE SEED: the statements are not yours to turn. If you find one false, say at which input.
  Laid BY PROGRAM, IN A SANDBOX (cutbox-rows.mjs): the forced cells as the released guide's own fill.sh prints them over the translation 6e436644e8bea3ae… (all of the seat's roots in one cut). By AI agents, Wed Nov 11 2026. No macro, syntax, notation, axiom, sorry.
-/
import Derived.Test.YtbmfhdncifcieaaChecked
import GoSem.Claim
import GoSem.ClaimJoined
import GoSem.ClaimMapViews
import Derived.JoinedTies
import Derived.KernelRfl
namespace Go.Proofs.Ytbmfhdncifcieaa
/- THE CELL 'sum', in the pinned program and in every row, IS THE sha256 OF THE DUMP (.gsa) THAT YtbmfhdncifcieaaProg.lean LOADS. Nothing in Lean hashes anything: it is a label: what it is worth is what the hold of that sum in a sandbox is worth. -/
noncomputable def Try.pinned : Pinned := { name := "ytbmfhdncifcieaa", sum := "6e436644e8bea3ae6ef1a5dd8980b2d20c94302d149d12c97c81e69bec6fd267", checked := Try.checked }
namespace Rows
def none {H : Type} : Left H := { results := [], args := [] }

/-- 'laws.FnExactAreUses': WHATEVER THE INPUT: true; the input reads as it did. -/
def fnExactAreUsesSpec : ChangeSpec := { name := "fnExactAreUses", fn := fun _ => fun
  | [d] => { results := [.lit (.bool true)], args := [d] }
  | _ => none }
def fnExactAreUsesRow : OpenClaim := { program := "ytbmfhdncifcieaa", sum := "6e436644e8bea3ae6ef1a5dd8980b2d20c94302d149d12c97c81e69bec6fd267", func := "loop.example/g03407/laws.FnExactAreUses", spec := "fnExactAreUses", apart := false }
def FnExactAreUsesSaid : Prop := fnExactAreUsesRow.holds Try.pinned (OpenSpec.ofChange fnExactAreUsesSpec)

/-- ITS FALSE NEIGHBOUR: 'it returns false'. Refute it at one input. -/
def fnExactAreUsesWrong : ChangeSpec := { name := "fnExactAreUses", fn := fun _ => fun
  | [d] => { results := [.lit (.bool false)], args := [d] }
  | _ => none }
def FnExactAreUsesWrongFalsely : Prop := fnExactAreUsesRow.holds Try.pinned (OpenSpec.ofChange fnExactAreUsesWrong)

/-- 'laws.FnExactAreShipments': WHATEVER THE INPUT: true; the input reads as it did. -/
def fnExactAreShipmentsSpec : ChangeSpec := { name := "fnExactAreShipments", fn := fun _ => fun
  | [d] => { results := [.lit (.bool true)], args := [d] }
  | _ => none }
def fnExactAreShipmentsRow : OpenClaim := { program := "ytbmfhdncifcieaa", sum := "6e436644e8bea3ae6ef1a5dd8980b2d20c94302d149d12c97c81e69bec6fd267", func := "loop.example/g03407/laws.FnExactAreShipments", spec := "fnExactAreShipments", apart := false }
def FnExactAreShipmentsSaid : Prop := fnExactAreShipmentsRow.holds Try.pinned (OpenSpec.ofChange fnExactAreShipmentsSpec)

/-- ITS FALSE NEIGHBOUR: 'it returns false'. Refute it at one input. -/
def fnExactAreShipmentsWrong : ChangeSpec := { name := "fnExactAreShipments", fn := fun _ => fun
  | [d] => { results := [.lit (.bool false)], args := [d] }
  | _ => none }
def FnExactAreShipmentsWrongFalsely : Prop := fnExactAreShipmentsRow.holds Try.pinned (OpenSpec.ofChange fnExactAreShipmentsWrong)

/-- 'laws.FnExactTracePath': WHATEVER THE INPUT: true; the input reads as it did. -/
def fnExactTracePathSpec : ChangeSpec := { name := "fnExactTracePath", fn := fun _ => fun
  | [d1, d2, d3] => { results := [.lit (.bool true)], args := [d1, d2, d3] }
  | _ => none }
def fnExactTracePathRow : OpenClaim := { program := "ytbmfhdncifcieaa", sum := "6e436644e8bea3ae6ef1a5dd8980b2d20c94302d149d12c97c81e69bec6fd267", func := "loop.example/g03407/laws.FnExactTracePath", spec := "fnExactTracePath", apart := false }
def FnExactTracePathSaid : Prop := fnExactTracePathRow.holds Try.pinned (OpenSpec.ofChange fnExactTracePathSpec)

/-- ITS FALSE NEIGHBOUR: 'it returns false'. Refute it at one input. -/
def fnExactTracePathWrong : ChangeSpec := { name := "fnExactTracePath", fn := fun _ => fun
  | [d1, d2, d3] => { results := [.lit (.bool false)], args := [d1, d2, d3] }
  | _ => none }
def FnExactTracePathWrongFalsely : Prop := fnExactTracePathRow.holds Try.pinned (OpenSpec.ofChange fnExactTracePathWrong)

/-- 'laws.FnTraces': WHATEVER THE INPUT: true; the input reads as it did. -/
def fnTracesSpec : ChangeSpec := { name := "fnTraces", fn := fun _ => fun
  | [d] => { results := [.lit (.bool true)], args := [d] }
  | _ => none }
def fnTracesRow : OpenClaim := { program := "ytbmfhdncifcieaa", sum := "6e436644e8bea3ae6ef1a5dd8980b2d20c94302d149d12c97c81e69bec6fd267", func := "loop.example/g03407/laws.FnTraces", spec := "fnTraces", recurses := true, apart := false }
def FnTracesSaid : Prop := fnTracesRow.holds Try.pinned (OpenSpec.ofChange fnTracesSpec)

/-- ITS FALSE NEIGHBOUR: 'it returns false'. Refute it at one input. -/
def fnTracesWrong : ChangeSpec := { name := "fnTraces", fn := fun _ => fun
  | [d] => { results := [.lit (.bool false)], args := [d] }
  | _ => none }
def FnTracesWrongFalsely : Prop := fnTracesRow.holds Try.pinned (OpenSpec.ofChange fnTracesWrong)

/- THE SECOND FORM. 'bulk': how many values and letters a reading holds, each counted each time it is reached (what is shared counts as often as it is met; a slice's spare places count too). A statement '..UptoSaid' is the law's where the arguments, and the package variables that the reading takes, are together of bulk at most 1048576: NARROWER than '..Said'. Prove '..Said' where nothing that the law and all that it calls make is longer than what came in: it says more and counts as full. Else prove '..UptoSaid'. A law counts once. -/
mutual
def uptoBulk {H : Type} : DataW H → Nat
  | .lit (.string bytes) => bytes.length + 1
  | .lit _ => 1
  | .nil => 1
  | .ptr d => uptoBulk d + 1
  | .slice elems spare => uptoBulkAll elems + uptoBulkAll spare + 1
  | .agg parts => uptoBulkAll parts + 1
  | .iface _ d => uptoBulk d + 1
  | .map entries => uptoBulkEntries entries + 1
  | .held _ => 1
def uptoBulkAll {H : Type} : List (DataW H) → Nat
  | [] => 0
  | d :: r => uptoBulk d + uptoBulkAll r
def uptoBulkEntries {H : Type} : List (Lit × DataW H) → Nat
  | [] => 0
  | x :: r => uptoBulkEntry x + uptoBulkEntries r
def uptoBulkEntry {H : Type} : Lit × DataW H → Nat
  | (.string bytes, d) => bytes.length + uptoBulk d + 1
  | (_, d) => uptoBulk d + 1
 end
def uptoSmall : (H : Type) → List (DataW H) → Bool := fun _ ds => decide (uptoBulkAll ds ≤ 1048576)
def OpenSpec.upto (s : _root_.Go.ChangeSpec) : _root_.Go.OpenSpec := { _root_.Go.OpenSpec.ofChange s with cond := some uptoSmall }

/-- 'laws.FnExactAreUses', WHERE WHAT IT READS IS OF BULK AT MOST 1048576: true; the input reads as it did. -/
def fnExactAreUsesUptoRow : OpenClaim := { program := "ytbmfhdncifcieaa", sum := "6e436644e8bea3ae6ef1a5dd8980b2d20c94302d149d12c97c81e69bec6fd267", func := "loop.example/g03407/laws.FnExactAreUses", spec := "fnExactAreUses", apart := false, narrowed := true }
def FnExactAreUsesUptoSaid : Prop := fnExactAreUsesUptoRow.holds Try.pinned (OpenSpec.upto fnExactAreUsesSpec)

/-- 'laws.FnExactAreShipments', WHERE WHAT IT READS IS OF BULK AT MOST 1048576: true; the input reads as it did. -/
def fnExactAreShipmentsUptoRow : OpenClaim := { program := "ytbmfhdncifcieaa", sum := "6e436644e8bea3ae6ef1a5dd8980b2d20c94302d149d12c97c81e69bec6fd267", func := "loop.example/g03407/laws.FnExactAreShipments", spec := "fnExactAreShipments", apart := false, narrowed := true }
def FnExactAreShipmentsUptoSaid : Prop := fnExactAreShipmentsUptoRow.holds Try.pinned (OpenSpec.upto fnExactAreShipmentsSpec)

/-- 'laws.FnExactTracePath', WHERE WHAT IT READS IS OF BULK AT MOST 1048576: true; the input reads as it did. -/
def fnExactTracePathUptoRow : OpenClaim := { program := "ytbmfhdncifcieaa", sum := "6e436644e8bea3ae6ef1a5dd8980b2d20c94302d149d12c97c81e69bec6fd267", func := "loop.example/g03407/laws.FnExactTracePath", spec := "fnExactTracePath", apart := false, narrowed := true }
def FnExactTracePathUptoSaid : Prop := fnExactTracePathUptoRow.holds Try.pinned (OpenSpec.upto fnExactTracePathSpec)

/-- 'laws.FnTraces', WHERE WHAT IT READS IS OF BULK AT MOST 1048576: true; the input reads as it did. -/
def fnTracesUptoRow : OpenClaim := { program := "ytbmfhdncifcieaa", sum := "6e436644e8bea3ae6ef1a5dd8980b2d20c94302d149d12c97c81e69bec6fd267", func := "loop.example/g03407/laws.FnTraces", spec := "fnTraces", recurses := true, apart := false, narrowed := true }
def FnTracesUptoSaid : Prop := fnTracesUptoRow.holds Try.pinned (OpenSpec.upto fnTracesSpec)

end Rows
end Go.Proofs.Ytbmfhdncifcieaa
