/-
  No cell of these rows narrows 'for every input' (looked for: loops, veiled, ifaces, maps, wideKeys, modest, calm, conditions, laid).
  DERIVED. THE GIVEN ROWS OF THIS SEAT. 5 by the template 'for every input the law returns true; each argument reads behind the call as it read before'; 0 by the template 'total and deterministic' (their statements: YtfplgagdjdhopaaTotals.lean).
  GIVEN WITH THE SEED: the statements are not yours to turn. If you find one false, say at which input.
  Laid BY PROGRAM, IN A SANDBOX (cutbox-rows.mjs): the forced cells as the released guide's own fill.sh prints them over the translation 56a3f0d649a3c10f… (all of the seat's roots in one cut). By AI agents, Wed Nov 11 2026. No macro, syntax, notation, axiom, sorry.
-/
import Derived.Test.YtfplgagdjdhopaaChecked
import GoSem.Claim
import GoSem.ClaimJoined
import GoSem.ClaimMapViews
import Derived.JoinedTies
import Derived.KernelRfl
namespace Go.Proofs.Ytfplgagdjdhopaa
/- THE CELL 'sum', in the pinned program and in every row, IS THE sha256 OF THE DUMP (.gsa) THAT YtfplgagdjdhopaaProg.lean LOADS. Nothing in Lean hashes anything: it is a label: what it is worth is what the hold of that sum in a sandbox is worth. -/
noncomputable def Try.pinned : Pinned := { name := "ytfplgagdjdhopaa", sum := "56a3f0d649a3c10f149a62545a7a54c82c57da6743cac9d6b0011e36e44e0493", checked := Try.checked }
namespace Rows
def none {H : Type} : Left H := { results := [], args := [] }

/-- 'laws.FnExactIsSetups': WHATEVER THE INPUT: true; the input reads as it did. -/
def fnExactIsSetupsSpec : ChangeSpec := { name := "fnExactIsSetups", fn := fun _ => fun
  | [d] => { results := [.lit (.bool true)], args := [d] }
  | _ => none }
def fnExactIsSetupsRow : OpenClaim := { program := "ytfplgagdjdhopaa", sum := "56a3f0d649a3c10f149a62545a7a54c82c57da6743cac9d6b0011e36e44e0493", func := "loop.example/g03407/laws.FnExactIsSetups", spec := "fnExactIsSetups", apart := false }
def FnExactIsSetupsSaid : Prop := fnExactIsSetupsRow.holds Try.pinned (OpenSpec.ofChange fnExactIsSetupsSpec)

/-- ITS FALSE NEIGHBOUR: 'it returns false'. Refute it at one input. -/
def fnExactIsSetupsWrong : ChangeSpec := { name := "fnExactIsSetups", fn := fun _ => fun
  | [d] => { results := [.lit (.bool false)], args := [d] }
  | _ => none }
def FnExactIsSetupsWrongFalsely : Prop := fnExactIsSetupsRow.holds Try.pinned (OpenSpec.ofChange fnExactIsSetupsWrong)

/-- 'laws.FnExactSetupIn': WHATEVER THE INPUT: true; the input reads as it did. -/
def fnExactSetupInSpec : ChangeSpec := { name := "fnExactSetupIn", fn := fun _ => fun
  | [d1, d2] => { results := [.lit (.bool true)], args := [d1, d2] }
  | _ => none }
def fnExactSetupInRow : OpenClaim := { program := "ytfplgagdjdhopaa", sum := "56a3f0d649a3c10f149a62545a7a54c82c57da6743cac9d6b0011e36e44e0493", func := "loop.example/g03407/laws.FnExactSetupIn", spec := "fnExactSetupIn", apart := false }
def FnExactSetupInSaid : Prop := fnExactSetupInRow.holds Try.pinned (OpenSpec.ofChange fnExactSetupInSpec)

/-- ITS FALSE NEIGHBOUR: 'it returns false'. Refute it at one input. -/
def fnExactSetupInWrong : ChangeSpec := { name := "fnExactSetupIn", fn := fun _ => fun
  | [d1, d2] => { results := [.lit (.bool false)], args := [d1, d2] }
  | _ => none }
def FnExactSetupInWrongFalsely : Prop := fnExactSetupInRow.holds Try.pinned (OpenSpec.ofChange fnExactSetupInWrong)

/-- 'laws.FnExactNearestOrder': WHATEVER THE INPUT: true; the input reads as it did. -/
def fnExactNearestOrderSpec : ChangeSpec := { name := "fnExactNearestOrder", fn := fun _ => fun
  | [d] => { results := [.lit (.bool true)], args := [d] }
  | _ => none }
def fnExactNearestOrderRow : OpenClaim := { program := "ytfplgagdjdhopaa", sum := "56a3f0d649a3c10f149a62545a7a54c82c57da6743cac9d6b0011e36e44e0493", func := "loop.example/g03407/laws.FnExactNearestOrder", spec := "fnExactNearestOrder", apart := false }
def FnExactNearestOrderSaid : Prop := fnExactNearestOrderRow.holds Try.pinned (OpenSpec.ofChange fnExactNearestOrderSpec)

/-- ITS FALSE NEIGHBOUR: 'it returns false'. Refute it at one input. -/
def fnExactNearestOrderWrong : ChangeSpec := { name := "fnExactNearestOrder", fn := fun _ => fun
  | [d] => { results := [.lit (.bool false)], args := [d] }
  | _ => none }
def FnExactNearestOrderWrongFalsely : Prop := fnExactNearestOrderRow.holds Try.pinned (OpenSpec.ofChange fnExactNearestOrderWrong)

/-- 'laws.FnExactBestOrder': WHATEVER THE INPUT: true; the input reads as it did. -/
def fnExactBestOrderSpec : ChangeSpec := { name := "fnExactBestOrder", fn := fun _ => fun
  | [d] => { results := [.lit (.bool true)], args := [d] }
  | _ => none }
def fnExactBestOrderRow : OpenClaim := { program := "ytfplgagdjdhopaa", sum := "56a3f0d649a3c10f149a62545a7a54c82c57da6743cac9d6b0011e36e44e0493", func := "loop.example/g03407/laws.FnExactBestOrder", spec := "fnExactBestOrder", recurses := true, apart := false }
def FnExactBestOrderSaid : Prop := fnExactBestOrderRow.holds Try.pinned (OpenSpec.ofChange fnExactBestOrderSpec)

/-- ITS FALSE NEIGHBOUR: 'it returns false'. Refute it at one input. -/
def fnExactBestOrderWrong : ChangeSpec := { name := "fnExactBestOrder", fn := fun _ => fun
  | [d] => { results := [.lit (.bool false)], args := [d] }
  | _ => none }
def FnExactBestOrderWrongFalsely : Prop := fnExactBestOrderRow.holds Try.pinned (OpenSpec.ofChange fnExactBestOrderWrong)

/-- 'laws.FnSetups': WHATEVER THE INPUT: true; the input reads as it did. -/
def fnSetupsSpec : ChangeSpec := { name := "fnSetups", fn := fun _ => fun
  | [d] => { results := [.lit (.bool true)], args := [d] }
  | _ => none }
def fnSetupsRow : OpenClaim := { program := "ytfplgagdjdhopaa", sum := "56a3f0d649a3c10f149a62545a7a54c82c57da6743cac9d6b0011e36e44e0493", func := "loop.example/g03407/laws.FnSetups", spec := "fnSetups", recurses := true, apart := false }
def FnSetupsSaid : Prop := fnSetupsRow.holds Try.pinned (OpenSpec.ofChange fnSetupsSpec)

/-- ITS FALSE NEIGHBOUR: 'it returns false'. Refute it at one input. -/
def fnSetupsWrong : ChangeSpec := { name := "fnSetups", fn := fun _ => fun
  | [d] => { results := [.lit (.bool false)], args := [d] }
  | _ => none }
def FnSetupsWrongFalsely : Prop := fnSetupsRow.holds Try.pinned (OpenSpec.ofChange fnSetupsWrong)

/- THE SECOND FORM. 'bulk': how many values and letters a reading holds, each counted each time it is reached (what is shared counts as often as it is met; a slice's spare places count too). A statement '..UptoSaid' is the law's where the arguments, and the package variables that the reading takes, are together of bulk at most 1048576: NARROWER than '..Said'. Prove '..Said' where nothing that the law and all that it calls make is longer than what came in: it says more and counts as full. Else prove '..UptoSaid'. A law counts once. -/
mutual
def uptoBulk {H : Type} : DataW H → Nat
  | .lit (.string bytes) => bytes.length + 1
  | .lit _ => 1
  | .nil => 1
  | .ptr d => uptoBulk d + 1
  | .slice elems spare => uptoBulkAll elems + uptoBulkAll spare + 1
  | .agg parts => uptoBulkAll parts + 1
  | .iface _ d => uptoBulk d + 1
  | .map entries => uptoBulkEntries entries + 1
  | .held _ => 1
def uptoBulkAll {H : Type} : List (DataW H) → Nat
  | [] => 0
  | d :: r => uptoBulk d + uptoBulkAll r
def uptoBulkEntries {H : Type} : List (Lit × DataW H) → Nat
  | [] => 0
  | x :: r => uptoBulkEntry x + uptoBulkEntries r
def uptoBulkEntry {H : Type} : Lit × DataW H → Nat
  | (.string bytes, d) => bytes.length + uptoBulk d + 1
  | (_, d) => uptoBulk d + 1
 end
def uptoSmall : (H : Type) → List (DataW H) → Bool := fun _ ds => decide (uptoBulkAll ds ≤ 1048576)
def OpenSpec.upto (s : _root_.Go.ChangeSpec) : _root_.Go.OpenSpec := { _root_.Go.OpenSpec.ofChange s with cond := some uptoSmall }

/-- 'laws.FnExactIsSetups', WHERE WHAT IT READS IS OF BULK AT MOST 1048576: true; the input reads as it did. -/
def fnExactIsSetupsUptoRow : OpenClaim := { program := "ytfplgagdjdhopaa", sum := "56a3f0d649a3c10f149a62545a7a54c82c57da6743cac9d6b0011e36e44e0493", func := "loop.example/g03407/laws.FnExactIsSetups", spec := "fnExactIsSetups", apart := false, narrowed := true }
def FnExactIsSetupsUptoSaid : Prop := fnExactIsSetupsUptoRow.holds Try.pinned (OpenSpec.upto fnExactIsSetupsSpec)

/-- 'laws.FnExactSetupIn', WHERE WHAT IT READS IS OF BULK AT MOST 1048576: true; the input reads as it did. -/
def fnExactSetupInUptoRow : OpenClaim := { program := "ytfplgagdjdhopaa", sum := "56a3f0d649a3c10f149a62545a7a54c82c57da6743cac9d6b0011e36e44e0493", func := "loop.example/g03407/laws.FnExactSetupIn", spec := "fnExactSetupIn", apart := false, narrowed := true }
def FnExactSetupInUptoSaid : Prop := fnExactSetupInUptoRow.holds Try.pinned (OpenSpec.upto fnExactSetupInSpec)

/-- 'laws.FnExactNearestOrder', WHERE WHAT IT READS IS OF BULK AT MOST 1048576: true; the input reads as it did. -/
def fnExactNearestOrderUptoRow : OpenClaim := { program := "ytfplgagdjdhopaa", sum := "56a3f0d649a3c10f149a62545a7a54c82c57da6743cac9d6b0011e36e44e0493", func := "loop.example/g03407/laws.FnExactNearestOrder", spec := "fnExactNearestOrder", apart := false, narrowed := true }
def FnExactNearestOrderUptoSaid : Prop := fnExactNearestOrderUptoRow.holds Try.pinned (OpenSpec.upto fnExactNearestOrderSpec)

/-- 'laws.FnExactBestOrder', WHERE WHAT IT READS IS OF BULK AT MOST 1048576: true; the input reads as it did. -/
def fnExactBestOrderUptoRow : OpenClaim := { program := "ytfplgagdjdhopaa", sum := "56a3f0d649a3c10f149a62545a7a54c82c57da6743cac9d6b0011e36e44e0493", func := "loop.example/g03407/laws.FnExactBestOrder", spec := "fnExactBestOrder", recurses := true, apart := false, narrowed := true }
def FnExactBestOrderUptoSaid : Prop := fnExactBestOrderUptoRow.holds Try.pinned (OpenSpec.upto fnExactBestOrderSpec)

/-- 'laws.FnSetups', WHERE WHAT IT READS IS OF BULK AT MOST 1048576: true; the input reads as it did. -/
def fnSetupsUptoRow : OpenClaim := { program := "ytfplgagdjdhopaa", sum := "56a3f0d649a3c10f149a62545a7a54c82c57da6743cac9d6b0011e36e44e0493", func := "loop.example/g03407/laws.FnSetups", spec := "fnSetups", recurses := true, apart := false, narrowed := true }
def FnSetupsUptoSaid : Prop := fnSetupsUptoRow.holds Try.pinned (OpenSpec.upto fnSetupsSpec)

end Rows
end Go.Proofs.Ytfplgagdjdhopaa
