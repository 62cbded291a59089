/-
  No cell of these rows narrows 'for every input' (looked for: loops, veiled, ifaces, maps, wideKeys, modest, calm, conditions, laid).
  DERIVED. THE GIVEN ROWS OF THIS SEAT. 6 by the template 'for every input the law returns true; each argument reads behind the call as it read before'; 0 by the template 'total and deterministic' (their statements: YtcphlancaahihaaTotals.lean).
  GIVEN WITH THE SEED: the statements are not yours to turn. If you find one false, say at which input.
  Laid BY PROGRAM, IN A SANDBOX (cutbox-rows.mjs): the forced cells as the released guide's own fill.sh prints them over the translation cf477d79ebcbb8b8… (all of the seat's roots in one cut). By AI agents, Wed Nov 11 2026. No macro, syntax, notation, axiom, sorry.
-/
import Derived.Test.YtcphlancaahihaaChecked
import GoSem.Claim
import GoSem.ClaimJoined
import GoSem.ClaimMapViews
import Derived.JoinedTies
import Derived.KernelRfl
namespace Go.Proofs.Ytcphlancaahihaa
/- THE CELL 'sum', in the pinned program and in every row, IS THE sha256 OF THE DUMP (.gsa) THAT YtcphlancaahihaaProg.lean LOADS. Nothing in Lean hashes anything: it is a label: what it is worth is what the hold of that sum in a sandbox is worth. -/
noncomputable def Try.pinned : Pinned := { name := "ytcphlancaahihaa", sum := "cf477d79ebcbb8b86f10844180ca89f3a321b475552eb6802871cdbdbc8c0b4d", checked := Try.checked }
namespace Rows
def none {H : Type} : Left H := { results := [], args := [] }

/-- 'laws.FnExactAreLots': WHATEVER THE INPUT: true; the input reads as it did. -/
def fnExactAreLotsSpec : ChangeSpec := { name := "fnExactAreLots", fn := fun _ => fun
  | [d] => { results := [.lit (.bool true)], args := [d] }
  | _ => none }
def fnExactAreLotsRow : OpenClaim := { program := "ytcphlancaahihaa", sum := "cf477d79ebcbb8b86f10844180ca89f3a321b475552eb6802871cdbdbc8c0b4d", func := "loop.example/g03407/laws.FnExactAreLots", spec := "fnExactAreLots", apart := false }
def FnExactAreLotsSaid : Prop := fnExactAreLotsRow.holds Try.pinned (OpenSpec.ofChange fnExactAreLotsSpec)

/-- ITS FALSE NEIGHBOUR: 'it returns false'. Refute it at one input. -/
def fnExactAreLotsWrong : ChangeSpec := { name := "fnExactAreLots", fn := fun _ => fun
  | [d] => { results := [.lit (.bool false)], args := [d] }
  | _ => none }
def FnExactAreLotsWrongFalsely : Prop := fnExactAreLotsRow.holds Try.pinned (OpenSpec.ofChange fnExactAreLotsWrong)

/-- 'laws.FnExactFreeOn': WHATEVER THE INPUT: true; the input reads as it did. -/
def fnExactFreeOnSpec : ChangeSpec := { name := "fnExactFreeOn", fn := fun _ => fun
  | [d1, d2] => { results := [.lit (.bool true)], args := [d1, d2] }
  | _ => none }
def fnExactFreeOnRow : OpenClaim := { program := "ytcphlancaahihaa", sum := "cf477d79ebcbb8b86f10844180ca89f3a321b475552eb6802871cdbdbc8c0b4d", func := "loop.example/g03407/laws.FnExactFreeOn", spec := "fnExactFreeOn", apart := false }
def FnExactFreeOnSaid : Prop := fnExactFreeOnRow.holds Try.pinned (OpenSpec.ofChange fnExactFreeOnSpec)

/-- ITS FALSE NEIGHBOUR: 'it returns false'. Refute it at one input. -/
def fnExactFreeOnWrong : ChangeSpec := { name := "fnExactFreeOn", fn := fun _ => fun
  | [d1, d2] => { results := [.lit (.bool false)], args := [d1, d2] }
  | _ => none }
def FnExactFreeOnWrongFalsely : Prop := fnExactFreeOnRow.holds Try.pinned (OpenSpec.ofChange fnExactFreeOnWrong)

/-- 'laws.FnExactAddLot': WHATEVER THE INPUT: true; the input reads as it did. -/
def fnExactAddLotSpec : ChangeSpec := { name := "fnExactAddLot", fn := fun _ => fun
  | [d1, d2] => { results := [.lit (.bool true)], args := [d1, d2] }
  | _ => none }
def fnExactAddLotRow : OpenClaim := { program := "ytcphlancaahihaa", sum := "cf477d79ebcbb8b86f10844180ca89f3a321b475552eb6802871cdbdbc8c0b4d", func := "loop.example/g03407/laws.FnExactAddLot", spec := "fnExactAddLot", apart := false }
def FnExactAddLotSaid : Prop := fnExactAddLotRow.holds Try.pinned (OpenSpec.ofChange fnExactAddLotSpec)

/-- ITS FALSE NEIGHBOUR: 'it returns false'. Refute it at one input. -/
def fnExactAddLotWrong : ChangeSpec := { name := "fnExactAddLot", fn := fun _ => fun
  | [d1, d2] => { results := [.lit (.bool false)], args := [d1, d2] }
  | _ => none }
def FnExactAddLotWrongFalsely : Prop := fnExactAddLotRow.holds Try.pinned (OpenSpec.ofChange fnExactAddLotWrong)

/-- 'laws.FnExactPickLots': WHATEVER THE INPUT: true; the input reads as it did. -/
def fnExactPickLotsSpec : ChangeSpec := { name := "fnExactPickLots", fn := fun _ => fun
  | [d1, d2, d3] => { results := [.lit (.bool true)], args := [d1, d2, d3] }
  | _ => none }
def fnExactPickLotsRow : OpenClaim := { program := "ytcphlancaahihaa", sum := "cf477d79ebcbb8b86f10844180ca89f3a321b475552eb6802871cdbdbc8c0b4d", func := "loop.example/g03407/laws.FnExactPickLots", spec := "fnExactPickLots", apart := false }
def FnExactPickLotsSaid : Prop := fnExactPickLotsRow.holds Try.pinned (OpenSpec.ofChange fnExactPickLotsSpec)

/-- ITS FALSE NEIGHBOUR: 'it returns false'. Refute it at one input. -/
def fnExactPickLotsWrong : ChangeSpec := { name := "fnExactPickLots", fn := fun _ => fun
  | [d1, d2, d3] => { results := [.lit (.bool false)], args := [d1, d2, d3] }
  | _ => none }
def FnExactPickLotsWrongFalsely : Prop := fnExactPickLotsRow.holds Try.pinned (OpenSpec.ofChange fnExactPickLotsWrong)

/-- 'laws.FnExactTakeLots': WHATEVER THE INPUT: true; the input reads as it did. -/
def fnExactTakeLotsSpec : ChangeSpec := { name := "fnExactTakeLots", fn := fun _ => fun
  | [d1, d2] => { results := [.lit (.bool true)], args := [d1, d2] }
  | _ => none }
def fnExactTakeLotsRow : OpenClaim := { program := "ytcphlancaahihaa", sum := "cf477d79ebcbb8b86f10844180ca89f3a321b475552eb6802871cdbdbc8c0b4d", func := "loop.example/g03407/laws.FnExactTakeLots", spec := "fnExactTakeLots", apart := false }
def FnExactTakeLotsSaid : Prop := fnExactTakeLotsRow.holds Try.pinned (OpenSpec.ofChange fnExactTakeLotsSpec)

/-- ITS FALSE NEIGHBOUR: 'it returns false'. Refute it at one input. -/
def fnExactTakeLotsWrong : ChangeSpec := { name := "fnExactTakeLots", fn := fun _ => fun
  | [d1, d2] => { results := [.lit (.bool false)], args := [d1, d2] }
  | _ => none }
def FnExactTakeLotsWrongFalsely : Prop := fnExactTakeLotsRow.holds Try.pinned (OpenSpec.ofChange fnExactTakeLotsWrong)

/-- 'laws.FnPicks': WHATEVER THE INPUT: true; the input reads as it did. -/
def fnPicksSpec : ChangeSpec := { name := "fnPicks", fn := fun _ => fun
  | [d] => { results := [.lit (.bool true)], args := [d] }
  | _ => none }
def fnPicksRow : OpenClaim := { program := "ytcphlancaahihaa", sum := "cf477d79ebcbb8b86f10844180ca89f3a321b475552eb6802871cdbdbc8c0b4d", func := "loop.example/g03407/laws.FnPicks", spec := "fnPicks", apart := false }
def FnPicksSaid : Prop := fnPicksRow.holds Try.pinned (OpenSpec.ofChange fnPicksSpec)

/-- ITS FALSE NEIGHBOUR: 'it returns false'. Refute it at one input. -/
def fnPicksWrong : ChangeSpec := { name := "fnPicks", fn := fun _ => fun
  | [d] => { results := [.lit (.bool false)], args := [d] }
  | _ => none }
def FnPicksWrongFalsely : Prop := fnPicksRow.holds Try.pinned (OpenSpec.ofChange fnPicksWrong)

/- THE SECOND FORM. 'bulk': how many values and letters a reading holds, each counted each time it is reached (what is shared counts as often as it is met; a slice's spare places count too). A statement '..UptoSaid' is the law's where the arguments, and the package variables that the reading takes, are together of bulk at most 1048576: NARROWER than '..Said'. Prove '..Said' where nothing that the law and all that it calls make is longer than what came in: it says more and counts as full. Else prove '..UptoSaid'. A law counts once. -/
mutual
def uptoBulk {H : Type} : DataW H → Nat
  | .lit (.string bytes) => bytes.length + 1
  | .lit _ => 1
  | .nil => 1
  | .ptr d => uptoBulk d + 1
  | .slice elems spare => uptoBulkAll elems + uptoBulkAll spare + 1
  | .agg parts => uptoBulkAll parts + 1
  | .iface _ d => uptoBulk d + 1
  | .map entries => uptoBulkEntries entries + 1
  | .held _ => 1
def uptoBulkAll {H : Type} : List (DataW H) → Nat
  | [] => 0
  | d :: r => uptoBulk d + uptoBulkAll r
def uptoBulkEntries {H : Type} : List (Lit × DataW H) → Nat
  | [] => 0
  | x :: r => uptoBulkEntry x + uptoBulkEntries r
def uptoBulkEntry {H : Type} : Lit × DataW H → Nat
  | (.string bytes, d) => bytes.length + uptoBulk d + 1
  | (_, d) => uptoBulk d + 1
 end
def uptoSmall : (H : Type) → List (DataW H) → Bool := fun _ ds => decide (uptoBulkAll ds ≤ 1048576)
def OpenSpec.upto (s : _root_.Go.ChangeSpec) : _root_.Go.OpenSpec := { _root_.Go.OpenSpec.ofChange s with cond := some uptoSmall }

/-- 'laws.FnExactAreLots', WHERE WHAT IT READS IS OF BULK AT MOST 1048576: true; the input reads as it did. -/
def fnExactAreLotsUptoRow : OpenClaim := { program := "ytcphlancaahihaa", sum := "cf477d79ebcbb8b86f10844180ca89f3a321b475552eb6802871cdbdbc8c0b4d", func := "loop.example/g03407/laws.FnExactAreLots", spec := "fnExactAreLots", apart := false, narrowed := true }
def FnExactAreLotsUptoSaid : Prop := fnExactAreLotsUptoRow.holds Try.pinned (OpenSpec.upto fnExactAreLotsSpec)

/-- 'laws.FnExactFreeOn', WHERE WHAT IT READS IS OF BULK AT MOST 1048576: true; the input reads as it did. -/
def fnExactFreeOnUptoRow : OpenClaim := { program := "ytcphlancaahihaa", sum := "cf477d79ebcbb8b86f10844180ca89f3a321b475552eb6802871cdbdbc8c0b4d", func := "loop.example/g03407/laws.FnExactFreeOn", spec := "fnExactFreeOn", apart := false, narrowed := true }
def FnExactFreeOnUptoSaid : Prop := fnExactFreeOnUptoRow.holds Try.pinned (OpenSpec.upto fnExactFreeOnSpec)

/-- 'laws.FnExactAddLot', WHERE WHAT IT READS IS OF BULK AT MOST 1048576: true; the input reads as it did. -/
def fnExactAddLotUptoRow : OpenClaim := { program := "ytcphlancaahihaa", sum := "cf477d79ebcbb8b86f10844180ca89f3a321b475552eb6802871cdbdbc8c0b4d", func := "loop.example/g03407/laws.FnExactAddLot", spec := "fnExactAddLot", apart := false, narrowed := true }
def FnExactAddLotUptoSaid : Prop := fnExactAddLotUptoRow.holds Try.pinned (OpenSpec.upto fnExactAddLotSpec)

/-- 'laws.FnExactPickLots', WHERE WHAT IT READS IS OF BULK AT MOST 1048576: true; the input reads as it did. -/
def fnExactPickLotsUptoRow : OpenClaim := { program := "ytcphlancaahihaa", sum := "cf477d79ebcbb8b86f10844180ca89f3a321b475552eb6802871cdbdbc8c0b4d", func := "loop.example/g03407/laws.FnExactPickLots", spec := "fnExactPickLots", apart := false, narrowed := true }
def FnExactPickLotsUptoSaid : Prop := fnExactPickLotsUptoRow.holds Try.pinned (OpenSpec.upto fnExactPickLotsSpec)

/-- 'laws.FnExactTakeLots', WHERE WHAT IT READS IS OF BULK AT MOST 1048576: true; the input reads as it did. -/
def fnExactTakeLotsUptoRow : OpenClaim := { program := "ytcphlancaahihaa", sum := "cf477d79ebcbb8b86f10844180ca89f3a321b475552eb6802871cdbdbc8c0b4d", func := "loop.example/g03407/laws.FnExactTakeLots", spec := "fnExactTakeLots", apart := false, narrowed := true }
def FnExactTakeLotsUptoSaid : Prop := fnExactTakeLotsUptoRow.holds Try.pinned (OpenSpec.upto fnExactTakeLotsSpec)

/-- 'laws.FnPicks', WHERE WHAT IT READS IS OF BULK AT MOST 1048576: true; the input reads as it did. -/
def fnPicksUptoRow : OpenClaim := { program := "ytcphlancaahihaa", sum := "cf477d79ebcbb8b86f10844180ca89f3a321b475552eb6802871cdbdbc8c0b4d", func := "loop.example/g03407/laws.FnPicks", spec := "fnPicks", apart := false, narrowed := true }
def FnPicksUptoSaid : Prop := fnPicksUptoRow.holds Try.pinned (OpenSpec.upto fnPicksSpec)

end Rows
end Go.Proofs.Ytcphlancaahihaa
