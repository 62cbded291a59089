/-
  No cell of these rows narrows 'for every input' (looked for: loops, veiled, ifaces, maps, wideKeys, modest, calm, conditions, laid).
  DERIVED. THE GIVEN ROWS OF THIS SEAT. 7 by the template 'for every input the law returns true; each argument reads behind the call as it read before'; 0 by the template 'total and deterministic' (their statements: YtjihfklhfldplaaTotals.lean).
  GIVEN WITH THE SEED: the statements are not yours to turn. If you find one false, say at which input.
  Laid BY PROGRAM, IN A SANDBOX (cutbox-rows.mjs): the forced cells as the released guide's own fill.sh prints them over the translation 59f014da68a37f6d… (all of the seat's roots in one cut). By AI agents, Wed Nov 11 2026. No macro, syntax, notation, axiom, sorry.
-/
import Derived.Test.YtjihfklhfldplaaChecked
import GoSem.Claim
import GoSem.ClaimJoined
import GoSem.ClaimMapViews
import Derived.JoinedTies
import Derived.KernelRfl
namespace Go.Proofs.Ytjihfklhfldplaa
/- THE CELL 'sum', in the pinned program and in every row, IS THE sha256 OF THE DUMP (.gsa) THAT YtjihfklhfldplaaProg.lean LOADS. Nothing in Lean hashes anything: it is a label: what it is worth is what the hold of that sum in a sandbox is worth. -/
noncomputable def Try.pinned : Pinned := { name := "ytjihfklhfldplaa", sum := "59f014da68a37f6defacb701d1b37f4a65d103cacec60d9b46d18cf3a133b66d", checked := Try.checked }
namespace Rows
def none {H : Type} : Left H := { results := [], args := [] }

/-- 'laws.FnExactIsPurchase': WHATEVER THE INPUT: true; the input reads as it did. -/
def fnExactIsPurchaseSpec : ChangeSpec := { name := "fnExactIsPurchase", fn := fun _ => fun
  | [d] => { results := [.lit (.bool true)], args := [d] }
  | _ => none }
def fnExactIsPurchaseRow : OpenClaim := { program := "ytjihfklhfldplaa", sum := "59f014da68a37f6defacb701d1b37f4a65d103cacec60d9b46d18cf3a133b66d", func := "loop.example/g03407/laws.FnExactIsPurchase", spec := "fnExactIsPurchase", apart := false }
def FnExactIsPurchaseSaid : Prop := fnExactIsPurchaseRow.holds Try.pinned (OpenSpec.ofChange fnExactIsPurchaseSpec)

/-- ITS FALSE NEIGHBOUR: 'it returns false'. Refute it at one input. -/
def fnExactIsPurchaseWrong : ChangeSpec := { name := "fnExactIsPurchase", fn := fun _ => fun
  | [d] => { results := [.lit (.bool false)], args := [d] }
  | _ => none }
def FnExactIsPurchaseWrongFalsely : Prop := fnExactIsPurchaseRow.holds Try.pinned (OpenSpec.ofChange fnExactIsPurchaseWrong)

/-- 'laws.FnExactPriceGap': WHATEVER THE INPUT: true; the input reads as it did. -/
def fnExactPriceGapSpec : ChangeSpec := { name := "fnExactPriceGap", fn := fun _ => fun
  | [d] => { results := [.lit (.bool true)], args := [d] }
  | _ => none }
def fnExactPriceGapRow : OpenClaim := { program := "ytjihfklhfldplaa", sum := "59f014da68a37f6defacb701d1b37f4a65d103cacec60d9b46d18cf3a133b66d", func := "loop.example/g03407/laws.FnExactPriceGap", spec := "fnExactPriceGap", apart := false }
def FnExactPriceGapSaid : Prop := fnExactPriceGapRow.holds Try.pinned (OpenSpec.ofChange fnExactPriceGapSpec)

/-- ITS FALSE NEIGHBOUR: 'it returns false'. Refute it at one input. -/
def fnExactPriceGapWrong : ChangeSpec := { name := "fnExactPriceGap", fn := fun _ => fun
  | [d] => { results := [.lit (.bool false)], args := [d] }
  | _ => none }
def FnExactPriceGapWrongFalsely : Prop := fnExactPriceGapRow.holds Try.pinned (OpenSpec.ofChange fnExactPriceGapWrong)

/-- 'laws.FnExactOrderGoods': WHATEVER THE INPUT: true; the input reads as it did. -/
def fnExactOrderGoodsSpec : ChangeSpec := { name := "fnExactOrderGoods", fn := fun _ => fun
  | [d1, d2, d3] => { results := [.lit (.bool true)], args := [d1, d2, d3] }
  | _ => none }
def fnExactOrderGoodsRow : OpenClaim := { program := "ytjihfklhfldplaa", sum := "59f014da68a37f6defacb701d1b37f4a65d103cacec60d9b46d18cf3a133b66d", func := "loop.example/g03407/laws.FnExactOrderGoods", spec := "fnExactOrderGoods", apart := false }
def FnExactOrderGoodsSaid : Prop := fnExactOrderGoodsRow.holds Try.pinned (OpenSpec.ofChange fnExactOrderGoodsSpec)

/-- ITS FALSE NEIGHBOUR: 'it returns false'. Refute it at one input. -/
def fnExactOrderGoodsWrong : ChangeSpec := { name := "fnExactOrderGoods", fn := fun _ => fun
  | [d1, d2, d3] => { results := [.lit (.bool false)], args := [d1, d2, d3] }
  | _ => none }
def FnExactOrderGoodsWrongFalsely : Prop := fnExactOrderGoodsRow.holds Try.pinned (OpenSpec.ofChange fnExactOrderGoodsWrong)

/-- 'laws.FnExactClosePurchase': WHATEVER THE INPUT: true; the input reads as it did. -/
def fnExactClosePurchaseSpec : ChangeSpec := { name := "fnExactClosePurchase", fn := fun _ => fun
  | [d] => { results := [.lit (.bool true)], args := [d] }
  | _ => none }
def fnExactClosePurchaseRow : OpenClaim := { program := "ytjihfklhfldplaa", sum := "59f014da68a37f6defacb701d1b37f4a65d103cacec60d9b46d18cf3a133b66d", func := "loop.example/g03407/laws.FnExactClosePurchase", spec := "fnExactClosePurchase", apart := false }
def FnExactClosePurchaseSaid : Prop := fnExactClosePurchaseRow.holds Try.pinned (OpenSpec.ofChange fnExactClosePurchaseSpec)

/-- ITS FALSE NEIGHBOUR: 'it returns false'. Refute it at one input. -/
def fnExactClosePurchaseWrong : ChangeSpec := { name := "fnExactClosePurchase", fn := fun _ => fun
  | [d] => { results := [.lit (.bool false)], args := [d] }
  | _ => none }
def FnExactClosePurchaseWrongFalsely : Prop := fnExactClosePurchaseRow.holds Try.pinned (OpenSpec.ofChange fnExactClosePurchaseWrong)

/-- 'laws.FnExactReceiveGoods': WHATEVER THE INPUT: true; the input reads as it did. -/
def fnExactReceiveGoodsSpec : ChangeSpec := { name := "fnExactReceiveGoods", fn := fun _ => fun
  | [d1, d2] => { results := [.lit (.bool true)], args := [d1, d2] }
  | _ => none }
def fnExactReceiveGoodsRow : OpenClaim := { program := "ytjihfklhfldplaa", sum := "59f014da68a37f6defacb701d1b37f4a65d103cacec60d9b46d18cf3a133b66d", func := "loop.example/g03407/laws.FnExactReceiveGoods", spec := "fnExactReceiveGoods", apart := false }
def FnExactReceiveGoodsSaid : Prop := fnExactReceiveGoodsRow.holds Try.pinned (OpenSpec.ofChange fnExactReceiveGoodsSpec)

/-- ITS FALSE NEIGHBOUR: 'it returns false'. Refute it at one input. -/
def fnExactReceiveGoodsWrong : ChangeSpec := { name := "fnExactReceiveGoods", fn := fun _ => fun
  | [d1, d2] => { results := [.lit (.bool false)], args := [d1, d2] }
  | _ => none }
def FnExactReceiveGoodsWrongFalsely : Prop := fnExactReceiveGoodsRow.holds Try.pinned (OpenSpec.ofChange fnExactReceiveGoodsWrong)

/-- 'laws.FnExactMatchInvoice': WHATEVER THE INPUT: true; the input reads as it did. -/
def fnExactMatchInvoiceSpec : ChangeSpec := { name := "fnExactMatchInvoice", fn := fun _ => fun
  | [d1, d2, d3] => { results := [.lit (.bool true)], args := [d1, d2, d3] }
  | _ => none }
def fnExactMatchInvoiceRow : OpenClaim := { program := "ytjihfklhfldplaa", sum := "59f014da68a37f6defacb701d1b37f4a65d103cacec60d9b46d18cf3a133b66d", func := "loop.example/g03407/laws.FnExactMatchInvoice", spec := "fnExactMatchInvoice", apart := false }
def FnExactMatchInvoiceSaid : Prop := fnExactMatchInvoiceRow.holds Try.pinned (OpenSpec.ofChange fnExactMatchInvoiceSpec)

/-- ITS FALSE NEIGHBOUR: 'it returns false'. Refute it at one input. -/
def fnExactMatchInvoiceWrong : ChangeSpec := { name := "fnExactMatchInvoice", fn := fun _ => fun
  | [d1, d2, d3] => { results := [.lit (.bool false)], args := [d1, d2, d3] }
  | _ => none }
def FnExactMatchInvoiceWrongFalsely : Prop := fnExactMatchInvoiceRow.holds Try.pinned (OpenSpec.ofChange fnExactMatchInvoiceWrong)

/-- 'laws.FnMatching': WHATEVER THE INPUT: true; the input reads as it did. -/
def fnMatchingSpec : ChangeSpec := { name := "fnMatching", fn := fun _ => fun
  | [d] => { results := [.lit (.bool true)], args := [d] }
  | _ => none }
def fnMatchingRow : OpenClaim := { program := "ytjihfklhfldplaa", sum := "59f014da68a37f6defacb701d1b37f4a65d103cacec60d9b46d18cf3a133b66d", func := "loop.example/g03407/laws.FnMatching", spec := "fnMatching", apart := false }
def FnMatchingSaid : Prop := fnMatchingRow.holds Try.pinned (OpenSpec.ofChange fnMatchingSpec)

/-- ITS FALSE NEIGHBOUR: 'it returns false'. Refute it at one input. -/
def fnMatchingWrong : ChangeSpec := { name := "fnMatching", fn := fun _ => fun
  | [d] => { results := [.lit (.bool false)], args := [d] }
  | _ => none }
def FnMatchingWrongFalsely : Prop := fnMatchingRow.holds Try.pinned (OpenSpec.ofChange fnMatchingWrong)

/- THE SECOND FORM. 'bulk': how many values and letters a reading holds, each counted each time it is reached (what is shared counts as often as it is met; a slice's spare places count too). A statement '..UptoSaid' is the law's where the arguments, and the package variables that the reading takes, are together of bulk at most 1048576: NARROWER than '..Said'. Prove '..Said' where nothing that the law and all that it calls make is longer than what came in: it says more and counts as full. Else prove '..UptoSaid'. A law counts once. -/
mutual
def uptoBulk {H : Type} : DataW H → Nat
  | .lit (.string bytes) => bytes.length + 1
  | .lit _ => 1
  | .nil => 1
  | .ptr d => uptoBulk d + 1
  | .slice elems spare => uptoBulkAll elems + uptoBulkAll spare + 1
  | .agg parts => uptoBulkAll parts + 1
  | .iface _ d => uptoBulk d + 1
  | .map entries => uptoBulkEntries entries + 1
  | .held _ => 1
def uptoBulkAll {H : Type} : List (DataW H) → Nat
  | [] => 0
  | d :: r => uptoBulk d + uptoBulkAll r
def uptoBulkEntries {H : Type} : List (Lit × DataW H) → Nat
  | [] => 0
  | x :: r => uptoBulkEntry x + uptoBulkEntries r
def uptoBulkEntry {H : Type} : Lit × DataW H → Nat
  | (.string bytes, d) => bytes.length + uptoBulk d + 1
  | (_, d) => uptoBulk d + 1
 end
def uptoSmall : (H : Type) → List (DataW H) → Bool := fun _ ds => decide (uptoBulkAll ds ≤ 1048576)
def OpenSpec.upto (s : _root_.Go.ChangeSpec) : _root_.Go.OpenSpec := { _root_.Go.OpenSpec.ofChange s with cond := some uptoSmall }

/-- 'laws.FnExactIsPurchase', WHERE WHAT IT READS IS OF BULK AT MOST 1048576: true; the input reads as it did. -/
def fnExactIsPurchaseUptoRow : OpenClaim := { program := "ytjihfklhfldplaa", sum := "59f014da68a37f6defacb701d1b37f4a65d103cacec60d9b46d18cf3a133b66d", func := "loop.example/g03407/laws.FnExactIsPurchase", spec := "fnExactIsPurchase", apart := false, narrowed := true }
def FnExactIsPurchaseUptoSaid : Prop := fnExactIsPurchaseUptoRow.holds Try.pinned (OpenSpec.upto fnExactIsPurchaseSpec)

/-- 'laws.FnExactPriceGap', WHERE WHAT IT READS IS OF BULK AT MOST 1048576: true; the input reads as it did. -/
def fnExactPriceGapUptoRow : OpenClaim := { program := "ytjihfklhfldplaa", sum := "59f014da68a37f6defacb701d1b37f4a65d103cacec60d9b46d18cf3a133b66d", func := "loop.example/g03407/laws.FnExactPriceGap", spec := "fnExactPriceGap", apart := false, narrowed := true }
def FnExactPriceGapUptoSaid : Prop := fnExactPriceGapUptoRow.holds Try.pinned (OpenSpec.upto fnExactPriceGapSpec)

/-- 'laws.FnExactOrderGoods', WHERE WHAT IT READS IS OF BULK AT MOST 1048576: true; the input reads as it did. -/
def fnExactOrderGoodsUptoRow : OpenClaim := { program := "ytjihfklhfldplaa", sum := "59f014da68a37f6defacb701d1b37f4a65d103cacec60d9b46d18cf3a133b66d", func := "loop.example/g03407/laws.FnExactOrderGoods", spec := "fnExactOrderGoods", apart := false, narrowed := true }
def FnExactOrderGoodsUptoSaid : Prop := fnExactOrderGoodsUptoRow.holds Try.pinned (OpenSpec.upto fnExactOrderGoodsSpec)

/-- 'laws.FnExactClosePurchase', WHERE WHAT IT READS IS OF BULK AT MOST 1048576: true; the input reads as it did. -/
def fnExactClosePurchaseUptoRow : OpenClaim := { program := "ytjihfklhfldplaa", sum := "59f014da68a37f6defacb701d1b37f4a65d103cacec60d9b46d18cf3a133b66d", func := "loop.example/g03407/laws.FnExactClosePurchase", spec := "fnExactClosePurchase", apart := false, narrowed := true }
def FnExactClosePurchaseUptoSaid : Prop := fnExactClosePurchaseUptoRow.holds Try.pinned (OpenSpec.upto fnExactClosePurchaseSpec)

/-- 'laws.FnExactReceiveGoods', WHERE WHAT IT READS IS OF BULK AT MOST 1048576: true; the input reads as it did. -/
def fnExactReceiveGoodsUptoRow : OpenClaim := { program := "ytjihfklhfldplaa", sum := "59f014da68a37f6defacb701d1b37f4a65d103cacec60d9b46d18cf3a133b66d", func := "loop.example/g03407/laws.FnExactReceiveGoods", spec := "fnExactReceiveGoods", apart := false, narrowed := true }
def FnExactReceiveGoodsUptoSaid : Prop := fnExactReceiveGoodsUptoRow.holds Try.pinned (OpenSpec.upto fnExactReceiveGoodsSpec)

/-- 'laws.FnExactMatchInvoice', WHERE WHAT IT READS IS OF BULK AT MOST 1048576: true; the input reads as it did. -/
def fnExactMatchInvoiceUptoRow : OpenClaim := { program := "ytjihfklhfldplaa", sum := "59f014da68a37f6defacb701d1b37f4a65d103cacec60d9b46d18cf3a133b66d", func := "loop.example/g03407/laws.FnExactMatchInvoice", spec := "fnExactMatchInvoice", apart := false, narrowed := true }
def FnExactMatchInvoiceUptoSaid : Prop := fnExactMatchInvoiceUptoRow.holds Try.pinned (OpenSpec.upto fnExactMatchInvoiceSpec)

/-- 'laws.FnMatching', WHERE WHAT IT READS IS OF BULK AT MOST 1048576: true; the input reads as it did. -/
def fnMatchingUptoRow : OpenClaim := { program := "ytjihfklhfldplaa", sum := "59f014da68a37f6defacb701d1b37f4a65d103cacec60d9b46d18cf3a133b66d", func := "loop.example/g03407/laws.FnMatching", spec := "fnMatching", apart := false, narrowed := true }
def FnMatchingUptoSaid : Prop := fnMatchingUptoRow.holds Try.pinned (OpenSpec.upto fnMatchingSpec)

end Rows
end Go.Proofs.Ytjihfklhfldplaa
