/-
  No cell of these rows narrows 'for every input' (looked for: loops, veiled, ifaces, maps, wideKeys, modest, calm, conditions, laid).
  DERIVED. THE GIVEN ROWS OF THIS SEAT. 7 by the template 'for every input the law returns true; each argument reads behind the call as it read before'; 0 by the template 'total and deterministic' (their statements: YtlaiemjeoceehaaTotals.lean).
  GIVEN WITH THE SEED: the statements are not yours to turn. If you find one false, say at which input.
  Laid BY PROGRAM, IN A SANDBOX (cutbox-rows.mjs): the forced cells as the released guide's own fill.sh prints them over the translation 4329d3b706ddec3e… (all of the seat's roots in one cut). By AI agents, Wed Nov 11 2026. No macro, syntax, notation, axiom, sorry.
-/
import Derived.Test.YtlaiemjeoceehaaChecked
import GoSem.Claim
import GoSem.ClaimJoined
import GoSem.ClaimMapViews
import Derived.JoinedTies
import Derived.KernelRfl
namespace Go.Proofs.Ytlaiemjeoceehaa
/- THE CELL 'sum', in the pinned program and in every row, IS THE sha256 OF THE DUMP (.gsa) THAT YtlaiemjeoceehaaProg.lean LOADS. Nothing in Lean hashes anything: it is a label: what it is worth is what the hold of that sum in a sandbox is worth. -/
noncomputable def Try.pinned : Pinned := { name := "ytlaiemjeoceehaa", sum := "4329d3b706ddec3e8f872412fe371fb1e0f694d383fb3150ed29a1ad5a3f6cce", checked := Try.checked }
namespace Rows
def none {H : Type} : Left H := { results := [], args := [] }

/-- 'laws.FnExactAreBreaks': WHATEVER THE INPUT: true; the input reads as it did. -/
def fnExactAreBreaksSpec : ChangeSpec := { name := "fnExactAreBreaks", fn := fun _ => fun
  | [d] => { results := [.lit (.bool true)], args := [d] }
  | _ => none }
def fnExactAreBreaksRow : OpenClaim := { program := "ytlaiemjeoceehaa", sum := "4329d3b706ddec3e8f872412fe371fb1e0f694d383fb3150ed29a1ad5a3f6cce", func := "loop.example/g03407/laws.FnExactAreBreaks", spec := "fnExactAreBreaks", apart := false }
def FnExactAreBreaksSaid : Prop := fnExactAreBreaksRow.holds Try.pinned (OpenSpec.ofChange fnExactAreBreaksSpec)

/-- ITS FALSE NEIGHBOUR: 'it returns false'. Refute it at one input. -/
def fnExactAreBreaksWrong : ChangeSpec := { name := "fnExactAreBreaks", fn := fun _ => fun
  | [d] => { results := [.lit (.bool false)], args := [d] }
  | _ => none }
def FnExactAreBreaksWrongFalsely : Prop := fnExactAreBreaksRow.holds Try.pinned (OpenSpec.ofChange fnExactAreBreaksWrong)

/-- 'laws.FnExactPriceFor': WHATEVER THE INPUT: true; the input reads as it did. -/
def fnExactPriceForSpec : ChangeSpec := { name := "fnExactPriceFor", fn := fun _ => fun
  | [d1, d2] => { results := [.lit (.bool true)], args := [d1, d2] }
  | _ => none }
def fnExactPriceForRow : OpenClaim := { program := "ytlaiemjeoceehaa", sum := "4329d3b706ddec3e8f872412fe371fb1e0f694d383fb3150ed29a1ad5a3f6cce", func := "loop.example/g03407/laws.FnExactPriceFor", spec := "fnExactPriceFor", apart := false }
def FnExactPriceForSaid : Prop := fnExactPriceForRow.holds Try.pinned (OpenSpec.ofChange fnExactPriceForSpec)

/-- ITS FALSE NEIGHBOUR: 'it returns false'. Refute it at one input. -/
def fnExactPriceForWrong : ChangeSpec := { name := "fnExactPriceFor", fn := fun _ => fun
  | [d1, d2] => { results := [.lit (.bool false)], args := [d1, d2] }
  | _ => none }
def FnExactPriceForWrongFalsely : Prop := fnExactPriceForRow.holds Try.pinned (OpenSpec.ofChange fnExactPriceForWrong)

/-- 'laws.FnExactBuyCost': WHATEVER THE INPUT: true; the input reads as it did. -/
def fnExactBuyCostSpec : ChangeSpec := { name := "fnExactBuyCost", fn := fun _ => fun
  | [d1, d2] => { results := [.lit (.bool true)], args := [d1, d2] }
  | _ => none }
def fnExactBuyCostRow : OpenClaim := { program := "ytlaiemjeoceehaa", sum := "4329d3b706ddec3e8f872412fe371fb1e0f694d383fb3150ed29a1ad5a3f6cce", func := "loop.example/g03407/laws.FnExactBuyCost", spec := "fnExactBuyCost", apart := false }
def FnExactBuyCostSaid : Prop := fnExactBuyCostRow.holds Try.pinned (OpenSpec.ofChange fnExactBuyCostSpec)

/-- ITS FALSE NEIGHBOUR: 'it returns false'. Refute it at one input. -/
def fnExactBuyCostWrong : ChangeSpec := { name := "fnExactBuyCost", fn := fun _ => fun
  | [d1, d2] => { results := [.lit (.bool false)], args := [d1, d2] }
  | _ => none }
def FnExactBuyCostWrongFalsely : Prop := fnExactBuyCostRow.holds Try.pinned (OpenSpec.ofChange fnExactBuyCostWrong)

/-- 'laws.FnExactBestBuy': WHATEVER THE INPUT: true; the input reads as it did. -/
def fnExactBestBuySpec : ChangeSpec := { name := "fnExactBestBuy", fn := fun _ => fun
  | [d1, d2] => { results := [.lit (.bool true)], args := [d1, d2] }
  | _ => none }
def fnExactBestBuyRow : OpenClaim := { program := "ytlaiemjeoceehaa", sum := "4329d3b706ddec3e8f872412fe371fb1e0f694d383fb3150ed29a1ad5a3f6cce", func := "loop.example/g03407/laws.FnExactBestBuy", spec := "fnExactBestBuy", apart := false }
def FnExactBestBuySaid : Prop := fnExactBestBuyRow.holds Try.pinned (OpenSpec.ofChange fnExactBestBuySpec)

/-- ITS FALSE NEIGHBOUR: 'it returns false'. Refute it at one input. -/
def fnExactBestBuyWrong : ChangeSpec := { name := "fnExactBestBuy", fn := fun _ => fun
  | [d1, d2] => { results := [.lit (.bool false)], args := [d1, d2] }
  | _ => none }
def FnExactBestBuyWrongFalsely : Prop := fnExactBestBuyRow.holds Try.pinned (OpenSpec.ofChange fnExactBestBuyWrong)

/-- 'laws.FnBuying': WHATEVER THE INPUT: true; the input reads as it did. -/
def fnBuyingSpec : ChangeSpec := { name := "fnBuying", fn := fun _ => fun
  | [d] => { results := [.lit (.bool true)], args := [d] }
  | _ => none }
def fnBuyingRow : OpenClaim := { program := "ytlaiemjeoceehaa", sum := "4329d3b706ddec3e8f872412fe371fb1e0f694d383fb3150ed29a1ad5a3f6cce", func := "loop.example/g03407/laws.FnBuying", spec := "fnBuying", apart := false }
def FnBuyingSaid : Prop := fnBuyingRow.holds Try.pinned (OpenSpec.ofChange fnBuyingSpec)

/-- ITS FALSE NEIGHBOUR: 'it returns false'. Refute it at one input. -/
def fnBuyingWrong : ChangeSpec := { name := "fnBuying", fn := fun _ => fun
  | [d] => { results := [.lit (.bool false)], args := [d] }
  | _ => none }
def FnBuyingWrongFalsely : Prop := fnBuyingRow.holds Try.pinned (OpenSpec.ofChange fnBuyingWrong)

/-- 'laws.FnExactBestSupplier': WHATEVER THE INPUT: true; the input reads as it did. -/
def fnExactBestSupplierSpec : ChangeSpec := { name := "fnExactBestSupplier", fn := fun _ => fun
  | [d1, d2] => { results := [.lit (.bool true)], args := [d1, d2] }
  | _ => none }
def fnExactBestSupplierRow : OpenClaim := { program := "ytlaiemjeoceehaa", sum := "4329d3b706ddec3e8f872412fe371fb1e0f694d383fb3150ed29a1ad5a3f6cce", func := "loop.example/g03407/laws.FnExactBestSupplier", spec := "fnExactBestSupplier", apart := false }
def FnExactBestSupplierSaid : Prop := fnExactBestSupplierRow.holds Try.pinned (OpenSpec.ofChange fnExactBestSupplierSpec)

/-- ITS FALSE NEIGHBOUR: 'it returns false'. Refute it at one input. -/
def fnExactBestSupplierWrong : ChangeSpec := { name := "fnExactBestSupplier", fn := fun _ => fun
  | [d1, d2] => { results := [.lit (.bool false)], args := [d1, d2] }
  | _ => none }
def FnExactBestSupplierWrongFalsely : Prop := fnExactBestSupplierRow.holds Try.pinned (OpenSpec.ofChange fnExactBestSupplierWrong)

/-- 'laws.FnSuppliers': WHATEVER THE INPUT: true; the input reads as it did. -/
def fnSuppliersSpec : ChangeSpec := { name := "fnSuppliers", fn := fun _ => fun
  | [d] => { results := [.lit (.bool true)], args := [d] }
  | _ => none }
def fnSuppliersRow : OpenClaim := { program := "ytlaiemjeoceehaa", sum := "4329d3b706ddec3e8f872412fe371fb1e0f694d383fb3150ed29a1ad5a3f6cce", func := "loop.example/g03407/laws.FnSuppliers", spec := "fnSuppliers", apart := false }
def FnSuppliersSaid : Prop := fnSuppliersRow.holds Try.pinned (OpenSpec.ofChange fnSuppliersSpec)

/-- ITS FALSE NEIGHBOUR: 'it returns false'. Refute it at one input. -/
def fnSuppliersWrong : ChangeSpec := { name := "fnSuppliers", fn := fun _ => fun
  | [d] => { results := [.lit (.bool false)], args := [d] }
  | _ => none }
def FnSuppliersWrongFalsely : Prop := fnSuppliersRow.holds Try.pinned (OpenSpec.ofChange fnSuppliersWrong)

/- THE SECOND FORM. 'bulk': how many values and letters a reading holds, each counted each time it is reached (what is shared counts as often as it is met; a slice's spare places count too). A statement '..UptoSaid' is the law's where the arguments, and the package variables that the reading takes, are together of bulk at most 1048576: NARROWER than '..Said'. Prove '..Said' where nothing that the law and all that it calls make is longer than what came in: it says more and counts as full. Else prove '..UptoSaid'. A law counts once. -/
mutual
def uptoBulk {H : Type} : DataW H → Nat
  | .lit (.string bytes) => bytes.length + 1
  | .lit _ => 1
  | .nil => 1
  | .ptr d => uptoBulk d + 1
  | .slice elems spare => uptoBulkAll elems + uptoBulkAll spare + 1
  | .agg parts => uptoBulkAll parts + 1
  | .iface _ d => uptoBulk d + 1
  | .map entries => uptoBulkEntries entries + 1
  | .held _ => 1
def uptoBulkAll {H : Type} : List (DataW H) → Nat
  | [] => 0
  | d :: r => uptoBulk d + uptoBulkAll r
def uptoBulkEntries {H : Type} : List (Lit × DataW H) → Nat
  | [] => 0
  | x :: r => uptoBulkEntry x + uptoBulkEntries r
def uptoBulkEntry {H : Type} : Lit × DataW H → Nat
  | (.string bytes, d) => bytes.length + uptoBulk d + 1
  | (_, d) => uptoBulk d + 1
 end
def uptoSmall : (H : Type) → List (DataW H) → Bool := fun _ ds => decide (uptoBulkAll ds ≤ 1048576)
def OpenSpec.upto (s : _root_.Go.ChangeSpec) : _root_.Go.OpenSpec := { _root_.Go.OpenSpec.ofChange s with cond := some uptoSmall }

/-- 'laws.FnExactAreBreaks', WHERE WHAT IT READS IS OF BULK AT MOST 1048576: true; the input reads as it did. -/
def fnExactAreBreaksUptoRow : OpenClaim := { program := "ytlaiemjeoceehaa", sum := "4329d3b706ddec3e8f872412fe371fb1e0f694d383fb3150ed29a1ad5a3f6cce", func := "loop.example/g03407/laws.FnExactAreBreaks", spec := "fnExactAreBreaks", apart := false, narrowed := true }
def FnExactAreBreaksUptoSaid : Prop := fnExactAreBreaksUptoRow.holds Try.pinned (OpenSpec.upto fnExactAreBreaksSpec)

/-- 'laws.FnExactPriceFor', WHERE WHAT IT READS IS OF BULK AT MOST 1048576: true; the input reads as it did. -/
def fnExactPriceForUptoRow : OpenClaim := { program := "ytlaiemjeoceehaa", sum := "4329d3b706ddec3e8f872412fe371fb1e0f694d383fb3150ed29a1ad5a3f6cce", func := "loop.example/g03407/laws.FnExactPriceFor", spec := "fnExactPriceFor", apart := false, narrowed := true }
def FnExactPriceForUptoSaid : Prop := fnExactPriceForUptoRow.holds Try.pinned (OpenSpec.upto fnExactPriceForSpec)

/-- 'laws.FnExactBuyCost', WHERE WHAT IT READS IS OF BULK AT MOST 1048576: true; the input reads as it did. -/
def fnExactBuyCostUptoRow : OpenClaim := { program := "ytlaiemjeoceehaa", sum := "4329d3b706ddec3e8f872412fe371fb1e0f694d383fb3150ed29a1ad5a3f6cce", func := "loop.example/g03407/laws.FnExactBuyCost", spec := "fnExactBuyCost", apart := false, narrowed := true }
def FnExactBuyCostUptoSaid : Prop := fnExactBuyCostUptoRow.holds Try.pinned (OpenSpec.upto fnExactBuyCostSpec)

/-- 'laws.FnExactBestBuy', WHERE WHAT IT READS IS OF BULK AT MOST 1048576: true; the input reads as it did. -/
def fnExactBestBuyUptoRow : OpenClaim := { program := "ytlaiemjeoceehaa", sum := "4329d3b706ddec3e8f872412fe371fb1e0f694d383fb3150ed29a1ad5a3f6cce", func := "loop.example/g03407/laws.FnExactBestBuy", spec := "fnExactBestBuy", apart := false, narrowed := true }
def FnExactBestBuyUptoSaid : Prop := fnExactBestBuyUptoRow.holds Try.pinned (OpenSpec.upto fnExactBestBuySpec)

/-- 'laws.FnBuying', WHERE WHAT IT READS IS OF BULK AT MOST 1048576: true; the input reads as it did. -/
def fnBuyingUptoRow : OpenClaim := { program := "ytlaiemjeoceehaa", sum := "4329d3b706ddec3e8f872412fe371fb1e0f694d383fb3150ed29a1ad5a3f6cce", func := "loop.example/g03407/laws.FnBuying", spec := "fnBuying", apart := false, narrowed := true }
def FnBuyingUptoSaid : Prop := fnBuyingUptoRow.holds Try.pinned (OpenSpec.upto fnBuyingSpec)

/-- 'laws.FnExactBestSupplier', WHERE WHAT IT READS IS OF BULK AT MOST 1048576: true; the input reads as it did. -/
def fnExactBestSupplierUptoRow : OpenClaim := { program := "ytlaiemjeoceehaa", sum := "4329d3b706ddec3e8f872412fe371fb1e0f694d383fb3150ed29a1ad5a3f6cce", func := "loop.example/g03407/laws.FnExactBestSupplier", spec := "fnExactBestSupplier", apart := false, narrowed := true }
def FnExactBestSupplierUptoSaid : Prop := fnExactBestSupplierUptoRow.holds Try.pinned (OpenSpec.upto fnExactBestSupplierSpec)

/-- 'laws.FnSuppliers', WHERE WHAT IT READS IS OF BULK AT MOST 1048576: true; the input reads as it did. -/
def fnSuppliersUptoRow : OpenClaim := { program := "ytlaiemjeoceehaa", sum := "4329d3b706ddec3e8f872412fe371fb1e0f694d383fb3150ed29a1ad5a3f6cce", func := "loop.example/g03407/laws.FnSuppliers", spec := "fnSuppliers", apart := false, narrowed := true }
def FnSuppliersUptoSaid : Prop := fnSuppliersUptoRow.holds Try.pinned (OpenSpec.upto fnSuppliersSpec)

end Rows
end Go.Proofs.Ytlaiemjeoceehaa
