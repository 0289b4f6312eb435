/-
  No cell of these rows narrows 'for every input' (looked for: loops, veiled, ifaces, maps, wideKeys, modest, calm, conditions, laid).
  DERIVED. THE GIVEN ROWS OF THIS SEAT. 5 by the template 'for every input the law returns true; each argument reads behind the call as it read before'; 0 by the template 'total and deterministic' (their statements: YtcmbckcjklociaaTotals.lean).
  GIVEN WITH THE SEED: the statements are not yours to turn. If you find one false, say at which input.
  Laid BY PROGRAM, IN A SANDBOX (cutbox-rows.mjs): the forced cells as the released guide's own fill.sh prints them over the translation 6de6390482083298… (all of the seat's roots in one cut). By AI agents, Wed Nov 11 2026. No macro, syntax, notation, axiom, sorry.
-/
import Derived.Test.YtcmbckcjklociaaChecked
import GoSem.Claim
import GoSem.ClaimJoined
import GoSem.ClaimMapViews
import Derived.JoinedTies
import Derived.KernelRfl
namespace Go.Proofs.Ytcmbckcjklociaa
/- THE CELL 'sum', in the pinned program and in every row, IS THE sha256 OF THE DUMP (.gsa) THAT YtcmbckcjklociaaProg.lean LOADS. Nothing in Lean hashes anything: it is a label: what it is worth is what the hold of that sum in a sandbox is worth. -/
noncomputable def Try.pinned : Pinned := { name := "ytcmbckcjklociaa", sum := "6de6390482083298ff2ee116646e94bdaaf6fc33a79264afa43f1c49c220f98c", checked := Try.checked }
namespace Rows
def none {H : Type} : Left H := { results := [], args := [] }

/-- 'lorrylaw20.PriceRoutes': WHATEVER THE INPUT: true; the input reads as it did. -/
def priceRoutesSpec : ChangeSpec := { name := "priceRoutes", fn := fun _ => fun
  | [d1, d2, d3] => { results := [.lit (.bool true)], args := [d1, d2, d3] }
  | _ => none }
def priceRoutesRow : OpenClaim := { program := "ytcmbckcjklociaa", sum := "6de6390482083298ff2ee116646e94bdaaf6fc33a79264afa43f1c49c220f98c", func := "lorry/lorrylaw20.PriceRoutes", spec := "priceRoutes", apart := false }
def PriceRoutesSaid : Prop := priceRoutesRow.holds Try.pinned (OpenSpec.ofChange priceRoutesSpec)

/-- ITS FALSE NEIGHBOUR: 'it returns false'. Refute it at one input. -/
def priceRoutesWrong : ChangeSpec := { name := "priceRoutes", fn := fun _ => fun
  | [d1, d2, d3] => { results := [.lit (.bool false)], args := [d1, d2, d3] }
  | _ => none }
def PriceRoutesWrongFalsely : Prop := priceRoutesRow.holds Try.pinned (OpenSpec.ofChange priceRoutesWrong)

/-- 'lorrylaw20.PriceAdds': WHATEVER THE INPUT: true; the input reads as it did. -/
def priceAddsSpec : ChangeSpec := { name := "priceAdds", fn := fun _ => fun
  | [d1, d2] => { results := [.lit (.bool true)], args := [d1, d2] }
  | _ => none }
def priceAddsRow : OpenClaim := { program := "ytcmbckcjklociaa", sum := "6de6390482083298ff2ee116646e94bdaaf6fc33a79264afa43f1c49c220f98c", func := "lorry/lorrylaw20.PriceAdds", spec := "priceAdds", apart := false }
def PriceAddsSaid : Prop := priceAddsRow.holds Try.pinned (OpenSpec.ofChange priceAddsSpec)

/-- ITS FALSE NEIGHBOUR: 'it returns false'. Refute it at one input. -/
def priceAddsWrong : ChangeSpec := { name := "priceAdds", fn := fun _ => fun
  | [d1, d2] => { results := [.lit (.bool false)], args := [d1, d2] }
  | _ => none }
def PriceAddsWrongFalsely : Prop := priceAddsRow.holds Try.pinned (OpenSpec.ofChange priceAddsWrong)

/-- 'lorrylaw20.PriceSplits': WHATEVER THE INPUT: true; the input reads as it did. -/
def priceSplitsSpec : ChangeSpec := { name := "priceSplits", fn := fun _ => fun
  | [d] => { results := [.lit (.bool true)], args := [d] }
  | _ => none }
def priceSplitsRow : OpenClaim := { program := "ytcmbckcjklociaa", sum := "6de6390482083298ff2ee116646e94bdaaf6fc33a79264afa43f1c49c220f98c", func := "lorry/lorrylaw20.PriceSplits", spec := "priceSplits", apart := false }
def PriceSplitsSaid : Prop := priceSplitsRow.holds Try.pinned (OpenSpec.ofChange priceSplitsSpec)

/-- ITS FALSE NEIGHBOUR: 'it returns false'. Refute it at one input. -/
def priceSplitsWrong : ChangeSpec := { name := "priceSplits", fn := fun _ => fun
  | [d] => { results := [.lit (.bool false)], args := [d] }
  | _ => none }
def PriceSplitsWrongFalsely : Prop := priceSplitsRow.holds Try.pinned (OpenSpec.ofChange priceSplitsWrong)

/-- 'lorrylaw20.PriceUnserved': WHATEVER THE INPUT: true; the input reads as it did. -/
def priceUnservedSpec : ChangeSpec := { name := "priceUnserved", fn := fun _ => fun
  | [d1, d2] => { results := [.lit (.bool true)], args := [d1, d2] }
  | _ => none }
def priceUnservedRow : OpenClaim := { program := "ytcmbckcjklociaa", sum := "6de6390482083298ff2ee116646e94bdaaf6fc33a79264afa43f1c49c220f98c", func := "lorry/lorrylaw20.PriceUnserved", spec := "priceUnserved", apart := false }
def PriceUnservedSaid : Prop := priceUnservedRow.holds Try.pinned (OpenSpec.ofChange priceUnservedSpec)

/-- ITS FALSE NEIGHBOUR: 'it returns false'. Refute it at one input. -/
def priceUnservedWrong : ChangeSpec := { name := "priceUnserved", fn := fun _ => fun
  | [d1, d2] => { results := [.lit (.bool false)], args := [d1, d2] }
  | _ => none }
def PriceUnservedWrongFalsely : Prop := priceUnservedRow.holds Try.pinned (OpenSpec.ofChange priceUnservedWrong)

/-- 'lorrylaw20.PriceWeighs': WHATEVER THE INPUT: true; the input reads as it did. -/
def priceWeighsSpec : ChangeSpec := { name := "priceWeighs", fn := fun _ => fun
  | [d1, d2] => { results := [.lit (.bool true)], args := [d1, d2] }
  | _ => none }
def priceWeighsRow : OpenClaim := { program := "ytcmbckcjklociaa", sum := "6de6390482083298ff2ee116646e94bdaaf6fc33a79264afa43f1c49c220f98c", func := "lorry/lorrylaw20.PriceWeighs", spec := "priceWeighs", apart := false }
def PriceWeighsSaid : Prop := priceWeighsRow.holds Try.pinned (OpenSpec.ofChange priceWeighsSpec)

/-- ITS FALSE NEIGHBOUR: 'it returns false'. Refute it at one input. -/
def priceWeighsWrong : ChangeSpec := { name := "priceWeighs", fn := fun _ => fun
  | [d1, d2] => { results := [.lit (.bool false)], args := [d1, d2] }
  | _ => none }
def PriceWeighsWrongFalsely : Prop := priceWeighsRow.holds Try.pinned (OpenSpec.ofChange priceWeighsWrong)

/- THE SECOND FORM. 'bulk': how many values and letters a reading holds, each counted each time it is reached (what is shared counts as often as it is met; a slice's spare places count too). A statement '..UptoSaid' is the law's where the arguments, and the package variables that the reading takes, are together of bulk at most 1048576: NARROWER than '..Said'. Prove '..Said' where nothing that the law and all that it calls make is longer than what came in: it says more and counts as full. Else prove '..UptoSaid'. A law counts once. -/
mutual
def uptoBulk {H : Type} : DataW H → Nat
  | .lit (.string bytes) => bytes.length + 1
  | .lit _ => 1
  | .nil => 1
  | .ptr d => uptoBulk d + 1
  | .slice elems spare => uptoBulkAll elems + uptoBulkAll spare + 1
  | .agg parts => uptoBulkAll parts + 1
  | .iface _ d => uptoBulk d + 1
  | .map entries => uptoBulkEntries entries + 1
  | .held _ => 1
def uptoBulkAll {H : Type} : List (DataW H) → Nat
  | [] => 0
  | d :: r => uptoBulk d + uptoBulkAll r
def uptoBulkEntries {H : Type} : List (Lit × DataW H) → Nat
  | [] => 0
  | x :: r => uptoBulkEntry x + uptoBulkEntries r
def uptoBulkEntry {H : Type} : Lit × DataW H → Nat
  | (.string bytes, d) => bytes.length + uptoBulk d + 1
  | (_, d) => uptoBulk d + 1
 end
def uptoSmall : (H : Type) → List (DataW H) → Bool := fun _ ds => decide (uptoBulkAll ds ≤ 1048576)
def OpenSpec.upto (s : _root_.Go.ChangeSpec) : _root_.Go.OpenSpec := { _root_.Go.OpenSpec.ofChange s with cond := some uptoSmall }

/-- 'lorrylaw20.PriceRoutes', WHERE WHAT IT READS IS OF BULK AT MOST 1048576: true; the input reads as it did. -/
def priceRoutesUptoRow : OpenClaim := { program := "ytcmbckcjklociaa", sum := "6de6390482083298ff2ee116646e94bdaaf6fc33a79264afa43f1c49c220f98c", func := "lorry/lorrylaw20.PriceRoutes", spec := "priceRoutes", apart := false, narrowed := true }
def PriceRoutesUptoSaid : Prop := priceRoutesUptoRow.holds Try.pinned (OpenSpec.upto priceRoutesSpec)

/-- 'lorrylaw20.PriceAdds', WHERE WHAT IT READS IS OF BULK AT MOST 1048576: true; the input reads as it did. -/
def priceAddsUptoRow : OpenClaim := { program := "ytcmbckcjklociaa", sum := "6de6390482083298ff2ee116646e94bdaaf6fc33a79264afa43f1c49c220f98c", func := "lorry/lorrylaw20.PriceAdds", spec := "priceAdds", apart := false, narrowed := true }
def PriceAddsUptoSaid : Prop := priceAddsUptoRow.holds Try.pinned (OpenSpec.upto priceAddsSpec)

/-- 'lorrylaw20.PriceSplits', WHERE WHAT IT READS IS OF BULK AT MOST 1048576: true; the input reads as it did. -/
def priceSplitsUptoRow : OpenClaim := { program := "ytcmbckcjklociaa", sum := "6de6390482083298ff2ee116646e94bdaaf6fc33a79264afa43f1c49c220f98c", func := "lorry/lorrylaw20.PriceSplits", spec := "priceSplits", apart := false, narrowed := true }
def PriceSplitsUptoSaid : Prop := priceSplitsUptoRow.holds Try.pinned (OpenSpec.upto priceSplitsSpec)

/-- 'lorrylaw20.PriceUnserved', WHERE WHAT IT READS IS OF BULK AT MOST 1048576: true; the input reads as it did. -/
def priceUnservedUptoRow : OpenClaim := { program := "ytcmbckcjklociaa", sum := "6de6390482083298ff2ee116646e94bdaaf6fc33a79264afa43f1c49c220f98c", func := "lorry/lorrylaw20.PriceUnserved", spec := "priceUnserved", apart := false, narrowed := true }
def PriceUnservedUptoSaid : Prop := priceUnservedUptoRow.holds Try.pinned (OpenSpec.upto priceUnservedSpec)

/-- 'lorrylaw20.PriceWeighs', WHERE WHAT IT READS IS OF BULK AT MOST 1048576: true; the input reads as it did. -/
def priceWeighsUptoRow : OpenClaim := { program := "ytcmbckcjklociaa", sum := "6de6390482083298ff2ee116646e94bdaaf6fc33a79264afa43f1c49c220f98c", func := "lorry/lorrylaw20.PriceWeighs", spec := "priceWeighs", apart := false, narrowed := true }
def PriceWeighsUptoSaid : Prop := priceWeighsUptoRow.holds Try.pinned (OpenSpec.upto priceWeighsSpec)

end Rows
end Go.Proofs.Ytcmbckcjklociaa
