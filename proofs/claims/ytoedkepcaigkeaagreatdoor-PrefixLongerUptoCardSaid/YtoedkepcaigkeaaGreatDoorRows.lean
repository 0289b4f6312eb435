/-
  NARROWER THAN 'FOR EVERY INPUT', by the rows' own cells (each row's printed sentence says how): PrefixAll: laid · PrefixLeast: laid · PrefixLonger: laid · BestFinds: laid · BestAll: laid · BestCheapest: laid · BestEach: laid · BestOrders: laid · PrefixBest: laid · PrefixNone: laid.
  DERIVED. THE GIVEN ROWS OF THIS SEAT. 10 by the template 'for every input the law returns true; each argument reads behind the call as it read before'; 0 by the template 'total and deterministic' (their statements: YtoedkepcaigkeaaGreatDoorTotals.lean).
  GIVEN WITH THE SEED: the statements are not yours to turn. If you find one false, say at which input.
  Laid BY PROGRAM, IN A SANDBOX (cutbox-rows.mjs): the forced cells as the released guide's own fill.sh prints them over the translation 89f09a8c291a5eca… (all of the seat's roots in one cut). By AI agents, Wed Nov 11 2026. No macro, syntax, notation, axiom, sorry.
-/
import Derived.Test.YtoedkepcaigkeaaGreatDoorChecked
import GoSem.Claim
import GoSem.ClaimJoined
import GoSem.ClaimMapViews
import Derived.JoinedTies
import Derived.KernelRfl
namespace Go.Proofs.YtoedkepcaigkeaaGreatDoor
/- THE CELL 'sum', in the pinned program and in every row, IS THE sha256 OF THE DUMP (.gsa) THAT YtoedkepcaigkeaaGreatDoorProg.lean LOADS. Nothing in Lean hashes anything: it is a label: what it is worth is what the hold of that sum in a sandbox is worth. -/
noncomputable def Tryz.pinned : Pinned := { name := "ytoedkepcaigkeaagreatdoor", sum := "89f09a8c291a5eca846e1df3528e357449f1874ce89f5deaca6d463224b24f39", checked := Tryz.checked }
namespace Rows
def none {H : Type} : Left H := { results := [], args := [] }

/- WHAT THE LISTED PACKAGE-LEVEL VARIABLES READ AS WHEN THE CALL BEGINS. Each datum BY PROGRAM (the guide's laid-datum.mjs) off the statement by which the dump's own 'gosem.cut.vars' lays the variable. In a bare row this is a premise. The card (YtoedkepcaigkeaaGreatDoorCards.lean) ties it to the program's text. -/
def laid_math_bits_deBruijn32tab {H : Type} : DataW H := .agg [.lit (.int .u8 0), .lit (.int .u8 1), .lit (.int .u8 28), .lit (.int .u8 2), .lit (.int .u8 29), .lit (.int .u8 14), .lit (.int .u8 24), .lit (.int .u8 3), .lit (.int .u8 30), .lit (.int .u8 22), .lit (.int .u8 20), .lit (.int .u8 15), .lit (.int .u8 25), .lit (.int .u8 17), .lit (.int .u8 4), .lit (.int .u8 8), .lit (.int .u8 31), .lit (.int .u8 27), .lit (.int .u8 13), .lit (.int .u8 23), .lit (.int .u8 21), .lit (.int .u8 19), .lit (.int .u8 16), .lit (.int .u8 7), .lit (.int .u8 26), .lit (.int .u8 12), .lit (.int .u8 18), .lit (.int .u8 6), .lit (.int .u8 11), .lit (.int .u8 5), .lit (.int .u8 10), .lit (.int .u8 9)]
def laid_math_bits_deBruijn64tab {H : Type} : DataW H := .agg [.lit (.int .u8 0), .lit (.int .u8 1), .lit (.int .u8 56), .lit (.int .u8 2), .lit (.int .u8 57), .lit (.int .u8 49), .lit (.int .u8 28), .lit (.int .u8 3), .lit (.int .u8 61), .lit (.int .u8 58), .lit (.int .u8 42), .lit (.int .u8 50), .lit (.int .u8 38), .lit (.int .u8 29), .lit (.int .u8 17), .lit (.int .u8 4), .lit (.int .u8 62), .lit (.int .u8 47), .lit (.int .u8 59), .lit (.int .u8 36), .lit (.int .u8 45), .lit (.int .u8 43), .lit (.int .u8 51), .lit (.int .u8 22), .lit (.int .u8 53), .lit (.int .u8 39), .lit (.int .u8 33), .lit (.int .u8 30), .lit (.int .u8 24), .lit (.int .u8 18), .lit (.int .u8 12), .lit (.int .u8 5), .lit (.int .u8 63), .lit (.int .u8 55), .lit (.int .u8 48), .lit (.int .u8 27), .lit (.int .u8 60), .lit (.int .u8 41), .lit (.int .u8 37), .lit (.int .u8 16), .lit (.int .u8 46), .lit (.int .u8 35), .lit (.int .u8 44), .lit (.int .u8 21), .lit (.int .u8 52), .lit (.int .u8 32), .lit (.int .u8 23), .lit (.int .u8 11), .lit (.int .u8 54), .lit (.int .u8 26), .lit (.int .u8 40), .lit (.int .u8 15), .lit (.int .u8 34), .lit (.int .u8 20), .lit (.int .u8 31), .lit (.int .u8 10), .lit (.int .u8 25), .lit (.int .u8 14), .lit (.int .u8 19), .lit (.int .u8 9), .lit (.int .u8 13), .lit (.int .u8 8), .lit (.int .u8 7), .lit (.int .u8 6)]
def laid_internal_strconv_uint64pow10 {H : Type} : DataW H := .agg [.lit (.int .u64 1), .lit (.int .u64 10), .lit (.int .u64 100), .lit (.int .u64 1000), .lit (.int .u64 10000), .lit (.int .u64 100000), .lit (.int .u64 1000000), .lit (.int .u64 10000000), .lit (.int .u64 100000000), .lit (.int .u64 1000000000), .lit (.int .u64 10000000000), .lit (.int .u64 100000000000), .lit (.int .u64 1000000000000), .lit (.int .u64 10000000000000), .lit (.int .u64 100000000000000), .lit (.int .u64 1000000000000000), .lit (.int .u64 10000000000000000), .lit (.int .u64 100000000000000000), .lit (.int .u64 1000000000000000000), .lit (.int .u64 10000000000000000000)]

/-- 'lorrylaw47.PrefixAll': WHATEVER THE INPUT: true; the input reads as it did. -/
def prefixAllSpec : ChangeSpec := { name := "prefixAll", fn := fun _ => fun
  | [d1, d2, d3] => { results := [.lit (.bool true)], args := [d1, d2, d3] }
  | _ => none }
def prefixAllRow : OpenClaim := { program := "ytoedkepcaigkeaagreatdoor", sum := "89f09a8c291a5eca846e1df3528e357449f1874ce89f5deaca6d463224b24f39", func := "lorry/lorrylaw47.PrefixAll", spec := "prefixAll", unfollowed := true, recurses := true, named := ["internal/strconv.uint64pow10", "math/bits.deBruijn32tab", "math/bits.deBruijn64tab"], apart := false, laid := [("math/bits.deBruijn32tab", laid_math_bits_deBruijn32tab), ("math/bits.deBruijn64tab", laid_math_bits_deBruijn64tab), ("internal/strconv.uint64pow10", laid_internal_strconv_uint64pow10)] }
def PrefixAllSaid : Prop := prefixAllRow.holds Tryz.pinned (OpenSpec.ofChange prefixAllSpec)

/-- ITS FALSE NEIGHBOUR: 'it returns false'. Refute it at one input. -/
def prefixAllWrong : ChangeSpec := { name := "prefixAll", fn := fun _ => fun
  | [d1, d2, d3] => { results := [.lit (.bool false)], args := [d1, d2, d3] }
  | _ => none }
def PrefixAllWrongFalsely : Prop := prefixAllRow.holds Tryz.pinned (OpenSpec.ofChange prefixAllWrong)

/-- 'lorrylaw47.PrefixLeast': WHATEVER THE INPUT: true; the input reads as it did. -/
def prefixLeastSpec : ChangeSpec := { name := "prefixLeast", fn := fun _ => fun
  | [d1, d2, d3] => { results := [.lit (.bool true)], args := [d1, d2, d3] }
  | _ => none }
def prefixLeastRow : OpenClaim := { program := "ytoedkepcaigkeaagreatdoor", sum := "89f09a8c291a5eca846e1df3528e357449f1874ce89f5deaca6d463224b24f39", func := "lorry/lorrylaw47.PrefixLeast", spec := "prefixLeast", unfollowed := true, recurses := true, named := ["internal/strconv.uint64pow10", "math/bits.deBruijn32tab", "math/bits.deBruijn64tab"], apart := false, laid := [("math/bits.deBruijn32tab", laid_math_bits_deBruijn32tab), ("math/bits.deBruijn64tab", laid_math_bits_deBruijn64tab), ("internal/strconv.uint64pow10", laid_internal_strconv_uint64pow10)] }
def PrefixLeastSaid : Prop := prefixLeastRow.holds Tryz.pinned (OpenSpec.ofChange prefixLeastSpec)

/-- ITS FALSE NEIGHBOUR: 'it returns false'. Refute it at one input. -/
def prefixLeastWrong : ChangeSpec := { name := "prefixLeast", fn := fun _ => fun
  | [d1, d2, d3] => { results := [.lit (.bool false)], args := [d1, d2, d3] }
  | _ => none }
def PrefixLeastWrongFalsely : Prop := prefixLeastRow.holds Tryz.pinned (OpenSpec.ofChange prefixLeastWrong)

/-- 'lorrylaw47.PrefixLonger': WHATEVER THE INPUT: true; the input reads as it did. -/
def prefixLongerSpec : ChangeSpec := { name := "prefixLonger", fn := fun _ => fun
  | [d1, d2, d3] => { results := [.lit (.bool true)], args := [d1, d2, d3] }
  | _ => none }
def prefixLongerRow : OpenClaim := { program := "ytoedkepcaigkeaagreatdoor", sum := "89f09a8c291a5eca846e1df3528e357449f1874ce89f5deaca6d463224b24f39", func := "lorry/lorrylaw47.PrefixLonger", spec := "prefixLonger", unfollowed := true, recurses := true, named := ["internal/strconv.uint64pow10", "math/bits.deBruijn32tab", "math/bits.deBruijn64tab"], apart := false, laid := [("math/bits.deBruijn32tab", laid_math_bits_deBruijn32tab), ("math/bits.deBruijn64tab", laid_math_bits_deBruijn64tab), ("internal/strconv.uint64pow10", laid_internal_strconv_uint64pow10)] }
def PrefixLongerSaid : Prop := prefixLongerRow.holds Tryz.pinned (OpenSpec.ofChange prefixLongerSpec)

/-- ITS FALSE NEIGHBOUR: 'it returns false'. Refute it at one input. -/
def prefixLongerWrong : ChangeSpec := { name := "prefixLonger", fn := fun _ => fun
  | [d1, d2, d3] => { results := [.lit (.bool false)], args := [d1, d2, d3] }
  | _ => none }
def PrefixLongerWrongFalsely : Prop := prefixLongerRow.holds Tryz.pinned (OpenSpec.ofChange prefixLongerWrong)

/-- 'lorrylaw22.BestFinds': WHATEVER THE INPUT: true; the input reads as it did. -/
def bestFindsSpec : ChangeSpec := { name := "bestFinds", fn := fun _ => fun
  | [d1, d2, d3] => { results := [.lit (.bool true)], args := [d1, d2, d3] }
  | _ => none }
def bestFindsRow : OpenClaim := { program := "ytoedkepcaigkeaagreatdoor", sum := "89f09a8c291a5eca846e1df3528e357449f1874ce89f5deaca6d463224b24f39", func := "lorry/lorrylaw22.BestFinds", spec := "bestFinds", unfollowed := true, recurses := true, named := ["internal/strconv.uint64pow10", "math/bits.deBruijn32tab", "math/bits.deBruijn64tab"], apart := false, laid := [("math/bits.deBruijn32tab", laid_math_bits_deBruijn32tab), ("math/bits.deBruijn64tab", laid_math_bits_deBruijn64tab), ("internal/strconv.uint64pow10", laid_internal_strconv_uint64pow10)] }
def BestFindsSaid : Prop := bestFindsRow.holds Tryz.pinned (OpenSpec.ofChange bestFindsSpec)

/-- ITS FALSE NEIGHBOUR: 'it returns false'. Refute it at one input. -/
def bestFindsWrong : ChangeSpec := { name := "bestFinds", fn := fun _ => fun
  | [d1, d2, d3] => { results := [.lit (.bool false)], args := [d1, d2, d3] }
  | _ => none }
def BestFindsWrongFalsely : Prop := bestFindsRow.holds Tryz.pinned (OpenSpec.ofChange bestFindsWrong)

/-- 'lorrylaw22.BestAll': WHATEVER THE INPUT: true; the input reads as it did. -/
def bestAllSpec : ChangeSpec := { name := "bestAll", fn := fun _ => fun
  | [d] => { results := [.lit (.bool true)], args := [d] }
  | _ => none }
def bestAllRow : OpenClaim := { program := "ytoedkepcaigkeaagreatdoor", sum := "89f09a8c291a5eca846e1df3528e357449f1874ce89f5deaca6d463224b24f39", func := "lorry/lorrylaw22.BestAll", spec := "bestAll", unfollowed := true, recurses := true, named := ["internal/strconv.uint64pow10", "math/bits.deBruijn32tab", "math/bits.deBruijn64tab"], apart := false, laid := [("math/bits.deBruijn32tab", laid_math_bits_deBruijn32tab), ("math/bits.deBruijn64tab", laid_math_bits_deBruijn64tab), ("internal/strconv.uint64pow10", laid_internal_strconv_uint64pow10)] }
def BestAllSaid : Prop := bestAllRow.holds Tryz.pinned (OpenSpec.ofChange bestAllSpec)

/-- ITS FALSE NEIGHBOUR: 'it returns false'. Refute it at one input. -/
def bestAllWrong : ChangeSpec := { name := "bestAll", fn := fun _ => fun
  | [d] => { results := [.lit (.bool false)], args := [d] }
  | _ => none }
def BestAllWrongFalsely : Prop := bestAllRow.holds Tryz.pinned (OpenSpec.ofChange bestAllWrong)

/-- 'lorrylaw22.BestCheapest': WHATEVER THE INPUT: true; the input reads as it did. -/
def bestCheapestSpec : ChangeSpec := { name := "bestCheapest", fn := fun _ => fun
  | [d1, d2] => { results := [.lit (.bool true)], args := [d1, d2] }
  | _ => none }
def bestCheapestRow : OpenClaim := { program := "ytoedkepcaigkeaagreatdoor", sum := "89f09a8c291a5eca846e1df3528e357449f1874ce89f5deaca6d463224b24f39", func := "lorry/lorrylaw22.BestCheapest", spec := "bestCheapest", unfollowed := true, recurses := true, named := ["internal/strconv.uint64pow10", "math/bits.deBruijn32tab", "math/bits.deBruijn64tab"], apart := false, laid := [("math/bits.deBruijn32tab", laid_math_bits_deBruijn32tab), ("math/bits.deBruijn64tab", laid_math_bits_deBruijn64tab), ("internal/strconv.uint64pow10", laid_internal_strconv_uint64pow10)] }
def BestCheapestSaid : Prop := bestCheapestRow.holds Tryz.pinned (OpenSpec.ofChange bestCheapestSpec)

/-- ITS FALSE NEIGHBOUR: 'it returns false'. Refute it at one input. -/
def bestCheapestWrong : ChangeSpec := { name := "bestCheapest", fn := fun _ => fun
  | [d1, d2] => { results := [.lit (.bool false)], args := [d1, d2] }
  | _ => none }
def BestCheapestWrongFalsely : Prop := bestCheapestRow.holds Tryz.pinned (OpenSpec.ofChange bestCheapestWrong)

/-- 'lorrylaw22.BestEach': WHATEVER THE INPUT: true; the input reads as it did. -/
def bestEachSpec : ChangeSpec := { name := "bestEach", fn := fun _ => fun
  | [d] => { results := [.lit (.bool true)], args := [d] }
  | _ => none }
def bestEachRow : OpenClaim := { program := "ytoedkepcaigkeaagreatdoor", sum := "89f09a8c291a5eca846e1df3528e357449f1874ce89f5deaca6d463224b24f39", func := "lorry/lorrylaw22.BestEach", spec := "bestEach", unfollowed := true, recurses := true, named := ["internal/strconv.uint64pow10", "math/bits.deBruijn32tab", "math/bits.deBruijn64tab"], apart := false, laid := [("math/bits.deBruijn32tab", laid_math_bits_deBruijn32tab), ("math/bits.deBruijn64tab", laid_math_bits_deBruijn64tab), ("internal/strconv.uint64pow10", laid_internal_strconv_uint64pow10)] }
def BestEachSaid : Prop := bestEachRow.holds Tryz.pinned (OpenSpec.ofChange bestEachSpec)

/-- ITS FALSE NEIGHBOUR: 'it returns false'. Refute it at one input. -/
def bestEachWrong : ChangeSpec := { name := "bestEach", fn := fun _ => fun
  | [d] => { results := [.lit (.bool false)], args := [d] }
  | _ => none }
def BestEachWrongFalsely : Prop := bestEachRow.holds Tryz.pinned (OpenSpec.ofChange bestEachWrong)

/-- 'lorrylaw22.BestOrders': WHATEVER THE INPUT: true; the input reads as it did. -/
def bestOrdersSpec : ChangeSpec := { name := "bestOrders", fn := fun _ => fun
  | [d1, d2] => { results := [.lit (.bool true)], args := [d1, d2] }
  | _ => none }
def bestOrdersRow : OpenClaim := { program := "ytoedkepcaigkeaagreatdoor", sum := "89f09a8c291a5eca846e1df3528e357449f1874ce89f5deaca6d463224b24f39", func := "lorry/lorrylaw22.BestOrders", spec := "bestOrders", unfollowed := true, recurses := true, named := ["internal/strconv.uint64pow10", "math/bits.deBruijn32tab", "math/bits.deBruijn64tab"], apart := false, laid := [("math/bits.deBruijn32tab", laid_math_bits_deBruijn32tab), ("math/bits.deBruijn64tab", laid_math_bits_deBruijn64tab), ("internal/strconv.uint64pow10", laid_internal_strconv_uint64pow10)] }
def BestOrdersSaid : Prop := bestOrdersRow.holds Tryz.pinned (OpenSpec.ofChange bestOrdersSpec)

/-- ITS FALSE NEIGHBOUR: 'it returns false'. Refute it at one input. -/
def bestOrdersWrong : ChangeSpec := { name := "bestOrders", fn := fun _ => fun
  | [d1, d2] => { results := [.lit (.bool false)], args := [d1, d2] }
  | _ => none }
def BestOrdersWrongFalsely : Prop := bestOrdersRow.holds Tryz.pinned (OpenSpec.ofChange bestOrdersWrong)

/-- 'lorrylaw47.PrefixBest': WHATEVER THE INPUT: true; the input reads as it did. -/
def prefixBestSpec : ChangeSpec := { name := "prefixBest", fn := fun _ => fun
  | [d1, d2, d3, d4] => { results := [.lit (.bool true)], args := [d1, d2, d3, d4] }
  | _ => none }
def prefixBestRow : OpenClaim := { program := "ytoedkepcaigkeaagreatdoor", sum := "89f09a8c291a5eca846e1df3528e357449f1874ce89f5deaca6d463224b24f39", func := "lorry/lorrylaw47.PrefixBest", spec := "prefixBest", unfollowed := true, recurses := true, named := ["internal/strconv.uint64pow10", "math/bits.deBruijn32tab", "math/bits.deBruijn64tab"], apart := false, laid := [("math/bits.deBruijn32tab", laid_math_bits_deBruijn32tab), ("math/bits.deBruijn64tab", laid_math_bits_deBruijn64tab), ("internal/strconv.uint64pow10", laid_internal_strconv_uint64pow10)] }
def PrefixBestSaid : Prop := prefixBestRow.holds Tryz.pinned (OpenSpec.ofChange prefixBestSpec)

/-- ITS FALSE NEIGHBOUR: 'it returns false'. Refute it at one input. -/
def prefixBestWrong : ChangeSpec := { name := "prefixBest", fn := fun _ => fun
  | [d1, d2, d3, d4] => { results := [.lit (.bool false)], args := [d1, d2, d3, d4] }
  | _ => none }
def PrefixBestWrongFalsely : Prop := prefixBestRow.holds Tryz.pinned (OpenSpec.ofChange prefixBestWrong)

/-- 'lorrylaw47.PrefixNone': WHATEVER THE INPUT: true; the input reads as it did. -/
def prefixNoneSpec : ChangeSpec := { name := "prefixNone", fn := fun _ => fun
  | [d1, d2, d3] => { results := [.lit (.bool true)], args := [d1, d2, d3] }
  | _ => none }
def prefixNoneRow : OpenClaim := { program := "ytoedkepcaigkeaagreatdoor", sum := "89f09a8c291a5eca846e1df3528e357449f1874ce89f5deaca6d463224b24f39", func := "lorry/lorrylaw47.PrefixNone", spec := "prefixNone", unfollowed := true, recurses := true, named := ["internal/strconv.uint64pow10", "math/bits.deBruijn32tab", "math/bits.deBruijn64tab"], apart := false, laid := [("math/bits.deBruijn32tab", laid_math_bits_deBruijn32tab), ("math/bits.deBruijn64tab", laid_math_bits_deBruijn64tab), ("internal/strconv.uint64pow10", laid_internal_strconv_uint64pow10)] }
def PrefixNoneSaid : Prop := prefixNoneRow.holds Tryz.pinned (OpenSpec.ofChange prefixNoneSpec)

/-- ITS FALSE NEIGHBOUR: 'it returns false'. Refute it at one input. -/
def prefixNoneWrong : ChangeSpec := { name := "prefixNone", fn := fun _ => fun
  | [d1, d2, d3] => { results := [.lit (.bool false)], args := [d1, d2, d3] }
  | _ => none }
def PrefixNoneWrongFalsely : Prop := prefixNoneRow.holds Tryz.pinned (OpenSpec.ofChange prefixNoneWrong)

/- THE SECOND FORM. 'bulk': how many values and letters a reading holds, each counted each time it is reached (what is shared counts as often as it is met; a slice's spare places count too). A statement '..UptoSaid' is the law's where the arguments, and the package variables that the reading takes, are together of bulk at most 1048576: NARROWER than '..Said'. Prove '..Said' where nothing that the law and all that it calls make is longer than what came in: it says more and counts as full. Else prove '..UptoSaid'. A law counts once. -/
mutual
def uptoBulk {H : Type} : DataW H → Nat
  | .lit (.string bytes) => bytes.length + 1
  | .lit _ => 1
  | .nil => 1
  | .ptr d => uptoBulk d + 1
  | .slice elems spare => uptoBulkAll elems + uptoBulkAll spare + 1
  | .agg parts => uptoBulkAll parts + 1
  | .iface _ d => uptoBulk d + 1
  | .map entries => uptoBulkEntries entries + 1
  | .held _ => 1
def uptoBulkAll {H : Type} : List (DataW H) → Nat
  | [] => 0
  | d :: r => uptoBulk d + uptoBulkAll r
def uptoBulkEntries {H : Type} : List (Lit × DataW H) → Nat
  | [] => 0
  | x :: r => uptoBulkEntry x + uptoBulkEntries r
def uptoBulkEntry {H : Type} : Lit × DataW H → Nat
  | (.string bytes, d) => bytes.length + uptoBulk d + 1
  | (_, d) => uptoBulk d + 1
 end
def uptoSmall : (H : Type) → List (DataW H) → Bool := fun _ ds => decide (uptoBulkAll ds ≤ 1048576)
def OpenSpec.upto (s : _root_.Go.ChangeSpec) : _root_.Go.OpenSpec := { _root_.Go.OpenSpec.ofChange s with cond := some uptoSmall }

/-- 'lorrylaw47.PrefixAll', WHERE WHAT IT READS IS OF BULK AT MOST 1048576: true; the input reads as it did. -/
def prefixAllUptoRow : OpenClaim := { program := "ytoedkepcaigkeaagreatdoor", sum := "89f09a8c291a5eca846e1df3528e357449f1874ce89f5deaca6d463224b24f39", func := "lorry/lorrylaw47.PrefixAll", spec := "prefixAll", unfollowed := true, recurses := true, named := ["internal/strconv.uint64pow10", "math/bits.deBruijn32tab", "math/bits.deBruijn64tab"], apart := false, laid := [("math/bits.deBruijn32tab", laid_math_bits_deBruijn32tab), ("math/bits.deBruijn64tab", laid_math_bits_deBruijn64tab), ("internal/strconv.uint64pow10", laid_internal_strconv_uint64pow10)], narrowed := true }
def PrefixAllUptoSaid : Prop := prefixAllUptoRow.holds Tryz.pinned (OpenSpec.upto prefixAllSpec)

/-- 'lorrylaw47.PrefixLeast', WHERE WHAT IT READS IS OF BULK AT MOST 1048576: true; the input reads as it did. -/
def prefixLeastUptoRow : OpenClaim := { program := "ytoedkepcaigkeaagreatdoor", sum := "89f09a8c291a5eca846e1df3528e357449f1874ce89f5deaca6d463224b24f39", func := "lorry/lorrylaw47.PrefixLeast", spec := "prefixLeast", unfollowed := true, recurses := true, named := ["internal/strconv.uint64pow10", "math/bits.deBruijn32tab", "math/bits.deBruijn64tab"], apart := false, laid := [("math/bits.deBruijn32tab", laid_math_bits_deBruijn32tab), ("math/bits.deBruijn64tab", laid_math_bits_deBruijn64tab), ("internal/strconv.uint64pow10", laid_internal_strconv_uint64pow10)], narrowed := true }
def PrefixLeastUptoSaid : Prop := prefixLeastUptoRow.holds Tryz.pinned (OpenSpec.upto prefixLeastSpec)

/-- 'lorrylaw47.PrefixLonger', WHERE WHAT IT READS IS OF BULK AT MOST 1048576: true; the input reads as it did. -/
def prefixLongerUptoRow : OpenClaim := { program := "ytoedkepcaigkeaagreatdoor", sum := "89f09a8c291a5eca846e1df3528e357449f1874ce89f5deaca6d463224b24f39", func := "lorry/lorrylaw47.PrefixLonger", spec := "prefixLonger", unfollowed := true, recurses := true, named := ["internal/strconv.uint64pow10", "math/bits.deBruijn32tab", "math/bits.deBruijn64tab"], apart := false, laid := [("math/bits.deBruijn32tab", laid_math_bits_deBruijn32tab), ("math/bits.deBruijn64tab", laid_math_bits_deBruijn64tab), ("internal/strconv.uint64pow10", laid_internal_strconv_uint64pow10)], narrowed := true }
def PrefixLongerUptoSaid : Prop := prefixLongerUptoRow.holds Tryz.pinned (OpenSpec.upto prefixLongerSpec)

/-- 'lorrylaw22.BestFinds', WHERE WHAT IT READS IS OF BULK AT MOST 1048576: true; the input reads as it did. -/
def bestFindsUptoRow : OpenClaim := { program := "ytoedkepcaigkeaagreatdoor", sum := "89f09a8c291a5eca846e1df3528e357449f1874ce89f5deaca6d463224b24f39", func := "lorry/lorrylaw22.BestFinds", spec := "bestFinds", unfollowed := true, recurses := true, named := ["internal/strconv.uint64pow10", "math/bits.deBruijn32tab", "math/bits.deBruijn64tab"], apart := false, laid := [("math/bits.deBruijn32tab", laid_math_bits_deBruijn32tab), ("math/bits.deBruijn64tab", laid_math_bits_deBruijn64tab), ("internal/strconv.uint64pow10", laid_internal_strconv_uint64pow10)], narrowed := true }
def BestFindsUptoSaid : Prop := bestFindsUptoRow.holds Tryz.pinned (OpenSpec.upto bestFindsSpec)

/-- 'lorrylaw22.BestAll', WHERE WHAT IT READS IS OF BULK AT MOST 1048576: true; the input reads as it did. -/
def bestAllUptoRow : OpenClaim := { program := "ytoedkepcaigkeaagreatdoor", sum := "89f09a8c291a5eca846e1df3528e357449f1874ce89f5deaca6d463224b24f39", func := "lorry/lorrylaw22.BestAll", spec := "bestAll", unfollowed := true, recurses := true, named := ["internal/strconv.uint64pow10", "math/bits.deBruijn32tab", "math/bits.deBruijn64tab"], apart := false, laid := [("math/bits.deBruijn32tab", laid_math_bits_deBruijn32tab), ("math/bits.deBruijn64tab", laid_math_bits_deBruijn64tab), ("internal/strconv.uint64pow10", laid_internal_strconv_uint64pow10)], narrowed := true }
def BestAllUptoSaid : Prop := bestAllUptoRow.holds Tryz.pinned (OpenSpec.upto bestAllSpec)

/-- 'lorrylaw22.BestCheapest', WHERE WHAT IT READS IS OF BULK AT MOST 1048576: true; the input reads as it did. -/
def bestCheapestUptoRow : OpenClaim := { program := "ytoedkepcaigkeaagreatdoor", sum := "89f09a8c291a5eca846e1df3528e357449f1874ce89f5deaca6d463224b24f39", func := "lorry/lorrylaw22.BestCheapest", spec := "bestCheapest", unfollowed := true, recurses := true, named := ["internal/strconv.uint64pow10", "math/bits.deBruijn32tab", "math/bits.deBruijn64tab"], apart := false, laid := [("math/bits.deBruijn32tab", laid_math_bits_deBruijn32tab), ("math/bits.deBruijn64tab", laid_math_bits_deBruijn64tab), ("internal/strconv.uint64pow10", laid_internal_strconv_uint64pow10)], narrowed := true }
def BestCheapestUptoSaid : Prop := bestCheapestUptoRow.holds Tryz.pinned (OpenSpec.upto bestCheapestSpec)

/-- 'lorrylaw22.BestEach', WHERE WHAT IT READS IS OF BULK AT MOST 1048576: true; the input reads as it did. -/
def bestEachUptoRow : OpenClaim := { program := "ytoedkepcaigkeaagreatdoor", sum := "89f09a8c291a5eca846e1df3528e357449f1874ce89f5deaca6d463224b24f39", func := "lorry/lorrylaw22.BestEach", spec := "bestEach", unfollowed := true, recurses := true, named := ["internal/strconv.uint64pow10", "math/bits.deBruijn32tab", "math/bits.deBruijn64tab"], apart := false, laid := [("math/bits.deBruijn32tab", laid_math_bits_deBruijn32tab), ("math/bits.deBruijn64tab", laid_math_bits_deBruijn64tab), ("internal/strconv.uint64pow10", laid_internal_strconv_uint64pow10)], narrowed := true }
def BestEachUptoSaid : Prop := bestEachUptoRow.holds Tryz.pinned (OpenSpec.upto bestEachSpec)

/-- 'lorrylaw22.BestOrders', WHERE WHAT IT READS IS OF BULK AT MOST 1048576: true; the input reads as it did. -/
def bestOrdersUptoRow : OpenClaim := { program := "ytoedkepcaigkeaagreatdoor", sum := "89f09a8c291a5eca846e1df3528e357449f1874ce89f5deaca6d463224b24f39", func := "lorry/lorrylaw22.BestOrders", spec := "bestOrders", unfollowed := true, recurses := true, named := ["internal/strconv.uint64pow10", "math/bits.deBruijn32tab", "math/bits.deBruijn64tab"], apart := false, laid := [("math/bits.deBruijn32tab", laid_math_bits_deBruijn32tab), ("math/bits.deBruijn64tab", laid_math_bits_deBruijn64tab), ("internal/strconv.uint64pow10", laid_internal_strconv_uint64pow10)], narrowed := true }
def BestOrdersUptoSaid : Prop := bestOrdersUptoRow.holds Tryz.pinned (OpenSpec.upto bestOrdersSpec)

/-- 'lorrylaw47.PrefixBest', WHERE WHAT IT READS IS OF BULK AT MOST 1048576: true; the input reads as it did. -/
def prefixBestUptoRow : OpenClaim := { program := "ytoedkepcaigkeaagreatdoor", sum := "89f09a8c291a5eca846e1df3528e357449f1874ce89f5deaca6d463224b24f39", func := "lorry/lorrylaw47.PrefixBest", spec := "prefixBest", unfollowed := true, recurses := true, named := ["internal/strconv.uint64pow10", "math/bits.deBruijn32tab", "math/bits.deBruijn64tab"], apart := false, laid := [("math/bits.deBruijn32tab", laid_math_bits_deBruijn32tab), ("math/bits.deBruijn64tab", laid_math_bits_deBruijn64tab), ("internal/strconv.uint64pow10", laid_internal_strconv_uint64pow10)], narrowed := true }
def PrefixBestUptoSaid : Prop := prefixBestUptoRow.holds Tryz.pinned (OpenSpec.upto prefixBestSpec)

/-- 'lorrylaw47.PrefixNone', WHERE WHAT IT READS IS OF BULK AT MOST 1048576: true; the input reads as it did. -/
def prefixNoneUptoRow : OpenClaim := { program := "ytoedkepcaigkeaagreatdoor", sum := "89f09a8c291a5eca846e1df3528e357449f1874ce89f5deaca6d463224b24f39", func := "lorry/lorrylaw47.PrefixNone", spec := "prefixNone", unfollowed := true, recurses := true, named := ["internal/strconv.uint64pow10", "math/bits.deBruijn32tab", "math/bits.deBruijn64tab"], apart := false, laid := [("math/bits.deBruijn32tab", laid_math_bits_deBruijn32tab), ("math/bits.deBruijn64tab", laid_math_bits_deBruijn64tab), ("internal/strconv.uint64pow10", laid_internal_strconv_uint64pow10)], narrowed := true }
def PrefixNoneUptoSaid : Prop := prefixNoneUptoRow.holds Tryz.pinned (OpenSpec.upto prefixNoneSpec)

end Rows
end Go.Proofs.YtoedkepcaigkeaaGreatDoor
