/-
  NARROWER THAN 'FOR EVERY INPUT', by the rows' own cells (each row's printed sentence says how): FnExactCountOrders: laid · FnCountOrders: laid · FnExactRunsTogether: laid · FnExactUsedUnits: laid · FnCountOrdersChain: laid · FnUsedUnits: laid · FnUsedUnitsAll: laid · FnCountOrdersLess: laid · FnRunsTogether: laid · FnRunsTogetherOne: laid · FnRunsTogetherUnits: laid · FnStagesOfChain: laid.
  DERIVED. THE GIVEN ROWS OF THIS SEAT. 12 by the template 'for every input the law returns true; each argument reads behind the call as it read before'; 0 by the template 'total and deterministic' (their statements: YtffhdofcfkgoaaaDoorTotals.lean).
  GIVEN WITH THE SEED: the statements are not yours to turn. If you find one false, say at which input.
  Laid BY PROGRAM, IN A SANDBOX (cutbox-rows.mjs): the forced cells as the released guide's own fill.sh prints them over the translation 291025606cbaad70… (all of the seat's roots in one cut). By AI agents, Wed Nov 11 2026. No macro, syntax, notation, axiom, sorry.
-/
import Derived.Test.YtffhdofcfkgoaaaDoorChecked
import GoSem.Claim
import GoSem.ClaimJoined
import GoSem.ClaimMapViews
import Derived.JoinedTies
import Derived.KernelRfl
namespace Go.Proofs.YtffhdofcfkgoaaaDoor
/- THE CELL 'sum', in the pinned program and in every row, IS THE sha256 OF THE DUMP (.gsa) THAT YtffhdofcfkgoaaaDoorProg.lean LOADS. Nothing in Lean hashes anything: it is a label: what it is worth is what the hold of that sum in a sandbox is worth. -/
noncomputable def Tryd.pinned : Pinned := { name := "ytffhdofcfkgoaaadoor", sum := "291025606cbaad704125e7bea19dfd042da5bafc14e9691541fc77f41ea358d2", checked := Tryd.checked }
namespace Rows
def none {H : Type} : Left H := { results := [], args := [] }

/- WHAT THE LISTED PACKAGE-LEVEL VARIABLES READ AS WHEN THE CALL BEGINS. Each datum BY PROGRAM (the guide's laid-datum.mjs) off the statement by which the dump's own 'gosem.cut.vars' lays the variable. In a bare row this is a premise. The card (YtffhdofcfkgoaaaDoorCards.lean) ties it to the program's text. -/
def laid_math_bits_deBruijn32tab {H : Type} : DataW H := .agg [.lit (.int .u8 0), .lit (.int .u8 1), .lit (.int .u8 28), .lit (.int .u8 2), .lit (.int .u8 29), .lit (.int .u8 14), .lit (.int .u8 24), .lit (.int .u8 3), .lit (.int .u8 30), .lit (.int .u8 22), .lit (.int .u8 20), .lit (.int .u8 15), .lit (.int .u8 25), .lit (.int .u8 17), .lit (.int .u8 4), .lit (.int .u8 8), .lit (.int .u8 31), .lit (.int .u8 27), .lit (.int .u8 13), .lit (.int .u8 23), .lit (.int .u8 21), .lit (.int .u8 19), .lit (.int .u8 16), .lit (.int .u8 7), .lit (.int .u8 26), .lit (.int .u8 12), .lit (.int .u8 18), .lit (.int .u8 6), .lit (.int .u8 11), .lit (.int .u8 5), .lit (.int .u8 10), .lit (.int .u8 9)]

/-- 'laws.FnExactCountOrders': WHATEVER THE INPUT: true; the input reads as it did. -/
def fnExactCountOrdersSpec : ChangeSpec := { name := "fnExactCountOrders", fn := fun _ => fun
  | [d] => { results := [.lit (.bool true)], args := [d] }
  | _ => none }
def fnExactCountOrdersRow : OpenClaim := { program := "ytffhdofcfkgoaaadoor", sum := "291025606cbaad704125e7bea19dfd042da5bafc14e9691541fc77f41ea358d2", func := "loop.example/buildscheduler/laws.FnExactCountOrders", spec := "fnExactCountOrders", unfollowed := true, recurses := true, named := ["math/bits.deBruijn32tab"], apart := false, laid := [("math/bits.deBruijn32tab", laid_math_bits_deBruijn32tab)] }
def FnExactCountOrdersSaid : Prop := fnExactCountOrdersRow.holds Tryd.pinned (OpenSpec.ofChange fnExactCountOrdersSpec)

/-- ITS FALSE NEIGHBOUR: 'it returns false'. Refute it at one input. -/
def fnExactCountOrdersWrong : ChangeSpec := { name := "fnExactCountOrders", fn := fun _ => fun
  | [d] => { results := [.lit (.bool false)], args := [d] }
  | _ => none }
def FnExactCountOrdersWrongFalsely : Prop := fnExactCountOrdersRow.holds Tryd.pinned (OpenSpec.ofChange fnExactCountOrdersWrong)

/-- 'laws.FnCountOrders': WHATEVER THE INPUT: true; the input reads as it did. -/
def fnCountOrdersSpec : ChangeSpec := { name := "fnCountOrders", fn := fun _ => fun
  | [d] => { results := [.lit (.bool true)], args := [d] }
  | _ => none }
def fnCountOrdersRow : OpenClaim := { program := "ytffhdofcfkgoaaadoor", sum := "291025606cbaad704125e7bea19dfd042da5bafc14e9691541fc77f41ea358d2", func := "loop.example/buildscheduler/laws.FnCountOrders", spec := "fnCountOrders", unfollowed := true, recurses := true, named := ["math/bits.deBruijn32tab"], apart := false, laid := [("math/bits.deBruijn32tab", laid_math_bits_deBruijn32tab)] }
def FnCountOrdersSaid : Prop := fnCountOrdersRow.holds Tryd.pinned (OpenSpec.ofChange fnCountOrdersSpec)

/-- ITS FALSE NEIGHBOUR: 'it returns false'. Refute it at one input. -/
def fnCountOrdersWrong : ChangeSpec := { name := "fnCountOrders", fn := fun _ => fun
  | [d] => { results := [.lit (.bool false)], args := [d] }
  | _ => none }
def FnCountOrdersWrongFalsely : Prop := fnCountOrdersRow.holds Tryd.pinned (OpenSpec.ofChange fnCountOrdersWrong)

/-- 'laws.FnExactRunsTogether': WHATEVER THE INPUT: true; the input reads as it did. -/
def fnExactRunsTogetherSpec : ChangeSpec := { name := "fnExactRunsTogether", fn := fun _ => fun
  | [d1, d2, d3] => { results := [.lit (.bool true)], args := [d1, d2, d3] }
  | _ => none }
def fnExactRunsTogetherRow : OpenClaim := { program := "ytffhdofcfkgoaaadoor", sum := "291025606cbaad704125e7bea19dfd042da5bafc14e9691541fc77f41ea358d2", func := "loop.example/buildscheduler/laws.FnExactRunsTogether", spec := "fnExactRunsTogether", unfollowed := true, recurses := true, named := ["math/bits.deBruijn32tab"], apart := false, laid := [("math/bits.deBruijn32tab", laid_math_bits_deBruijn32tab)] }
def FnExactRunsTogetherSaid : Prop := fnExactRunsTogetherRow.holds Tryd.pinned (OpenSpec.ofChange fnExactRunsTogetherSpec)

/-- ITS FALSE NEIGHBOUR: 'it returns false'. Refute it at one input. -/
def fnExactRunsTogetherWrong : ChangeSpec := { name := "fnExactRunsTogether", fn := fun _ => fun
  | [d1, d2, d3] => { results := [.lit (.bool false)], args := [d1, d2, d3] }
  | _ => none }
def FnExactRunsTogetherWrongFalsely : Prop := fnExactRunsTogetherRow.holds Tryd.pinned (OpenSpec.ofChange fnExactRunsTogetherWrong)

/-- 'laws.FnExactUsedUnits': WHATEVER THE INPUT: true; the input reads as it did. -/
def fnExactUsedUnitsSpec : ChangeSpec := { name := "fnExactUsedUnits", fn := fun _ => fun
  | [d1, d2] => { results := [.lit (.bool true)], args := [d1, d2] }
  | _ => none }
def fnExactUsedUnitsRow : OpenClaim := { program := "ytffhdofcfkgoaaadoor", sum := "291025606cbaad704125e7bea19dfd042da5bafc14e9691541fc77f41ea358d2", func := "loop.example/buildscheduler/laws.FnExactUsedUnits", spec := "fnExactUsedUnits", unfollowed := true, recurses := true, named := ["math/bits.deBruijn32tab"], apart := false, laid := [("math/bits.deBruijn32tab", laid_math_bits_deBruijn32tab)] }
def FnExactUsedUnitsSaid : Prop := fnExactUsedUnitsRow.holds Tryd.pinned (OpenSpec.ofChange fnExactUsedUnitsSpec)

/-- ITS FALSE NEIGHBOUR: 'it returns false'. Refute it at one input. -/
def fnExactUsedUnitsWrong : ChangeSpec := { name := "fnExactUsedUnits", fn := fun _ => fun
  | [d1, d2] => { results := [.lit (.bool false)], args := [d1, d2] }
  | _ => none }
def FnExactUsedUnitsWrongFalsely : Prop := fnExactUsedUnitsRow.holds Tryd.pinned (OpenSpec.ofChange fnExactUsedUnitsWrong)

/-- 'laws.FnCountOrdersChain': WHATEVER THE INPUT: true; the input reads as it did. -/
def fnCountOrdersChainSpec : ChangeSpec := { name := "fnCountOrdersChain", fn := fun _ => fun
  | [d] => { results := [.lit (.bool true)], args := [d] }
  | _ => none }
def fnCountOrdersChainRow : OpenClaim := { program := "ytffhdofcfkgoaaadoor", sum := "291025606cbaad704125e7bea19dfd042da5bafc14e9691541fc77f41ea358d2", func := "loop.example/buildscheduler/laws.FnCountOrdersChain", spec := "fnCountOrdersChain", unfollowed := true, recurses := true, named := ["math/bits.deBruijn32tab"], apart := false, laid := [("math/bits.deBruijn32tab", laid_math_bits_deBruijn32tab)] }
def FnCountOrdersChainSaid : Prop := fnCountOrdersChainRow.holds Tryd.pinned (OpenSpec.ofChange fnCountOrdersChainSpec)

/-- ITS FALSE NEIGHBOUR: 'it returns false'. Refute it at one input. -/
def fnCountOrdersChainWrong : ChangeSpec := { name := "fnCountOrdersChain", fn := fun _ => fun
  | [d] => { results := [.lit (.bool false)], args := [d] }
  | _ => none }
def FnCountOrdersChainWrongFalsely : Prop := fnCountOrdersChainRow.holds Tryd.pinned (OpenSpec.ofChange fnCountOrdersChainWrong)

/-- 'laws.FnUsedUnits': WHATEVER THE INPUT: true; the input reads as it did. -/
def fnUsedUnitsSpec : ChangeSpec := { name := "fnUsedUnits", fn := fun _ => fun
  | [d] => { results := [.lit (.bool true)], args := [d] }
  | _ => none }
def fnUsedUnitsRow : OpenClaim := { program := "ytffhdofcfkgoaaadoor", sum := "291025606cbaad704125e7bea19dfd042da5bafc14e9691541fc77f41ea358d2", func := "loop.example/buildscheduler/laws.FnUsedUnits", spec := "fnUsedUnits", unfollowed := true, recurses := true, named := ["math/bits.deBruijn32tab"], apart := false, laid := [("math/bits.deBruijn32tab", laid_math_bits_deBruijn32tab)] }
def FnUsedUnitsSaid : Prop := fnUsedUnitsRow.holds Tryd.pinned (OpenSpec.ofChange fnUsedUnitsSpec)

/-- ITS FALSE NEIGHBOUR: 'it returns false'. Refute it at one input. -/
def fnUsedUnitsWrong : ChangeSpec := { name := "fnUsedUnits", fn := fun _ => fun
  | [d] => { results := [.lit (.bool false)], args := [d] }
  | _ => none }
def FnUsedUnitsWrongFalsely : Prop := fnUsedUnitsRow.holds Tryd.pinned (OpenSpec.ofChange fnUsedUnitsWrong)

/-- 'laws.FnUsedUnitsAll': WHATEVER THE INPUT: true; the input reads as it did. -/
def fnUsedUnitsAllSpec : ChangeSpec := { name := "fnUsedUnitsAll", fn := fun _ => fun
  | [d] => { results := [.lit (.bool true)], args := [d] }
  | _ => none }
def fnUsedUnitsAllRow : OpenClaim := { program := "ytffhdofcfkgoaaadoor", sum := "291025606cbaad704125e7bea19dfd042da5bafc14e9691541fc77f41ea358d2", func := "loop.example/buildscheduler/laws.FnUsedUnitsAll", spec := "fnUsedUnitsAll", unfollowed := true, recurses := true, named := ["math/bits.deBruijn32tab"], apart := false, laid := [("math/bits.deBruijn32tab", laid_math_bits_deBruijn32tab)] }
def FnUsedUnitsAllSaid : Prop := fnUsedUnitsAllRow.holds Tryd.pinned (OpenSpec.ofChange fnUsedUnitsAllSpec)

/-- ITS FALSE NEIGHBOUR: 'it returns false'. Refute it at one input. -/
def fnUsedUnitsAllWrong : ChangeSpec := { name := "fnUsedUnitsAll", fn := fun _ => fun
  | [d] => { results := [.lit (.bool false)], args := [d] }
  | _ => none }
def FnUsedUnitsAllWrongFalsely : Prop := fnUsedUnitsAllRow.holds Tryd.pinned (OpenSpec.ofChange fnUsedUnitsAllWrong)

/-- 'laws.FnCountOrdersLess': WHATEVER THE INPUT: true; the input reads as it did. -/
def fnCountOrdersLessSpec : ChangeSpec := { name := "fnCountOrdersLess", fn := fun _ => fun
  | [d] => { results := [.lit (.bool true)], args := [d] }
  | _ => none }
def fnCountOrdersLessRow : OpenClaim := { program := "ytffhdofcfkgoaaadoor", sum := "291025606cbaad704125e7bea19dfd042da5bafc14e9691541fc77f41ea358d2", func := "loop.example/buildscheduler/laws.FnCountOrdersLess", spec := "fnCountOrdersLess", unfollowed := true, recurses := true, named := ["math/bits.deBruijn32tab"], apart := false, laid := [("math/bits.deBruijn32tab", laid_math_bits_deBruijn32tab)] }
def FnCountOrdersLessSaid : Prop := fnCountOrdersLessRow.holds Tryd.pinned (OpenSpec.ofChange fnCountOrdersLessSpec)

/-- ITS FALSE NEIGHBOUR: 'it returns false'. Refute it at one input. -/
def fnCountOrdersLessWrong : ChangeSpec := { name := "fnCountOrdersLess", fn := fun _ => fun
  | [d] => { results := [.lit (.bool false)], args := [d] }
  | _ => none }
def FnCountOrdersLessWrongFalsely : Prop := fnCountOrdersLessRow.holds Tryd.pinned (OpenSpec.ofChange fnCountOrdersLessWrong)

/-- 'laws.FnRunsTogether': WHATEVER THE INPUT: true; the input reads as it did. -/
def fnRunsTogetherSpec : ChangeSpec := { name := "fnRunsTogether", fn := fun _ => fun
  | [d] => { results := [.lit (.bool true)], args := [d] }
  | _ => none }
def fnRunsTogetherRow : OpenClaim := { program := "ytffhdofcfkgoaaadoor", sum := "291025606cbaad704125e7bea19dfd042da5bafc14e9691541fc77f41ea358d2", func := "loop.example/buildscheduler/laws.FnRunsTogether", spec := "fnRunsTogether", unfollowed := true, recurses := true, named := ["math/bits.deBruijn32tab"], apart := false, laid := [("math/bits.deBruijn32tab", laid_math_bits_deBruijn32tab)] }
def FnRunsTogetherSaid : Prop := fnRunsTogetherRow.holds Tryd.pinned (OpenSpec.ofChange fnRunsTogetherSpec)

/-- ITS FALSE NEIGHBOUR: 'it returns false'. Refute it at one input. -/
def fnRunsTogetherWrong : ChangeSpec := { name := "fnRunsTogether", fn := fun _ => fun
  | [d] => { results := [.lit (.bool false)], args := [d] }
  | _ => none }
def FnRunsTogetherWrongFalsely : Prop := fnRunsTogetherRow.holds Tryd.pinned (OpenSpec.ofChange fnRunsTogetherWrong)

/-- 'laws.FnRunsTogetherOne': WHATEVER THE INPUT: true; the input reads as it did. -/
def fnRunsTogetherOneSpec : ChangeSpec := { name := "fnRunsTogetherOne", fn := fun _ => fun
  | [d] => { results := [.lit (.bool true)], args := [d] }
  | _ => none }
def fnRunsTogetherOneRow : OpenClaim := { program := "ytffhdofcfkgoaaadoor", sum := "291025606cbaad704125e7bea19dfd042da5bafc14e9691541fc77f41ea358d2", func := "loop.example/buildscheduler/laws.FnRunsTogetherOne", spec := "fnRunsTogetherOne", unfollowed := true, recurses := true, named := ["math/bits.deBruijn32tab"], apart := false, laid := [("math/bits.deBruijn32tab", laid_math_bits_deBruijn32tab)] }
def FnRunsTogetherOneSaid : Prop := fnRunsTogetherOneRow.holds Tryd.pinned (OpenSpec.ofChange fnRunsTogetherOneSpec)

/-- ITS FALSE NEIGHBOUR: 'it returns false'. Refute it at one input. -/
def fnRunsTogetherOneWrong : ChangeSpec := { name := "fnRunsTogetherOne", fn := fun _ => fun
  | [d] => { results := [.lit (.bool false)], args := [d] }
  | _ => none }
def FnRunsTogetherOneWrongFalsely : Prop := fnRunsTogetherOneRow.holds Tryd.pinned (OpenSpec.ofChange fnRunsTogetherOneWrong)

/-- 'laws.FnRunsTogetherUnits': WHATEVER THE INPUT: true; the input reads as it did. -/
def fnRunsTogetherUnitsSpec : ChangeSpec := { name := "fnRunsTogetherUnits", fn := fun _ => fun
  | [d] => { results := [.lit (.bool true)], args := [d] }
  | _ => none }
def fnRunsTogetherUnitsRow : OpenClaim := { program := "ytffhdofcfkgoaaadoor", sum := "291025606cbaad704125e7bea19dfd042da5bafc14e9691541fc77f41ea358d2", func := "loop.example/buildscheduler/laws.FnRunsTogetherUnits", spec := "fnRunsTogetherUnits", unfollowed := true, recurses := true, named := ["math/bits.deBruijn32tab"], apart := false, laid := [("math/bits.deBruijn32tab", laid_math_bits_deBruijn32tab)] }
def FnRunsTogetherUnitsSaid : Prop := fnRunsTogetherUnitsRow.holds Tryd.pinned (OpenSpec.ofChange fnRunsTogetherUnitsSpec)

/-- ITS FALSE NEIGHBOUR: 'it returns false'. Refute it at one input. -/
def fnRunsTogetherUnitsWrong : ChangeSpec := { name := "fnRunsTogetherUnits", fn := fun _ => fun
  | [d] => { results := [.lit (.bool false)], args := [d] }
  | _ => none }
def FnRunsTogetherUnitsWrongFalsely : Prop := fnRunsTogetherUnitsRow.holds Tryd.pinned (OpenSpec.ofChange fnRunsTogetherUnitsWrong)

/-- 'laws.FnStagesOfChain': WHATEVER THE INPUT: true; the input reads as it did. -/
def fnStagesOfChainSpec : ChangeSpec := { name := "fnStagesOfChain", fn := fun _ => fun
  | [d] => { results := [.lit (.bool true)], args := [d] }
  | _ => none }
def fnStagesOfChainRow : OpenClaim := { program := "ytffhdofcfkgoaaadoor", sum := "291025606cbaad704125e7bea19dfd042da5bafc14e9691541fc77f41ea358d2", func := "loop.example/buildscheduler/laws.FnStagesOfChain", spec := "fnStagesOfChain", unfollowed := true, recurses := true, named := ["math/bits.deBruijn32tab"], apart := false, laid := [("math/bits.deBruijn32tab", laid_math_bits_deBruijn32tab)] }
def FnStagesOfChainSaid : Prop := fnStagesOfChainRow.holds Tryd.pinned (OpenSpec.ofChange fnStagesOfChainSpec)

/-- ITS FALSE NEIGHBOUR: 'it returns false'. Refute it at one input. -/
def fnStagesOfChainWrong : ChangeSpec := { name := "fnStagesOfChain", fn := fun _ => fun
  | [d] => { results := [.lit (.bool false)], args := [d] }
  | _ => none }
def FnStagesOfChainWrongFalsely : Prop := fnStagesOfChainRow.holds Tryd.pinned (OpenSpec.ofChange fnStagesOfChainWrong)

/- THE SECOND FORM. 'bulk': how many values and letters a reading holds, each counted each time it is reached (what is shared counts as often as it is met; a slice's spare places count too). A statement '..UptoSaid' is the law's where the arguments, and the package variables that the reading takes, are together of bulk at most 1048576: NARROWER than '..Said'. Prove '..Said' where nothing that the law and all that it calls make is longer than what came in: it says more and counts as full. Else prove '..UptoSaid'. A law counts once. -/
mutual
def uptoBulk {H : Type} : DataW H → Nat
  | .lit (.string bytes) => bytes.length + 1
  | .lit _ => 1
  | .nil => 1
  | .ptr d => uptoBulk d + 1
  | .slice elems spare => uptoBulkAll elems + uptoBulkAll spare + 1
  | .agg parts => uptoBulkAll parts + 1
  | .iface _ d => uptoBulk d + 1
  | .map entries => uptoBulkEntries entries + 1
  | .held _ => 1
def uptoBulkAll {H : Type} : List (DataW H) → Nat
  | [] => 0
  | d :: r => uptoBulk d + uptoBulkAll r
def uptoBulkEntries {H : Type} : List (Lit × DataW H) → Nat
  | [] => 0
  | x :: r => uptoBulkEntry x + uptoBulkEntries r
def uptoBulkEntry {H : Type} : Lit × DataW H → Nat
  | (.string bytes, d) => bytes.length + uptoBulk d + 1
  | (_, d) => uptoBulk d + 1
 end
def uptoSmall : (H : Type) → List (DataW H) → Bool := fun _ ds => decide (uptoBulkAll ds ≤ 1048576)
def OpenSpec.upto (s : _root_.Go.ChangeSpec) : _root_.Go.OpenSpec := { _root_.Go.OpenSpec.ofChange s with cond := some uptoSmall }

/-- 'laws.FnExactCountOrders', WHERE WHAT IT READS IS OF BULK AT MOST 1048576: true; the input reads as it did. -/
def fnExactCountOrdersUptoRow : OpenClaim := { program := "ytffhdofcfkgoaaadoor", sum := "291025606cbaad704125e7bea19dfd042da5bafc14e9691541fc77f41ea358d2", func := "loop.example/buildscheduler/laws.FnExactCountOrders", spec := "fnExactCountOrders", unfollowed := true, recurses := true, named := ["math/bits.deBruijn32tab"], apart := false, laid := [("math/bits.deBruijn32tab", laid_math_bits_deBruijn32tab)], narrowed := true }
def FnExactCountOrdersUptoSaid : Prop := fnExactCountOrdersUptoRow.holds Tryd.pinned (OpenSpec.upto fnExactCountOrdersSpec)

/-- 'laws.FnCountOrders', WHERE WHAT IT READS IS OF BULK AT MOST 1048576: true; the input reads as it did. -/
def fnCountOrdersUptoRow : OpenClaim := { program := "ytffhdofcfkgoaaadoor", sum := "291025606cbaad704125e7bea19dfd042da5bafc14e9691541fc77f41ea358d2", func := "loop.example/buildscheduler/laws.FnCountOrders", spec := "fnCountOrders", unfollowed := true, recurses := true, named := ["math/bits.deBruijn32tab"], apart := false, laid := [("math/bits.deBruijn32tab", laid_math_bits_deBruijn32tab)], narrowed := true }
def FnCountOrdersUptoSaid : Prop := fnCountOrdersUptoRow.holds Tryd.pinned (OpenSpec.upto fnCountOrdersSpec)

/-- 'laws.FnExactRunsTogether', WHERE WHAT IT READS IS OF BULK AT MOST 1048576: true; the input reads as it did. -/
def fnExactRunsTogetherUptoRow : OpenClaim := { program := "ytffhdofcfkgoaaadoor", sum := "291025606cbaad704125e7bea19dfd042da5bafc14e9691541fc77f41ea358d2", func := "loop.example/buildscheduler/laws.FnExactRunsTogether", spec := "fnExactRunsTogether", unfollowed := true, recurses := true, named := ["math/bits.deBruijn32tab"], apart := false, laid := [("math/bits.deBruijn32tab", laid_math_bits_deBruijn32tab)], narrowed := true }
def FnExactRunsTogetherUptoSaid : Prop := fnExactRunsTogetherUptoRow.holds Tryd.pinned (OpenSpec.upto fnExactRunsTogetherSpec)

/-- 'laws.FnExactUsedUnits', WHERE WHAT IT READS IS OF BULK AT MOST 1048576: true; the input reads as it did. -/
def fnExactUsedUnitsUptoRow : OpenClaim := { program := "ytffhdofcfkgoaaadoor", sum := "291025606cbaad704125e7bea19dfd042da5bafc14e9691541fc77f41ea358d2", func := "loop.example/buildscheduler/laws.FnExactUsedUnits", spec := "fnExactUsedUnits", unfollowed := true, recurses := true, named := ["math/bits.deBruijn32tab"], apart := false, laid := [("math/bits.deBruijn32tab", laid_math_bits_deBruijn32tab)], narrowed := true }
def FnExactUsedUnitsUptoSaid : Prop := fnExactUsedUnitsUptoRow.holds Tryd.pinned (OpenSpec.upto fnExactUsedUnitsSpec)

/-- 'laws.FnCountOrdersChain', WHERE WHAT IT READS IS OF BULK AT MOST 1048576: true; the input reads as it did. -/
def fnCountOrdersChainUptoRow : OpenClaim := { program := "ytffhdofcfkgoaaadoor", sum := "291025606cbaad704125e7bea19dfd042da5bafc14e9691541fc77f41ea358d2", func := "loop.example/buildscheduler/laws.FnCountOrdersChain", spec := "fnCountOrdersChain", unfollowed := true, recurses := true, named := ["math/bits.deBruijn32tab"], apart := false, laid := [("math/bits.deBruijn32tab", laid_math_bits_deBruijn32tab)], narrowed := true }
def FnCountOrdersChainUptoSaid : Prop := fnCountOrdersChainUptoRow.holds Tryd.pinned (OpenSpec.upto fnCountOrdersChainSpec)

/-- 'laws.FnUsedUnits', WHERE WHAT IT READS IS OF BULK AT MOST 1048576: true; the input reads as it did. -/
def fnUsedUnitsUptoRow : OpenClaim := { program := "ytffhdofcfkgoaaadoor", sum := "291025606cbaad704125e7bea19dfd042da5bafc14e9691541fc77f41ea358d2", func := "loop.example/buildscheduler/laws.FnUsedUnits", spec := "fnUsedUnits", unfollowed := true, recurses := true, named := ["math/bits.deBruijn32tab"], apart := false, laid := [("math/bits.deBruijn32tab", laid_math_bits_deBruijn32tab)], narrowed := true }
def FnUsedUnitsUptoSaid : Prop := fnUsedUnitsUptoRow.holds Tryd.pinned (OpenSpec.upto fnUsedUnitsSpec)

/-- 'laws.FnUsedUnitsAll', WHERE WHAT IT READS IS OF BULK AT MOST 1048576: true; the input reads as it did. -/
def fnUsedUnitsAllUptoRow : OpenClaim := { program := "ytffhdofcfkgoaaadoor", sum := "291025606cbaad704125e7bea19dfd042da5bafc14e9691541fc77f41ea358d2", func := "loop.example/buildscheduler/laws.FnUsedUnitsAll", spec := "fnUsedUnitsAll", unfollowed := true, recurses := true, named := ["math/bits.deBruijn32tab"], apart := false, laid := [("math/bits.deBruijn32tab", laid_math_bits_deBruijn32tab)], narrowed := true }
def FnUsedUnitsAllUptoSaid : Prop := fnUsedUnitsAllUptoRow.holds Tryd.pinned (OpenSpec.upto fnUsedUnitsAllSpec)

/-- 'laws.FnCountOrdersLess', WHERE WHAT IT READS IS OF BULK AT MOST 1048576: true; the input reads as it did. -/
def fnCountOrdersLessUptoRow : OpenClaim := { program := "ytffhdofcfkgoaaadoor", sum := "291025606cbaad704125e7bea19dfd042da5bafc14e9691541fc77f41ea358d2", func := "loop.example/buildscheduler/laws.FnCountOrdersLess", spec := "fnCountOrdersLess", unfollowed := true, recurses := true, named := ["math/bits.deBruijn32tab"], apart := false, laid := [("math/bits.deBruijn32tab", laid_math_bits_deBruijn32tab)], narrowed := true }
def FnCountOrdersLessUptoSaid : Prop := fnCountOrdersLessUptoRow.holds Tryd.pinned (OpenSpec.upto fnCountOrdersLessSpec)

/-- 'laws.FnRunsTogether', WHERE WHAT IT READS IS OF BULK AT MOST 1048576: true; the input reads as it did. -/
def fnRunsTogetherUptoRow : OpenClaim := { program := "ytffhdofcfkgoaaadoor", sum := "291025606cbaad704125e7bea19dfd042da5bafc14e9691541fc77f41ea358d2", func := "loop.example/buildscheduler/laws.FnRunsTogether", spec := "fnRunsTogether", unfollowed := true, recurses := true, named := ["math/bits.deBruijn32tab"], apart := false, laid := [("math/bits.deBruijn32tab", laid_math_bits_deBruijn32tab)], narrowed := true }
def FnRunsTogetherUptoSaid : Prop := fnRunsTogetherUptoRow.holds Tryd.pinned (OpenSpec.upto fnRunsTogetherSpec)

/-- 'laws.FnRunsTogetherOne', WHERE WHAT IT READS IS OF BULK AT MOST 1048576: true; the input reads as it did. -/
def fnRunsTogetherOneUptoRow : OpenClaim := { program := "ytffhdofcfkgoaaadoor", sum := "291025606cbaad704125e7bea19dfd042da5bafc14e9691541fc77f41ea358d2", func := "loop.example/buildscheduler/laws.FnRunsTogetherOne", spec := "fnRunsTogetherOne", unfollowed := true, recurses := true, named := ["math/bits.deBruijn32tab"], apart := false, laid := [("math/bits.deBruijn32tab", laid_math_bits_deBruijn32tab)], narrowed := true }
def FnRunsTogetherOneUptoSaid : Prop := fnRunsTogetherOneUptoRow.holds Tryd.pinned (OpenSpec.upto fnRunsTogetherOneSpec)

/-- 'laws.FnRunsTogetherUnits', WHERE WHAT IT READS IS OF BULK AT MOST 1048576: true; the input reads as it did. -/
def fnRunsTogetherUnitsUptoRow : OpenClaim := { program := "ytffhdofcfkgoaaadoor", sum := "291025606cbaad704125e7bea19dfd042da5bafc14e9691541fc77f41ea358d2", func := "loop.example/buildscheduler/laws.FnRunsTogetherUnits", spec := "fnRunsTogetherUnits", unfollowed := true, recurses := true, named := ["math/bits.deBruijn32tab"], apart := false, laid := [("math/bits.deBruijn32tab", laid_math_bits_deBruijn32tab)], narrowed := true }
def FnRunsTogetherUnitsUptoSaid : Prop := fnRunsTogetherUnitsUptoRow.holds Tryd.pinned (OpenSpec.upto fnRunsTogetherUnitsSpec)

/-- 'laws.FnStagesOfChain', WHERE WHAT IT READS IS OF BULK AT MOST 1048576: true; the input reads as it did. -/
def fnStagesOfChainUptoRow : OpenClaim := { program := "ytffhdofcfkgoaaadoor", sum := "291025606cbaad704125e7bea19dfd042da5bafc14e9691541fc77f41ea358d2", func := "loop.example/buildscheduler/laws.FnStagesOfChain", spec := "fnStagesOfChain", unfollowed := true, recurses := true, named := ["math/bits.deBruijn32tab"], apart := false, laid := [("math/bits.deBruijn32tab", laid_math_bits_deBruijn32tab)], narrowed := true }
def FnStagesOfChainUptoSaid : Prop := fnStagesOfChainUptoRow.holds Tryd.pinned (OpenSpec.upto fnStagesOfChainSpec)

end Rows
end Go.Proofs.YtffhdofcfkgoaaaDoor
