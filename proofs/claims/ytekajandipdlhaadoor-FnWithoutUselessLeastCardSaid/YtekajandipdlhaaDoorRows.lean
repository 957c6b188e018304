/-
  NARROWER THAN 'FOR EVERY INPUT', by the rows' own cells (each row's printed sentence says how): FnExactUselessNeeds: laid · FnUselessNeeds: laid · FnWithoutUselessLeast: laid · FnExactWithoutUseless: laid · FnWithoutUseless: laid · FnLatestStartsSlack: laid · FnWaitsForAll: laid · FnFinishTask: laid · FnReadyTasksTop: laid · FnFinishTaskReady: laid · FnReadyTasks: laid · FnStagesOfDone: laid.
  DERIVED. THE GIVEN ROWS OF THIS SEAT. 12 by the template 'for every input the law returns true; each argument reads behind the call as it read before'; 0 by the template 'total and deterministic' (their statements: YtekajandipdlhaaDoorTotals.lean).
  GIVEN WITH THE SEED: the statements are not yours to turn. If you find one false, say at which input.
  Laid BY PROGRAM, IN A SANDBOX (cutbox-rows.mjs): the forced cells as the released guide's own fill.sh prints them over the translation 3f711563f2a99db9… (all of the seat's roots in one cut). By AI agents, Wed Nov 11 2026. No macro, syntax, notation, axiom, sorry.
-/
import Derived.Test.YtekajandipdlhaaDoorChecked
import GoSem.Claim
import GoSem.ClaimJoined
import GoSem.ClaimMapViews
import Derived.JoinedTies
import Derived.KernelRfl
namespace Go.Proofs.YtekajandipdlhaaDoor
/- THE CELL 'sum', in the pinned program and in every row, IS THE sha256 OF THE DUMP (.gsa) THAT YtekajandipdlhaaDoorProg.lean LOADS. Nothing in Lean hashes anything: it is a label: what it is worth is what the hold of that sum in a sandbox is worth. -/
noncomputable def Tryd.pinned : Pinned := { name := "ytekajandipdlhaadoor", sum := "3f711563f2a99db9fcee7e465c2f0bd44cb899b70c7de86f01d77b8d5896f9f3", checked := Tryd.checked }
namespace Rows
def none {H : Type} : Left H := { results := [], args := [] }

/- WHAT THE LISTED PACKAGE-LEVEL VARIABLES READ AS WHEN THE CALL BEGINS. Each datum BY PROGRAM (the guide's laid-datum.mjs) off the statement by which the dump's own 'gosem.cut.vars' lays the variable. In a bare row this is a premise. The card (YtekajandipdlhaaDoorCards.lean) ties it to the program's text. -/
def laid_math_bits_deBruijn32tab {H : Type} : DataW H := .agg [.lit (.int .u8 0), .lit (.int .u8 1), .lit (.int .u8 28), .lit (.int .u8 2), .lit (.int .u8 29), .lit (.int .u8 14), .lit (.int .u8 24), .lit (.int .u8 3), .lit (.int .u8 30), .lit (.int .u8 22), .lit (.int .u8 20), .lit (.int .u8 15), .lit (.int .u8 25), .lit (.int .u8 17), .lit (.int .u8 4), .lit (.int .u8 8), .lit (.int .u8 31), .lit (.int .u8 27), .lit (.int .u8 13), .lit (.int .u8 23), .lit (.int .u8 21), .lit (.int .u8 19), .lit (.int .u8 16), .lit (.int .u8 7), .lit (.int .u8 26), .lit (.int .u8 12), .lit (.int .u8 18), .lit (.int .u8 6), .lit (.int .u8 11), .lit (.int .u8 5), .lit (.int .u8 10), .lit (.int .u8 9)]

/-- 'laws.FnExactUselessNeeds': WHATEVER THE INPUT: true; the input reads as it did. -/
def fnExactUselessNeedsSpec : ChangeSpec := { name := "fnExactUselessNeeds", fn := fun _ => fun
  | [d] => { results := [.lit (.bool true)], args := [d] }
  | _ => none }
def fnExactUselessNeedsRow : OpenClaim := { program := "ytekajandipdlhaadoor", sum := "3f711563f2a99db9fcee7e465c2f0bd44cb899b70c7de86f01d77b8d5896f9f3", func := "loop.example/buildscheduler/laws.FnExactUselessNeeds", spec := "fnExactUselessNeeds", unfollowed := true, recurses := true, named := ["math/bits.deBruijn32tab"], apart := false, laid := [("math/bits.deBruijn32tab", laid_math_bits_deBruijn32tab)] }
def FnExactUselessNeedsSaid : Prop := fnExactUselessNeedsRow.holds Tryd.pinned (OpenSpec.ofChange fnExactUselessNeedsSpec)

/-- ITS FALSE NEIGHBOUR: 'it returns false'. Refute it at one input. -/
def fnExactUselessNeedsWrong : ChangeSpec := { name := "fnExactUselessNeeds", fn := fun _ => fun
  | [d] => { results := [.lit (.bool false)], args := [d] }
  | _ => none }
def FnExactUselessNeedsWrongFalsely : Prop := fnExactUselessNeedsRow.holds Tryd.pinned (OpenSpec.ofChange fnExactUselessNeedsWrong)

/-- 'laws.FnUselessNeeds': WHATEVER THE INPUT: true; the input reads as it did. -/
def fnUselessNeedsSpec : ChangeSpec := { name := "fnUselessNeeds", fn := fun _ => fun
  | [d] => { results := [.lit (.bool true)], args := [d] }
  | _ => none }
def fnUselessNeedsRow : OpenClaim := { program := "ytekajandipdlhaadoor", sum := "3f711563f2a99db9fcee7e465c2f0bd44cb899b70c7de86f01d77b8d5896f9f3", func := "loop.example/buildscheduler/laws.FnUselessNeeds", spec := "fnUselessNeeds", unfollowed := true, recurses := true, named := ["math/bits.deBruijn32tab"], apart := false, laid := [("math/bits.deBruijn32tab", laid_math_bits_deBruijn32tab)] }
def FnUselessNeedsSaid : Prop := fnUselessNeedsRow.holds Tryd.pinned (OpenSpec.ofChange fnUselessNeedsSpec)

/-- ITS FALSE NEIGHBOUR: 'it returns false'. Refute it at one input. -/
def fnUselessNeedsWrong : ChangeSpec := { name := "fnUselessNeeds", fn := fun _ => fun
  | [d] => { results := [.lit (.bool false)], args := [d] }
  | _ => none }
def FnUselessNeedsWrongFalsely : Prop := fnUselessNeedsRow.holds Tryd.pinned (OpenSpec.ofChange fnUselessNeedsWrong)

/-- 'laws.FnWithoutUselessLeast': WHATEVER THE INPUT: true; the input reads as it did. -/
def fnWithoutUselessLeastSpec : ChangeSpec := { name := "fnWithoutUselessLeast", fn := fun _ => fun
  | [d] => { results := [.lit (.bool true)], args := [d] }
  | _ => none }
def fnWithoutUselessLeastRow : OpenClaim := { program := "ytekajandipdlhaadoor", sum := "3f711563f2a99db9fcee7e465c2f0bd44cb899b70c7de86f01d77b8d5896f9f3", func := "loop.example/buildscheduler/laws.FnWithoutUselessLeast", spec := "fnWithoutUselessLeast", unfollowed := true, recurses := true, named := ["math/bits.deBruijn32tab"], apart := false, laid := [("math/bits.deBruijn32tab", laid_math_bits_deBruijn32tab)] }
def FnWithoutUselessLeastSaid : Prop := fnWithoutUselessLeastRow.holds Tryd.pinned (OpenSpec.ofChange fnWithoutUselessLeastSpec)

/-- ITS FALSE NEIGHBOUR: 'it returns false'. Refute it at one input. -/
def fnWithoutUselessLeastWrong : ChangeSpec := { name := "fnWithoutUselessLeast", fn := fun _ => fun
  | [d] => { results := [.lit (.bool false)], args := [d] }
  | _ => none }
def FnWithoutUselessLeastWrongFalsely : Prop := fnWithoutUselessLeastRow.holds Tryd.pinned (OpenSpec.ofChange fnWithoutUselessLeastWrong)

/-- 'laws.FnExactWithoutUseless': WHATEVER THE INPUT: true; the input reads as it did. -/
def fnExactWithoutUselessSpec : ChangeSpec := { name := "fnExactWithoutUseless", fn := fun _ => fun
  | [d] => { results := [.lit (.bool true)], args := [d] }
  | _ => none }
def fnExactWithoutUselessRow : OpenClaim := { program := "ytekajandipdlhaadoor", sum := "3f711563f2a99db9fcee7e465c2f0bd44cb899b70c7de86f01d77b8d5896f9f3", func := "loop.example/buildscheduler/laws.FnExactWithoutUseless", spec := "fnExactWithoutUseless", unfollowed := true, recurses := true, named := ["math/bits.deBruijn32tab"], apart := false, laid := [("math/bits.deBruijn32tab", laid_math_bits_deBruijn32tab)] }
def FnExactWithoutUselessSaid : Prop := fnExactWithoutUselessRow.holds Tryd.pinned (OpenSpec.ofChange fnExactWithoutUselessSpec)

/-- ITS FALSE NEIGHBOUR: 'it returns false'. Refute it at one input. -/
def fnExactWithoutUselessWrong : ChangeSpec := { name := "fnExactWithoutUseless", fn := fun _ => fun
  | [d] => { results := [.lit (.bool false)], args := [d] }
  | _ => none }
def FnExactWithoutUselessWrongFalsely : Prop := fnExactWithoutUselessRow.holds Tryd.pinned (OpenSpec.ofChange fnExactWithoutUselessWrong)

/-- 'laws.FnWithoutUseless': WHATEVER THE INPUT: true; the input reads as it did. -/
def fnWithoutUselessSpec : ChangeSpec := { name := "fnWithoutUseless", fn := fun _ => fun
  | [d] => { results := [.lit (.bool true)], args := [d] }
  | _ => none }
def fnWithoutUselessRow : OpenClaim := { program := "ytekajandipdlhaadoor", sum := "3f711563f2a99db9fcee7e465c2f0bd44cb899b70c7de86f01d77b8d5896f9f3", func := "loop.example/buildscheduler/laws.FnWithoutUseless", spec := "fnWithoutUseless", unfollowed := true, recurses := true, named := ["math/bits.deBruijn32tab"], apart := false, laid := [("math/bits.deBruijn32tab", laid_math_bits_deBruijn32tab)] }
def FnWithoutUselessSaid : Prop := fnWithoutUselessRow.holds Tryd.pinned (OpenSpec.ofChange fnWithoutUselessSpec)

/-- ITS FALSE NEIGHBOUR: 'it returns false'. Refute it at one input. -/
def fnWithoutUselessWrong : ChangeSpec := { name := "fnWithoutUseless", fn := fun _ => fun
  | [d] => { results := [.lit (.bool false)], args := [d] }
  | _ => none }
def FnWithoutUselessWrongFalsely : Prop := fnWithoutUselessRow.holds Tryd.pinned (OpenSpec.ofChange fnWithoutUselessWrong)

/-- 'laws.FnLatestStartsSlack': WHATEVER THE INPUT: true; the input reads as it did. -/
def fnLatestStartsSlackSpec : ChangeSpec := { name := "fnLatestStartsSlack", fn := fun _ => fun
  | [d] => { results := [.lit (.bool true)], args := [d] }
  | _ => none }
def fnLatestStartsSlackRow : OpenClaim := { program := "ytekajandipdlhaadoor", sum := "3f711563f2a99db9fcee7e465c2f0bd44cb899b70c7de86f01d77b8d5896f9f3", func := "loop.example/buildscheduler/laws.FnLatestStartsSlack", spec := "fnLatestStartsSlack", unfollowed := true, recurses := true, named := ["math/bits.deBruijn32tab"], apart := false, laid := [("math/bits.deBruijn32tab", laid_math_bits_deBruijn32tab)] }
def FnLatestStartsSlackSaid : Prop := fnLatestStartsSlackRow.holds Tryd.pinned (OpenSpec.ofChange fnLatestStartsSlackSpec)

/-- ITS FALSE NEIGHBOUR: 'it returns false'. Refute it at one input. -/
def fnLatestStartsSlackWrong : ChangeSpec := { name := "fnLatestStartsSlack", fn := fun _ => fun
  | [d] => { results := [.lit (.bool false)], args := [d] }
  | _ => none }
def FnLatestStartsSlackWrongFalsely : Prop := fnLatestStartsSlackRow.holds Tryd.pinned (OpenSpec.ofChange fnLatestStartsSlackWrong)

/-- 'laws.FnWaitsForAll': WHATEVER THE INPUT: true; the input reads as it did. -/
def fnWaitsForAllSpec : ChangeSpec := { name := "fnWaitsForAll", fn := fun _ => fun
  | [d] => { results := [.lit (.bool true)], args := [d] }
  | _ => none }
def fnWaitsForAllRow : OpenClaim := { program := "ytekajandipdlhaadoor", sum := "3f711563f2a99db9fcee7e465c2f0bd44cb899b70c7de86f01d77b8d5896f9f3", func := "loop.example/buildscheduler/laws.FnWaitsForAll", spec := "fnWaitsForAll", unfollowed := true, recurses := true, named := ["math/bits.deBruijn32tab"], apart := false, laid := [("math/bits.deBruijn32tab", laid_math_bits_deBruijn32tab)] }
def FnWaitsForAllSaid : Prop := fnWaitsForAllRow.holds Tryd.pinned (OpenSpec.ofChange fnWaitsForAllSpec)

/-- ITS FALSE NEIGHBOUR: 'it returns false'. Refute it at one input. -/
def fnWaitsForAllWrong : ChangeSpec := { name := "fnWaitsForAll", fn := fun _ => fun
  | [d] => { results := [.lit (.bool false)], args := [d] }
  | _ => none }
def FnWaitsForAllWrongFalsely : Prop := fnWaitsForAllRow.holds Tryd.pinned (OpenSpec.ofChange fnWaitsForAllWrong)

/-- 'laws.FnFinishTask': WHATEVER THE INPUT: true; the input reads as it did. -/
def fnFinishTaskSpec : ChangeSpec := { name := "fnFinishTask", fn := fun _ => fun
  | [d] => { results := [.lit (.bool true)], args := [d] }
  | _ => none }
def fnFinishTaskRow : OpenClaim := { program := "ytekajandipdlhaadoor", sum := "3f711563f2a99db9fcee7e465c2f0bd44cb899b70c7de86f01d77b8d5896f9f3", func := "loop.example/buildscheduler/laws.FnFinishTask", spec := "fnFinishTask", unfollowed := true, recurses := true, named := ["math/bits.deBruijn32tab"], apart := false, laid := [("math/bits.deBruijn32tab", laid_math_bits_deBruijn32tab)] }
def FnFinishTaskSaid : Prop := fnFinishTaskRow.holds Tryd.pinned (OpenSpec.ofChange fnFinishTaskSpec)

/-- ITS FALSE NEIGHBOUR: 'it returns false'. Refute it at one input. -/
def fnFinishTaskWrong : ChangeSpec := { name := "fnFinishTask", fn := fun _ => fun
  | [d] => { results := [.lit (.bool false)], args := [d] }
  | _ => none }
def FnFinishTaskWrongFalsely : Prop := fnFinishTaskRow.holds Tryd.pinned (OpenSpec.ofChange fnFinishTaskWrong)

/-- 'laws.FnReadyTasksTop': WHATEVER THE INPUT: true; the input reads as it did. -/
def fnReadyTasksTopSpec : ChangeSpec := { name := "fnReadyTasksTop", fn := fun _ => fun
  | [d] => { results := [.lit (.bool true)], args := [d] }
  | _ => none }
def fnReadyTasksTopRow : OpenClaim := { program := "ytekajandipdlhaadoor", sum := "3f711563f2a99db9fcee7e465c2f0bd44cb899b70c7de86f01d77b8d5896f9f3", func := "loop.example/buildscheduler/laws.FnReadyTasksTop", spec := "fnReadyTasksTop", unfollowed := true, recurses := true, named := ["math/bits.deBruijn32tab"], apart := false, laid := [("math/bits.deBruijn32tab", laid_math_bits_deBruijn32tab)] }
def FnReadyTasksTopSaid : Prop := fnReadyTasksTopRow.holds Tryd.pinned (OpenSpec.ofChange fnReadyTasksTopSpec)

/-- ITS FALSE NEIGHBOUR: 'it returns false'. Refute it at one input. -/
def fnReadyTasksTopWrong : ChangeSpec := { name := "fnReadyTasksTop", fn := fun _ => fun
  | [d] => { results := [.lit (.bool false)], args := [d] }
  | _ => none }
def FnReadyTasksTopWrongFalsely : Prop := fnReadyTasksTopRow.holds Tryd.pinned (OpenSpec.ofChange fnReadyTasksTopWrong)

/-- 'laws.FnFinishTaskReady': WHATEVER THE INPUT: true; the input reads as it did. -/
def fnFinishTaskReadySpec : ChangeSpec := { name := "fnFinishTaskReady", fn := fun _ => fun
  | [d] => { results := [.lit (.bool true)], args := [d] }
  | _ => none }
def fnFinishTaskReadyRow : OpenClaim := { program := "ytekajandipdlhaadoor", sum := "3f711563f2a99db9fcee7e465c2f0bd44cb899b70c7de86f01d77b8d5896f9f3", func := "loop.example/buildscheduler/laws.FnFinishTaskReady", spec := "fnFinishTaskReady", unfollowed := true, recurses := true, named := ["math/bits.deBruijn32tab"], apart := false, laid := [("math/bits.deBruijn32tab", laid_math_bits_deBruijn32tab)] }
def FnFinishTaskReadySaid : Prop := fnFinishTaskReadyRow.holds Tryd.pinned (OpenSpec.ofChange fnFinishTaskReadySpec)

/-- ITS FALSE NEIGHBOUR: 'it returns false'. Refute it at one input. -/
def fnFinishTaskReadyWrong : ChangeSpec := { name := "fnFinishTaskReady", fn := fun _ => fun
  | [d] => { results := [.lit (.bool false)], args := [d] }
  | _ => none }
def FnFinishTaskReadyWrongFalsely : Prop := fnFinishTaskReadyRow.holds Tryd.pinned (OpenSpec.ofChange fnFinishTaskReadyWrong)

/-- 'laws.FnReadyTasks': WHATEVER THE INPUT: true; the input reads as it did. -/
def fnReadyTasksSpec : ChangeSpec := { name := "fnReadyTasks", fn := fun _ => fun
  | [d] => { results := [.lit (.bool true)], args := [d] }
  | _ => none }
def fnReadyTasksRow : OpenClaim := { program := "ytekajandipdlhaadoor", sum := "3f711563f2a99db9fcee7e465c2f0bd44cb899b70c7de86f01d77b8d5896f9f3", func := "loop.example/buildscheduler/laws.FnReadyTasks", spec := "fnReadyTasks", unfollowed := true, recurses := true, named := ["math/bits.deBruijn32tab"], apart := false, laid := [("math/bits.deBruijn32tab", laid_math_bits_deBruijn32tab)] }
def FnReadyTasksSaid : Prop := fnReadyTasksRow.holds Tryd.pinned (OpenSpec.ofChange fnReadyTasksSpec)

/-- ITS FALSE NEIGHBOUR: 'it returns false'. Refute it at one input. -/
def fnReadyTasksWrong : ChangeSpec := { name := "fnReadyTasks", fn := fun _ => fun
  | [d] => { results := [.lit (.bool false)], args := [d] }
  | _ => none }
def FnReadyTasksWrongFalsely : Prop := fnReadyTasksRow.holds Tryd.pinned (OpenSpec.ofChange fnReadyTasksWrong)

/-- 'laws.FnStagesOfDone': WHATEVER THE INPUT: true; the input reads as it did. -/
def fnStagesOfDoneSpec : ChangeSpec := { name := "fnStagesOfDone", fn := fun _ => fun
  | [d] => { results := [.lit (.bool true)], args := [d] }
  | _ => none }
def fnStagesOfDoneRow : OpenClaim := { program := "ytekajandipdlhaadoor", sum := "3f711563f2a99db9fcee7e465c2f0bd44cb899b70c7de86f01d77b8d5896f9f3", func := "loop.example/buildscheduler/laws.FnStagesOfDone", spec := "fnStagesOfDone", unfollowed := true, recurses := true, named := ["math/bits.deBruijn32tab"], apart := false, laid := [("math/bits.deBruijn32tab", laid_math_bits_deBruijn32tab)] }
def FnStagesOfDoneSaid : Prop := fnStagesOfDoneRow.holds Tryd.pinned (OpenSpec.ofChange fnStagesOfDoneSpec)

/-- ITS FALSE NEIGHBOUR: 'it returns false'. Refute it at one input. -/
def fnStagesOfDoneWrong : ChangeSpec := { name := "fnStagesOfDone", fn := fun _ => fun
  | [d] => { results := [.lit (.bool false)], args := [d] }
  | _ => none }
def FnStagesOfDoneWrongFalsely : Prop := fnStagesOfDoneRow.holds Tryd.pinned (OpenSpec.ofChange fnStagesOfDoneWrong)

/- THE SECOND FORM. 'bulk': how many values and letters a reading holds, each counted each time it is reached (what is shared counts as often as it is met; a slice's spare places count too). A statement '..UptoSaid' is the law's where the arguments, and the package variables that the reading takes, are together of bulk at most 1048576: NARROWER than '..Said'. Prove '..Said' where nothing that the law and all that it calls make is longer than what came in: it says more and counts as full. Else prove '..UptoSaid'. A law counts once. -/
mutual
def uptoBulk {H : Type} : DataW H → Nat
  | .lit (.string bytes) => bytes.length + 1
  | .lit _ => 1
  | .nil => 1
  | .ptr d => uptoBulk d + 1
  | .slice elems spare => uptoBulkAll elems + uptoBulkAll spare + 1
  | .agg parts => uptoBulkAll parts + 1
  | .iface _ d => uptoBulk d + 1
  | .map entries => uptoBulkEntries entries + 1
  | .held _ => 1
def uptoBulkAll {H : Type} : List (DataW H) → Nat
  | [] => 0
  | d :: r => uptoBulk d + uptoBulkAll r
def uptoBulkEntries {H : Type} : List (Lit × DataW H) → Nat
  | [] => 0
  | x :: r => uptoBulkEntry x + uptoBulkEntries r
def uptoBulkEntry {H : Type} : Lit × DataW H → Nat
  | (.string bytes, d) => bytes.length + uptoBulk d + 1
  | (_, d) => uptoBulk d + 1
 end
def uptoSmall : (H : Type) → List (DataW H) → Bool := fun _ ds => decide (uptoBulkAll ds ≤ 1048576)
def OpenSpec.upto (s : _root_.Go.ChangeSpec) : _root_.Go.OpenSpec := { _root_.Go.OpenSpec.ofChange s with cond := some uptoSmall }

/-- 'laws.FnExactUselessNeeds', WHERE WHAT IT READS IS OF BULK AT MOST 1048576: true; the input reads as it did. -/
def fnExactUselessNeedsUptoRow : OpenClaim := { program := "ytekajandipdlhaadoor", sum := "3f711563f2a99db9fcee7e465c2f0bd44cb899b70c7de86f01d77b8d5896f9f3", func := "loop.example/buildscheduler/laws.FnExactUselessNeeds", spec := "fnExactUselessNeeds", unfollowed := true, recurses := true, named := ["math/bits.deBruijn32tab"], apart := false, laid := [("math/bits.deBruijn32tab", laid_math_bits_deBruijn32tab)], narrowed := true }
def FnExactUselessNeedsUptoSaid : Prop := fnExactUselessNeedsUptoRow.holds Tryd.pinned (OpenSpec.upto fnExactUselessNeedsSpec)

/-- 'laws.FnUselessNeeds', WHERE WHAT IT READS IS OF BULK AT MOST 1048576: true; the input reads as it did. -/
def fnUselessNeedsUptoRow : OpenClaim := { program := "ytekajandipdlhaadoor", sum := "3f711563f2a99db9fcee7e465c2f0bd44cb899b70c7de86f01d77b8d5896f9f3", func := "loop.example/buildscheduler/laws.FnUselessNeeds", spec := "fnUselessNeeds", unfollowed := true, recurses := true, named := ["math/bits.deBruijn32tab"], apart := false, laid := [("math/bits.deBruijn32tab", laid_math_bits_deBruijn32tab)], narrowed := true }
def FnUselessNeedsUptoSaid : Prop := fnUselessNeedsUptoRow.holds Tryd.pinned (OpenSpec.upto fnUselessNeedsSpec)

/-- 'laws.FnWithoutUselessLeast', WHERE WHAT IT READS IS OF BULK AT MOST 1048576: true; the input reads as it did. -/
def fnWithoutUselessLeastUptoRow : OpenClaim := { program := "ytekajandipdlhaadoor", sum := "3f711563f2a99db9fcee7e465c2f0bd44cb899b70c7de86f01d77b8d5896f9f3", func := "loop.example/buildscheduler/laws.FnWithoutUselessLeast", spec := "fnWithoutUselessLeast", unfollowed := true, recurses := true, named := ["math/bits.deBruijn32tab"], apart := false, laid := [("math/bits.deBruijn32tab", laid_math_bits_deBruijn32tab)], narrowed := true }
def FnWithoutUselessLeastUptoSaid : Prop := fnWithoutUselessLeastUptoRow.holds Tryd.pinned (OpenSpec.upto fnWithoutUselessLeastSpec)

/-- 'laws.FnExactWithoutUseless', WHERE WHAT IT READS IS OF BULK AT MOST 1048576: true; the input reads as it did. -/
def fnExactWithoutUselessUptoRow : OpenClaim := { program := "ytekajandipdlhaadoor", sum := "3f711563f2a99db9fcee7e465c2f0bd44cb899b70c7de86f01d77b8d5896f9f3", func := "loop.example/buildscheduler/laws.FnExactWithoutUseless", spec := "fnExactWithoutUseless", unfollowed := true, recurses := true, named := ["math/bits.deBruijn32tab"], apart := false, laid := [("math/bits.deBruijn32tab", laid_math_bits_deBruijn32tab)], narrowed := true }
def FnExactWithoutUselessUptoSaid : Prop := fnExactWithoutUselessUptoRow.holds Tryd.pinned (OpenSpec.upto fnExactWithoutUselessSpec)

/-- 'laws.FnWithoutUseless', WHERE WHAT IT READS IS OF BULK AT MOST 1048576: true; the input reads as it did. -/
def fnWithoutUselessUptoRow : OpenClaim := { program := "ytekajandipdlhaadoor", sum := "3f711563f2a99db9fcee7e465c2f0bd44cb899b70c7de86f01d77b8d5896f9f3", func := "loop.example/buildscheduler/laws.FnWithoutUseless", spec := "fnWithoutUseless", unfollowed := true, recurses := true, named := ["math/bits.deBruijn32tab"], apart := false, laid := [("math/bits.deBruijn32tab", laid_math_bits_deBruijn32tab)], narrowed := true }
def FnWithoutUselessUptoSaid : Prop := fnWithoutUselessUptoRow.holds Tryd.pinned (OpenSpec.upto fnWithoutUselessSpec)

/-- 'laws.FnLatestStartsSlack', WHERE WHAT IT READS IS OF BULK AT MOST 1048576: true; the input reads as it did. -/
def fnLatestStartsSlackUptoRow : OpenClaim := { program := "ytekajandipdlhaadoor", sum := "3f711563f2a99db9fcee7e465c2f0bd44cb899b70c7de86f01d77b8d5896f9f3", func := "loop.example/buildscheduler/laws.FnLatestStartsSlack", spec := "fnLatestStartsSlack", unfollowed := true, recurses := true, named := ["math/bits.deBruijn32tab"], apart := false, laid := [("math/bits.deBruijn32tab", laid_math_bits_deBruijn32tab)], narrowed := true }
def FnLatestStartsSlackUptoSaid : Prop := fnLatestStartsSlackUptoRow.holds Tryd.pinned (OpenSpec.upto fnLatestStartsSlackSpec)

/-- 'laws.FnWaitsForAll', WHERE WHAT IT READS IS OF BULK AT MOST 1048576: true; the input reads as it did. -/
def fnWaitsForAllUptoRow : OpenClaim := { program := "ytekajandipdlhaadoor", sum := "3f711563f2a99db9fcee7e465c2f0bd44cb899b70c7de86f01d77b8d5896f9f3", func := "loop.example/buildscheduler/laws.FnWaitsForAll", spec := "fnWaitsForAll", unfollowed := true, recurses := true, named := ["math/bits.deBruijn32tab"], apart := false, laid := [("math/bits.deBruijn32tab", laid_math_bits_deBruijn32tab)], narrowed := true }
def FnWaitsForAllUptoSaid : Prop := fnWaitsForAllUptoRow.holds Tryd.pinned (OpenSpec.upto fnWaitsForAllSpec)

/-- 'laws.FnFinishTask', WHERE WHAT IT READS IS OF BULK AT MOST 1048576: true; the input reads as it did. -/
def fnFinishTaskUptoRow : OpenClaim := { program := "ytekajandipdlhaadoor", sum := "3f711563f2a99db9fcee7e465c2f0bd44cb899b70c7de86f01d77b8d5896f9f3", func := "loop.example/buildscheduler/laws.FnFinishTask", spec := "fnFinishTask", unfollowed := true, recurses := true, named := ["math/bits.deBruijn32tab"], apart := false, laid := [("math/bits.deBruijn32tab", laid_math_bits_deBruijn32tab)], narrowed := true }
def FnFinishTaskUptoSaid : Prop := fnFinishTaskUptoRow.holds Tryd.pinned (OpenSpec.upto fnFinishTaskSpec)

/-- 'laws.FnReadyTasksTop', WHERE WHAT IT READS IS OF BULK AT MOST 1048576: true; the input reads as it did. -/
def fnReadyTasksTopUptoRow : OpenClaim := { program := "ytekajandipdlhaadoor", sum := "3f711563f2a99db9fcee7e465c2f0bd44cb899b70c7de86f01d77b8d5896f9f3", func := "loop.example/buildscheduler/laws.FnReadyTasksTop", spec := "fnReadyTasksTop", unfollowed := true, recurses := true, named := ["math/bits.deBruijn32tab"], apart := false, laid := [("math/bits.deBruijn32tab", laid_math_bits_deBruijn32tab)], narrowed := true }
def FnReadyTasksTopUptoSaid : Prop := fnReadyTasksTopUptoRow.holds Tryd.pinned (OpenSpec.upto fnReadyTasksTopSpec)

/-- 'laws.FnFinishTaskReady', WHERE WHAT IT READS IS OF BULK AT MOST 1048576: true; the input reads as it did. -/
def fnFinishTaskReadyUptoRow : OpenClaim := { program := "ytekajandipdlhaadoor", sum := "3f711563f2a99db9fcee7e465c2f0bd44cb899b70c7de86f01d77b8d5896f9f3", func := "loop.example/buildscheduler/laws.FnFinishTaskReady", spec := "fnFinishTaskReady", unfollowed := true, recurses := true, named := ["math/bits.deBruijn32tab"], apart := false, laid := [("math/bits.deBruijn32tab", laid_math_bits_deBruijn32tab)], narrowed := true }
def FnFinishTaskReadyUptoSaid : Prop := fnFinishTaskReadyUptoRow.holds Tryd.pinned (OpenSpec.upto fnFinishTaskReadySpec)

/-- 'laws.FnReadyTasks', WHERE WHAT IT READS IS OF BULK AT MOST 1048576: true; the input reads as it did. -/
def fnReadyTasksUptoRow : OpenClaim := { program := "ytekajandipdlhaadoor", sum := "3f711563f2a99db9fcee7e465c2f0bd44cb899b70c7de86f01d77b8d5896f9f3", func := "loop.example/buildscheduler/laws.FnReadyTasks", spec := "fnReadyTasks", unfollowed := true, recurses := true, named := ["math/bits.deBruijn32tab"], apart := false, laid := [("math/bits.deBruijn32tab", laid_math_bits_deBruijn32tab)], narrowed := true }
def FnReadyTasksUptoSaid : Prop := fnReadyTasksUptoRow.holds Tryd.pinned (OpenSpec.upto fnReadyTasksSpec)

/-- 'laws.FnStagesOfDone', WHERE WHAT IT READS IS OF BULK AT MOST 1048576: true; the input reads as it did. -/
def fnStagesOfDoneUptoRow : OpenClaim := { program := "ytekajandipdlhaadoor", sum := "3f711563f2a99db9fcee7e465c2f0bd44cb899b70c7de86f01d77b8d5896f9f3", func := "loop.example/buildscheduler/laws.FnStagesOfDone", spec := "fnStagesOfDone", unfollowed := true, recurses := true, named := ["math/bits.deBruijn32tab"], apart := false, laid := [("math/bits.deBruijn32tab", laid_math_bits_deBruijn32tab)], narrowed := true }
def FnStagesOfDoneUptoSaid : Prop := fnStagesOfDoneUptoRow.holds Tryd.pinned (OpenSpec.upto fnStagesOfDoneSpec)

end Rows
end Go.Proofs.YtekajandipdlhaaDoor
