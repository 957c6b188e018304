/-
  NARROWER THAN 'FOR EVERY INPUT', by the rows' own cells (each row's printed sentence says how): FnLatestStarts: laid · FnLatestStartsMore: laid · FnValidDone: laid · FnExactLatestStarts: laid · FnExactReadyTasks: laid · FnExactFinishTask: laid · FnExactTimeLeft: laid · FnValidDoneNeeds: laid · FnProgressOf: laid · FnFinishTaskOrder: laid · FnReadyTasksAll: laid · FnReadyTasksFirst: laid.
  DERIVED. THE GIVEN ROWS OF THIS SEAT. 12 by the template 'for every input the law returns true; each argument reads behind the call as it read before'; 0 by the template 'total and deterministic' (their statements: YtpgfcihmgdempaaDoorTotals.lean).
  GIVEN WITH THE SEED: the statements are not yours to turn. If you find one false, say at which input.
  Laid BY PROGRAM, IN A SANDBOX (cutbox-rows.mjs): the forced cells as the released guide's own fill.sh prints them over the translation 66e8fa17023b035b… (all of the seat's roots in one cut). By AI agents, Wed Nov 11 2026. No macro, syntax, notation, axiom, sorry.
-/
import Derived.Test.YtpgfcihmgdempaaDoorChecked
import GoSem.Claim
import GoSem.ClaimJoined
import GoSem.ClaimMapViews
import Derived.JoinedTies
import Derived.KernelRfl
namespace Go.Proofs.YtpgfcihmgdempaaDoor
/- THE CELL 'sum', in the pinned program and in every row, IS THE sha256 OF THE DUMP (.gsa) THAT YtpgfcihmgdempaaDoorProg.lean LOADS. Nothing in Lean hashes anything: it is a label: what it is worth is what the hold of that sum in a sandbox is worth. -/
noncomputable def Tryd.pinned : Pinned := { name := "ytpgfcihmgdempaadoor", sum := "66e8fa17023b035b08b501ed832ad46c791b7b6a992e7b2977cef60f8d04e71d", checked := Tryd.checked }
namespace Rows
def none {H : Type} : Left H := { results := [], args := [] }

/- WHAT THE LISTED PACKAGE-LEVEL VARIABLES READ AS WHEN THE CALL BEGINS. Each datum BY PROGRAM (the guide's laid-datum.mjs) off the statement by which the dump's own 'gosem.cut.vars' lays the variable. In a bare row this is a premise. The card (YtpgfcihmgdempaaDoorCards.lean) ties it to the program's text. -/
def laid_math_bits_deBruijn32tab {H : Type} : DataW H := .agg [.lit (.int .u8 0), .lit (.int .u8 1), .lit (.int .u8 28), .lit (.int .u8 2), .lit (.int .u8 29), .lit (.int .u8 14), .lit (.int .u8 24), .lit (.int .u8 3), .lit (.int .u8 30), .lit (.int .u8 22), .lit (.int .u8 20), .lit (.int .u8 15), .lit (.int .u8 25), .lit (.int .u8 17), .lit (.int .u8 4), .lit (.int .u8 8), .lit (.int .u8 31), .lit (.int .u8 27), .lit (.int .u8 13), .lit (.int .u8 23), .lit (.int .u8 21), .lit (.int .u8 19), .lit (.int .u8 16), .lit (.int .u8 7), .lit (.int .u8 26), .lit (.int .u8 12), .lit (.int .u8 18), .lit (.int .u8 6), .lit (.int .u8 11), .lit (.int .u8 5), .lit (.int .u8 10), .lit (.int .u8 9)]

/-- 'laws.FnLatestStarts': WHATEVER THE INPUT: true; the input reads as it did. -/
def fnLatestStartsSpec : ChangeSpec := { name := "fnLatestStarts", fn := fun _ => fun
  | [d] => { results := [.lit (.bool true)], args := [d] }
  | _ => none }
def fnLatestStartsRow : OpenClaim := { program := "ytpgfcihmgdempaadoor", sum := "66e8fa17023b035b08b501ed832ad46c791b7b6a992e7b2977cef60f8d04e71d", func := "loop.example/buildscheduler/laws.FnLatestStarts", spec := "fnLatestStarts", unfollowed := true, recurses := true, named := ["math/bits.deBruijn32tab"], apart := false, laid := [("math/bits.deBruijn32tab", laid_math_bits_deBruijn32tab)] }
def FnLatestStartsSaid : Prop := fnLatestStartsRow.holds Tryd.pinned (OpenSpec.ofChange fnLatestStartsSpec)

/-- ITS FALSE NEIGHBOUR: 'it returns false'. Refute it at one input. -/
def fnLatestStartsWrong : ChangeSpec := { name := "fnLatestStarts", fn := fun _ => fun
  | [d] => { results := [.lit (.bool false)], args := [d] }
  | _ => none }
def FnLatestStartsWrongFalsely : Prop := fnLatestStartsRow.holds Tryd.pinned (OpenSpec.ofChange fnLatestStartsWrong)

/-- 'laws.FnLatestStartsMore': WHATEVER THE INPUT: true; the input reads as it did. -/
def fnLatestStartsMoreSpec : ChangeSpec := { name := "fnLatestStartsMore", fn := fun _ => fun
  | [d] => { results := [.lit (.bool true)], args := [d] }
  | _ => none }
def fnLatestStartsMoreRow : OpenClaim := { program := "ytpgfcihmgdempaadoor", sum := "66e8fa17023b035b08b501ed832ad46c791b7b6a992e7b2977cef60f8d04e71d", func := "loop.example/buildscheduler/laws.FnLatestStartsMore", spec := "fnLatestStartsMore", unfollowed := true, recurses := true, named := ["math/bits.deBruijn32tab"], apart := false, laid := [("math/bits.deBruijn32tab", laid_math_bits_deBruijn32tab)] }
def FnLatestStartsMoreSaid : Prop := fnLatestStartsMoreRow.holds Tryd.pinned (OpenSpec.ofChange fnLatestStartsMoreSpec)

/-- ITS FALSE NEIGHBOUR: 'it returns false'. Refute it at one input. -/
def fnLatestStartsMoreWrong : ChangeSpec := { name := "fnLatestStartsMore", fn := fun _ => fun
  | [d] => { results := [.lit (.bool false)], args := [d] }
  | _ => none }
def FnLatestStartsMoreWrongFalsely : Prop := fnLatestStartsMoreRow.holds Tryd.pinned (OpenSpec.ofChange fnLatestStartsMoreWrong)

/-- 'laws.FnValidDone': WHATEVER THE INPUT: true; the input reads as it did. -/
def fnValidDoneSpec : ChangeSpec := { name := "fnValidDone", fn := fun _ => fun
  | [d] => { results := [.lit (.bool true)], args := [d] }
  | _ => none }
def fnValidDoneRow : OpenClaim := { program := "ytpgfcihmgdempaadoor", sum := "66e8fa17023b035b08b501ed832ad46c791b7b6a992e7b2977cef60f8d04e71d", func := "loop.example/buildscheduler/laws.FnValidDone", spec := "fnValidDone", unfollowed := true, recurses := true, named := ["math/bits.deBruijn32tab"], apart := false, laid := [("math/bits.deBruijn32tab", laid_math_bits_deBruijn32tab)] }
def FnValidDoneSaid : Prop := fnValidDoneRow.holds Tryd.pinned (OpenSpec.ofChange fnValidDoneSpec)

/-- ITS FALSE NEIGHBOUR: 'it returns false'. Refute it at one input. -/
def fnValidDoneWrong : ChangeSpec := { name := "fnValidDone", fn := fun _ => fun
  | [d] => { results := [.lit (.bool false)], args := [d] }
  | _ => none }
def FnValidDoneWrongFalsely : Prop := fnValidDoneRow.holds Tryd.pinned (OpenSpec.ofChange fnValidDoneWrong)

/-- 'laws.FnExactLatestStarts': WHATEVER THE INPUT: true; the input reads as it did. -/
def fnExactLatestStartsSpec : ChangeSpec := { name := "fnExactLatestStarts", fn := fun _ => fun
  | [d1, d2] => { results := [.lit (.bool true)], args := [d1, d2] }
  | _ => none }
def fnExactLatestStartsRow : OpenClaim := { program := "ytpgfcihmgdempaadoor", sum := "66e8fa17023b035b08b501ed832ad46c791b7b6a992e7b2977cef60f8d04e71d", func := "loop.example/buildscheduler/laws.FnExactLatestStarts", spec := "fnExactLatestStarts", unfollowed := true, recurses := true, named := ["math/bits.deBruijn32tab"], apart := false, laid := [("math/bits.deBruijn32tab", laid_math_bits_deBruijn32tab)] }
def FnExactLatestStartsSaid : Prop := fnExactLatestStartsRow.holds Tryd.pinned (OpenSpec.ofChange fnExactLatestStartsSpec)

/-- ITS FALSE NEIGHBOUR: 'it returns false'. Refute it at one input. -/
def fnExactLatestStartsWrong : ChangeSpec := { name := "fnExactLatestStarts", fn := fun _ => fun
  | [d1, d2] => { results := [.lit (.bool false)], args := [d1, d2] }
  | _ => none }
def FnExactLatestStartsWrongFalsely : Prop := fnExactLatestStartsRow.holds Tryd.pinned (OpenSpec.ofChange fnExactLatestStartsWrong)

/-- 'laws.FnExactReadyTasks': WHATEVER THE INPUT: true; the input reads as it did. -/
def fnExactReadyTasksSpec : ChangeSpec := { name := "fnExactReadyTasks", fn := fun _ => fun
  | [d1, d2] => { results := [.lit (.bool true)], args := [d1, d2] }
  | _ => none }
def fnExactReadyTasksRow : OpenClaim := { program := "ytpgfcihmgdempaadoor", sum := "66e8fa17023b035b08b501ed832ad46c791b7b6a992e7b2977cef60f8d04e71d", func := "loop.example/buildscheduler/laws.FnExactReadyTasks", spec := "fnExactReadyTasks", unfollowed := true, recurses := true, named := ["math/bits.deBruijn32tab"], apart := false, laid := [("math/bits.deBruijn32tab", laid_math_bits_deBruijn32tab)] }
def FnExactReadyTasksSaid : Prop := fnExactReadyTasksRow.holds Tryd.pinned (OpenSpec.ofChange fnExactReadyTasksSpec)

/-- ITS FALSE NEIGHBOUR: 'it returns false'. Refute it at one input. -/
def fnExactReadyTasksWrong : ChangeSpec := { name := "fnExactReadyTasks", fn := fun _ => fun
  | [d1, d2] => { results := [.lit (.bool false)], args := [d1, d2] }
  | _ => none }
def FnExactReadyTasksWrongFalsely : Prop := fnExactReadyTasksRow.holds Tryd.pinned (OpenSpec.ofChange fnExactReadyTasksWrong)

/-- 'laws.FnExactFinishTask': WHATEVER THE INPUT: true; the input reads as it did. -/
def fnExactFinishTaskSpec : ChangeSpec := { name := "fnExactFinishTask", fn := fun _ => fun
  | [d1, d2, d3] => { results := [.lit (.bool true)], args := [d1, d2, d3] }
  | _ => none }
def fnExactFinishTaskRow : OpenClaim := { program := "ytpgfcihmgdempaadoor", sum := "66e8fa17023b035b08b501ed832ad46c791b7b6a992e7b2977cef60f8d04e71d", func := "loop.example/buildscheduler/laws.FnExactFinishTask", spec := "fnExactFinishTask", unfollowed := true, recurses := true, named := ["math/bits.deBruijn32tab"], apart := false, laid := [("math/bits.deBruijn32tab", laid_math_bits_deBruijn32tab)] }
def FnExactFinishTaskSaid : Prop := fnExactFinishTaskRow.holds Tryd.pinned (OpenSpec.ofChange fnExactFinishTaskSpec)

/-- ITS FALSE NEIGHBOUR: 'it returns false'. Refute it at one input. -/
def fnExactFinishTaskWrong : ChangeSpec := { name := "fnExactFinishTask", fn := fun _ => fun
  | [d1, d2, d3] => { results := [.lit (.bool false)], args := [d1, d2, d3] }
  | _ => none }
def FnExactFinishTaskWrongFalsely : Prop := fnExactFinishTaskRow.holds Tryd.pinned (OpenSpec.ofChange fnExactFinishTaskWrong)

/-- 'laws.FnExactTimeLeft': WHATEVER THE INPUT: true; the input reads as it did. -/
def fnExactTimeLeftSpec : ChangeSpec := { name := "fnExactTimeLeft", fn := fun _ => fun
  | [d1, d2] => { results := [.lit (.bool true)], args := [d1, d2] }
  | _ => none }
def fnExactTimeLeftRow : OpenClaim := { program := "ytpgfcihmgdempaadoor", sum := "66e8fa17023b035b08b501ed832ad46c791b7b6a992e7b2977cef60f8d04e71d", func := "loop.example/buildscheduler/laws.FnExactTimeLeft", spec := "fnExactTimeLeft", unfollowed := true, recurses := true, named := ["math/bits.deBruijn32tab"], apart := false, laid := [("math/bits.deBruijn32tab", laid_math_bits_deBruijn32tab)] }
def FnExactTimeLeftSaid : Prop := fnExactTimeLeftRow.holds Tryd.pinned (OpenSpec.ofChange fnExactTimeLeftSpec)

/-- ITS FALSE NEIGHBOUR: 'it returns false'. Refute it at one input. -/
def fnExactTimeLeftWrong : ChangeSpec := { name := "fnExactTimeLeft", fn := fun _ => fun
  | [d1, d2] => { results := [.lit (.bool false)], args := [d1, d2] }
  | _ => none }
def FnExactTimeLeftWrongFalsely : Prop := fnExactTimeLeftRow.holds Tryd.pinned (OpenSpec.ofChange fnExactTimeLeftWrong)

/-- 'laws.FnValidDoneNeeds': WHATEVER THE INPUT: true; the input reads as it did. -/
def fnValidDoneNeedsSpec : ChangeSpec := { name := "fnValidDoneNeeds", fn := fun _ => fun
  | [d] => { results := [.lit (.bool true)], args := [d] }
  | _ => none }
def fnValidDoneNeedsRow : OpenClaim := { program := "ytpgfcihmgdempaadoor", sum := "66e8fa17023b035b08b501ed832ad46c791b7b6a992e7b2977cef60f8d04e71d", func := "loop.example/buildscheduler/laws.FnValidDoneNeeds", spec := "fnValidDoneNeeds", unfollowed := true, recurses := true, named := ["math/bits.deBruijn32tab"], apart := false, laid := [("math/bits.deBruijn32tab", laid_math_bits_deBruijn32tab)] }
def FnValidDoneNeedsSaid : Prop := fnValidDoneNeedsRow.holds Tryd.pinned (OpenSpec.ofChange fnValidDoneNeedsSpec)

/-- ITS FALSE NEIGHBOUR: 'it returns false'. Refute it at one input. -/
def fnValidDoneNeedsWrong : ChangeSpec := { name := "fnValidDoneNeeds", fn := fun _ => fun
  | [d] => { results := [.lit (.bool false)], args := [d] }
  | _ => none }
def FnValidDoneNeedsWrongFalsely : Prop := fnValidDoneNeedsRow.holds Tryd.pinned (OpenSpec.ofChange fnValidDoneNeedsWrong)

/-- 'laws.FnProgressOf': WHATEVER THE INPUT: true; the input reads as it did. -/
def fnProgressOfSpec : ChangeSpec := { name := "fnProgressOf", fn := fun _ => fun
  | [d] => { results := [.lit (.bool true)], args := [d] }
  | _ => none }
def fnProgressOfRow : OpenClaim := { program := "ytpgfcihmgdempaadoor", sum := "66e8fa17023b035b08b501ed832ad46c791b7b6a992e7b2977cef60f8d04e71d", func := "loop.example/buildscheduler/laws.FnProgressOf", spec := "fnProgressOf", unfollowed := true, recurses := true, named := ["math/bits.deBruijn32tab"], apart := false, laid := [("math/bits.deBruijn32tab", laid_math_bits_deBruijn32tab)] }
def FnProgressOfSaid : Prop := fnProgressOfRow.holds Tryd.pinned (OpenSpec.ofChange fnProgressOfSpec)

/-- ITS FALSE NEIGHBOUR: 'it returns false'. Refute it at one input. -/
def fnProgressOfWrong : ChangeSpec := { name := "fnProgressOf", fn := fun _ => fun
  | [d] => { results := [.lit (.bool false)], args := [d] }
  | _ => none }
def FnProgressOfWrongFalsely : Prop := fnProgressOfRow.holds Tryd.pinned (OpenSpec.ofChange fnProgressOfWrong)

/-- 'laws.FnFinishTaskOrder': WHATEVER THE INPUT: true; the input reads as it did. -/
def fnFinishTaskOrderSpec : ChangeSpec := { name := "fnFinishTaskOrder", fn := fun _ => fun
  | [d] => { results := [.lit (.bool true)], args := [d] }
  | _ => none }
def fnFinishTaskOrderRow : OpenClaim := { program := "ytpgfcihmgdempaadoor", sum := "66e8fa17023b035b08b501ed832ad46c791b7b6a992e7b2977cef60f8d04e71d", func := "loop.example/buildscheduler/laws.FnFinishTaskOrder", spec := "fnFinishTaskOrder", unfollowed := true, recurses := true, named := ["math/bits.deBruijn32tab"], apart := false, laid := [("math/bits.deBruijn32tab", laid_math_bits_deBruijn32tab)] }
def FnFinishTaskOrderSaid : Prop := fnFinishTaskOrderRow.holds Tryd.pinned (OpenSpec.ofChange fnFinishTaskOrderSpec)

/-- ITS FALSE NEIGHBOUR: 'it returns false'. Refute it at one input. -/
def fnFinishTaskOrderWrong : ChangeSpec := { name := "fnFinishTaskOrder", fn := fun _ => fun
  | [d] => { results := [.lit (.bool false)], args := [d] }
  | _ => none }
def FnFinishTaskOrderWrongFalsely : Prop := fnFinishTaskOrderRow.holds Tryd.pinned (OpenSpec.ofChange fnFinishTaskOrderWrong)

/-- 'laws.FnReadyTasksAll': WHATEVER THE INPUT: true; the input reads as it did. -/
def fnReadyTasksAllSpec : ChangeSpec := { name := "fnReadyTasksAll", fn := fun _ => fun
  | [d] => { results := [.lit (.bool true)], args := [d] }
  | _ => none }
def fnReadyTasksAllRow : OpenClaim := { program := "ytpgfcihmgdempaadoor", sum := "66e8fa17023b035b08b501ed832ad46c791b7b6a992e7b2977cef60f8d04e71d", func := "loop.example/buildscheduler/laws.FnReadyTasksAll", spec := "fnReadyTasksAll", unfollowed := true, recurses := true, named := ["math/bits.deBruijn32tab"], apart := false, laid := [("math/bits.deBruijn32tab", laid_math_bits_deBruijn32tab)] }
def FnReadyTasksAllSaid : Prop := fnReadyTasksAllRow.holds Tryd.pinned (OpenSpec.ofChange fnReadyTasksAllSpec)

/-- ITS FALSE NEIGHBOUR: 'it returns false'. Refute it at one input. -/
def fnReadyTasksAllWrong : ChangeSpec := { name := "fnReadyTasksAll", fn := fun _ => fun
  | [d] => { results := [.lit (.bool false)], args := [d] }
  | _ => none }
def FnReadyTasksAllWrongFalsely : Prop := fnReadyTasksAllRow.holds Tryd.pinned (OpenSpec.ofChange fnReadyTasksAllWrong)

/-- 'laws.FnReadyTasksFirst': WHATEVER THE INPUT: true; the input reads as it did. -/
def fnReadyTasksFirstSpec : ChangeSpec := { name := "fnReadyTasksFirst", fn := fun _ => fun
  | [d] => { results := [.lit (.bool true)], args := [d] }
  | _ => none }
def fnReadyTasksFirstRow : OpenClaim := { program := "ytpgfcihmgdempaadoor", sum := "66e8fa17023b035b08b501ed832ad46c791b7b6a992e7b2977cef60f8d04e71d", func := "loop.example/buildscheduler/laws.FnReadyTasksFirst", spec := "fnReadyTasksFirst", unfollowed := true, recurses := true, named := ["math/bits.deBruijn32tab"], apart := false, laid := [("math/bits.deBruijn32tab", laid_math_bits_deBruijn32tab)] }
def FnReadyTasksFirstSaid : Prop := fnReadyTasksFirstRow.holds Tryd.pinned (OpenSpec.ofChange fnReadyTasksFirstSpec)

/-- ITS FALSE NEIGHBOUR: 'it returns false'. Refute it at one input. -/
def fnReadyTasksFirstWrong : ChangeSpec := { name := "fnReadyTasksFirst", fn := fun _ => fun
  | [d] => { results := [.lit (.bool false)], args := [d] }
  | _ => none }
def FnReadyTasksFirstWrongFalsely : Prop := fnReadyTasksFirstRow.holds Tryd.pinned (OpenSpec.ofChange fnReadyTasksFirstWrong)

/- THE SECOND FORM. 'bulk': how many values and letters a reading holds, each counted each time it is reached (what is shared counts as often as it is met; a slice's spare places count too). A statement '..UptoSaid' is the law's where the arguments, and the package variables that the reading takes, are together of bulk at most 1048576: NARROWER than '..Said'. Prove '..Said' where nothing that the law and all that it calls make is longer than what came in: it says more and counts as full. Else prove '..UptoSaid'. A law counts once. -/
mutual
def uptoBulk {H : Type} : DataW H → Nat
  | .lit (.string bytes) => bytes.length + 1
  | .lit _ => 1
  | .nil => 1
  | .ptr d => uptoBulk d + 1
  | .slice elems spare => uptoBulkAll elems + uptoBulkAll spare + 1
  | .agg parts => uptoBulkAll parts + 1
  | .iface _ d => uptoBulk d + 1
  | .map entries => uptoBulkEntries entries + 1
  | .held _ => 1
def uptoBulkAll {H : Type} : List (DataW H) → Nat
  | [] => 0
  | d :: r => uptoBulk d + uptoBulkAll r
def uptoBulkEntries {H : Type} : List (Lit × DataW H) → Nat
  | [] => 0
  | x :: r => uptoBulkEntry x + uptoBulkEntries r
def uptoBulkEntry {H : Type} : Lit × DataW H → Nat
  | (.string bytes, d) => bytes.length + uptoBulk d + 1
  | (_, d) => uptoBulk d + 1
 end
def uptoSmall : (H : Type) → List (DataW H) → Bool := fun _ ds => decide (uptoBulkAll ds ≤ 1048576)
def OpenSpec.upto (s : _root_.Go.ChangeSpec) : _root_.Go.OpenSpec := { _root_.Go.OpenSpec.ofChange s with cond := some uptoSmall }

/-- 'laws.FnLatestStarts', WHERE WHAT IT READS IS OF BULK AT MOST 1048576: true; the input reads as it did. -/
def fnLatestStartsUptoRow : OpenClaim := { program := "ytpgfcihmgdempaadoor", sum := "66e8fa17023b035b08b501ed832ad46c791b7b6a992e7b2977cef60f8d04e71d", func := "loop.example/buildscheduler/laws.FnLatestStarts", spec := "fnLatestStarts", unfollowed := true, recurses := true, named := ["math/bits.deBruijn32tab"], apart := false, laid := [("math/bits.deBruijn32tab", laid_math_bits_deBruijn32tab)], narrowed := true }
def FnLatestStartsUptoSaid : Prop := fnLatestStartsUptoRow.holds Tryd.pinned (OpenSpec.upto fnLatestStartsSpec)

/-- 'laws.FnLatestStartsMore', WHERE WHAT IT READS IS OF BULK AT MOST 1048576: true; the input reads as it did. -/
def fnLatestStartsMoreUptoRow : OpenClaim := { program := "ytpgfcihmgdempaadoor", sum := "66e8fa17023b035b08b501ed832ad46c791b7b6a992e7b2977cef60f8d04e71d", func := "loop.example/buildscheduler/laws.FnLatestStartsMore", spec := "fnLatestStartsMore", unfollowed := true, recurses := true, named := ["math/bits.deBruijn32tab"], apart := false, laid := [("math/bits.deBruijn32tab", laid_math_bits_deBruijn32tab)], narrowed := true }
def FnLatestStartsMoreUptoSaid : Prop := fnLatestStartsMoreUptoRow.holds Tryd.pinned (OpenSpec.upto fnLatestStartsMoreSpec)

/-- 'laws.FnValidDone', WHERE WHAT IT READS IS OF BULK AT MOST 1048576: true; the input reads as it did. -/
def fnValidDoneUptoRow : OpenClaim := { program := "ytpgfcihmgdempaadoor", sum := "66e8fa17023b035b08b501ed832ad46c791b7b6a992e7b2977cef60f8d04e71d", func := "loop.example/buildscheduler/laws.FnValidDone", spec := "fnValidDone", unfollowed := true, recurses := true, named := ["math/bits.deBruijn32tab"], apart := false, laid := [("math/bits.deBruijn32tab", laid_math_bits_deBruijn32tab)], narrowed := true }
def FnValidDoneUptoSaid : Prop := fnValidDoneUptoRow.holds Tryd.pinned (OpenSpec.upto fnValidDoneSpec)

/-- 'laws.FnExactLatestStarts', WHERE WHAT IT READS IS OF BULK AT MOST 1048576: true; the input reads as it did. -/
def fnExactLatestStartsUptoRow : OpenClaim := { program := "ytpgfcihmgdempaadoor", sum := "66e8fa17023b035b08b501ed832ad46c791b7b6a992e7b2977cef60f8d04e71d", func := "loop.example/buildscheduler/laws.FnExactLatestStarts", spec := "fnExactLatestStarts", unfollowed := true, recurses := true, named := ["math/bits.deBruijn32tab"], apart := false, laid := [("math/bits.deBruijn32tab", laid_math_bits_deBruijn32tab)], narrowed := true }
def FnExactLatestStartsUptoSaid : Prop := fnExactLatestStartsUptoRow.holds Tryd.pinned (OpenSpec.upto fnExactLatestStartsSpec)

/-- 'laws.FnExactReadyTasks', WHERE WHAT IT READS IS OF BULK AT MOST 1048576: true; the input reads as it did. -/
def fnExactReadyTasksUptoRow : OpenClaim := { program := "ytpgfcihmgdempaadoor", sum := "66e8fa17023b035b08b501ed832ad46c791b7b6a992e7b2977cef60f8d04e71d", func := "loop.example/buildscheduler/laws.FnExactReadyTasks", spec := "fnExactReadyTasks", unfollowed := true, recurses := true, named := ["math/bits.deBruijn32tab"], apart := false, laid := [("math/bits.deBruijn32tab", laid_math_bits_deBruijn32tab)], narrowed := true }
def FnExactReadyTasksUptoSaid : Prop := fnExactReadyTasksUptoRow.holds Tryd.pinned (OpenSpec.upto fnExactReadyTasksSpec)

/-- 'laws.FnExactFinishTask', WHERE WHAT IT READS IS OF BULK AT MOST 1048576: true; the input reads as it did. -/
def fnExactFinishTaskUptoRow : OpenClaim := { program := "ytpgfcihmgdempaadoor", sum := "66e8fa17023b035b08b501ed832ad46c791b7b6a992e7b2977cef60f8d04e71d", func := "loop.example/buildscheduler/laws.FnExactFinishTask", spec := "fnExactFinishTask", unfollowed := true, recurses := true, named := ["math/bits.deBruijn32tab"], apart := false, laid := [("math/bits.deBruijn32tab", laid_math_bits_deBruijn32tab)], narrowed := true }
def FnExactFinishTaskUptoSaid : Prop := fnExactFinishTaskUptoRow.holds Tryd.pinned (OpenSpec.upto fnExactFinishTaskSpec)

/-- 'laws.FnExactTimeLeft', WHERE WHAT IT READS IS OF BULK AT MOST 1048576: true; the input reads as it did. -/
def fnExactTimeLeftUptoRow : OpenClaim := { program := "ytpgfcihmgdempaadoor", sum := "66e8fa17023b035b08b501ed832ad46c791b7b6a992e7b2977cef60f8d04e71d", func := "loop.example/buildscheduler/laws.FnExactTimeLeft", spec := "fnExactTimeLeft", unfollowed := true, recurses := true, named := ["math/bits.deBruijn32tab"], apart := false, laid := [("math/bits.deBruijn32tab", laid_math_bits_deBruijn32tab)], narrowed := true }
def FnExactTimeLeftUptoSaid : Prop := fnExactTimeLeftUptoRow.holds Tryd.pinned (OpenSpec.upto fnExactTimeLeftSpec)

/-- 'laws.FnValidDoneNeeds', WHERE WHAT IT READS IS OF BULK AT MOST 1048576: true; the input reads as it did. -/
def fnValidDoneNeedsUptoRow : OpenClaim := { program := "ytpgfcihmgdempaadoor", sum := "66e8fa17023b035b08b501ed832ad46c791b7b6a992e7b2977cef60f8d04e71d", func := "loop.example/buildscheduler/laws.FnValidDoneNeeds", spec := "fnValidDoneNeeds", unfollowed := true, recurses := true, named := ["math/bits.deBruijn32tab"], apart := false, laid := [("math/bits.deBruijn32tab", laid_math_bits_deBruijn32tab)], narrowed := true }
def FnValidDoneNeedsUptoSaid : Prop := fnValidDoneNeedsUptoRow.holds Tryd.pinned (OpenSpec.upto fnValidDoneNeedsSpec)

/-- 'laws.FnProgressOf', WHERE WHAT IT READS IS OF BULK AT MOST 1048576: true; the input reads as it did. -/
def fnProgressOfUptoRow : OpenClaim := { program := "ytpgfcihmgdempaadoor", sum := "66e8fa17023b035b08b501ed832ad46c791b7b6a992e7b2977cef60f8d04e71d", func := "loop.example/buildscheduler/laws.FnProgressOf", spec := "fnProgressOf", unfollowed := true, recurses := true, named := ["math/bits.deBruijn32tab"], apart := false, laid := [("math/bits.deBruijn32tab", laid_math_bits_deBruijn32tab)], narrowed := true }
def FnProgressOfUptoSaid : Prop := fnProgressOfUptoRow.holds Tryd.pinned (OpenSpec.upto fnProgressOfSpec)

/-- 'laws.FnFinishTaskOrder', WHERE WHAT IT READS IS OF BULK AT MOST 1048576: true; the input reads as it did. -/
def fnFinishTaskOrderUptoRow : OpenClaim := { program := "ytpgfcihmgdempaadoor", sum := "66e8fa17023b035b08b501ed832ad46c791b7b6a992e7b2977cef60f8d04e71d", func := "loop.example/buildscheduler/laws.FnFinishTaskOrder", spec := "fnFinishTaskOrder", unfollowed := true, recurses := true, named := ["math/bits.deBruijn32tab"], apart := false, laid := [("math/bits.deBruijn32tab", laid_math_bits_deBruijn32tab)], narrowed := true }
def FnFinishTaskOrderUptoSaid : Prop := fnFinishTaskOrderUptoRow.holds Tryd.pinned (OpenSpec.upto fnFinishTaskOrderSpec)

/-- 'laws.FnReadyTasksAll', WHERE WHAT IT READS IS OF BULK AT MOST 1048576: true; the input reads as it did. -/
def fnReadyTasksAllUptoRow : OpenClaim := { program := "ytpgfcihmgdempaadoor", sum := "66e8fa17023b035b08b501ed832ad46c791b7b6a992e7b2977cef60f8d04e71d", func := "loop.example/buildscheduler/laws.FnReadyTasksAll", spec := "fnReadyTasksAll", unfollowed := true, recurses := true, named := ["math/bits.deBruijn32tab"], apart := false, laid := [("math/bits.deBruijn32tab", laid_math_bits_deBruijn32tab)], narrowed := true }
def FnReadyTasksAllUptoSaid : Prop := fnReadyTasksAllUptoRow.holds Tryd.pinned (OpenSpec.upto fnReadyTasksAllSpec)

/-- 'laws.FnReadyTasksFirst', WHERE WHAT IT READS IS OF BULK AT MOST 1048576: true; the input reads as it did. -/
def fnReadyTasksFirstUptoRow : OpenClaim := { program := "ytpgfcihmgdempaadoor", sum := "66e8fa17023b035b08b501ed832ad46c791b7b6a992e7b2977cef60f8d04e71d", func := "loop.example/buildscheduler/laws.FnReadyTasksFirst", spec := "fnReadyTasksFirst", unfollowed := true, recurses := true, named := ["math/bits.deBruijn32tab"], apart := false, laid := [("math/bits.deBruijn32tab", laid_math_bits_deBruijn32tab)], narrowed := true }
def FnReadyTasksFirstUptoSaid : Prop := fnReadyTasksFirstUptoRow.holds Tryd.pinned (OpenSpec.upto fnReadyTasksFirstSpec)

end Rows
end Go.Proofs.YtpgfcihmgdempaaDoor
