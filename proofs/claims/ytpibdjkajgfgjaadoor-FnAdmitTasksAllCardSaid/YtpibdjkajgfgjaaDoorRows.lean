/-
  NARROWER THAN 'FOR EVERY INPUT', by the rows' own cells (each row's printed sentence says how): FnExactAdmitTasks: laid · FnProgressOfMore: laid · FnWaitsFor: laid · FnTimeLeftLeast: laid · FnWithoutUselessTimes: laid · FnAdmitTasksFirst: laid · FnAdmitTasksMore: laid · FnAdmitTasks: laid · FnAdmitTasksAll: laid · FnTimeLeft: laid · FnExactReadyOrder: laid · FnReadyOrderLeft: laid.
  DERIVED. THE GIVEN ROWS OF THIS SEAT. 12 by the template 'for every input the law returns true; each argument reads behind the call as it read before'; 0 by the template 'total and deterministic' (their statements: YtpibdjkajgfgjaaDoorTotals.lean).
  GIVEN WITH THE SEED: the statements are not yours to turn. If you find one false, say at which input.
  Laid BY PROGRAM, IN A SANDBOX (cutbox-rows.mjs): the forced cells as the released guide's own fill.sh prints them over the translation bbe69f0081e368ee… (all of the seat's roots in one cut). By AI agents, Wed Nov 11 2026. No macro, syntax, notation, axiom, sorry.
-/
import Derived.Test.YtpibdjkajgfgjaaDoorChecked
import GoSem.Claim
import GoSem.ClaimJoined
import GoSem.ClaimMapViews
import Derived.JoinedTies
import Derived.KernelRfl
namespace Go.Proofs.YtpibdjkajgfgjaaDoor
/- THE CELL 'sum', in the pinned program and in every row, IS THE sha256 OF THE DUMP (.gsa) THAT YtpibdjkajgfgjaaDoorProg.lean LOADS. Nothing in Lean hashes anything: it is a label: what it is worth is what the hold of that sum in a sandbox is worth. -/
noncomputable def Tryd.pinned : Pinned := { name := "ytpibdjkajgfgjaadoor", sum := "bbe69f0081e368eee072256a3e85a702cc08841682a015d1fb8793843d104bd5", checked := Tryd.checked }
namespace Rows
def none {H : Type} : Left H := { results := [], args := [] }

/- WHAT THE LISTED PACKAGE-LEVEL VARIABLES READ AS WHEN THE CALL BEGINS. Each datum BY PROGRAM (the guide's laid-datum.mjs) off the statement by which the dump's own 'gosem.cut.vars' lays the variable. In a bare row this is a premise. The card (YtpibdjkajgfgjaaDoorCards.lean) ties it to the program's text. -/
def laid_math_bits_deBruijn32tab {H : Type} : DataW H := .agg [.lit (.int .u8 0), .lit (.int .u8 1), .lit (.int .u8 28), .lit (.int .u8 2), .lit (.int .u8 29), .lit (.int .u8 14), .lit (.int .u8 24), .lit (.int .u8 3), .lit (.int .u8 30), .lit (.int .u8 22), .lit (.int .u8 20), .lit (.int .u8 15), .lit (.int .u8 25), .lit (.int .u8 17), .lit (.int .u8 4), .lit (.int .u8 8), .lit (.int .u8 31), .lit (.int .u8 27), .lit (.int .u8 13), .lit (.int .u8 23), .lit (.int .u8 21), .lit (.int .u8 19), .lit (.int .u8 16), .lit (.int .u8 7), .lit (.int .u8 26), .lit (.int .u8 12), .lit (.int .u8 18), .lit (.int .u8 6), .lit (.int .u8 11), .lit (.int .u8 5), .lit (.int .u8 10), .lit (.int .u8 9)]

/-- 'laws.FnExactAdmitTasks': WHATEVER THE INPUT: true; the input reads as it did. -/
def fnExactAdmitTasksSpec : ChangeSpec := { name := "fnExactAdmitTasks", fn := fun _ => fun
  | [d1, d2, d3, d4, d5] => { results := [.lit (.bool true)], args := [d1, d2, d3, d4, d5] }
  | _ => none }
def fnExactAdmitTasksRow : OpenClaim := { program := "ytpibdjkajgfgjaadoor", sum := "bbe69f0081e368eee072256a3e85a702cc08841682a015d1fb8793843d104bd5", func := "loop.example/buildscheduler/laws.FnExactAdmitTasks", spec := "fnExactAdmitTasks", unfollowed := true, recurses := true, named := ["math/bits.deBruijn32tab"], apart := false, laid := [("math/bits.deBruijn32tab", laid_math_bits_deBruijn32tab)] }
def FnExactAdmitTasksSaid : Prop := fnExactAdmitTasksRow.holds Tryd.pinned (OpenSpec.ofChange fnExactAdmitTasksSpec)

/-- ITS FALSE NEIGHBOUR: 'it returns false'. Refute it at one input. -/
def fnExactAdmitTasksWrong : ChangeSpec := { name := "fnExactAdmitTasks", fn := fun _ => fun
  | [d1, d2, d3, d4, d5] => { results := [.lit (.bool false)], args := [d1, d2, d3, d4, d5] }
  | _ => none }
def FnExactAdmitTasksWrongFalsely : Prop := fnExactAdmitTasksRow.holds Tryd.pinned (OpenSpec.ofChange fnExactAdmitTasksWrong)

/-- 'laws.FnProgressOfMore': WHATEVER THE INPUT: true; the input reads as it did. -/
def fnProgressOfMoreSpec : ChangeSpec := { name := "fnProgressOfMore", fn := fun _ => fun
  | [d] => { results := [.lit (.bool true)], args := [d] }
  | _ => none }
def fnProgressOfMoreRow : OpenClaim := { program := "ytpibdjkajgfgjaadoor", sum := "bbe69f0081e368eee072256a3e85a702cc08841682a015d1fb8793843d104bd5", func := "loop.example/buildscheduler/laws.FnProgressOfMore", spec := "fnProgressOfMore", unfollowed := true, recurses := true, named := ["math/bits.deBruijn32tab"], apart := false, laid := [("math/bits.deBruijn32tab", laid_math_bits_deBruijn32tab)] }
def FnProgressOfMoreSaid : Prop := fnProgressOfMoreRow.holds Tryd.pinned (OpenSpec.ofChange fnProgressOfMoreSpec)

/-- ITS FALSE NEIGHBOUR: 'it returns false'. Refute it at one input. -/
def fnProgressOfMoreWrong : ChangeSpec := { name := "fnProgressOfMore", fn := fun _ => fun
  | [d] => { results := [.lit (.bool false)], args := [d] }
  | _ => none }
def FnProgressOfMoreWrongFalsely : Prop := fnProgressOfMoreRow.holds Tryd.pinned (OpenSpec.ofChange fnProgressOfMoreWrong)

/-- 'laws.FnWaitsFor': WHATEVER THE INPUT: true; the input reads as it did. -/
def fnWaitsForSpec : ChangeSpec := { name := "fnWaitsFor", fn := fun _ => fun
  | [d] => { results := [.lit (.bool true)], args := [d] }
  | _ => none }
def fnWaitsForRow : OpenClaim := { program := "ytpibdjkajgfgjaadoor", sum := "bbe69f0081e368eee072256a3e85a702cc08841682a015d1fb8793843d104bd5", func := "loop.example/buildscheduler/laws.FnWaitsFor", spec := "fnWaitsFor", unfollowed := true, recurses := true, named := ["math/bits.deBruijn32tab"], apart := false, laid := [("math/bits.deBruijn32tab", laid_math_bits_deBruijn32tab)] }
def FnWaitsForSaid : Prop := fnWaitsForRow.holds Tryd.pinned (OpenSpec.ofChange fnWaitsForSpec)

/-- ITS FALSE NEIGHBOUR: 'it returns false'. Refute it at one input. -/
def fnWaitsForWrong : ChangeSpec := { name := "fnWaitsFor", fn := fun _ => fun
  | [d] => { results := [.lit (.bool false)], args := [d] }
  | _ => none }
def FnWaitsForWrongFalsely : Prop := fnWaitsForRow.holds Tryd.pinned (OpenSpec.ofChange fnWaitsForWrong)

/-- 'laws.FnTimeLeftLeast': WHATEVER THE INPUT: true; the input reads as it did. -/
def fnTimeLeftLeastSpec : ChangeSpec := { name := "fnTimeLeftLeast", fn := fun _ => fun
  | [d] => { results := [.lit (.bool true)], args := [d] }
  | _ => none }
def fnTimeLeftLeastRow : OpenClaim := { program := "ytpibdjkajgfgjaadoor", sum := "bbe69f0081e368eee072256a3e85a702cc08841682a015d1fb8793843d104bd5", func := "loop.example/buildscheduler/laws.FnTimeLeftLeast", spec := "fnTimeLeftLeast", unfollowed := true, recurses := true, named := ["math/bits.deBruijn32tab"], apart := false, laid := [("math/bits.deBruijn32tab", laid_math_bits_deBruijn32tab)] }
def FnTimeLeftLeastSaid : Prop := fnTimeLeftLeastRow.holds Tryd.pinned (OpenSpec.ofChange fnTimeLeftLeastSpec)

/-- ITS FALSE NEIGHBOUR: 'it returns false'. Refute it at one input. -/
def fnTimeLeftLeastWrong : ChangeSpec := { name := "fnTimeLeftLeast", fn := fun _ => fun
  | [d] => { results := [.lit (.bool false)], args := [d] }
  | _ => none }
def FnTimeLeftLeastWrongFalsely : Prop := fnTimeLeftLeastRow.holds Tryd.pinned (OpenSpec.ofChange fnTimeLeftLeastWrong)

/-- 'laws.FnWithoutUselessTimes': WHATEVER THE INPUT: true; the input reads as it did. -/
def fnWithoutUselessTimesSpec : ChangeSpec := { name := "fnWithoutUselessTimes", fn := fun _ => fun
  | [d] => { results := [.lit (.bool true)], args := [d] }
  | _ => none }
def fnWithoutUselessTimesRow : OpenClaim := { program := "ytpibdjkajgfgjaadoor", sum := "bbe69f0081e368eee072256a3e85a702cc08841682a015d1fb8793843d104bd5", func := "loop.example/buildscheduler/laws.FnWithoutUselessTimes", spec := "fnWithoutUselessTimes", unfollowed := true, recurses := true, named := ["math/bits.deBruijn32tab"], apart := false, laid := [("math/bits.deBruijn32tab", laid_math_bits_deBruijn32tab)] }
def FnWithoutUselessTimesSaid : Prop := fnWithoutUselessTimesRow.holds Tryd.pinned (OpenSpec.ofChange fnWithoutUselessTimesSpec)

/-- ITS FALSE NEIGHBOUR: 'it returns false'. Refute it at one input. -/
def fnWithoutUselessTimesWrong : ChangeSpec := { name := "fnWithoutUselessTimes", fn := fun _ => fun
  | [d] => { results := [.lit (.bool false)], args := [d] }
  | _ => none }
def FnWithoutUselessTimesWrongFalsely : Prop := fnWithoutUselessTimesRow.holds Tryd.pinned (OpenSpec.ofChange fnWithoutUselessTimesWrong)

/-- 'laws.FnAdmitTasksFirst': WHATEVER THE INPUT: true; the input reads as it did. -/
def fnAdmitTasksFirstSpec : ChangeSpec := { name := "fnAdmitTasksFirst", fn := fun _ => fun
  | [d] => { results := [.lit (.bool true)], args := [d] }
  | _ => none }
def fnAdmitTasksFirstRow : OpenClaim := { program := "ytpibdjkajgfgjaadoor", sum := "bbe69f0081e368eee072256a3e85a702cc08841682a015d1fb8793843d104bd5", func := "loop.example/buildscheduler/laws.FnAdmitTasksFirst", spec := "fnAdmitTasksFirst", unfollowed := true, recurses := true, named := ["math/bits.deBruijn32tab"], apart := false, laid := [("math/bits.deBruijn32tab", laid_math_bits_deBruijn32tab)] }
def FnAdmitTasksFirstSaid : Prop := fnAdmitTasksFirstRow.holds Tryd.pinned (OpenSpec.ofChange fnAdmitTasksFirstSpec)

/-- ITS FALSE NEIGHBOUR: 'it returns false'. Refute it at one input. -/
def fnAdmitTasksFirstWrong : ChangeSpec := { name := "fnAdmitTasksFirst", fn := fun _ => fun
  | [d] => { results := [.lit (.bool false)], args := [d] }
  | _ => none }
def FnAdmitTasksFirstWrongFalsely : Prop := fnAdmitTasksFirstRow.holds Tryd.pinned (OpenSpec.ofChange fnAdmitTasksFirstWrong)

/-- 'laws.FnAdmitTasksMore': WHATEVER THE INPUT: true; the input reads as it did. -/
def fnAdmitTasksMoreSpec : ChangeSpec := { name := "fnAdmitTasksMore", fn := fun _ => fun
  | [d] => { results := [.lit (.bool true)], args := [d] }
  | _ => none }
def fnAdmitTasksMoreRow : OpenClaim := { program := "ytpibdjkajgfgjaadoor", sum := "bbe69f0081e368eee072256a3e85a702cc08841682a015d1fb8793843d104bd5", func := "loop.example/buildscheduler/laws.FnAdmitTasksMore", spec := "fnAdmitTasksMore", unfollowed := true, recurses := true, named := ["math/bits.deBruijn32tab"], apart := false, laid := [("math/bits.deBruijn32tab", laid_math_bits_deBruijn32tab)] }
def FnAdmitTasksMoreSaid : Prop := fnAdmitTasksMoreRow.holds Tryd.pinned (OpenSpec.ofChange fnAdmitTasksMoreSpec)

/-- ITS FALSE NEIGHBOUR: 'it returns false'. Refute it at one input. -/
def fnAdmitTasksMoreWrong : ChangeSpec := { name := "fnAdmitTasksMore", fn := fun _ => fun
  | [d] => { results := [.lit (.bool false)], args := [d] }
  | _ => none }
def FnAdmitTasksMoreWrongFalsely : Prop := fnAdmitTasksMoreRow.holds Tryd.pinned (OpenSpec.ofChange fnAdmitTasksMoreWrong)

/-- 'laws.FnAdmitTasks': WHATEVER THE INPUT: true; the input reads as it did. -/
def fnAdmitTasksSpec : ChangeSpec := { name := "fnAdmitTasks", fn := fun _ => fun
  | [d] => { results := [.lit (.bool true)], args := [d] }
  | _ => none }
def fnAdmitTasksRow : OpenClaim := { program := "ytpibdjkajgfgjaadoor", sum := "bbe69f0081e368eee072256a3e85a702cc08841682a015d1fb8793843d104bd5", func := "loop.example/buildscheduler/laws.FnAdmitTasks", spec := "fnAdmitTasks", unfollowed := true, recurses := true, named := ["math/bits.deBruijn32tab"], apart := false, laid := [("math/bits.deBruijn32tab", laid_math_bits_deBruijn32tab)] }
def FnAdmitTasksSaid : Prop := fnAdmitTasksRow.holds Tryd.pinned (OpenSpec.ofChange fnAdmitTasksSpec)

/-- ITS FALSE NEIGHBOUR: 'it returns false'. Refute it at one input. -/
def fnAdmitTasksWrong : ChangeSpec := { name := "fnAdmitTasks", fn := fun _ => fun
  | [d] => { results := [.lit (.bool false)], args := [d] }
  | _ => none }
def FnAdmitTasksWrongFalsely : Prop := fnAdmitTasksRow.holds Tryd.pinned (OpenSpec.ofChange fnAdmitTasksWrong)

/-- 'laws.FnAdmitTasksAll': WHATEVER THE INPUT: true; the input reads as it did. -/
def fnAdmitTasksAllSpec : ChangeSpec := { name := "fnAdmitTasksAll", fn := fun _ => fun
  | [d] => { results := [.lit (.bool true)], args := [d] }
  | _ => none }
def fnAdmitTasksAllRow : OpenClaim := { program := "ytpibdjkajgfgjaadoor", sum := "bbe69f0081e368eee072256a3e85a702cc08841682a015d1fb8793843d104bd5", func := "loop.example/buildscheduler/laws.FnAdmitTasksAll", spec := "fnAdmitTasksAll", unfollowed := true, recurses := true, named := ["math/bits.deBruijn32tab"], apart := false, laid := [("math/bits.deBruijn32tab", laid_math_bits_deBruijn32tab)] }
def FnAdmitTasksAllSaid : Prop := fnAdmitTasksAllRow.holds Tryd.pinned (OpenSpec.ofChange fnAdmitTasksAllSpec)

/-- ITS FALSE NEIGHBOUR: 'it returns false'. Refute it at one input. -/
def fnAdmitTasksAllWrong : ChangeSpec := { name := "fnAdmitTasksAll", fn := fun _ => fun
  | [d] => { results := [.lit (.bool false)], args := [d] }
  | _ => none }
def FnAdmitTasksAllWrongFalsely : Prop := fnAdmitTasksAllRow.holds Tryd.pinned (OpenSpec.ofChange fnAdmitTasksAllWrong)

/-- 'laws.FnTimeLeft': WHATEVER THE INPUT: true; the input reads as it did. -/
def fnTimeLeftSpec : ChangeSpec := { name := "fnTimeLeft", fn := fun _ => fun
  | [d] => { results := [.lit (.bool true)], args := [d] }
  | _ => none }
def fnTimeLeftRow : OpenClaim := { program := "ytpibdjkajgfgjaadoor", sum := "bbe69f0081e368eee072256a3e85a702cc08841682a015d1fb8793843d104bd5", func := "loop.example/buildscheduler/laws.FnTimeLeft", spec := "fnTimeLeft", unfollowed := true, recurses := true, named := ["math/bits.deBruijn32tab"], apart := false, laid := [("math/bits.deBruijn32tab", laid_math_bits_deBruijn32tab)] }
def FnTimeLeftSaid : Prop := fnTimeLeftRow.holds Tryd.pinned (OpenSpec.ofChange fnTimeLeftSpec)

/-- ITS FALSE NEIGHBOUR: 'it returns false'. Refute it at one input. -/
def fnTimeLeftWrong : ChangeSpec := { name := "fnTimeLeft", fn := fun _ => fun
  | [d] => { results := [.lit (.bool false)], args := [d] }
  | _ => none }
def FnTimeLeftWrongFalsely : Prop := fnTimeLeftRow.holds Tryd.pinned (OpenSpec.ofChange fnTimeLeftWrong)

/-- 'laws.FnExactReadyOrder': WHATEVER THE INPUT: true; the input reads as it did. -/
def fnExactReadyOrderSpec : ChangeSpec := { name := "fnExactReadyOrder", fn := fun _ => fun
  | [d1, d2] => { results := [.lit (.bool true)], args := [d1, d2] }
  | _ => none }
def fnExactReadyOrderRow : OpenClaim := { program := "ytpibdjkajgfgjaadoor", sum := "bbe69f0081e368eee072256a3e85a702cc08841682a015d1fb8793843d104bd5", func := "loop.example/buildscheduler/laws.FnExactReadyOrder", spec := "fnExactReadyOrder", unfollowed := true, recurses := true, named := ["math/bits.deBruijn32tab"], apart := false, laid := [("math/bits.deBruijn32tab", laid_math_bits_deBruijn32tab)] }
def FnExactReadyOrderSaid : Prop := fnExactReadyOrderRow.holds Tryd.pinned (OpenSpec.ofChange fnExactReadyOrderSpec)

/-- ITS FALSE NEIGHBOUR: 'it returns false'. Refute it at one input. -/
def fnExactReadyOrderWrong : ChangeSpec := { name := "fnExactReadyOrder", fn := fun _ => fun
  | [d1, d2] => { results := [.lit (.bool false)], args := [d1, d2] }
  | _ => none }
def FnExactReadyOrderWrongFalsely : Prop := fnExactReadyOrderRow.holds Tryd.pinned (OpenSpec.ofChange fnExactReadyOrderWrong)

/-- 'laws.FnReadyOrderLeft': WHATEVER THE INPUT: true; the input reads as it did. -/
def fnReadyOrderLeftSpec : ChangeSpec := { name := "fnReadyOrderLeft", fn := fun _ => fun
  | [d] => { results := [.lit (.bool true)], args := [d] }
  | _ => none }
def fnReadyOrderLeftRow : OpenClaim := { program := "ytpibdjkajgfgjaadoor", sum := "bbe69f0081e368eee072256a3e85a702cc08841682a015d1fb8793843d104bd5", func := "loop.example/buildscheduler/laws.FnReadyOrderLeft", spec := "fnReadyOrderLeft", unfollowed := true, recurses := true, named := ["math/bits.deBruijn32tab"], apart := false, laid := [("math/bits.deBruijn32tab", laid_math_bits_deBruijn32tab)] }
def FnReadyOrderLeftSaid : Prop := fnReadyOrderLeftRow.holds Tryd.pinned (OpenSpec.ofChange fnReadyOrderLeftSpec)

/-- ITS FALSE NEIGHBOUR: 'it returns false'. Refute it at one input. -/
def fnReadyOrderLeftWrong : ChangeSpec := { name := "fnReadyOrderLeft", fn := fun _ => fun
  | [d] => { results := [.lit (.bool false)], args := [d] }
  | _ => none }
def FnReadyOrderLeftWrongFalsely : Prop := fnReadyOrderLeftRow.holds Tryd.pinned (OpenSpec.ofChange fnReadyOrderLeftWrong)

/- THE SECOND FORM. 'bulk': how many values and letters a reading holds, each counted each time it is reached (what is shared counts as often as it is met; a slice's spare places count too). A statement '..UptoSaid' is the law's where the arguments, and the package variables that the reading takes, are together of bulk at most 1048576: NARROWER than '..Said'. Prove '..Said' where nothing that the law and all that it calls make is longer than what came in: it says more and counts as full. Else prove '..UptoSaid'. A law counts once. -/
mutual
def uptoBulk {H : Type} : DataW H → Nat
  | .lit (.string bytes) => bytes.length + 1
  | .lit _ => 1
  | .nil => 1
  | .ptr d => uptoBulk d + 1
  | .slice elems spare => uptoBulkAll elems + uptoBulkAll spare + 1
  | .agg parts => uptoBulkAll parts + 1
  | .iface _ d => uptoBulk d + 1
  | .map entries => uptoBulkEntries entries + 1
  | .held _ => 1
def uptoBulkAll {H : Type} : List (DataW H) → Nat
  | [] => 0
  | d :: r => uptoBulk d + uptoBulkAll r
def uptoBulkEntries {H : Type} : List (Lit × DataW H) → Nat
  | [] => 0
  | x :: r => uptoBulkEntry x + uptoBulkEntries r
def uptoBulkEntry {H : Type} : Lit × DataW H → Nat
  | (.string bytes, d) => bytes.length + uptoBulk d + 1
  | (_, d) => uptoBulk d + 1
 end
def uptoSmall : (H : Type) → List (DataW H) → Bool := fun _ ds => decide (uptoBulkAll ds ≤ 1048576)
def OpenSpec.upto (s : _root_.Go.ChangeSpec) : _root_.Go.OpenSpec := { _root_.Go.OpenSpec.ofChange s with cond := some uptoSmall }

/-- 'laws.FnExactAdmitTasks', WHERE WHAT IT READS IS OF BULK AT MOST 1048576: true; the input reads as it did. -/
def fnExactAdmitTasksUptoRow : OpenClaim := { program := "ytpibdjkajgfgjaadoor", sum := "bbe69f0081e368eee072256a3e85a702cc08841682a015d1fb8793843d104bd5", func := "loop.example/buildscheduler/laws.FnExactAdmitTasks", spec := "fnExactAdmitTasks", unfollowed := true, recurses := true, named := ["math/bits.deBruijn32tab"], apart := false, laid := [("math/bits.deBruijn32tab", laid_math_bits_deBruijn32tab)], narrowed := true }
def FnExactAdmitTasksUptoSaid : Prop := fnExactAdmitTasksUptoRow.holds Tryd.pinned (OpenSpec.upto fnExactAdmitTasksSpec)

/-- 'laws.FnProgressOfMore', WHERE WHAT IT READS IS OF BULK AT MOST 1048576: true; the input reads as it did. -/
def fnProgressOfMoreUptoRow : OpenClaim := { program := "ytpibdjkajgfgjaadoor", sum := "bbe69f0081e368eee072256a3e85a702cc08841682a015d1fb8793843d104bd5", func := "loop.example/buildscheduler/laws.FnProgressOfMore", spec := "fnProgressOfMore", unfollowed := true, recurses := true, named := ["math/bits.deBruijn32tab"], apart := false, laid := [("math/bits.deBruijn32tab", laid_math_bits_deBruijn32tab)], narrowed := true }
def FnProgressOfMoreUptoSaid : Prop := fnProgressOfMoreUptoRow.holds Tryd.pinned (OpenSpec.upto fnProgressOfMoreSpec)

/-- 'laws.FnWaitsFor', WHERE WHAT IT READS IS OF BULK AT MOST 1048576: true; the input reads as it did. -/
def fnWaitsForUptoRow : OpenClaim := { program := "ytpibdjkajgfgjaadoor", sum := "bbe69f0081e368eee072256a3e85a702cc08841682a015d1fb8793843d104bd5", func := "loop.example/buildscheduler/laws.FnWaitsFor", spec := "fnWaitsFor", unfollowed := true, recurses := true, named := ["math/bits.deBruijn32tab"], apart := false, laid := [("math/bits.deBruijn32tab", laid_math_bits_deBruijn32tab)], narrowed := true }
def FnWaitsForUptoSaid : Prop := fnWaitsForUptoRow.holds Tryd.pinned (OpenSpec.upto fnWaitsForSpec)

/-- 'laws.FnTimeLeftLeast', WHERE WHAT IT READS IS OF BULK AT MOST 1048576: true; the input reads as it did. -/
def fnTimeLeftLeastUptoRow : OpenClaim := { program := "ytpibdjkajgfgjaadoor", sum := "bbe69f0081e368eee072256a3e85a702cc08841682a015d1fb8793843d104bd5", func := "loop.example/buildscheduler/laws.FnTimeLeftLeast", spec := "fnTimeLeftLeast", unfollowed := true, recurses := true, named := ["math/bits.deBruijn32tab"], apart := false, laid := [("math/bits.deBruijn32tab", laid_math_bits_deBruijn32tab)], narrowed := true }
def FnTimeLeftLeastUptoSaid : Prop := fnTimeLeftLeastUptoRow.holds Tryd.pinned (OpenSpec.upto fnTimeLeftLeastSpec)

/-- 'laws.FnWithoutUselessTimes', WHERE WHAT IT READS IS OF BULK AT MOST 1048576: true; the input reads as it did. -/
def fnWithoutUselessTimesUptoRow : OpenClaim := { program := "ytpibdjkajgfgjaadoor", sum := "bbe69f0081e368eee072256a3e85a702cc08841682a015d1fb8793843d104bd5", func := "loop.example/buildscheduler/laws.FnWithoutUselessTimes", spec := "fnWithoutUselessTimes", unfollowed := true, recurses := true, named := ["math/bits.deBruijn32tab"], apart := false, laid := [("math/bits.deBruijn32tab", laid_math_bits_deBruijn32tab)], narrowed := true }
def FnWithoutUselessTimesUptoSaid : Prop := fnWithoutUselessTimesUptoRow.holds Tryd.pinned (OpenSpec.upto fnWithoutUselessTimesSpec)

/-- 'laws.FnAdmitTasksFirst', WHERE WHAT IT READS IS OF BULK AT MOST 1048576: true; the input reads as it did. -/
def fnAdmitTasksFirstUptoRow : OpenClaim := { program := "ytpibdjkajgfgjaadoor", sum := "bbe69f0081e368eee072256a3e85a702cc08841682a015d1fb8793843d104bd5", func := "loop.example/buildscheduler/laws.FnAdmitTasksFirst", spec := "fnAdmitTasksFirst", unfollowed := true, recurses := true, named := ["math/bits.deBruijn32tab"], apart := false, laid := [("math/bits.deBruijn32tab", laid_math_bits_deBruijn32tab)], narrowed := true }
def FnAdmitTasksFirstUptoSaid : Prop := fnAdmitTasksFirstUptoRow.holds Tryd.pinned (OpenSpec.upto fnAdmitTasksFirstSpec)

/-- 'laws.FnAdmitTasksMore', WHERE WHAT IT READS IS OF BULK AT MOST 1048576: true; the input reads as it did. -/
def fnAdmitTasksMoreUptoRow : OpenClaim := { program := "ytpibdjkajgfgjaadoor", sum := "bbe69f0081e368eee072256a3e85a702cc08841682a015d1fb8793843d104bd5", func := "loop.example/buildscheduler/laws.FnAdmitTasksMore", spec := "fnAdmitTasksMore", unfollowed := true, recurses := true, named := ["math/bits.deBruijn32tab"], apart := false, laid := [("math/bits.deBruijn32tab", laid_math_bits_deBruijn32tab)], narrowed := true }
def FnAdmitTasksMoreUptoSaid : Prop := fnAdmitTasksMoreUptoRow.holds Tryd.pinned (OpenSpec.upto fnAdmitTasksMoreSpec)

/-- 'laws.FnAdmitTasks', WHERE WHAT IT READS IS OF BULK AT MOST 1048576: true; the input reads as it did. -/
def fnAdmitTasksUptoRow : OpenClaim := { program := "ytpibdjkajgfgjaadoor", sum := "bbe69f0081e368eee072256a3e85a702cc08841682a015d1fb8793843d104bd5", func := "loop.example/buildscheduler/laws.FnAdmitTasks", spec := "fnAdmitTasks", unfollowed := true, recurses := true, named := ["math/bits.deBruijn32tab"], apart := false, laid := [("math/bits.deBruijn32tab", laid_math_bits_deBruijn32tab)], narrowed := true }
def FnAdmitTasksUptoSaid : Prop := fnAdmitTasksUptoRow.holds Tryd.pinned (OpenSpec.upto fnAdmitTasksSpec)

/-- 'laws.FnAdmitTasksAll', WHERE WHAT IT READS IS OF BULK AT MOST 1048576: true; the input reads as it did. -/
def fnAdmitTasksAllUptoRow : OpenClaim := { program := "ytpibdjkajgfgjaadoor", sum := "bbe69f0081e368eee072256a3e85a702cc08841682a015d1fb8793843d104bd5", func := "loop.example/buildscheduler/laws.FnAdmitTasksAll", spec := "fnAdmitTasksAll", unfollowed := true, recurses := true, named := ["math/bits.deBruijn32tab"], apart := false, laid := [("math/bits.deBruijn32tab", laid_math_bits_deBruijn32tab)], narrowed := true }
def FnAdmitTasksAllUptoSaid : Prop := fnAdmitTasksAllUptoRow.holds Tryd.pinned (OpenSpec.upto fnAdmitTasksAllSpec)

/-- 'laws.FnTimeLeft', WHERE WHAT IT READS IS OF BULK AT MOST 1048576: true; the input reads as it did. -/
def fnTimeLeftUptoRow : OpenClaim := { program := "ytpibdjkajgfgjaadoor", sum := "bbe69f0081e368eee072256a3e85a702cc08841682a015d1fb8793843d104bd5", func := "loop.example/buildscheduler/laws.FnTimeLeft", spec := "fnTimeLeft", unfollowed := true, recurses := true, named := ["math/bits.deBruijn32tab"], apart := false, laid := [("math/bits.deBruijn32tab", laid_math_bits_deBruijn32tab)], narrowed := true }
def FnTimeLeftUptoSaid : Prop := fnTimeLeftUptoRow.holds Tryd.pinned (OpenSpec.upto fnTimeLeftSpec)

/-- 'laws.FnExactReadyOrder', WHERE WHAT IT READS IS OF BULK AT MOST 1048576: true; the input reads as it did. -/
def fnExactReadyOrderUptoRow : OpenClaim := { program := "ytpibdjkajgfgjaadoor", sum := "bbe69f0081e368eee072256a3e85a702cc08841682a015d1fb8793843d104bd5", func := "loop.example/buildscheduler/laws.FnExactReadyOrder", spec := "fnExactReadyOrder", unfollowed := true, recurses := true, named := ["math/bits.deBruijn32tab"], apart := false, laid := [("math/bits.deBruijn32tab", laid_math_bits_deBruijn32tab)], narrowed := true }
def FnExactReadyOrderUptoSaid : Prop := fnExactReadyOrderUptoRow.holds Tryd.pinned (OpenSpec.upto fnExactReadyOrderSpec)

/-- 'laws.FnReadyOrderLeft', WHERE WHAT IT READS IS OF BULK AT MOST 1048576: true; the input reads as it did. -/
def fnReadyOrderLeftUptoRow : OpenClaim := { program := "ytpibdjkajgfgjaadoor", sum := "bbe69f0081e368eee072256a3e85a702cc08841682a015d1fb8793843d104bd5", func := "loop.example/buildscheduler/laws.FnReadyOrderLeft", spec := "fnReadyOrderLeft", unfollowed := true, recurses := true, named := ["math/bits.deBruijn32tab"], apart := false, laid := [("math/bits.deBruijn32tab", laid_math_bits_deBruijn32tab)], narrowed := true }
def FnReadyOrderLeftUptoSaid : Prop := fnReadyOrderLeftUptoRow.holds Tryd.pinned (OpenSpec.upto fnReadyOrderLeftSpec)

end Rows
end Go.Proofs.YtpibdjkajgfgjaaDoor
