/-
  DERIVED. GIVEN WITH THE SEED: THE CARDS: each row of YtpgfcihmgdempaaDoorRows.lean that lists a variable, with what it lists TIED to the program's text (the seventh form; the later family's looks); each row that meets fmt, with fmt's text TOLD by the authors' own Lean function (tested against real Go, not proved from fmt's source: count such statements apart). THE CARD IS WHAT COUNTS. Prove the row's statement (the work); the ties are given (YtpgfcihmgdempaaDoorTie.lean); close each card by the builder's one call (the guide's Derived/Test/ToyasCard.lean, 'card_holds'). Laid BY PROGRAM, IN A SANDBOX (cutbox-door.mjs). By AI agents, Wed Nov 11 2026. No macro, syntax, notation, axiom, sorry.
-/
import Derived.Test.YtpgfcihmgdempaaDoorRows
import GoSem.ClaimSeven
namespace Go.Proofs.YtpgfcihmgdempaaDoor
namespace Rows

/-- THE TIED CARD OF 'laws.FnLatestStarts'. -/
def fnLatestStartsCard : Claim7 := { stood := { row := fnLatestStartsRow, standIns := [], harness := (true, "e4467e78551c893a911dd4004b93518617d58ab44fd1077dc19ec883a8d72f59"), looks := false }, kinds := [], alts := [], laidByText := true, laidKinds := [.data], laidTests := true, laidLooks := .later }
def FnLatestStartsCardSaid : Prop := Claim7.holds Tryd.pinned (.plain (OpenSpec.ofChange fnLatestStartsSpec)) fnLatestStartsCard

/-- THE TIED CARD OF 'laws.FnLatestStartsMore'. -/
def fnLatestStartsMoreCard : Claim7 := { stood := { row := fnLatestStartsMoreRow, standIns := [], harness := (true, "e4467e78551c893a911dd4004b93518617d58ab44fd1077dc19ec883a8d72f59"), looks := false }, kinds := [], alts := [], laidByText := true, laidKinds := [.data], laidTests := true, laidLooks := .later }
def FnLatestStartsMoreCardSaid : Prop := Claim7.holds Tryd.pinned (.plain (OpenSpec.ofChange fnLatestStartsMoreSpec)) fnLatestStartsMoreCard

/-- THE TIED CARD OF 'laws.FnValidDone'. -/
def fnValidDoneCard : Claim7 := { stood := { row := fnValidDoneRow, standIns := [], harness := (true, "e4467e78551c893a911dd4004b93518617d58ab44fd1077dc19ec883a8d72f59"), looks := false }, kinds := [], alts := [], laidByText := true, laidKinds := [.data], laidTests := true, laidLooks := .later }
def FnValidDoneCardSaid : Prop := Claim7.holds Tryd.pinned (.plain (OpenSpec.ofChange fnValidDoneSpec)) fnValidDoneCard

/-- THE TIED CARD OF 'laws.FnExactLatestStarts'. -/
def fnExactLatestStartsCard : Claim7 := { stood := { row := fnExactLatestStartsRow, standIns := [], harness := (true, "e4467e78551c893a911dd4004b93518617d58ab44fd1077dc19ec883a8d72f59"), looks := false }, kinds := [], alts := [], laidByText := true, laidKinds := [.data], laidTests := true, laidLooks := .later }
def FnExactLatestStartsCardSaid : Prop := Claim7.holds Tryd.pinned (.plain (OpenSpec.ofChange fnExactLatestStartsSpec)) fnExactLatestStartsCard

/-- THE TIED CARD OF 'laws.FnExactReadyTasks'. -/
def fnExactReadyTasksCard : Claim7 := { stood := { row := fnExactReadyTasksRow, standIns := [], harness := (true, "e4467e78551c893a911dd4004b93518617d58ab44fd1077dc19ec883a8d72f59"), looks := false }, kinds := [], alts := [], laidByText := true, laidKinds := [.data], laidTests := true, laidLooks := .later }
def FnExactReadyTasksCardSaid : Prop := Claim7.holds Tryd.pinned (.plain (OpenSpec.ofChange fnExactReadyTasksSpec)) fnExactReadyTasksCard

/-- THE TIED CARD OF 'laws.FnExactFinishTask'. -/
def fnExactFinishTaskCard : Claim7 := { stood := { row := fnExactFinishTaskRow, standIns := [], harness := (true, "e4467e78551c893a911dd4004b93518617d58ab44fd1077dc19ec883a8d72f59"), looks := false }, kinds := [], alts := [], laidByText := true, laidKinds := [.data], laidTests := true, laidLooks := .later }
def FnExactFinishTaskCardSaid : Prop := Claim7.holds Tryd.pinned (.plain (OpenSpec.ofChange fnExactFinishTaskSpec)) fnExactFinishTaskCard

/-- THE TIED CARD OF 'laws.FnExactTimeLeft'. -/
def fnExactTimeLeftCard : Claim7 := { stood := { row := fnExactTimeLeftRow, standIns := [], harness := (true, "e4467e78551c893a911dd4004b93518617d58ab44fd1077dc19ec883a8d72f59"), looks := false }, kinds := [], alts := [], laidByText := true, laidKinds := [.data], laidTests := true, laidLooks := .later }
def FnExactTimeLeftCardSaid : Prop := Claim7.holds Tryd.pinned (.plain (OpenSpec.ofChange fnExactTimeLeftSpec)) fnExactTimeLeftCard

/-- THE TIED CARD OF 'laws.FnValidDoneNeeds'. -/
def fnValidDoneNeedsCard : Claim7 := { stood := { row := fnValidDoneNeedsRow, standIns := [], harness := (true, "e4467e78551c893a911dd4004b93518617d58ab44fd1077dc19ec883a8d72f59"), looks := false }, kinds := [], alts := [], laidByText := true, laidKinds := [.data], laidTests := true, laidLooks := .later }
def FnValidDoneNeedsCardSaid : Prop := Claim7.holds Tryd.pinned (.plain (OpenSpec.ofChange fnValidDoneNeedsSpec)) fnValidDoneNeedsCard

/-- THE TIED CARD OF 'laws.FnProgressOf'. -/
def fnProgressOfCard : Claim7 := { stood := { row := fnProgressOfRow, standIns := [], harness := (true, "e4467e78551c893a911dd4004b93518617d58ab44fd1077dc19ec883a8d72f59"), looks := false }, kinds := [], alts := [], laidByText := true, laidKinds := [.data], laidTests := true, laidLooks := .later }
def FnProgressOfCardSaid : Prop := Claim7.holds Tryd.pinned (.plain (OpenSpec.ofChange fnProgressOfSpec)) fnProgressOfCard

/-- THE TIED CARD OF 'laws.FnFinishTaskOrder'. -/
def fnFinishTaskOrderCard : Claim7 := { stood := { row := fnFinishTaskOrderRow, standIns := [], harness := (true, "e4467e78551c893a911dd4004b93518617d58ab44fd1077dc19ec883a8d72f59"), looks := false }, kinds := [], alts := [], laidByText := true, laidKinds := [.data], laidTests := true, laidLooks := .later }
def FnFinishTaskOrderCardSaid : Prop := Claim7.holds Tryd.pinned (.plain (OpenSpec.ofChange fnFinishTaskOrderSpec)) fnFinishTaskOrderCard

/-- THE TIED CARD OF 'laws.FnReadyTasksAll'. -/
def fnReadyTasksAllCard : Claim7 := { stood := { row := fnReadyTasksAllRow, standIns := [], harness := (true, "e4467e78551c893a911dd4004b93518617d58ab44fd1077dc19ec883a8d72f59"), looks := false }, kinds := [], alts := [], laidByText := true, laidKinds := [.data], laidTests := true, laidLooks := .later }
def FnReadyTasksAllCardSaid : Prop := Claim7.holds Tryd.pinned (.plain (OpenSpec.ofChange fnReadyTasksAllSpec)) fnReadyTasksAllCard

/-- THE TIED CARD OF 'laws.FnReadyTasksFirst'. -/
def fnReadyTasksFirstCard : Claim7 := { stood := { row := fnReadyTasksFirstRow, standIns := [], harness := (true, "e4467e78551c893a911dd4004b93518617d58ab44fd1077dc19ec883a8d72f59"), looks := false }, kinds := [], alts := [], laidByText := true, laidKinds := [.data], laidTests := true, laidLooks := .later }
def FnReadyTasksFirstCardSaid : Prop := Claim7.holds Tryd.pinned (.plain (OpenSpec.ofChange fnReadyTasksFirstSpec)) fnReadyTasksFirstCard

/-- THE SECOND FORM's CARD OF 'laws.FnLatestStarts'. -/
def fnLatestStartsUptoCard : Claim7 := { stood := { row := fnLatestStartsUptoRow, standIns := [], harness := (true, "e4467e78551c893a911dd4004b93518617d58ab44fd1077dc19ec883a8d72f59"), looks := false }, kinds := [], alts := [], laidByText := true, laidKinds := [.data], laidTests := true, laidLooks := .later }
def FnLatestStartsUptoCardSaid : Prop := Claim7.holds Tryd.pinned (.plain (OpenSpec.upto fnLatestStartsSpec)) fnLatestStartsUptoCard

/-- THE SECOND FORM's CARD OF 'laws.FnLatestStartsMore'. -/
def fnLatestStartsMoreUptoCard : Claim7 := { stood := { row := fnLatestStartsMoreUptoRow, standIns := [], harness := (true, "e4467e78551c893a911dd4004b93518617d58ab44fd1077dc19ec883a8d72f59"), looks := false }, kinds := [], alts := [], laidByText := true, laidKinds := [.data], laidTests := true, laidLooks := .later }
def FnLatestStartsMoreUptoCardSaid : Prop := Claim7.holds Tryd.pinned (.plain (OpenSpec.upto fnLatestStartsMoreSpec)) fnLatestStartsMoreUptoCard

/-- THE SECOND FORM's CARD OF 'laws.FnValidDone'. -/
def fnValidDoneUptoCard : Claim7 := { stood := { row := fnValidDoneUptoRow, standIns := [], harness := (true, "e4467e78551c893a911dd4004b93518617d58ab44fd1077dc19ec883a8d72f59"), looks := false }, kinds := [], alts := [], laidByText := true, laidKinds := [.data], laidTests := true, laidLooks := .later }
def FnValidDoneUptoCardSaid : Prop := Claim7.holds Tryd.pinned (.plain (OpenSpec.upto fnValidDoneSpec)) fnValidDoneUptoCard

/-- THE SECOND FORM's CARD OF 'laws.FnExactLatestStarts'. -/
def fnExactLatestStartsUptoCard : Claim7 := { stood := { row := fnExactLatestStartsUptoRow, standIns := [], harness := (true, "e4467e78551c893a911dd4004b93518617d58ab44fd1077dc19ec883a8d72f59"), looks := false }, kinds := [], alts := [], laidByText := true, laidKinds := [.data], laidTests := true, laidLooks := .later }
def FnExactLatestStartsUptoCardSaid : Prop := Claim7.holds Tryd.pinned (.plain (OpenSpec.upto fnExactLatestStartsSpec)) fnExactLatestStartsUptoCard

/-- THE SECOND FORM's CARD OF 'laws.FnExactReadyTasks'. -/
def fnExactReadyTasksUptoCard : Claim7 := { stood := { row := fnExactReadyTasksUptoRow, standIns := [], harness := (true, "e4467e78551c893a911dd4004b93518617d58ab44fd1077dc19ec883a8d72f59"), looks := false }, kinds := [], alts := [], laidByText := true, laidKinds := [.data], laidTests := true, laidLooks := .later }
def FnExactReadyTasksUptoCardSaid : Prop := Claim7.holds Tryd.pinned (.plain (OpenSpec.upto fnExactReadyTasksSpec)) fnExactReadyTasksUptoCard

/-- THE SECOND FORM's CARD OF 'laws.FnExactFinishTask'. -/
def fnExactFinishTaskUptoCard : Claim7 := { stood := { row := fnExactFinishTaskUptoRow, standIns := [], harness := (true, "e4467e78551c893a911dd4004b93518617d58ab44fd1077dc19ec883a8d72f59"), looks := false }, kinds := [], alts := [], laidByText := true, laidKinds := [.data], laidTests := true, laidLooks := .later }
def FnExactFinishTaskUptoCardSaid : Prop := Claim7.holds Tryd.pinned (.plain (OpenSpec.upto fnExactFinishTaskSpec)) fnExactFinishTaskUptoCard

/-- THE SECOND FORM's CARD OF 'laws.FnExactTimeLeft'. -/
def fnExactTimeLeftUptoCard : Claim7 := { stood := { row := fnExactTimeLeftUptoRow, standIns := [], harness := (true, "e4467e78551c893a911dd4004b93518617d58ab44fd1077dc19ec883a8d72f59"), looks := false }, kinds := [], alts := [], laidByText := true, laidKinds := [.data], laidTests := true, laidLooks := .later }
def FnExactTimeLeftUptoCardSaid : Prop := Claim7.holds Tryd.pinned (.plain (OpenSpec.upto fnExactTimeLeftSpec)) fnExactTimeLeftUptoCard

/-- THE SECOND FORM's CARD OF 'laws.FnValidDoneNeeds'. -/
def fnValidDoneNeedsUptoCard : Claim7 := { stood := { row := fnValidDoneNeedsUptoRow, standIns := [], harness := (true, "e4467e78551c893a911dd4004b93518617d58ab44fd1077dc19ec883a8d72f59"), looks := false }, kinds := [], alts := [], laidByText := true, laidKinds := [.data], laidTests := true, laidLooks := .later }
def FnValidDoneNeedsUptoCardSaid : Prop := Claim7.holds Tryd.pinned (.plain (OpenSpec.upto fnValidDoneNeedsSpec)) fnValidDoneNeedsUptoCard

/-- THE SECOND FORM's CARD OF 'laws.FnProgressOf'. -/
def fnProgressOfUptoCard : Claim7 := { stood := { row := fnProgressOfUptoRow, standIns := [], harness := (true, "e4467e78551c893a911dd4004b93518617d58ab44fd1077dc19ec883a8d72f59"), looks := false }, kinds := [], alts := [], laidByText := true, laidKinds := [.data], laidTests := true, laidLooks := .later }
def FnProgressOfUptoCardSaid : Prop := Claim7.holds Tryd.pinned (.plain (OpenSpec.upto fnProgressOfSpec)) fnProgressOfUptoCard

/-- THE SECOND FORM's CARD OF 'laws.FnFinishTaskOrder'. -/
def fnFinishTaskOrderUptoCard : Claim7 := { stood := { row := fnFinishTaskOrderUptoRow, standIns := [], harness := (true, "e4467e78551c893a911dd4004b93518617d58ab44fd1077dc19ec883a8d72f59"), looks := false }, kinds := [], alts := [], laidByText := true, laidKinds := [.data], laidTests := true, laidLooks := .later }
def FnFinishTaskOrderUptoCardSaid : Prop := Claim7.holds Tryd.pinned (.plain (OpenSpec.upto fnFinishTaskOrderSpec)) fnFinishTaskOrderUptoCard

/-- THE SECOND FORM's CARD OF 'laws.FnReadyTasksAll'. -/
def fnReadyTasksAllUptoCard : Claim7 := { stood := { row := fnReadyTasksAllUptoRow, standIns := [], harness := (true, "e4467e78551c893a911dd4004b93518617d58ab44fd1077dc19ec883a8d72f59"), looks := false }, kinds := [], alts := [], laidByText := true, laidKinds := [.data], laidTests := true, laidLooks := .later }
def FnReadyTasksAllUptoCardSaid : Prop := Claim7.holds Tryd.pinned (.plain (OpenSpec.upto fnReadyTasksAllSpec)) fnReadyTasksAllUptoCard

/-- THE SECOND FORM's CARD OF 'laws.FnReadyTasksFirst'. -/
def fnReadyTasksFirstUptoCard : Claim7 := { stood := { row := fnReadyTasksFirstUptoRow, standIns := [], harness := (true, "e4467e78551c893a911dd4004b93518617d58ab44fd1077dc19ec883a8d72f59"), looks := false }, kinds := [], alts := [], laidByText := true, laidKinds := [.data], laidTests := true, laidLooks := .later }
def FnReadyTasksFirstUptoCardSaid : Prop := Claim7.holds Tryd.pinned (.plain (OpenSpec.upto fnReadyTasksFirstSpec)) fnReadyTasksFirstUptoCard
end Rows
end Go.Proofs.YtpgfcihmgdempaaDoor
