/-
  DERIVED. GIVEN WITH THE SEED: THE CARDS: each row of YtekajandipdlhaaDoorRows.lean that lists a variable, with what it lists TIED to the program's text (the seventh form; the later family's looks); each row that meets fmt, with fmt's text TOLD by the authors' own Lean function (tested against real Go, not proved from fmt's source: count such statements apart). THE CARD IS WHAT COUNTS. Prove the row's statement (the work); the ties are given (YtekajandipdlhaaDoorTie.lean); close each card by the builder's one call (the guide's Derived/Test/ToyasCard.lean, 'card_holds'). Laid BY PROGRAM, IN A SANDBOX (cutbox-door.mjs). By AI agents, Wed Nov 11 2026. No macro, syntax, notation, axiom, sorry.
-/
import Derived.Test.YtekajandipdlhaaDoorRows
import GoSem.ClaimSeven
namespace Go.Proofs.YtekajandipdlhaaDoor
namespace Rows

/-- THE TIED CARD OF 'laws.FnExactUselessNeeds'. -/
def fnExactUselessNeedsCard : Claim7 := { stood := { row := fnExactUselessNeedsRow, standIns := [], harness := (true, "f390096f3b863f9c9458fbc680201f50ffcd4651ceffcbe3c6c4e3be681bd4d7"), looks := false }, kinds := [], alts := [], laidByText := true, laidKinds := [.data], laidTests := true, laidLooks := .later }
def FnExactUselessNeedsCardSaid : Prop := Claim7.holds Tryd.pinned (.plain (OpenSpec.ofChange fnExactUselessNeedsSpec)) fnExactUselessNeedsCard

/-- THE TIED CARD OF 'laws.FnUselessNeeds'. -/
def fnUselessNeedsCard : Claim7 := { stood := { row := fnUselessNeedsRow, standIns := [], harness := (true, "f390096f3b863f9c9458fbc680201f50ffcd4651ceffcbe3c6c4e3be681bd4d7"), looks := false }, kinds := [], alts := [], laidByText := true, laidKinds := [.data], laidTests := true, laidLooks := .later }
def FnUselessNeedsCardSaid : Prop := Claim7.holds Tryd.pinned (.plain (OpenSpec.ofChange fnUselessNeedsSpec)) fnUselessNeedsCard

/-- THE TIED CARD OF 'laws.FnWithoutUselessLeast'. -/
def fnWithoutUselessLeastCard : Claim7 := { stood := { row := fnWithoutUselessLeastRow, standIns := [], harness := (true, "f390096f3b863f9c9458fbc680201f50ffcd4651ceffcbe3c6c4e3be681bd4d7"), looks := false }, kinds := [], alts := [], laidByText := true, laidKinds := [.data], laidTests := true, laidLooks := .later }
def FnWithoutUselessLeastCardSaid : Prop := Claim7.holds Tryd.pinned (.plain (OpenSpec.ofChange fnWithoutUselessLeastSpec)) fnWithoutUselessLeastCard

/-- THE TIED CARD OF 'laws.FnExactWithoutUseless'. -/
def fnExactWithoutUselessCard : Claim7 := { stood := { row := fnExactWithoutUselessRow, standIns := [], harness := (true, "f390096f3b863f9c9458fbc680201f50ffcd4651ceffcbe3c6c4e3be681bd4d7"), looks := false }, kinds := [], alts := [], laidByText := true, laidKinds := [.data], laidTests := true, laidLooks := .later }
def FnExactWithoutUselessCardSaid : Prop := Claim7.holds Tryd.pinned (.plain (OpenSpec.ofChange fnExactWithoutUselessSpec)) fnExactWithoutUselessCard

/-- THE TIED CARD OF 'laws.FnWithoutUseless'. -/
def fnWithoutUselessCard : Claim7 := { stood := { row := fnWithoutUselessRow, standIns := [], harness := (true, "f390096f3b863f9c9458fbc680201f50ffcd4651ceffcbe3c6c4e3be681bd4d7"), looks := false }, kinds := [], alts := [], laidByText := true, laidKinds := [.data], laidTests := true, laidLooks := .later }
def FnWithoutUselessCardSaid : Prop := Claim7.holds Tryd.pinned (.plain (OpenSpec.ofChange fnWithoutUselessSpec)) fnWithoutUselessCard

/-- THE TIED CARD OF 'laws.FnLatestStartsSlack'. -/
def fnLatestStartsSlackCard : Claim7 := { stood := { row := fnLatestStartsSlackRow, standIns := [], harness := (true, "f390096f3b863f9c9458fbc680201f50ffcd4651ceffcbe3c6c4e3be681bd4d7"), looks := false }, kinds := [], alts := [], laidByText := true, laidKinds := [.data], laidTests := true, laidLooks := .later }
def FnLatestStartsSlackCardSaid : Prop := Claim7.holds Tryd.pinned (.plain (OpenSpec.ofChange fnLatestStartsSlackSpec)) fnLatestStartsSlackCard

/-- THE TIED CARD OF 'laws.FnWaitsForAll'. -/
def fnWaitsForAllCard : Claim7 := { stood := { row := fnWaitsForAllRow, standIns := [], harness := (true, "f390096f3b863f9c9458fbc680201f50ffcd4651ceffcbe3c6c4e3be681bd4d7"), looks := false }, kinds := [], alts := [], laidByText := true, laidKinds := [.data], laidTests := true, laidLooks := .later }
def FnWaitsForAllCardSaid : Prop := Claim7.holds Tryd.pinned (.plain (OpenSpec.ofChange fnWaitsForAllSpec)) fnWaitsForAllCard

/-- THE TIED CARD OF 'laws.FnFinishTask'. -/
def fnFinishTaskCard : Claim7 := { stood := { row := fnFinishTaskRow, standIns := [], harness := (true, "f390096f3b863f9c9458fbc680201f50ffcd4651ceffcbe3c6c4e3be681bd4d7"), looks := false }, kinds := [], alts := [], laidByText := true, laidKinds := [.data], laidTests := true, laidLooks := .later }
def FnFinishTaskCardSaid : Prop := Claim7.holds Tryd.pinned (.plain (OpenSpec.ofChange fnFinishTaskSpec)) fnFinishTaskCard

/-- THE TIED CARD OF 'laws.FnReadyTasksTop'. -/
def fnReadyTasksTopCard : Claim7 := { stood := { row := fnReadyTasksTopRow, standIns := [], harness := (true, "f390096f3b863f9c9458fbc680201f50ffcd4651ceffcbe3c6c4e3be681bd4d7"), looks := false }, kinds := [], alts := [], laidByText := true, laidKinds := [.data], laidTests := true, laidLooks := .later }
def FnReadyTasksTopCardSaid : Prop := Claim7.holds Tryd.pinned (.plain (OpenSpec.ofChange fnReadyTasksTopSpec)) fnReadyTasksTopCard

/-- THE TIED CARD OF 'laws.FnFinishTaskReady'. -/
def fnFinishTaskReadyCard : Claim7 := { stood := { row := fnFinishTaskReadyRow, standIns := [], harness := (true, "f390096f3b863f9c9458fbc680201f50ffcd4651ceffcbe3c6c4e3be681bd4d7"), looks := false }, kinds := [], alts := [], laidByText := true, laidKinds := [.data], laidTests := true, laidLooks := .later }
def FnFinishTaskReadyCardSaid : Prop := Claim7.holds Tryd.pinned (.plain (OpenSpec.ofChange fnFinishTaskReadySpec)) fnFinishTaskReadyCard

/-- THE TIED CARD OF 'laws.FnReadyTasks'. -/
def fnReadyTasksCard : Claim7 := { stood := { row := fnReadyTasksRow, standIns := [], harness := (true, "f390096f3b863f9c9458fbc680201f50ffcd4651ceffcbe3c6c4e3be681bd4d7"), looks := false }, kinds := [], alts := [], laidByText := true, laidKinds := [.data], laidTests := true, laidLooks := .later }
def FnReadyTasksCardSaid : Prop := Claim7.holds Tryd.pinned (.plain (OpenSpec.ofChange fnReadyTasksSpec)) fnReadyTasksCard

/-- THE TIED CARD OF 'laws.FnStagesOfDone'. -/
def fnStagesOfDoneCard : Claim7 := { stood := { row := fnStagesOfDoneRow, standIns := [], harness := (true, "f390096f3b863f9c9458fbc680201f50ffcd4651ceffcbe3c6c4e3be681bd4d7"), looks := false }, kinds := [], alts := [], laidByText := true, laidKinds := [.data], laidTests := true, laidLooks := .later }
def FnStagesOfDoneCardSaid : Prop := Claim7.holds Tryd.pinned (.plain (OpenSpec.ofChange fnStagesOfDoneSpec)) fnStagesOfDoneCard

/-- THE SECOND FORM's CARD OF 'laws.FnExactUselessNeeds'. -/
def fnExactUselessNeedsUptoCard : Claim7 := { stood := { row := fnExactUselessNeedsUptoRow, standIns := [], harness := (true, "f390096f3b863f9c9458fbc680201f50ffcd4651ceffcbe3c6c4e3be681bd4d7"), looks := false }, kinds := [], alts := [], laidByText := true, laidKinds := [.data], laidTests := true, laidLooks := .later }
def FnExactUselessNeedsUptoCardSaid : Prop := Claim7.holds Tryd.pinned (.plain (OpenSpec.upto fnExactUselessNeedsSpec)) fnExactUselessNeedsUptoCard

/-- THE SECOND FORM's CARD OF 'laws.FnUselessNeeds'. -/
def fnUselessNeedsUptoCard : Claim7 := { stood := { row := fnUselessNeedsUptoRow, standIns := [], harness := (true, "f390096f3b863f9c9458fbc680201f50ffcd4651ceffcbe3c6c4e3be681bd4d7"), looks := false }, kinds := [], alts := [], laidByText := true, laidKinds := [.data], laidTests := true, laidLooks := .later }
def FnUselessNeedsUptoCardSaid : Prop := Claim7.holds Tryd.pinned (.plain (OpenSpec.upto fnUselessNeedsSpec)) fnUselessNeedsUptoCard

/-- THE SECOND FORM's CARD OF 'laws.FnWithoutUselessLeast'. -/
def fnWithoutUselessLeastUptoCard : Claim7 := { stood := { row := fnWithoutUselessLeastUptoRow, standIns := [], harness := (true, "f390096f3b863f9c9458fbc680201f50ffcd4651ceffcbe3c6c4e3be681bd4d7"), looks := false }, kinds := [], alts := [], laidByText := true, laidKinds := [.data], laidTests := true, laidLooks := .later }
def FnWithoutUselessLeastUptoCardSaid : Prop := Claim7.holds Tryd.pinned (.plain (OpenSpec.upto fnWithoutUselessLeastSpec)) fnWithoutUselessLeastUptoCard

/-- THE SECOND FORM's CARD OF 'laws.FnExactWithoutUseless'. -/
def fnExactWithoutUselessUptoCard : Claim7 := { stood := { row := fnExactWithoutUselessUptoRow, standIns := [], harness := (true, "f390096f3b863f9c9458fbc680201f50ffcd4651ceffcbe3c6c4e3be681bd4d7"), looks := false }, kinds := [], alts := [], laidByText := true, laidKinds := [.data], laidTests := true, laidLooks := .later }
def FnExactWithoutUselessUptoCardSaid : Prop := Claim7.holds Tryd.pinned (.plain (OpenSpec.upto fnExactWithoutUselessSpec)) fnExactWithoutUselessUptoCard

/-- THE SECOND FORM's CARD OF 'laws.FnWithoutUseless'. -/
def fnWithoutUselessUptoCard : Claim7 := { stood := { row := fnWithoutUselessUptoRow, standIns := [], harness := (true, "f390096f3b863f9c9458fbc680201f50ffcd4651ceffcbe3c6c4e3be681bd4d7"), looks := false }, kinds := [], alts := [], laidByText := true, laidKinds := [.data], laidTests := true, laidLooks := .later }
def FnWithoutUselessUptoCardSaid : Prop := Claim7.holds Tryd.pinned (.plain (OpenSpec.upto fnWithoutUselessSpec)) fnWithoutUselessUptoCard

/-- THE SECOND FORM's CARD OF 'laws.FnLatestStartsSlack'. -/
def fnLatestStartsSlackUptoCard : Claim7 := { stood := { row := fnLatestStartsSlackUptoRow, standIns := [], harness := (true, "f390096f3b863f9c9458fbc680201f50ffcd4651ceffcbe3c6c4e3be681bd4d7"), looks := false }, kinds := [], alts := [], laidByText := true, laidKinds := [.data], laidTests := true, laidLooks := .later }
def FnLatestStartsSlackUptoCardSaid : Prop := Claim7.holds Tryd.pinned (.plain (OpenSpec.upto fnLatestStartsSlackSpec)) fnLatestStartsSlackUptoCard

/-- THE SECOND FORM's CARD OF 'laws.FnWaitsForAll'. -/
def fnWaitsForAllUptoCard : Claim7 := { stood := { row := fnWaitsForAllUptoRow, standIns := [], harness := (true, "f390096f3b863f9c9458fbc680201f50ffcd4651ceffcbe3c6c4e3be681bd4d7"), looks := false }, kinds := [], alts := [], laidByText := true, laidKinds := [.data], laidTests := true, laidLooks := .later }
def FnWaitsForAllUptoCardSaid : Prop := Claim7.holds Tryd.pinned (.plain (OpenSpec.upto fnWaitsForAllSpec)) fnWaitsForAllUptoCard

/-- THE SECOND FORM's CARD OF 'laws.FnFinishTask'. -/
def fnFinishTaskUptoCard : Claim7 := { stood := { row := fnFinishTaskUptoRow, standIns := [], harness := (true, "f390096f3b863f9c9458fbc680201f50ffcd4651ceffcbe3c6c4e3be681bd4d7"), looks := false }, kinds := [], alts := [], laidByText := true, laidKinds := [.data], laidTests := true, laidLooks := .later }
def FnFinishTaskUptoCardSaid : Prop := Claim7.holds Tryd.pinned (.plain (OpenSpec.upto fnFinishTaskSpec)) fnFinishTaskUptoCard

/-- THE SECOND FORM's CARD OF 'laws.FnReadyTasksTop'. -/
def fnReadyTasksTopUptoCard : Claim7 := { stood := { row := fnReadyTasksTopUptoRow, standIns := [], harness := (true, "f390096f3b863f9c9458fbc680201f50ffcd4651ceffcbe3c6c4e3be681bd4d7"), looks := false }, kinds := [], alts := [], laidByText := true, laidKinds := [.data], laidTests := true, laidLooks := .later }
def FnReadyTasksTopUptoCardSaid : Prop := Claim7.holds Tryd.pinned (.plain (OpenSpec.upto fnReadyTasksTopSpec)) fnReadyTasksTopUptoCard

/-- THE SECOND FORM's CARD OF 'laws.FnFinishTaskReady'. -/
def fnFinishTaskReadyUptoCard : Claim7 := { stood := { row := fnFinishTaskReadyUptoRow, standIns := [], harness := (true, "f390096f3b863f9c9458fbc680201f50ffcd4651ceffcbe3c6c4e3be681bd4d7"), looks := false }, kinds := [], alts := [], laidByText := true, laidKinds := [.data], laidTests := true, laidLooks := .later }
def FnFinishTaskReadyUptoCardSaid : Prop := Claim7.holds Tryd.pinned (.plain (OpenSpec.upto fnFinishTaskReadySpec)) fnFinishTaskReadyUptoCard

/-- THE SECOND FORM's CARD OF 'laws.FnReadyTasks'. -/
def fnReadyTasksUptoCard : Claim7 := { stood := { row := fnReadyTasksUptoRow, standIns := [], harness := (true, "f390096f3b863f9c9458fbc680201f50ffcd4651ceffcbe3c6c4e3be681bd4d7"), looks := false }, kinds := [], alts := [], laidByText := true, laidKinds := [.data], laidTests := true, laidLooks := .later }
def FnReadyTasksUptoCardSaid : Prop := Claim7.holds Tryd.pinned (.plain (OpenSpec.upto fnReadyTasksSpec)) fnReadyTasksUptoCard

/-- THE SECOND FORM's CARD OF 'laws.FnStagesOfDone'. -/
def fnStagesOfDoneUptoCard : Claim7 := { stood := { row := fnStagesOfDoneUptoRow, standIns := [], harness := (true, "f390096f3b863f9c9458fbc680201f50ffcd4651ceffcbe3c6c4e3be681bd4d7"), looks := false }, kinds := [], alts := [], laidByText := true, laidKinds := [.data], laidTests := true, laidLooks := .later }
def FnStagesOfDoneUptoCardSaid : Prop := Claim7.holds Tryd.pinned (.plain (OpenSpec.upto fnStagesOfDoneSpec)) fnStagesOfDoneUptoCard
end Rows
end Go.Proofs.YtekajandipdlhaaDoor
