/-
  DERIVED. GIVEN WITH THE SEED: THE CARDS: each row of YtpibdjkajgfgjaaDoorRows.lean that lists a variable, with what it lists TIED to the program's text (the seventh form; the later family's looks); each row that meets fmt, with fmt's text TOLD by the authors' own Lean function (tested against real Go, not proved from fmt's source: count such statements apart). THE CARD IS WHAT COUNTS. Prove the row's statement (the work); the ties are given (YtpibdjkajgfgjaaDoorTie.lean); close each card by the builder's one call (the guide's Derived/Test/ToyasCard.lean, 'card_holds'). Laid BY PROGRAM, IN A SANDBOX (cutbox-door.mjs). By AI agents, Wed Nov 11 2026. No macro, syntax, notation, axiom, sorry.
-/
import Derived.Test.YtpibdjkajgfgjaaDoorRows
import GoSem.ClaimSeven
namespace Go.Proofs.YtpibdjkajgfgjaaDoor
namespace Rows

/-- THE TIED CARD OF 'laws.FnExactAdmitTasks'. -/
def fnExactAdmitTasksCard : Claim7 := { stood := { row := fnExactAdmitTasksRow, standIns := [], harness := (true, "cb37f9c0180b6188305d3119de31c3cb035479945f5e8f8de6177829686759e4"), looks := true }, kinds := [], alts := [], laidByText := true, laidKinds := [.data], laidTests := true, laidLooks := .later }
def FnExactAdmitTasksCardSaid : Prop := Claim7.holds Tryd.pinned (.plain (OpenSpec.ofChange fnExactAdmitTasksSpec)) fnExactAdmitTasksCard

/-- THE TIED CARD OF 'laws.FnProgressOfMore'. -/
def fnProgressOfMoreCard : Claim7 := { stood := { row := fnProgressOfMoreRow, standIns := [], harness := (true, "cb37f9c0180b6188305d3119de31c3cb035479945f5e8f8de6177829686759e4"), looks := true }, kinds := [], alts := [], laidByText := true, laidKinds := [.data], laidTests := true, laidLooks := .later }
def FnProgressOfMoreCardSaid : Prop := Claim7.holds Tryd.pinned (.plain (OpenSpec.ofChange fnProgressOfMoreSpec)) fnProgressOfMoreCard

/-- THE TIED CARD OF 'laws.FnWaitsFor'. -/
def fnWaitsForCard : Claim7 := { stood := { row := fnWaitsForRow, standIns := [], harness := (true, "cb37f9c0180b6188305d3119de31c3cb035479945f5e8f8de6177829686759e4"), looks := true }, kinds := [], alts := [], laidByText := true, laidKinds := [.data], laidTests := true, laidLooks := .later }
def FnWaitsForCardSaid : Prop := Claim7.holds Tryd.pinned (.plain (OpenSpec.ofChange fnWaitsForSpec)) fnWaitsForCard

/-- THE TIED CARD OF 'laws.FnTimeLeftLeast'. -/
def fnTimeLeftLeastCard : Claim7 := { stood := { row := fnTimeLeftLeastRow, standIns := [], harness := (true, "cb37f9c0180b6188305d3119de31c3cb035479945f5e8f8de6177829686759e4"), looks := true }, kinds := [], alts := [], laidByText := true, laidKinds := [.data], laidTests := true, laidLooks := .later }
def FnTimeLeftLeastCardSaid : Prop := Claim7.holds Tryd.pinned (.plain (OpenSpec.ofChange fnTimeLeftLeastSpec)) fnTimeLeftLeastCard

/-- THE TIED CARD OF 'laws.FnWithoutUselessTimes'. -/
def fnWithoutUselessTimesCard : Claim7 := { stood := { row := fnWithoutUselessTimesRow, standIns := [], harness := (true, "cb37f9c0180b6188305d3119de31c3cb035479945f5e8f8de6177829686759e4"), looks := true }, kinds := [], alts := [], laidByText := true, laidKinds := [.data], laidTests := true, laidLooks := .later }
def FnWithoutUselessTimesCardSaid : Prop := Claim7.holds Tryd.pinned (.plain (OpenSpec.ofChange fnWithoutUselessTimesSpec)) fnWithoutUselessTimesCard

/-- THE TIED CARD OF 'laws.FnAdmitTasksFirst'. -/
def fnAdmitTasksFirstCard : Claim7 := { stood := { row := fnAdmitTasksFirstRow, standIns := [], harness := (true, "cb37f9c0180b6188305d3119de31c3cb035479945f5e8f8de6177829686759e4"), looks := true }, kinds := [], alts := [], laidByText := true, laidKinds := [.data], laidTests := true, laidLooks := .later }
def FnAdmitTasksFirstCardSaid : Prop := Claim7.holds Tryd.pinned (.plain (OpenSpec.ofChange fnAdmitTasksFirstSpec)) fnAdmitTasksFirstCard

/-- THE TIED CARD OF 'laws.FnAdmitTasksMore'. -/
def fnAdmitTasksMoreCard : Claim7 := { stood := { row := fnAdmitTasksMoreRow, standIns := [], harness := (true, "cb37f9c0180b6188305d3119de31c3cb035479945f5e8f8de6177829686759e4"), looks := true }, kinds := [], alts := [], laidByText := true, laidKinds := [.data], laidTests := true, laidLooks := .later }
def FnAdmitTasksMoreCardSaid : Prop := Claim7.holds Tryd.pinned (.plain (OpenSpec.ofChange fnAdmitTasksMoreSpec)) fnAdmitTasksMoreCard

/-- THE TIED CARD OF 'laws.FnAdmitTasks'. -/
def fnAdmitTasksCard : Claim7 := { stood := { row := fnAdmitTasksRow, standIns := [], harness := (true, "cb37f9c0180b6188305d3119de31c3cb035479945f5e8f8de6177829686759e4"), looks := true }, kinds := [], alts := [], laidByText := true, laidKinds := [.data], laidTests := true, laidLooks := .later }
def FnAdmitTasksCardSaid : Prop := Claim7.holds Tryd.pinned (.plain (OpenSpec.ofChange fnAdmitTasksSpec)) fnAdmitTasksCard

/-- THE TIED CARD OF 'laws.FnAdmitTasksAll'. -/
def fnAdmitTasksAllCard : Claim7 := { stood := { row := fnAdmitTasksAllRow, standIns := [], harness := (true, "cb37f9c0180b6188305d3119de31c3cb035479945f5e8f8de6177829686759e4"), looks := true }, kinds := [], alts := [], laidByText := true, laidKinds := [.data], laidTests := true, laidLooks := .later }
def FnAdmitTasksAllCardSaid : Prop := Claim7.holds Tryd.pinned (.plain (OpenSpec.ofChange fnAdmitTasksAllSpec)) fnAdmitTasksAllCard

/-- THE TIED CARD OF 'laws.FnTimeLeft'. -/
def fnTimeLeftCard : Claim7 := { stood := { row := fnTimeLeftRow, standIns := [], harness := (true, "cb37f9c0180b6188305d3119de31c3cb035479945f5e8f8de6177829686759e4"), looks := true }, kinds := [], alts := [], laidByText := true, laidKinds := [.data], laidTests := true, laidLooks := .later }
def FnTimeLeftCardSaid : Prop := Claim7.holds Tryd.pinned (.plain (OpenSpec.ofChange fnTimeLeftSpec)) fnTimeLeftCard

/-- THE TIED CARD OF 'laws.FnExactReadyOrder'. -/
def fnExactReadyOrderCard : Claim7 := { stood := { row := fnExactReadyOrderRow, standIns := [], harness := (true, "cb37f9c0180b6188305d3119de31c3cb035479945f5e8f8de6177829686759e4"), looks := true }, kinds := [], alts := [], laidByText := true, laidKinds := [.data], laidTests := true, laidLooks := .later }
def FnExactReadyOrderCardSaid : Prop := Claim7.holds Tryd.pinned (.plain (OpenSpec.ofChange fnExactReadyOrderSpec)) fnExactReadyOrderCard

/-- THE TIED CARD OF 'laws.FnReadyOrderLeft'. -/
def fnReadyOrderLeftCard : Claim7 := { stood := { row := fnReadyOrderLeftRow, standIns := [], harness := (true, "cb37f9c0180b6188305d3119de31c3cb035479945f5e8f8de6177829686759e4"), looks := true }, kinds := [], alts := [], laidByText := true, laidKinds := [.data], laidTests := true, laidLooks := .later }
def FnReadyOrderLeftCardSaid : Prop := Claim7.holds Tryd.pinned (.plain (OpenSpec.ofChange fnReadyOrderLeftSpec)) fnReadyOrderLeftCard

/-- THE SECOND FORM's CARD OF 'laws.FnExactAdmitTasks'. -/
def fnExactAdmitTasksUptoCard : Claim7 := { stood := { row := fnExactAdmitTasksUptoRow, standIns := [], harness := (true, "cb37f9c0180b6188305d3119de31c3cb035479945f5e8f8de6177829686759e4"), looks := true }, kinds := [], alts := [], laidByText := true, laidKinds := [.data], laidTests := true, laidLooks := .later }
def FnExactAdmitTasksUptoCardSaid : Prop := Claim7.holds Tryd.pinned (.plain (OpenSpec.upto fnExactAdmitTasksSpec)) fnExactAdmitTasksUptoCard

/-- THE SECOND FORM's CARD OF 'laws.FnProgressOfMore'. -/
def fnProgressOfMoreUptoCard : Claim7 := { stood := { row := fnProgressOfMoreUptoRow, standIns := [], harness := (true, "cb37f9c0180b6188305d3119de31c3cb035479945f5e8f8de6177829686759e4"), looks := true }, kinds := [], alts := [], laidByText := true, laidKinds := [.data], laidTests := true, laidLooks := .later }
def FnProgressOfMoreUptoCardSaid : Prop := Claim7.holds Tryd.pinned (.plain (OpenSpec.upto fnProgressOfMoreSpec)) fnProgressOfMoreUptoCard

/-- THE SECOND FORM's CARD OF 'laws.FnWaitsFor'. -/
def fnWaitsForUptoCard : Claim7 := { stood := { row := fnWaitsForUptoRow, standIns := [], harness := (true, "cb37f9c0180b6188305d3119de31c3cb035479945f5e8f8de6177829686759e4"), looks := true }, kinds := [], alts := [], laidByText := true, laidKinds := [.data], laidTests := true, laidLooks := .later }
def FnWaitsForUptoCardSaid : Prop := Claim7.holds Tryd.pinned (.plain (OpenSpec.upto fnWaitsForSpec)) fnWaitsForUptoCard

/-- THE SECOND FORM's CARD OF 'laws.FnTimeLeftLeast'. -/
def fnTimeLeftLeastUptoCard : Claim7 := { stood := { row := fnTimeLeftLeastUptoRow, standIns := [], harness := (true, "cb37f9c0180b6188305d3119de31c3cb035479945f5e8f8de6177829686759e4"), looks := true }, kinds := [], alts := [], laidByText := true, laidKinds := [.data], laidTests := true, laidLooks := .later }
def FnTimeLeftLeastUptoCardSaid : Prop := Claim7.holds Tryd.pinned (.plain (OpenSpec.upto fnTimeLeftLeastSpec)) fnTimeLeftLeastUptoCard

/-- THE SECOND FORM's CARD OF 'laws.FnWithoutUselessTimes'. -/
def fnWithoutUselessTimesUptoCard : Claim7 := { stood := { row := fnWithoutUselessTimesUptoRow, standIns := [], harness := (true, "cb37f9c0180b6188305d3119de31c3cb035479945f5e8f8de6177829686759e4"), looks := true }, kinds := [], alts := [], laidByText := true, laidKinds := [.data], laidTests := true, laidLooks := .later }
def FnWithoutUselessTimesUptoCardSaid : Prop := Claim7.holds Tryd.pinned (.plain (OpenSpec.upto fnWithoutUselessTimesSpec)) fnWithoutUselessTimesUptoCard

/-- THE SECOND FORM's CARD OF 'laws.FnAdmitTasksFirst'. -/
def fnAdmitTasksFirstUptoCard : Claim7 := { stood := { row := fnAdmitTasksFirstUptoRow, standIns := [], harness := (true, "cb37f9c0180b6188305d3119de31c3cb035479945f5e8f8de6177829686759e4"), looks := true }, kinds := [], alts := [], laidByText := true, laidKinds := [.data], laidTests := true, laidLooks := .later }
def FnAdmitTasksFirstUptoCardSaid : Prop := Claim7.holds Tryd.pinned (.plain (OpenSpec.upto fnAdmitTasksFirstSpec)) fnAdmitTasksFirstUptoCard

/-- THE SECOND FORM's CARD OF 'laws.FnAdmitTasksMore'. -/
def fnAdmitTasksMoreUptoCard : Claim7 := { stood := { row := fnAdmitTasksMoreUptoRow, standIns := [], harness := (true, "cb37f9c0180b6188305d3119de31c3cb035479945f5e8f8de6177829686759e4"), looks := true }, kinds := [], alts := [], laidByText := true, laidKinds := [.data], laidTests := true, laidLooks := .later }
def FnAdmitTasksMoreUptoCardSaid : Prop := Claim7.holds Tryd.pinned (.plain (OpenSpec.upto fnAdmitTasksMoreSpec)) fnAdmitTasksMoreUptoCard

/-- THE SECOND FORM's CARD OF 'laws.FnAdmitTasks'. -/
def fnAdmitTasksUptoCard : Claim7 := { stood := { row := fnAdmitTasksUptoRow, standIns := [], harness := (true, "cb37f9c0180b6188305d3119de31c3cb035479945f5e8f8de6177829686759e4"), looks := true }, kinds := [], alts := [], laidByText := true, laidKinds := [.data], laidTests := true, laidLooks := .later }
def FnAdmitTasksUptoCardSaid : Prop := Claim7.holds Tryd.pinned (.plain (OpenSpec.upto fnAdmitTasksSpec)) fnAdmitTasksUptoCard

/-- THE SECOND FORM's CARD OF 'laws.FnAdmitTasksAll'. -/
def fnAdmitTasksAllUptoCard : Claim7 := { stood := { row := fnAdmitTasksAllUptoRow, standIns := [], harness := (true, "cb37f9c0180b6188305d3119de31c3cb035479945f5e8f8de6177829686759e4"), looks := true }, kinds := [], alts := [], laidByText := true, laidKinds := [.data], laidTests := true, laidLooks := .later }
def FnAdmitTasksAllUptoCardSaid : Prop := Claim7.holds Tryd.pinned (.plain (OpenSpec.upto fnAdmitTasksAllSpec)) fnAdmitTasksAllUptoCard

/-- THE SECOND FORM's CARD OF 'laws.FnTimeLeft'. -/
def fnTimeLeftUptoCard : Claim7 := { stood := { row := fnTimeLeftUptoRow, standIns := [], harness := (true, "cb37f9c0180b6188305d3119de31c3cb035479945f5e8f8de6177829686759e4"), looks := true }, kinds := [], alts := [], laidByText := true, laidKinds := [.data], laidTests := true, laidLooks := .later }
def FnTimeLeftUptoCardSaid : Prop := Claim7.holds Tryd.pinned (.plain (OpenSpec.upto fnTimeLeftSpec)) fnTimeLeftUptoCard

/-- THE SECOND FORM's CARD OF 'laws.FnExactReadyOrder'. -/
def fnExactReadyOrderUptoCard : Claim7 := { stood := { row := fnExactReadyOrderUptoRow, standIns := [], harness := (true, "cb37f9c0180b6188305d3119de31c3cb035479945f5e8f8de6177829686759e4"), looks := true }, kinds := [], alts := [], laidByText := true, laidKinds := [.data], laidTests := true, laidLooks := .later }
def FnExactReadyOrderUptoCardSaid : Prop := Claim7.holds Tryd.pinned (.plain (OpenSpec.upto fnExactReadyOrderSpec)) fnExactReadyOrderUptoCard

/-- THE SECOND FORM's CARD OF 'laws.FnReadyOrderLeft'. -/
def fnReadyOrderLeftUptoCard : Claim7 := { stood := { row := fnReadyOrderLeftUptoRow, standIns := [], harness := (true, "cb37f9c0180b6188305d3119de31c3cb035479945f5e8f8de6177829686759e4"), looks := true }, kinds := [], alts := [], laidByText := true, laidKinds := [.data], laidTests := true, laidLooks := .later }
def FnReadyOrderLeftUptoCardSaid : Prop := Claim7.holds Tryd.pinned (.plain (OpenSpec.upto fnReadyOrderLeftSpec)) fnReadyOrderLeftUptoCard
end Rows
end Go.Proofs.YtpibdjkajgfgjaaDoor
