/-
  DERIVED. GIVEN WITH THE SEED: THE CARDS: each row of YtimbfcedigaffaaDoorRows.lean that lists a variable, with what it lists TIED to the program's text (the seventh form; the later family's looks); each row that meets fmt, with fmt's text TOLD by the authors' own Lean function (tested against real Go, not proved from fmt's source: count such statements apart). THE CARD IS WHAT COUNTS. Prove the row's statement (the work); the ties are given (YtimbfcedigaffaaDoorTie.lean); close each card by the builder's one call (the guide's Derived/Test/ToyasCard.lean, 'card_holds'). Laid BY PROGRAM, IN A SANDBOX (cutbox-door.mjs). By AI agents, Wed Nov 11 2026. No macro, syntax, notation, axiom, sorry.
-/
import Derived.Test.YtimbfcedigaffaaDoorRows
import GoSem.ClaimSeven
namespace Go.Proofs.YtimbfcedigaffaaDoor
namespace Rows

/-- THE TIED CARD OF 'laws.FnExactBestTime'. -/
def fnExactBestTimeCard : Claim7 := { stood := { row := fnExactBestTimeRow, standIns := [], harness := (true, "1260dc849008cf02e4a4ff27cf13a3472ec10c2e04bb0f744a1c469ed090fb24"), looks := false }, kinds := [], alts := [], laidByText := true, laidKinds := [.data], laidTests := true, laidLooks := .later }
def FnExactBestTimeCardSaid : Prop := Claim7.holds Tryd.pinned (.plain (OpenSpec.ofChange fnExactBestTimeSpec)) fnExactBestTimeCard

/-- THE TIED CARD OF 'laws.FnExactBestOrder'. -/
def fnExactBestOrderCard : Claim7 := { stood := { row := fnExactBestOrderRow, standIns := [], harness := (true, "1260dc849008cf02e4a4ff27cf13a3472ec10c2e04bb0f744a1c469ed090fb24"), looks := false }, kinds := [], alts := [], laidByText := true, laidKinds := [.data], laidTests := true, laidLooks := .later }
def FnExactBestOrderCardSaid : Prop := Claim7.holds Tryd.pinned (.plain (OpenSpec.ofChange fnExactBestOrderSpec)) fnExactBestOrderCard

/-- THE TIED CARD OF 'laws.FnBestOrderLeast'. -/
def fnBestOrderLeastCard : Claim7 := { stood := { row := fnBestOrderLeastRow, standIns := [], harness := (true, "1260dc849008cf02e4a4ff27cf13a3472ec10c2e04bb0f744a1c469ed090fb24"), looks := false }, kinds := [], alts := [], laidByText := true, laidKinds := [.data], laidTests := true, laidLooks := .later }
def FnBestOrderLeastCardSaid : Prop := Claim7.holds Tryd.pinned (.plain (OpenSpec.ofChange fnBestOrderLeastSpec)) fnBestOrderLeastCard

/-- THE TIED CARD OF 'laws.FnBestTimeMore'. -/
def fnBestTimeMoreCard : Claim7 := { stood := { row := fnBestTimeMoreRow, standIns := [], harness := (true, "1260dc849008cf02e4a4ff27cf13a3472ec10c2e04bb0f744a1c469ed090fb24"), looks := false }, kinds := [], alts := [], laidByText := true, laidKinds := [.data], laidTests := true, laidLooks := .later }
def FnBestTimeMoreCardSaid : Prop := Claim7.holds Tryd.pinned (.plain (OpenSpec.ofChange fnBestTimeMoreSpec)) fnBestTimeMoreCard

/-- THE TIED CARD OF 'laws.FnBestTimeLess'. -/
def fnBestTimeLessCard : Claim7 := { stood := { row := fnBestTimeLessRow, standIns := [], harness := (true, "1260dc849008cf02e4a4ff27cf13a3472ec10c2e04bb0f744a1c469ed090fb24"), looks := false }, kinds := [], alts := [], laidByText := true, laidKinds := [.data], laidTests := true, laidLooks := .later }
def FnBestTimeLessCardSaid : Prop := Claim7.holds Tryd.pinned (.plain (OpenSpec.ofChange fnBestTimeLessSpec)) fnBestTimeLessCard

/-- THE SECOND FORM's CARD OF 'laws.FnExactBestTime'. -/
def fnExactBestTimeUptoCard : Claim7 := { stood := { row := fnExactBestTimeUptoRow, standIns := [], harness := (true, "1260dc849008cf02e4a4ff27cf13a3472ec10c2e04bb0f744a1c469ed090fb24"), looks := false }, kinds := [], alts := [], laidByText := true, laidKinds := [.data], laidTests := true, laidLooks := .later }
def FnExactBestTimeUptoCardSaid : Prop := Claim7.holds Tryd.pinned (.plain (OpenSpec.upto fnExactBestTimeSpec)) fnExactBestTimeUptoCard

/-- THE SECOND FORM's CARD OF 'laws.FnExactBestOrder'. -/
def fnExactBestOrderUptoCard : Claim7 := { stood := { row := fnExactBestOrderUptoRow, standIns := [], harness := (true, "1260dc849008cf02e4a4ff27cf13a3472ec10c2e04bb0f744a1c469ed090fb24"), looks := false }, kinds := [], alts := [], laidByText := true, laidKinds := [.data], laidTests := true, laidLooks := .later }
def FnExactBestOrderUptoCardSaid : Prop := Claim7.holds Tryd.pinned (.plain (OpenSpec.upto fnExactBestOrderSpec)) fnExactBestOrderUptoCard

/-- THE SECOND FORM's CARD OF 'laws.FnBestOrderLeast'. -/
def fnBestOrderLeastUptoCard : Claim7 := { stood := { row := fnBestOrderLeastUptoRow, standIns := [], harness := (true, "1260dc849008cf02e4a4ff27cf13a3472ec10c2e04bb0f744a1c469ed090fb24"), looks := false }, kinds := [], alts := [], laidByText := true, laidKinds := [.data], laidTests := true, laidLooks := .later }
def FnBestOrderLeastUptoCardSaid : Prop := Claim7.holds Tryd.pinned (.plain (OpenSpec.upto fnBestOrderLeastSpec)) fnBestOrderLeastUptoCard

/-- THE SECOND FORM's CARD OF 'laws.FnBestTimeMore'. -/
def fnBestTimeMoreUptoCard : Claim7 := { stood := { row := fnBestTimeMoreUptoRow, standIns := [], harness := (true, "1260dc849008cf02e4a4ff27cf13a3472ec10c2e04bb0f744a1c469ed090fb24"), looks := false }, kinds := [], alts := [], laidByText := true, laidKinds := [.data], laidTests := true, laidLooks := .later }
def FnBestTimeMoreUptoCardSaid : Prop := Claim7.holds Tryd.pinned (.plain (OpenSpec.upto fnBestTimeMoreSpec)) fnBestTimeMoreUptoCard

/-- THE SECOND FORM's CARD OF 'laws.FnBestTimeLess'. -/
def fnBestTimeLessUptoCard : Claim7 := { stood := { row := fnBestTimeLessUptoRow, standIns := [], harness := (true, "1260dc849008cf02e4a4ff27cf13a3472ec10c2e04bb0f744a1c469ed090fb24"), looks := false }, kinds := [], alts := [], laidByText := true, laidKinds := [.data], laidTests := true, laidLooks := .later }
def FnBestTimeLessUptoCardSaid : Prop := Claim7.holds Tryd.pinned (.plain (OpenSpec.upto fnBestTimeLessSpec)) fnBestTimeLessUptoCard
end Rows
end Go.Proofs.YtimbfcedigaffaaDoor
