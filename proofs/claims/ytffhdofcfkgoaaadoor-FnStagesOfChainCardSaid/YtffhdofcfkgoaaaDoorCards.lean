/-
  DERIVED. GIVEN WITH THE SEED: THE CARDS: each row of YtffhdofcfkgoaaaDoorRows.lean that lists a variable, with what it lists TIED to the program's text (the seventh form; the later family's looks); each row that meets fmt, with fmt's text TOLD by the authors' own Lean function (tested against real Go, not proved from fmt's source: count such statements apart). THE CARD IS WHAT COUNTS. Prove the row's statement (the work); the ties are given (YtffhdofcfkgoaaaDoorTie.lean); close each card by the builder's one call (the guide's Derived/Test/ToyasCard.lean, 'card_holds'). Laid BY PROGRAM, IN A SANDBOX (cutbox-door.mjs). By AI agents, Wed Nov 11 2026. No macro, syntax, notation, axiom, sorry.
-/
import Derived.Test.YtffhdofcfkgoaaaDoorRows
import GoSem.ClaimSeven
namespace Go.Proofs.YtffhdofcfkgoaaaDoor
namespace Rows

/-- THE TIED CARD OF 'laws.FnExactCountOrders'. -/
def fnExactCountOrdersCard : Claim7 := { stood := { row := fnExactCountOrdersRow, standIns := [], harness := (true, "e1ed50b3398e2abfbc98869db9210db4a7bb790429e7b2d73fbd833ac8207302"), looks := false }, kinds := [], alts := [], laidByText := true, laidKinds := [.data], laidTests := true, laidLooks := .later }
def FnExactCountOrdersCardSaid : Prop := Claim7.holds Tryd.pinned (.plain (OpenSpec.ofChange fnExactCountOrdersSpec)) fnExactCountOrdersCard

/-- THE TIED CARD OF 'laws.FnCountOrders'. -/
def fnCountOrdersCard : Claim7 := { stood := { row := fnCountOrdersRow, standIns := [], harness := (true, "e1ed50b3398e2abfbc98869db9210db4a7bb790429e7b2d73fbd833ac8207302"), looks := false }, kinds := [], alts := [], laidByText := true, laidKinds := [.data], laidTests := true, laidLooks := .later }
def FnCountOrdersCardSaid : Prop := Claim7.holds Tryd.pinned (.plain (OpenSpec.ofChange fnCountOrdersSpec)) fnCountOrdersCard

/-- THE TIED CARD OF 'laws.FnExactRunsTogether'. -/
def fnExactRunsTogetherCard : Claim7 := { stood := { row := fnExactRunsTogetherRow, standIns := [], harness := (true, "e1ed50b3398e2abfbc98869db9210db4a7bb790429e7b2d73fbd833ac8207302"), looks := false }, kinds := [], alts := [], laidByText := true, laidKinds := [.data], laidTests := true, laidLooks := .later }
def FnExactRunsTogetherCardSaid : Prop := Claim7.holds Tryd.pinned (.plain (OpenSpec.ofChange fnExactRunsTogetherSpec)) fnExactRunsTogetherCard

/-- THE TIED CARD OF 'laws.FnExactUsedUnits'. -/
def fnExactUsedUnitsCard : Claim7 := { stood := { row := fnExactUsedUnitsRow, standIns := [], harness := (true, "e1ed50b3398e2abfbc98869db9210db4a7bb790429e7b2d73fbd833ac8207302"), looks := false }, kinds := [], alts := [], laidByText := true, laidKinds := [.data], laidTests := true, laidLooks := .later }
def FnExactUsedUnitsCardSaid : Prop := Claim7.holds Tryd.pinned (.plain (OpenSpec.ofChange fnExactUsedUnitsSpec)) fnExactUsedUnitsCard

/-- THE TIED CARD OF 'laws.FnCountOrdersChain'. -/
def fnCountOrdersChainCard : Claim7 := { stood := { row := fnCountOrdersChainRow, standIns := [], harness := (true, "e1ed50b3398e2abfbc98869db9210db4a7bb790429e7b2d73fbd833ac8207302"), looks := false }, kinds := [], alts := [], laidByText := true, laidKinds := [.data], laidTests := true, laidLooks := .later }
def FnCountOrdersChainCardSaid : Prop := Claim7.holds Tryd.pinned (.plain (OpenSpec.ofChange fnCountOrdersChainSpec)) fnCountOrdersChainCard

/-- THE TIED CARD OF 'laws.FnUsedUnits'. -/
def fnUsedUnitsCard : Claim7 := { stood := { row := fnUsedUnitsRow, standIns := [], harness := (true, "e1ed50b3398e2abfbc98869db9210db4a7bb790429e7b2d73fbd833ac8207302"), looks := false }, kinds := [], alts := [], laidByText := true, laidKinds := [.data], laidTests := true, laidLooks := .later }
def FnUsedUnitsCardSaid : Prop := Claim7.holds Tryd.pinned (.plain (OpenSpec.ofChange fnUsedUnitsSpec)) fnUsedUnitsCard

/-- THE TIED CARD OF 'laws.FnUsedUnitsAll'. -/
def fnUsedUnitsAllCard : Claim7 := { stood := { row := fnUsedUnitsAllRow, standIns := [], harness := (true, "e1ed50b3398e2abfbc98869db9210db4a7bb790429e7b2d73fbd833ac8207302"), looks := false }, kinds := [], alts := [], laidByText := true, laidKinds := [.data], laidTests := true, laidLooks := .later }
def FnUsedUnitsAllCardSaid : Prop := Claim7.holds Tryd.pinned (.plain (OpenSpec.ofChange fnUsedUnitsAllSpec)) fnUsedUnitsAllCard

/-- THE TIED CARD OF 'laws.FnCountOrdersLess'. -/
def fnCountOrdersLessCard : Claim7 := { stood := { row := fnCountOrdersLessRow, standIns := [], harness := (true, "e1ed50b3398e2abfbc98869db9210db4a7bb790429e7b2d73fbd833ac8207302"), looks := false }, kinds := [], alts := [], laidByText := true, laidKinds := [.data], laidTests := true, laidLooks := .later }
def FnCountOrdersLessCardSaid : Prop := Claim7.holds Tryd.pinned (.plain (OpenSpec.ofChange fnCountOrdersLessSpec)) fnCountOrdersLessCard

/-- THE TIED CARD OF 'laws.FnRunsTogether'. -/
def fnRunsTogetherCard : Claim7 := { stood := { row := fnRunsTogetherRow, standIns := [], harness := (true, "e1ed50b3398e2abfbc98869db9210db4a7bb790429e7b2d73fbd833ac8207302"), looks := false }, kinds := [], alts := [], laidByText := true, laidKinds := [.data], laidTests := true, laidLooks := .later }
def FnRunsTogetherCardSaid : Prop := Claim7.holds Tryd.pinned (.plain (OpenSpec.ofChange fnRunsTogetherSpec)) fnRunsTogetherCard

/-- THE TIED CARD OF 'laws.FnRunsTogetherOne'. -/
def fnRunsTogetherOneCard : Claim7 := { stood := { row := fnRunsTogetherOneRow, standIns := [], harness := (true, "e1ed50b3398e2abfbc98869db9210db4a7bb790429e7b2d73fbd833ac8207302"), looks := false }, kinds := [], alts := [], laidByText := true, laidKinds := [.data], laidTests := true, laidLooks := .later }
def FnRunsTogetherOneCardSaid : Prop := Claim7.holds Tryd.pinned (.plain (OpenSpec.ofChange fnRunsTogetherOneSpec)) fnRunsTogetherOneCard

/-- THE TIED CARD OF 'laws.FnRunsTogetherUnits'. -/
def fnRunsTogetherUnitsCard : Claim7 := { stood := { row := fnRunsTogetherUnitsRow, standIns := [], harness := (true, "e1ed50b3398e2abfbc98869db9210db4a7bb790429e7b2d73fbd833ac8207302"), looks := false }, kinds := [], alts := [], laidByText := true, laidKinds := [.data], laidTests := true, laidLooks := .later }
def FnRunsTogetherUnitsCardSaid : Prop := Claim7.holds Tryd.pinned (.plain (OpenSpec.ofChange fnRunsTogetherUnitsSpec)) fnRunsTogetherUnitsCard

/-- THE TIED CARD OF 'laws.FnStagesOfChain'. -/
def fnStagesOfChainCard : Claim7 := { stood := { row := fnStagesOfChainRow, standIns := [], harness := (true, "e1ed50b3398e2abfbc98869db9210db4a7bb790429e7b2d73fbd833ac8207302"), looks := false }, kinds := [], alts := [], laidByText := true, laidKinds := [.data], laidTests := true, laidLooks := .later }
def FnStagesOfChainCardSaid : Prop := Claim7.holds Tryd.pinned (.plain (OpenSpec.ofChange fnStagesOfChainSpec)) fnStagesOfChainCard

/-- THE SECOND FORM's CARD OF 'laws.FnExactCountOrders'. -/
def fnExactCountOrdersUptoCard : Claim7 := { stood := { row := fnExactCountOrdersUptoRow, standIns := [], harness := (true, "e1ed50b3398e2abfbc98869db9210db4a7bb790429e7b2d73fbd833ac8207302"), looks := false }, kinds := [], alts := [], laidByText := true, laidKinds := [.data], laidTests := true, laidLooks := .later }
def FnExactCountOrdersUptoCardSaid : Prop := Claim7.holds Tryd.pinned (.plain (OpenSpec.upto fnExactCountOrdersSpec)) fnExactCountOrdersUptoCard

/-- THE SECOND FORM's CARD OF 'laws.FnCountOrders'. -/
def fnCountOrdersUptoCard : Claim7 := { stood := { row := fnCountOrdersUptoRow, standIns := [], harness := (true, "e1ed50b3398e2abfbc98869db9210db4a7bb790429e7b2d73fbd833ac8207302"), looks := false }, kinds := [], alts := [], laidByText := true, laidKinds := [.data], laidTests := true, laidLooks := .later }
def FnCountOrdersUptoCardSaid : Prop := Claim7.holds Tryd.pinned (.plain (OpenSpec.upto fnCountOrdersSpec)) fnCountOrdersUptoCard

/-- THE SECOND FORM's CARD OF 'laws.FnExactRunsTogether'. -/
def fnExactRunsTogetherUptoCard : Claim7 := { stood := { row := fnExactRunsTogetherUptoRow, standIns := [], harness := (true, "e1ed50b3398e2abfbc98869db9210db4a7bb790429e7b2d73fbd833ac8207302"), looks := false }, kinds := [], alts := [], laidByText := true, laidKinds := [.data], laidTests := true, laidLooks := .later }
def FnExactRunsTogetherUptoCardSaid : Prop := Claim7.holds Tryd.pinned (.plain (OpenSpec.upto fnExactRunsTogetherSpec)) fnExactRunsTogetherUptoCard

/-- THE SECOND FORM's CARD OF 'laws.FnExactUsedUnits'. -/
def fnExactUsedUnitsUptoCard : Claim7 := { stood := { row := fnExactUsedUnitsUptoRow, standIns := [], harness := (true, "e1ed50b3398e2abfbc98869db9210db4a7bb790429e7b2d73fbd833ac8207302"), looks := false }, kinds := [], alts := [], laidByText := true, laidKinds := [.data], laidTests := true, laidLooks := .later }
def FnExactUsedUnitsUptoCardSaid : Prop := Claim7.holds Tryd.pinned (.plain (OpenSpec.upto fnExactUsedUnitsSpec)) fnExactUsedUnitsUptoCard

/-- THE SECOND FORM's CARD OF 'laws.FnCountOrdersChain'. -/
def fnCountOrdersChainUptoCard : Claim7 := { stood := { row := fnCountOrdersChainUptoRow, standIns := [], harness := (true, "e1ed50b3398e2abfbc98869db9210db4a7bb790429e7b2d73fbd833ac8207302"), looks := false }, kinds := [], alts := [], laidByText := true, laidKinds := [.data], laidTests := true, laidLooks := .later }
def FnCountOrdersChainUptoCardSaid : Prop := Claim7.holds Tryd.pinned (.plain (OpenSpec.upto fnCountOrdersChainSpec)) fnCountOrdersChainUptoCard

/-- THE SECOND FORM's CARD OF 'laws.FnUsedUnits'. -/
def fnUsedUnitsUptoCard : Claim7 := { stood := { row := fnUsedUnitsUptoRow, standIns := [], harness := (true, "e1ed50b3398e2abfbc98869db9210db4a7bb790429e7b2d73fbd833ac8207302"), looks := false }, kinds := [], alts := [], laidByText := true, laidKinds := [.data], laidTests := true, laidLooks := .later }
def FnUsedUnitsUptoCardSaid : Prop := Claim7.holds Tryd.pinned (.plain (OpenSpec.upto fnUsedUnitsSpec)) fnUsedUnitsUptoCard

/-- THE SECOND FORM's CARD OF 'laws.FnUsedUnitsAll'. -/
def fnUsedUnitsAllUptoCard : Claim7 := { stood := { row := fnUsedUnitsAllUptoRow, standIns := [], harness := (true, "e1ed50b3398e2abfbc98869db9210db4a7bb790429e7b2d73fbd833ac8207302"), looks := false }, kinds := [], alts := [], laidByText := true, laidKinds := [.data], laidTests := true, laidLooks := .later }
def FnUsedUnitsAllUptoCardSaid : Prop := Claim7.holds Tryd.pinned (.plain (OpenSpec.upto fnUsedUnitsAllSpec)) fnUsedUnitsAllUptoCard

/-- THE SECOND FORM's CARD OF 'laws.FnCountOrdersLess'. -/
def fnCountOrdersLessUptoCard : Claim7 := { stood := { row := fnCountOrdersLessUptoRow, standIns := [], harness := (true, "e1ed50b3398e2abfbc98869db9210db4a7bb790429e7b2d73fbd833ac8207302"), looks := false }, kinds := [], alts := [], laidByText := true, laidKinds := [.data], laidTests := true, laidLooks := .later }
def FnCountOrdersLessUptoCardSaid : Prop := Claim7.holds Tryd.pinned (.plain (OpenSpec.upto fnCountOrdersLessSpec)) fnCountOrdersLessUptoCard

/-- THE SECOND FORM's CARD OF 'laws.FnRunsTogether'. -/
def fnRunsTogetherUptoCard : Claim7 := { stood := { row := fnRunsTogetherUptoRow, standIns := [], harness := (true, "e1ed50b3398e2abfbc98869db9210db4a7bb790429e7b2d73fbd833ac8207302"), looks := false }, kinds := [], alts := [], laidByText := true, laidKinds := [.data], laidTests := true, laidLooks := .later }
def FnRunsTogetherUptoCardSaid : Prop := Claim7.holds Tryd.pinned (.plain (OpenSpec.upto fnRunsTogetherSpec)) fnRunsTogetherUptoCard

/-- THE SECOND FORM's CARD OF 'laws.FnRunsTogetherOne'. -/
def fnRunsTogetherOneUptoCard : Claim7 := { stood := { row := fnRunsTogetherOneUptoRow, standIns := [], harness := (true, "e1ed50b3398e2abfbc98869db9210db4a7bb790429e7b2d73fbd833ac8207302"), looks := false }, kinds := [], alts := [], laidByText := true, laidKinds := [.data], laidTests := true, laidLooks := .later }
def FnRunsTogetherOneUptoCardSaid : Prop := Claim7.holds Tryd.pinned (.plain (OpenSpec.upto fnRunsTogetherOneSpec)) fnRunsTogetherOneUptoCard

/-- THE SECOND FORM's CARD OF 'laws.FnRunsTogetherUnits'. -/
def fnRunsTogetherUnitsUptoCard : Claim7 := { stood := { row := fnRunsTogetherUnitsUptoRow, standIns := [], harness := (true, "e1ed50b3398e2abfbc98869db9210db4a7bb790429e7b2d73fbd833ac8207302"), looks := false }, kinds := [], alts := [], laidByText := true, laidKinds := [.data], laidTests := true, laidLooks := .later }
def FnRunsTogetherUnitsUptoCardSaid : Prop := Claim7.holds Tryd.pinned (.plain (OpenSpec.upto fnRunsTogetherUnitsSpec)) fnRunsTogetherUnitsUptoCard

/-- THE SECOND FORM's CARD OF 'laws.FnStagesOfChain'. -/
def fnStagesOfChainUptoCard : Claim7 := { stood := { row := fnStagesOfChainUptoRow, standIns := [], harness := (true, "e1ed50b3398e2abfbc98869db9210db4a7bb790429e7b2d73fbd833ac8207302"), looks := false }, kinds := [], alts := [], laidByText := true, laidKinds := [.data], laidTests := true, laidLooks := .later }
def FnStagesOfChainUptoCardSaid : Prop := Claim7.holds Tryd.pinned (.plain (OpenSpec.upto fnStagesOfChainSpec)) fnStagesOfChainUptoCard
end Rows
end Go.Proofs.YtffhdofcfkgoaaaDoor
