/-
  DERIVED. GIVEN WITH THE SEED: THE CARDS: each row of YtfehecoebkbgeaaDoorRows.lean that lists a variable, with what it lists TIED to the program's text (the seventh form; the later family's looks); each row that meets fmt, with fmt's text TOLD by the authors' own Lean function (tested against real Go, not proved from fmt's source: count such statements apart). THE CARD IS WHAT COUNTS. Prove the row's statement (the work); the ties are given (YtfehecoebkbgeaaDoorTie.lean); close each card by the builder's one call (the guide's Derived/Test/ToyasCard.lean, 'card_holds'). Laid BY PROGRAM, IN A SANDBOX (cutbox-door.mjs). By AI agents, Wed Nov 11 2026. No macro, syntax, notation, axiom, sorry.
-/
import Derived.Test.YtfehecoebkbgeaaDoorRows
import GoSem.ClaimSeven
namespace Go.Proofs.YtfehecoebkbgeaaDoor
namespace Rows

/-- THE TIED CARD OF 'laws.FnExactFormatGraph'. -/
def fnExactFormatGraphCard : Claim7 := { stood := { row := fnExactFormatGraphRow, standIns := [], harness := (true, "92cdcc8535f02b05039e21785c2b5240503cca234dacb3459491a5d6fe131669"), looks := false }, kinds := [], alts := [], laidByText := true, laidKinds := [.data, .data, .data], laidTests := true, laidLooks := .later }
def FnExactFormatGraphCardSaid : Prop := Claim7.holds Tryd.pinned (.plain (OpenSpec.ofChange fnExactFormatGraphSpec)) fnExactFormatGraphCard

/-- THE TIED CARD OF 'laws.FnGraphTextNumbers'. -/
def fnGraphTextNumbersCard : Claim7 := { stood := { row := fnGraphTextNumbersRow, standIns := [], harness := (true, "92cdcc8535f02b05039e21785c2b5240503cca234dacb3459491a5d6fe131669"), looks := false }, kinds := [], alts := [], laidByText := true, laidKinds := [.data, .data, .data], laidTests := true, laidLooks := .later }
def FnGraphTextNumbersCardSaid : Prop := Claim7.holds Tryd.pinned (.plain (OpenSpec.ofChange fnGraphTextNumbersSpec)) fnGraphTextNumbersCard

/-- THE TIED CARD OF 'laws.FnGraphTextParts'. -/
def fnGraphTextPartsCard : Claim7 := { stood := { row := fnGraphTextPartsRow, standIns := [], harness := (true, "92cdcc8535f02b05039e21785c2b5240503cca234dacb3459491a5d6fe131669"), looks := false }, kinds := [], alts := [], laidByText := true, laidKinds := [.data, .data, .data], laidTests := true, laidLooks := .later }
def FnGraphTextPartsCardSaid : Prop := Claim7.holds Tryd.pinned (.plain (OpenSpec.ofChange fnGraphTextPartsSpec)) fnGraphTextPartsCard

/-- THE SECOND FORM's CARD OF 'laws.FnExactFormatGraph'. -/
def fnExactFormatGraphUptoCard : Claim7 := { stood := { row := fnExactFormatGraphUptoRow, standIns := [], harness := (true, "92cdcc8535f02b05039e21785c2b5240503cca234dacb3459491a5d6fe131669"), looks := false }, kinds := [], alts := [], laidByText := true, laidKinds := [.data, .data, .data], laidTests := true, laidLooks := .later }
def FnExactFormatGraphUptoCardSaid : Prop := Claim7.holds Tryd.pinned (.plain (OpenSpec.upto fnExactFormatGraphSpec)) fnExactFormatGraphUptoCard

/-- THE SECOND FORM's CARD OF 'laws.FnGraphTextNumbers'. -/
def fnGraphTextNumbersUptoCard : Claim7 := { stood := { row := fnGraphTextNumbersUptoRow, standIns := [], harness := (true, "92cdcc8535f02b05039e21785c2b5240503cca234dacb3459491a5d6fe131669"), looks := false }, kinds := [], alts := [], laidByText := true, laidKinds := [.data, .data, .data], laidTests := true, laidLooks := .later }
def FnGraphTextNumbersUptoCardSaid : Prop := Claim7.holds Tryd.pinned (.plain (OpenSpec.upto fnGraphTextNumbersSpec)) fnGraphTextNumbersUptoCard

/-- THE SECOND FORM's CARD OF 'laws.FnGraphTextParts'. -/
def fnGraphTextPartsUptoCard : Claim7 := { stood := { row := fnGraphTextPartsUptoRow, standIns := [], harness := (true, "92cdcc8535f02b05039e21785c2b5240503cca234dacb3459491a5d6fe131669"), looks := false }, kinds := [], alts := [], laidByText := true, laidKinds := [.data, .data, .data], laidTests := true, laidLooks := .later }
def FnGraphTextPartsUptoCardSaid : Prop := Claim7.holds Tryd.pinned (.plain (OpenSpec.upto fnGraphTextPartsSpec)) fnGraphTextPartsUptoCard
end Rows
end Go.Proofs.YtfehecoebkbgeaaDoor
