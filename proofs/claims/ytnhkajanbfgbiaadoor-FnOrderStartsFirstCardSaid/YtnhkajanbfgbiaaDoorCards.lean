/-
  DERIVED. GIVEN WITH THE SEED: THE CARDS: each row of YtnhkajanbfgbiaaDoorRows.lean that lists a variable, with what it lists TIED to the program's text (the seventh form; the later family's looks); each row that meets fmt, with fmt's text TOLD by the authors' own Lean function (tested against real Go, not proved from fmt's source: count such statements apart). THE CARD IS WHAT COUNTS. Prove the row's statement (the work); the ties are given (YtnhkajanbfgbiaaDoorTie.lean); close each card by the builder's one call (the guide's Derived/Test/ToyasCard.lean, 'card_holds'). Laid BY PROGRAM, IN A SANDBOX (cutbox-door.mjs). By AI agents, Wed Nov 11 2026. No macro, syntax, notation, axiom, sorry.
-/
import Derived.Test.YtnhkajanbfgbiaaDoorRows
import GoSem.ClaimSeven
namespace Go.Proofs.YtnhkajanbfgbiaaDoor
namespace Rows

/-- THE TIED CARD OF 'laws.FnExactOrderStarts'. -/
def fnExactOrderStartsCard : Claim7 := { stood := { row := fnExactOrderStartsRow, standIns := [], harness := (true, "848eb94e38e8fe228c2c75e2c3065f0df47cd63fa28a3f92cf5fba17fae4d4ec"), looks := false }, kinds := [], alts := [], laidByText := true, laidKinds := [.data], laidTests := true, laidLooks := .later }
def FnExactOrderStartsCardSaid : Prop := Claim7.holds Tryd.pinned (.plain (OpenSpec.ofChange fnExactOrderStartsSpec)) fnExactOrderStartsCard

/-- THE TIED CARD OF 'laws.FnOrderStartsFirst'. -/
def fnOrderStartsFirstCard : Claim7 := { stood := { row := fnOrderStartsFirstRow, standIns := [], harness := (true, "848eb94e38e8fe228c2c75e2c3065f0df47cd63fa28a3f92cf5fba17fae4d4ec"), looks := false }, kinds := [], alts := [], laidByText := true, laidKinds := [.data], laidTests := true, laidLooks := .later }
def FnOrderStartsFirstCardSaid : Prop := Claim7.holds Tryd.pinned (.plain (OpenSpec.ofChange fnOrderStartsFirstSpec)) fnOrderStartsFirstCard

/-- THE SECOND FORM's CARD OF 'laws.FnExactOrderStarts'. -/
def fnExactOrderStartsUptoCard : Claim7 := { stood := { row := fnExactOrderStartsUptoRow, standIns := [], harness := (true, "848eb94e38e8fe228c2c75e2c3065f0df47cd63fa28a3f92cf5fba17fae4d4ec"), looks := false }, kinds := [], alts := [], laidByText := true, laidKinds := [.data], laidTests := true, laidLooks := .later }
def FnExactOrderStartsUptoCardSaid : Prop := Claim7.holds Tryd.pinned (.plain (OpenSpec.upto fnExactOrderStartsSpec)) fnExactOrderStartsUptoCard

/-- THE SECOND FORM's CARD OF 'laws.FnOrderStartsFirst'. -/
def fnOrderStartsFirstUptoCard : Claim7 := { stood := { row := fnOrderStartsFirstUptoRow, standIns := [], harness := (true, "848eb94e38e8fe228c2c75e2c3065f0df47cd63fa28a3f92cf5fba17fae4d4ec"), looks := false }, kinds := [], alts := [], laidByText := true, laidKinds := [.data], laidTests := true, laidLooks := .later }
def FnOrderStartsFirstUptoCardSaid : Prop := Claim7.holds Tryd.pinned (.plain (OpenSpec.upto fnOrderStartsFirstSpec)) fnOrderStartsFirstUptoCard
end Rows
end Go.Proofs.YtnhkajanbfgbiaaDoor
