/-
  DERIVED. GIVEN WITH THE SEED: THE CARDS: each row of YtpdgnncnejmhfaaDoorRows.lean that lists a variable, with what it lists TIED to the program's text (the seventh form; the later family's looks); each row that meets fmt, with fmt's text TOLD by the authors' own Lean function (tested against real Go, not proved from fmt's source: count such statements apart). THE CARD IS WHAT COUNTS. Prove the row's statement (the work); the ties are given (YtpdgnncnejmhfaaDoorTie.lean); close each card by the builder's one call (the guide's Derived/Test/ToyasCard.lean, 'card_holds'). Laid BY PROGRAM, IN A SANDBOX (cutbox-door.mjs). By AI agents, Wed Nov 11 2026. No macro, syntax, notation, axiom, sorry.
-/
import Derived.Test.YtpdgnncnejmhfaaDoorRows
import GoSem.ClaimSeven
namespace Go.Proofs.YtpdgnncnejmhfaaDoor
namespace Rows

/-- THE TIED CARD OF 'laws.FnExactUselessNeeds'. -/
def fnExactUselessNeedsCard : Claim7 := { stood := { row := fnExactUselessNeedsRow, standIns := [], harness := (true, "93baffc9aa0d74ea4243694dc1850b62b174008baa127f3739de9a4e1de46133"), looks := false }, kinds := [], alts := [], laidByText := true, laidKinds := [.data], laidTests := true, laidLooks := .later }
def FnExactUselessNeedsCardSaid : Prop := Claim7.holds Tryd.pinned (.plain (OpenSpec.ofChange fnExactUselessNeedsSpec)) fnExactUselessNeedsCard

/-- THE TIED CARD OF 'laws.FnExactWithoutUseless'. -/
def fnExactWithoutUselessCard : Claim7 := { stood := { row := fnExactWithoutUselessRow, standIns := [], harness := (true, "93baffc9aa0d74ea4243694dc1850b62b174008baa127f3739de9a4e1de46133"), looks := false }, kinds := [], alts := [], laidByText := true, laidKinds := [.data], laidTests := true, laidLooks := .later }
def FnExactWithoutUselessCardSaid : Prop := Claim7.holds Tryd.pinned (.plain (OpenSpec.ofChange fnExactWithoutUselessSpec)) fnExactWithoutUselessCard

/-- THE SECOND FORM's CARD OF 'laws.FnExactUselessNeeds'. -/
def fnExactUselessNeedsUptoCard : Claim7 := { stood := { row := fnExactUselessNeedsUptoRow, standIns := [], harness := (true, "93baffc9aa0d74ea4243694dc1850b62b174008baa127f3739de9a4e1de46133"), looks := false }, kinds := [], alts := [], laidByText := true, laidKinds := [.data], laidTests := true, laidLooks := .later }
def FnExactUselessNeedsUptoCardSaid : Prop := Claim7.holds Tryd.pinned (.plain (OpenSpec.upto fnExactUselessNeedsSpec)) fnExactUselessNeedsUptoCard

/-- THE SECOND FORM's CARD OF 'laws.FnExactWithoutUseless'. -/
def fnExactWithoutUselessUptoCard : Claim7 := { stood := { row := fnExactWithoutUselessUptoRow, standIns := [], harness := (true, "93baffc9aa0d74ea4243694dc1850b62b174008baa127f3739de9a4e1de46133"), looks := false }, kinds := [], alts := [], laidByText := true, laidKinds := [.data], laidTests := true, laidLooks := .later }
def FnExactWithoutUselessUptoCardSaid : Prop := Claim7.holds Tryd.pinned (.plain (OpenSpec.upto fnExactWithoutUselessSpec)) fnExactWithoutUselessUptoCard
end Rows
end Go.Proofs.YtpdgnncnejmhfaaDoor
