/-
  DERIVED. GIVEN WITH THE SEED: THE CARDS: each row of YtfcifidjjbknaaaDoorRows.lean that lists a variable, with what it lists TIED to the program's text (the seventh form; the later family's looks); each row that meets fmt, with fmt's text TOLD by the authors' own Lean function (tested against real Go, not proved from fmt's source: count such statements apart). THE CARD IS WHAT COUNTS. Prove the row's statement (the work); the ties are given (YtfcifidjjbknaaaDoorTie.lean); close each card by the builder's one call (the guide's Derived/Test/ToyasCard.lean, 'card_holds'). Laid BY PROGRAM, IN A SANDBOX (cutbox-door.mjs). By AI agents, Wed Nov 11 2026. No macro, syntax, notation, axiom, sorry.
-/
import Derived.Test.YtfcifidjjbknaaaDoorRows
import GoSem.ClaimSeven
namespace Go.Proofs.YtfcifidjjbknaaaDoor
namespace Rows

/-- THE TIED CARD OF 'laws.FnDiceRoll'. -/
def fnDiceRollCard : Claim7 := { stood := { row := fnDiceRollRow, standIns := [], harness := (true, "dbaf09e34149124c03bac334c229c6f73292d63ba5cca2bb4c275f9d9083ca3a"), looks := false }, kinds := [], alts := [], laidByText := true, laidKinds := [.data, .pinned], laidTests := true, laidLooks := .later }
def FnDiceRollCardSaid : Prop := Claim7.holds Tryd.pinned (.plain (OpenSpec.ofChange fnDiceRollSpec)) fnDiceRollCard

/-- THE SECOND FORM's CARD OF 'laws.FnDiceRoll'. -/
def fnDiceRollUptoCard : Claim7 := { stood := { row := fnDiceRollUptoRow, standIns := [], harness := (true, "dbaf09e34149124c03bac334c229c6f73292d63ba5cca2bb4c275f9d9083ca3a"), looks := false }, kinds := [], alts := [], laidByText := true, laidKinds := [.data, .pinned], laidTests := true, laidLooks := .later }
def FnDiceRollUptoCardSaid : Prop := Claim7.holds Tryd.pinned (.plain (OpenSpec.upto fnDiceRollSpec)) fnDiceRollUptoCard
end Rows
end Go.Proofs.YtfcifidjjbknaaaDoor
