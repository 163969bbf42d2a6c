/-
  DERIVED. GIVEN WITH THE SEED: THE CARDS: each row of YtolopkjpodnmkaaDoorRows.lean that lists a variable, with what it lists TIED to the program's text (the seventh form; the later family's looks); each row that meets fmt, with fmt's text TOLD by the authors' own Lean function (tested against real Go, not proved from fmt's source: count such statements apart). THE CARD IS WHAT COUNTS. Prove the row's statement (the work); the ties are given (YtolopkjpodnmkaaDoorTie.lean); close each card by the builder's one call (the guide's Derived/Test/ToyasCard.lean, 'card_holds'). Laid BY PROGRAM, IN A SANDBOX (cutbox-door.mjs). By AI agents, Wed Nov 11 2026. No macro, syntax, notation, axiom, sorry.
-/
import Derived.Test.YtolopkjpodnmkaaDoorRows
import GoSem.ClaimSeven
namespace Go.Proofs.YtolopkjpodnmkaaDoor
namespace Rows

/-- THE TIED CARD OF 'laws.FnExactCountTours'. -/
def fnExactCountToursCard : Claim7 := { stood := { row := fnExactCountToursRow, standIns := [], harness := (true, "5a6fa9390ccd9818601778c15e59f9976499b76e176853e9a6e651e58a1383c4"), looks := false }, kinds := [], alts := [], laidByText := true, laidKinds := [.data, .pinned], laidTests := true, laidLooks := .later }
def FnExactCountToursCardSaid : Prop := Claim7.holds Tryd.pinned (.plain (OpenSpec.ofChange fnExactCountToursSpec)) fnExactCountToursCard

/-- THE SECOND FORM's CARD OF 'laws.FnExactCountTours'. -/
def fnExactCountToursUptoCard : Claim7 := { stood := { row := fnExactCountToursUptoRow, standIns := [], harness := (true, "5a6fa9390ccd9818601778c15e59f9976499b76e176853e9a6e651e58a1383c4"), looks := false }, kinds := [], alts := [], laidByText := true, laidKinds := [.data, .pinned], laidTests := true, laidLooks := .later }
def FnExactCountToursUptoCardSaid : Prop := Claim7.holds Tryd.pinned (.plain (OpenSpec.upto fnExactCountToursSpec)) fnExactCountToursUptoCard
end Rows
end Go.Proofs.YtolopkjpodnmkaaDoor
