/-
  DERIVED. GIVEN WITH THE SEED: THE CARDS: each row of YtjeimidekekklaaDoorRows.lean that lists a variable, with what it lists TIED to the program's text (the seventh form; the later family's looks); each row that meets fmt, with fmt's text TOLD by the authors' own Lean function (tested against real Go, not proved from fmt's source: count such statements apart). THE CARD IS WHAT COUNTS. Prove the row's statement (the work); the ties are given (YtjeimidekekklaaDoorTie.lean); close each card by the builder's one call (the guide's Derived/Test/ToyasCard.lean, 'card_holds'). Laid BY PROGRAM, IN A SANDBOX (cutbox-door.mjs). By AI agents, Wed Nov 11 2026. No macro, syntax, notation, axiom, sorry.
-/
import Derived.Test.YtjeimidekekklaaDoorRows
import GoSem.ClaimSeven
namespace Go.Proofs.YtjeimidekekklaaDoor
namespace Rows

/-- THE TIED CARD OF 'laws.FnExactCountOverLabels'. -/
def fnExactCountOverLabelsCard : Claim7 := { stood := { row := fnExactCountOverLabelsRow, standIns := [], harness := (true, "385a0cf1fd31cbffe51f150111e639c4c41e5b2f3b69947b6985ca243eba89e2"), looks := false }, kinds := [], alts := [], laidByText := true, laidKinds := [.data, .pinned], laidTests := true, laidLooks := .later }
def FnExactCountOverLabelsCardSaid : Prop := Claim7.holds Tryd.pinned (.plain (OpenSpec.ofChange fnExactCountOverLabelsSpec)) fnExactCountOverLabelsCard

/-- THE TIED CARD OF 'laws.FnExactWayOverLabels'. -/
def fnExactWayOverLabelsCard : Claim7 := { stood := { row := fnExactWayOverLabelsRow, standIns := [], harness := (true, "385a0cf1fd31cbffe51f150111e639c4c41e5b2f3b69947b6985ca243eba89e2"), looks := false }, kinds := [], alts := [], laidByText := true, laidKinds := [.data, .pinned], laidTests := true, laidLooks := .later }
def FnExactWayOverLabelsCardSaid : Prop := Claim7.holds Tryd.pinned (.plain (OpenSpec.ofChange fnExactWayOverLabelsSpec)) fnExactWayOverLabelsCard

/-- THE SECOND FORM's CARD OF 'laws.FnExactCountOverLabels'. -/
def fnExactCountOverLabelsUptoCard : Claim7 := { stood := { row := fnExactCountOverLabelsUptoRow, standIns := [], harness := (true, "385a0cf1fd31cbffe51f150111e639c4c41e5b2f3b69947b6985ca243eba89e2"), looks := false }, kinds := [], alts := [], laidByText := true, laidKinds := [.data, .pinned], laidTests := true, laidLooks := .later }
def FnExactCountOverLabelsUptoCardSaid : Prop := Claim7.holds Tryd.pinned (.plain (OpenSpec.upto fnExactCountOverLabelsSpec)) fnExactCountOverLabelsUptoCard

/-- THE SECOND FORM's CARD OF 'laws.FnExactWayOverLabels'. -/
def fnExactWayOverLabelsUptoCard : Claim7 := { stood := { row := fnExactWayOverLabelsUptoRow, standIns := [], harness := (true, "385a0cf1fd31cbffe51f150111e639c4c41e5b2f3b69947b6985ca243eba89e2"), looks := false }, kinds := [], alts := [], laidByText := true, laidKinds := [.data, .pinned], laidTests := true, laidLooks := .later }
def FnExactWayOverLabelsUptoCardSaid : Prop := Claim7.holds Tryd.pinned (.plain (OpenSpec.upto fnExactWayOverLabelsSpec)) fnExactWayOverLabelsUptoCard
end Rows
end Go.Proofs.YtjeimidekekklaaDoor
