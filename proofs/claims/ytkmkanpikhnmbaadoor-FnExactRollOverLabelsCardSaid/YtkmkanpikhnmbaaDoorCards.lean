/-
  DERIVED. GIVEN WITH THE SEED: THE CARDS: each row of YtkmkanpikhnmbaaDoorRows.lean that lists a variable, with what it lists TIED to the program's text (the seventh form; the later family's looks); each row that meets fmt, with fmt's text TOLD by the authors' own Lean function (tested against real Go, not proved from fmt's source: count such statements apart). THE CARD IS WHAT COUNTS. Prove the row's statement (the work); the ties are given (YtkmkanpikhnmbaaDoorTie.lean); close each card by the builder's one call (the guide's Derived/Test/ToyasCard.lean, 'card_holds'). Laid BY PROGRAM, IN A SANDBOX (cutbox-door.mjs). By AI agents, Wed Nov 11 2026. No macro, syntax, notation, axiom, sorry.
-/
import Derived.Test.YtkmkanpikhnmbaaDoorRows
import GoSem.ClaimSeven
namespace Go.Proofs.YtkmkanpikhnmbaaDoor
namespace Rows

/-- THE TIED CARD OF 'laws.FnExactIsLabelled'. -/
def fnExactIsLabelledCard : Claim7 := { stood := { row := fnExactIsLabelledRow, standIns := [], harness := (true, "4bb08ee5168919124e1aad10eee89bbe4316e1f71c83d0c472b4f7f7dfe3e05b"), looks := false }, kinds := [], alts := [], laidByText := true, laidKinds := [.data, .pinned], laidTests := true, laidLooks := .later }
def FnExactIsLabelledCardSaid : Prop := Claim7.holds Tryd.pinned (.plain (OpenSpec.ofChange fnExactIsLabelledSpec)) fnExactIsLabelledCard

/-- THE TIED CARD OF 'laws.FnExactCountLabels'. -/
def fnExactCountLabelsCard : Claim7 := { stood := { row := fnExactCountLabelsRow, standIns := [], harness := (true, "4bb08ee5168919124e1aad10eee89bbe4316e1f71c83d0c472b4f7f7dfe3e05b"), looks := false }, kinds := [], alts := [], laidByText := true, laidKinds := [.data, .pinned], laidTests := true, laidLooks := .later }
def FnExactCountLabelsCardSaid : Prop := Claim7.holds Tryd.pinned (.plain (OpenSpec.ofChange fnExactCountLabelsSpec)) fnExactCountLabelsCard

/-- THE TIED CARD OF 'laws.FnExactMatchesHere'. -/
def fnExactMatchesHereCard : Claim7 := { stood := { row := fnExactMatchesHereRow, standIns := [], harness := (true, "4bb08ee5168919124e1aad10eee89bbe4316e1f71c83d0c472b4f7f7dfe3e05b"), looks := false }, kinds := [], alts := [], laidByText := true, laidKinds := [.data, .pinned], laidTests := true, laidLooks := .later }
def FnExactMatchesHereCardSaid : Prop := Claim7.holds Tryd.pinned (.plain (OpenSpec.ofChange fnExactMatchesHereSpec)) fnExactMatchesHereCard

/-- THE TIED CARD OF 'laws.FnExactLabelMoves'. -/
def fnExactLabelMovesCard : Claim7 := { stood := { row := fnExactLabelMovesRow, standIns := [], harness := (true, "4bb08ee5168919124e1aad10eee89bbe4316e1f71c83d0c472b4f7f7dfe3e05b"), looks := false }, kinds := [], alts := [], laidByText := true, laidKinds := [.data, .pinned], laidTests := true, laidLooks := .later }
def FnExactLabelMovesCardSaid : Prop := Claim7.holds Tryd.pinned (.plain (OpenSpec.ofChange fnExactLabelMovesSpec)) fnExactLabelMovesCard

/-- THE TIED CARD OF 'laws.FnExactRollOverLabels'. -/
def fnExactRollOverLabelsCard : Claim7 := { stood := { row := fnExactRollOverLabelsRow, standIns := [], harness := (true, "4bb08ee5168919124e1aad10eee89bbe4316e1f71c83d0c472b4f7f7dfe3e05b"), looks := false }, kinds := [], alts := [], laidByText := true, laidKinds := [.data, .pinned], laidTests := true, laidLooks := .later }
def FnExactRollOverLabelsCardSaid : Prop := Claim7.holds Tryd.pinned (.plain (OpenSpec.ofChange fnExactRollOverLabelsSpec)) fnExactRollOverLabelsCard

/-- THE SECOND FORM's CARD OF 'laws.FnExactIsLabelled'. -/
def fnExactIsLabelledUptoCard : Claim7 := { stood := { row := fnExactIsLabelledUptoRow, standIns := [], harness := (true, "4bb08ee5168919124e1aad10eee89bbe4316e1f71c83d0c472b4f7f7dfe3e05b"), looks := false }, kinds := [], alts := [], laidByText := true, laidKinds := [.data, .pinned], laidTests := true, laidLooks := .later }
def FnExactIsLabelledUptoCardSaid : Prop := Claim7.holds Tryd.pinned (.plain (OpenSpec.upto fnExactIsLabelledSpec)) fnExactIsLabelledUptoCard

/-- THE SECOND FORM's CARD OF 'laws.FnExactCountLabels'. -/
def fnExactCountLabelsUptoCard : Claim7 := { stood := { row := fnExactCountLabelsUptoRow, standIns := [], harness := (true, "4bb08ee5168919124e1aad10eee89bbe4316e1f71c83d0c472b4f7f7dfe3e05b"), looks := false }, kinds := [], alts := [], laidByText := true, laidKinds := [.data, .pinned], laidTests := true, laidLooks := .later }
def FnExactCountLabelsUptoCardSaid : Prop := Claim7.holds Tryd.pinned (.plain (OpenSpec.upto fnExactCountLabelsSpec)) fnExactCountLabelsUptoCard

/-- THE SECOND FORM's CARD OF 'laws.FnExactMatchesHere'. -/
def fnExactMatchesHereUptoCard : Claim7 := { stood := { row := fnExactMatchesHereUptoRow, standIns := [], harness := (true, "4bb08ee5168919124e1aad10eee89bbe4316e1f71c83d0c472b4f7f7dfe3e05b"), looks := false }, kinds := [], alts := [], laidByText := true, laidKinds := [.data, .pinned], laidTests := true, laidLooks := .later }
def FnExactMatchesHereUptoCardSaid : Prop := Claim7.holds Tryd.pinned (.plain (OpenSpec.upto fnExactMatchesHereSpec)) fnExactMatchesHereUptoCard

/-- THE SECOND FORM's CARD OF 'laws.FnExactLabelMoves'. -/
def fnExactLabelMovesUptoCard : Claim7 := { stood := { row := fnExactLabelMovesUptoRow, standIns := [], harness := (true, "4bb08ee5168919124e1aad10eee89bbe4316e1f71c83d0c472b4f7f7dfe3e05b"), looks := false }, kinds := [], alts := [], laidByText := true, laidKinds := [.data, .pinned], laidTests := true, laidLooks := .later }
def FnExactLabelMovesUptoCardSaid : Prop := Claim7.holds Tryd.pinned (.plain (OpenSpec.upto fnExactLabelMovesSpec)) fnExactLabelMovesUptoCard

/-- THE SECOND FORM's CARD OF 'laws.FnExactRollOverLabels'. -/
def fnExactRollOverLabelsUptoCard : Claim7 := { stood := { row := fnExactRollOverLabelsUptoRow, standIns := [], harness := (true, "4bb08ee5168919124e1aad10eee89bbe4316e1f71c83d0c472b4f7f7dfe3e05b"), looks := false }, kinds := [], alts := [], laidByText := true, laidKinds := [.data, .pinned], laidTests := true, laidLooks := .later }
def FnExactRollOverLabelsUptoCardSaid : Prop := Claim7.holds Tryd.pinned (.plain (OpenSpec.upto fnExactRollOverLabelsSpec)) fnExactRollOverLabelsUptoCard
end Rows
end Go.Proofs.YtkmkanpikhnmbaaDoor
