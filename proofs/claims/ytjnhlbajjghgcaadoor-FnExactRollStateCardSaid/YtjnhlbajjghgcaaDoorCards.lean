/-
  DERIVED. GIVEN WITH THE SEED: THE CARDS: each row of YtjnhlbajjghgcaaDoorRows.lean that lists a variable, with what it lists TIED to the program's text (the seventh form; the later family's looks); each row that meets fmt, with fmt's text TOLD by the authors' own Lean function (tested against real Go, not proved from fmt's source: count such statements apart). THE CARD IS WHAT COUNTS. Prove the row's statement (the work); the ties are given (YtjnhlbajjghgcaaDoorTie.lean); close each card by the builder's one call (the guide's Derived/Test/ToyasCard.lean, 'card_holds'). Laid BY PROGRAM, IN A SANDBOX (cutbox-door.mjs). By AI agents, Wed Nov 11 2026. No macro, syntax, notation, axiom, sorry.
-/
import Derived.Test.YtjnhlbajjghgcaaDoorRows
import GoSem.ClaimSeven
namespace Go.Proofs.YtjnhlbajjghgcaaDoor
namespace Rows

/-- THE TIED CARD OF 'laws.FnExactIsBoard'. -/
def fnExactIsBoardCard : Claim7 := { stood := { row := fnExactIsBoardRow, standIns := [], harness := (true, "10395d421dc233992e0a6ae90078cc731c94e9ec7434de1088b49b0bd07ce938"), looks := false }, kinds := [], alts := [], laidByText := true, laidKinds := [.data, .pinned], laidTests := true, laidLooks := .later }
def FnExactIsBoardCardSaid : Prop := Claim7.holds Tryd.pinned (.plain (OpenSpec.ofChange fnExactIsBoardSpec)) fnExactIsBoardCard

/-- THE TIED CARD OF 'laws.FnExactBoardSize'. -/
def fnExactBoardSizeCard : Claim7 := { stood := { row := fnExactBoardSizeRow, standIns := [], harness := (true, "10395d421dc233992e0a6ae90078cc731c94e9ec7434de1088b49b0bd07ce938"), looks := false }, kinds := [], alts := [], laidByText := true, laidKinds := [.data, .pinned], laidTests := true, laidLooks := .later }
def FnExactBoardSizeCardSaid : Prop := Claim7.holds Tryd.pinned (.plain (OpenSpec.ofChange fnExactBoardSizeSpec)) fnExactBoardSizeCard

/-- THE TIED CARD OF 'laws.FnExactCountFloor'. -/
def fnExactCountFloorCard : Claim7 := { stood := { row := fnExactCountFloorRow, standIns := [], harness := (true, "10395d421dc233992e0a6ae90078cc731c94e9ec7434de1088b49b0bd07ce938"), looks := false }, kinds := [], alts := [], laidByText := true, laidKinds := [.data, .pinned], laidTests := true, laidLooks := .later }
def FnExactCountFloorCardSaid : Prop := Claim7.holds Tryd.pinned (.plain (OpenSpec.ofChange fnExactCountFloorSpec)) fnExactCountFloorCard

/-- THE TIED CARD OF 'laws.FnExactIsFloor'. -/
def fnExactIsFloorCard : Claim7 := { stood := { row := fnExactIsFloorRow, standIns := [], harness := (true, "10395d421dc233992e0a6ae90078cc731c94e9ec7434de1088b49b0bd07ce938"), looks := false }, kinds := [], alts := [], laidByText := true, laidKinds := [.data, .pinned], laidTests := true, laidLooks := .later }
def FnExactIsFloorCardSaid : Prop := Claim7.holds Tryd.pinned (.plain (OpenSpec.ofChange fnExactIsFloorSpec)) fnExactIsFloorCard

/-- THE TIED CARD OF 'laws.FnExactIsState'. -/
def fnExactIsStateCard : Claim7 := { stood := { row := fnExactIsStateRow, standIns := [], harness := (true, "10395d421dc233992e0a6ae90078cc731c94e9ec7434de1088b49b0bd07ce938"), looks := false }, kinds := [], alts := [], laidByText := true, laidKinds := [.data, .pinned], laidTests := true, laidLooks := .later }
def FnExactIsStateCardSaid : Prop := Claim7.holds Tryd.pinned (.plain (OpenSpec.ofChange fnExactIsStateSpec)) fnExactIsStateCard

/-- THE TIED CARD OF 'laws.FnExactTurnState'. -/
def fnExactTurnStateCard : Claim7 := { stood := { row := fnExactTurnStateRow, standIns := [], harness := (true, "10395d421dc233992e0a6ae90078cc731c94e9ec7434de1088b49b0bd07ce938"), looks := false }, kinds := [], alts := [], laidByText := true, laidKinds := [.data, .pinned], laidTests := true, laidLooks := .later }
def FnExactTurnStateCardSaid : Prop := Claim7.holds Tryd.pinned (.plain (OpenSpec.ofChange fnExactTurnStateSpec)) fnExactTurnStateCard

/-- THE TIED CARD OF 'laws.FnExactCanRoll'. -/
def fnExactCanRollCard : Claim7 := { stood := { row := fnExactCanRollRow, standIns := [], harness := (true, "10395d421dc233992e0a6ae90078cc731c94e9ec7434de1088b49b0bd07ce938"), looks := false }, kinds := [], alts := [], laidByText := true, laidKinds := [.data, .pinned], laidTests := true, laidLooks := .later }
def FnExactCanRollCardSaid : Prop := Claim7.holds Tryd.pinned (.plain (OpenSpec.ofChange fnExactCanRollSpec)) fnExactCanRollCard

/-- THE TIED CARD OF 'laws.FnExactRollState'. -/
def fnExactRollStateCard : Claim7 := { stood := { row := fnExactRollStateRow, standIns := [], harness := (true, "10395d421dc233992e0a6ae90078cc731c94e9ec7434de1088b49b0bd07ce938"), looks := false }, kinds := [], alts := [], laidByText := true, laidKinds := [.data, .pinned], laidTests := true, laidLooks := .later }
def FnExactRollStateCardSaid : Prop := Claim7.holds Tryd.pinned (.plain (OpenSpec.ofChange fnExactRollStateSpec)) fnExactRollStateCard

/-- THE SECOND FORM's CARD OF 'laws.FnExactIsBoard'. -/
def fnExactIsBoardUptoCard : Claim7 := { stood := { row := fnExactIsBoardUptoRow, standIns := [], harness := (true, "10395d421dc233992e0a6ae90078cc731c94e9ec7434de1088b49b0bd07ce938"), looks := false }, kinds := [], alts := [], laidByText := true, laidKinds := [.data, .pinned], laidTests := true, laidLooks := .later }
def FnExactIsBoardUptoCardSaid : Prop := Claim7.holds Tryd.pinned (.plain (OpenSpec.upto fnExactIsBoardSpec)) fnExactIsBoardUptoCard

/-- THE SECOND FORM's CARD OF 'laws.FnExactBoardSize'. -/
def fnExactBoardSizeUptoCard : Claim7 := { stood := { row := fnExactBoardSizeUptoRow, standIns := [], harness := (true, "10395d421dc233992e0a6ae90078cc731c94e9ec7434de1088b49b0bd07ce938"), looks := false }, kinds := [], alts := [], laidByText := true, laidKinds := [.data, .pinned], laidTests := true, laidLooks := .later }
def FnExactBoardSizeUptoCardSaid : Prop := Claim7.holds Tryd.pinned (.plain (OpenSpec.upto fnExactBoardSizeSpec)) fnExactBoardSizeUptoCard

/-- THE SECOND FORM's CARD OF 'laws.FnExactCountFloor'. -/
def fnExactCountFloorUptoCard : Claim7 := { stood := { row := fnExactCountFloorUptoRow, standIns := [], harness := (true, "10395d421dc233992e0a6ae90078cc731c94e9ec7434de1088b49b0bd07ce938"), looks := false }, kinds := [], alts := [], laidByText := true, laidKinds := [.data, .pinned], laidTests := true, laidLooks := .later }
def FnExactCountFloorUptoCardSaid : Prop := Claim7.holds Tryd.pinned (.plain (OpenSpec.upto fnExactCountFloorSpec)) fnExactCountFloorUptoCard

/-- THE SECOND FORM's CARD OF 'laws.FnExactIsFloor'. -/
def fnExactIsFloorUptoCard : Claim7 := { stood := { row := fnExactIsFloorUptoRow, standIns := [], harness := (true, "10395d421dc233992e0a6ae90078cc731c94e9ec7434de1088b49b0bd07ce938"), looks := false }, kinds := [], alts := [], laidByText := true, laidKinds := [.data, .pinned], laidTests := true, laidLooks := .later }
def FnExactIsFloorUptoCardSaid : Prop := Claim7.holds Tryd.pinned (.plain (OpenSpec.upto fnExactIsFloorSpec)) fnExactIsFloorUptoCard

/-- THE SECOND FORM's CARD OF 'laws.FnExactIsState'. -/
def fnExactIsStateUptoCard : Claim7 := { stood := { row := fnExactIsStateUptoRow, standIns := [], harness := (true, "10395d421dc233992e0a6ae90078cc731c94e9ec7434de1088b49b0bd07ce938"), looks := false }, kinds := [], alts := [], laidByText := true, laidKinds := [.data, .pinned], laidTests := true, laidLooks := .later }
def FnExactIsStateUptoCardSaid : Prop := Claim7.holds Tryd.pinned (.plain (OpenSpec.upto fnExactIsStateSpec)) fnExactIsStateUptoCard

/-- THE SECOND FORM's CARD OF 'laws.FnExactTurnState'. -/
def fnExactTurnStateUptoCard : Claim7 := { stood := { row := fnExactTurnStateUptoRow, standIns := [], harness := (true, "10395d421dc233992e0a6ae90078cc731c94e9ec7434de1088b49b0bd07ce938"), looks := false }, kinds := [], alts := [], laidByText := true, laidKinds := [.data, .pinned], laidTests := true, laidLooks := .later }
def FnExactTurnStateUptoCardSaid : Prop := Claim7.holds Tryd.pinned (.plain (OpenSpec.upto fnExactTurnStateSpec)) fnExactTurnStateUptoCard

/-- THE SECOND FORM's CARD OF 'laws.FnExactCanRoll'. -/
def fnExactCanRollUptoCard : Claim7 := { stood := { row := fnExactCanRollUptoRow, standIns := [], harness := (true, "10395d421dc233992e0a6ae90078cc731c94e9ec7434de1088b49b0bd07ce938"), looks := false }, kinds := [], alts := [], laidByText := true, laidKinds := [.data, .pinned], laidTests := true, laidLooks := .later }
def FnExactCanRollUptoCardSaid : Prop := Claim7.holds Tryd.pinned (.plain (OpenSpec.upto fnExactCanRollSpec)) fnExactCanRollUptoCard

/-- THE SECOND FORM's CARD OF 'laws.FnExactRollState'. -/
def fnExactRollStateUptoCard : Claim7 := { stood := { row := fnExactRollStateUptoRow, standIns := [], harness := (true, "10395d421dc233992e0a6ae90078cc731c94e9ec7434de1088b49b0bd07ce938"), looks := false }, kinds := [], alts := [], laidByText := true, laidKinds := [.data, .pinned], laidTests := true, laidLooks := .later }
def FnExactRollStateUptoCardSaid : Prop := Claim7.holds Tryd.pinned (.plain (OpenSpec.upto fnExactRollStateSpec)) fnExactRollStateUptoCard
end Rows
end Go.Proofs.YtjnhlbajjghgcaaDoor
