/-
  DERIVED. GIVEN WITH THE SEED: THE CARDS: each row of YtdlifinfjjbmkaaDoorRows.lean that lists a variable, with what it lists TIED to the program's text (the seventh form; the later family's looks); each row that meets fmt, with fmt's text TOLD by the authors' own Lean function (tested against real Go, not proved from fmt's source: count such statements apart). THE CARD IS WHAT COUNTS. Prove the row's statement (the work); the ties are given (YtdlifinfjjbmkaaDoorTie.lean); close each card by the builder's one call (the guide's Derived/Test/ToyasCard.lean, 'card_holds'). Laid BY PROGRAM, IN A SANDBOX (cutbox-door.mjs). By AI agents, Wed Nov 11 2026. No macro, syntax, notation, axiom, sorry.
-/
import Derived.Test.YtdlifinfjjbmkaaDoorRows
import GoSem.ClaimSeven
namespace Go.Proofs.YtdlifinfjjbmkaaDoor
namespace Rows

/-- THE TIED CARD OF 'laws.FnExactIsRolls'. -/
def fnExactIsRollsCard : Claim7 := { stood := { row := fnExactIsRollsRow, standIns := [], harness := (true, "bc5c1d1e8d5fbc0f323109cf5613e9a5af61780ec07a42d4702a88b347c695b3"), looks := false }, kinds := [], alts := [], laidByText := true, laidKinds := [.data, .pinned], laidTests := true, laidLooks := .later }
def FnExactIsRollsCardSaid : Prop := Claim7.holds Tryd.pinned (.plain (OpenSpec.ofChange fnExactIsRollsSpec)) fnExactIsRollsCard

/-- THE TIED CARD OF 'laws.FnExactTurnRolls'. -/
def fnExactTurnRollsCard : Claim7 := { stood := { row := fnExactTurnRollsRow, standIns := [], harness := (true, "bc5c1d1e8d5fbc0f323109cf5613e9a5af61780ec07a42d4702a88b347c695b3"), looks := false }, kinds := [], alts := [], laidByText := true, laidKinds := [.data, .pinned], laidTests := true, laidLooks := .later }
def FnExactTurnRollsCardSaid : Prop := Claim7.holds Tryd.pinned (.plain (OpenSpec.ofChange fnExactTurnRollsSpec)) fnExactTurnRollsCard

/-- THE TIED CARD OF 'laws.FnExactBackWord'. -/
def fnExactBackWordCard : Claim7 := { stood := { row := fnExactBackWordRow, standIns := [], harness := (true, "bc5c1d1e8d5fbc0f323109cf5613e9a5af61780ec07a42d4702a88b347c695b3"), looks := false }, kinds := [], alts := [], laidByText := true, laidKinds := [.data, .pinned], laidTests := true, laidLooks := .later }
def FnExactBackWordCardSaid : Prop := Claim7.holds Tryd.pinned (.plain (OpenSpec.ofChange fnExactBackWordSpec)) fnExactBackWordCard

/-- THE TIED CARD OF 'laws.FnExactAreSameRolls'. -/
def fnExactAreSameRollsCard : Claim7 := { stood := { row := fnExactAreSameRollsRow, standIns := [], harness := (true, "bc5c1d1e8d5fbc0f323109cf5613e9a5af61780ec07a42d4702a88b347c695b3"), looks := false }, kinds := [], alts := [], laidByText := true, laidKinds := [.data, .pinned], laidTests := true, laidLooks := .later }
def FnExactAreSameRollsCardSaid : Prop := Claim7.holds Tryd.pinned (.plain (OpenSpec.ofChange fnExactAreSameRollsSpec)) fnExactAreSameRollsCard

/-- THE TIED CARD OF 'laws.FnExactOrderOfRolls'. -/
def fnExactOrderOfRollsCard : Claim7 := { stood := { row := fnExactOrderOfRollsRow, standIns := [], harness := (true, "bc5c1d1e8d5fbc0f323109cf5613e9a5af61780ec07a42d4702a88b347c695b3"), looks := false }, kinds := [], alts := [], laidByText := true, laidKinds := [.data, .pinned], laidTests := true, laidLooks := .later }
def FnExactOrderOfRollsCardSaid : Prop := Claim7.holds Tryd.pinned (.plain (OpenSpec.ofChange fnExactOrderOfRollsSpec)) fnExactOrderOfRollsCard

/-- THE TIED CARD OF 'laws.FnExactShortestRolls'. -/
def fnExactShortestRollsCard : Claim7 := { stood := { row := fnExactShortestRollsRow, standIns := [], harness := (true, "bc5c1d1e8d5fbc0f323109cf5613e9a5af61780ec07a42d4702a88b347c695b3"), looks := false }, kinds := [], alts := [], laidByText := true, laidKinds := [.data, .pinned], laidTests := true, laidLooks := .later }
def FnExactShortestRollsCardSaid : Prop := Claim7.holds Tryd.pinned (.plain (OpenSpec.ofChange fnExactShortestRollsSpec)) fnExactShortestRollsCard

/-- THE TIED CARD OF 'laws.FnExactRollWord'. -/
def fnExactRollWordCard : Claim7 := { stood := { row := fnExactRollWordRow, standIns := [], harness := (true, "bc5c1d1e8d5fbc0f323109cf5613e9a5af61780ec07a42d4702a88b347c695b3"), looks := false }, kinds := [], alts := [], laidByText := true, laidKinds := [.data, .pinned], laidTests := true, laidLooks := .later }
def FnExactRollWordCardSaid : Prop := Claim7.holds Tryd.pinned (.plain (OpenSpec.ofChange fnExactRollWordSpec)) fnExactRollWordCard

/-- THE TIED CARD OF 'laws.FnExactIsClosedWay'. -/
def fnExactIsClosedWayCard : Claim7 := { stood := { row := fnExactIsClosedWayRow, standIns := [], harness := (true, "bc5c1d1e8d5fbc0f323109cf5613e9a5af61780ec07a42d4702a88b347c695b3"), looks := false }, kinds := [], alts := [], laidByText := true, laidKinds := [.data, .pinned], laidTests := true, laidLooks := .later }
def FnExactIsClosedWayCardSaid : Prop := Claim7.holds Tryd.pinned (.plain (OpenSpec.ofChange fnExactIsClosedWaySpec)) fnExactIsClosedWayCard

/-- THE TIED CARD OF 'laws.FnExactTurnOfWay'. -/
def fnExactTurnOfWayCard : Claim7 := { stood := { row := fnExactTurnOfWayRow, standIns := [], harness := (true, "bc5c1d1e8d5fbc0f323109cf5613e9a5af61780ec07a42d4702a88b347c695b3"), looks := false }, kinds := [], alts := [], laidByText := true, laidKinds := [.data, .pinned], laidTests := true, laidLooks := .later }
def FnExactTurnOfWayCardSaid : Prop := Claim7.holds Tryd.pinned (.plain (OpenSpec.ofChange fnExactTurnOfWaySpec)) fnExactTurnOfWayCard

/-- THE TIED CARD OF 'laws.FnDiceRoll'. -/
def fnDiceRollCard : Claim7 := { stood := { row := fnDiceRollRow, standIns := [], harness := (true, "bc5c1d1e8d5fbc0f323109cf5613e9a5af61780ec07a42d4702a88b347c695b3"), looks := false }, kinds := [], alts := [], laidByText := true, laidKinds := [.data, .pinned], laidTests := true, laidLooks := .later }
def FnDiceRollCardSaid : Prop := Claim7.holds Tryd.pinned (.plain (OpenSpec.ofChange fnDiceRollSpec)) fnDiceRollCard

/-- THE SECOND FORM's CARD OF 'laws.FnExactIsRolls'. -/
def fnExactIsRollsUptoCard : Claim7 := { stood := { row := fnExactIsRollsUptoRow, standIns := [], harness := (true, "bc5c1d1e8d5fbc0f323109cf5613e9a5af61780ec07a42d4702a88b347c695b3"), looks := false }, kinds := [], alts := [], laidByText := true, laidKinds := [.data, .pinned], laidTests := true, laidLooks := .later }
def FnExactIsRollsUptoCardSaid : Prop := Claim7.holds Tryd.pinned (.plain (OpenSpec.upto fnExactIsRollsSpec)) fnExactIsRollsUptoCard

/-- THE SECOND FORM's CARD OF 'laws.FnExactTurnRolls'. -/
def fnExactTurnRollsUptoCard : Claim7 := { stood := { row := fnExactTurnRollsUptoRow, standIns := [], harness := (true, "bc5c1d1e8d5fbc0f323109cf5613e9a5af61780ec07a42d4702a88b347c695b3"), looks := false }, kinds := [], alts := [], laidByText := true, laidKinds := [.data, .pinned], laidTests := true, laidLooks := .later }
def FnExactTurnRollsUptoCardSaid : Prop := Claim7.holds Tryd.pinned (.plain (OpenSpec.upto fnExactTurnRollsSpec)) fnExactTurnRollsUptoCard

/-- THE SECOND FORM's CARD OF 'laws.FnExactBackWord'. -/
def fnExactBackWordUptoCard : Claim7 := { stood := { row := fnExactBackWordUptoRow, standIns := [], harness := (true, "bc5c1d1e8d5fbc0f323109cf5613e9a5af61780ec07a42d4702a88b347c695b3"), looks := false }, kinds := [], alts := [], laidByText := true, laidKinds := [.data, .pinned], laidTests := true, laidLooks := .later }
def FnExactBackWordUptoCardSaid : Prop := Claim7.holds Tryd.pinned (.plain (OpenSpec.upto fnExactBackWordSpec)) fnExactBackWordUptoCard

/-- THE SECOND FORM's CARD OF 'laws.FnExactAreSameRolls'. -/
def fnExactAreSameRollsUptoCard : Claim7 := { stood := { row := fnExactAreSameRollsUptoRow, standIns := [], harness := (true, "bc5c1d1e8d5fbc0f323109cf5613e9a5af61780ec07a42d4702a88b347c695b3"), looks := false }, kinds := [], alts := [], laidByText := true, laidKinds := [.data, .pinned], laidTests := true, laidLooks := .later }
def FnExactAreSameRollsUptoCardSaid : Prop := Claim7.holds Tryd.pinned (.plain (OpenSpec.upto fnExactAreSameRollsSpec)) fnExactAreSameRollsUptoCard

/-- THE SECOND FORM's CARD OF 'laws.FnExactOrderOfRolls'. -/
def fnExactOrderOfRollsUptoCard : Claim7 := { stood := { row := fnExactOrderOfRollsUptoRow, standIns := [], harness := (true, "bc5c1d1e8d5fbc0f323109cf5613e9a5af61780ec07a42d4702a88b347c695b3"), looks := false }, kinds := [], alts := [], laidByText := true, laidKinds := [.data, .pinned], laidTests := true, laidLooks := .later }
def FnExactOrderOfRollsUptoCardSaid : Prop := Claim7.holds Tryd.pinned (.plain (OpenSpec.upto fnExactOrderOfRollsSpec)) fnExactOrderOfRollsUptoCard

/-- THE SECOND FORM's CARD OF 'laws.FnExactShortestRolls'. -/
def fnExactShortestRollsUptoCard : Claim7 := { stood := { row := fnExactShortestRollsUptoRow, standIns := [], harness := (true, "bc5c1d1e8d5fbc0f323109cf5613e9a5af61780ec07a42d4702a88b347c695b3"), looks := false }, kinds := [], alts := [], laidByText := true, laidKinds := [.data, .pinned], laidTests := true, laidLooks := .later }
def FnExactShortestRollsUptoCardSaid : Prop := Claim7.holds Tryd.pinned (.plain (OpenSpec.upto fnExactShortestRollsSpec)) fnExactShortestRollsUptoCard

/-- THE SECOND FORM's CARD OF 'laws.FnExactRollWord'. -/
def fnExactRollWordUptoCard : Claim7 := { stood := { row := fnExactRollWordUptoRow, standIns := [], harness := (true, "bc5c1d1e8d5fbc0f323109cf5613e9a5af61780ec07a42d4702a88b347c695b3"), looks := false }, kinds := [], alts := [], laidByText := true, laidKinds := [.data, .pinned], laidTests := true, laidLooks := .later }
def FnExactRollWordUptoCardSaid : Prop := Claim7.holds Tryd.pinned (.plain (OpenSpec.upto fnExactRollWordSpec)) fnExactRollWordUptoCard

/-- THE SECOND FORM's CARD OF 'laws.FnExactIsClosedWay'. -/
def fnExactIsClosedWayUptoCard : Claim7 := { stood := { row := fnExactIsClosedWayUptoRow, standIns := [], harness := (true, "bc5c1d1e8d5fbc0f323109cf5613e9a5af61780ec07a42d4702a88b347c695b3"), looks := false }, kinds := [], alts := [], laidByText := true, laidKinds := [.data, .pinned], laidTests := true, laidLooks := .later }
def FnExactIsClosedWayUptoCardSaid : Prop := Claim7.holds Tryd.pinned (.plain (OpenSpec.upto fnExactIsClosedWaySpec)) fnExactIsClosedWayUptoCard

/-- THE SECOND FORM's CARD OF 'laws.FnExactTurnOfWay'. -/
def fnExactTurnOfWayUptoCard : Claim7 := { stood := { row := fnExactTurnOfWayUptoRow, standIns := [], harness := (true, "bc5c1d1e8d5fbc0f323109cf5613e9a5af61780ec07a42d4702a88b347c695b3"), looks := false }, kinds := [], alts := [], laidByText := true, laidKinds := [.data, .pinned], laidTests := true, laidLooks := .later }
def FnExactTurnOfWayUptoCardSaid : Prop := Claim7.holds Tryd.pinned (.plain (OpenSpec.upto fnExactTurnOfWaySpec)) fnExactTurnOfWayUptoCard

/-- THE SECOND FORM's CARD OF 'laws.FnDiceRoll'. -/
def fnDiceRollUptoCard : Claim7 := { stood := { row := fnDiceRollUptoRow, standIns := [], harness := (true, "bc5c1d1e8d5fbc0f323109cf5613e9a5af61780ec07a42d4702a88b347c695b3"), looks := false }, kinds := [], alts := [], laidByText := true, laidKinds := [.data, .pinned], laidTests := true, laidLooks := .later }
def FnDiceRollUptoCardSaid : Prop := Claim7.holds Tryd.pinned (.plain (OpenSpec.upto fnDiceRollSpec)) fnDiceRollUptoCard
end Rows
end Go.Proofs.YtdlifinfjjbmkaaDoor
