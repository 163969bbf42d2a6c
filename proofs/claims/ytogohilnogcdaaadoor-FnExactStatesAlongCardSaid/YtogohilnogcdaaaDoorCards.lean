/-
  DERIVED. GIVEN WITH THE SEED: THE CARDS: each row of YtogohilnogcdaaaDoorRows.lean that lists a variable, with what it lists TIED to the program's text (the seventh form; the later family's looks); each row that meets fmt, with fmt's text TOLD by the authors' own Lean function (tested against real Go, not proved from fmt's source: count such statements apart). THE CARD IS WHAT COUNTS. Prove the row's statement (the work); the ties are given (YtogohilnogcdaaaDoorTie.lean); close each card by the builder's one call (the guide's Derived/Test/ToyasCard.lean, 'card_holds'). Laid BY PROGRAM, IN A SANDBOX (cutbox-door.mjs). By AI agents, Wed Nov 11 2026. No macro, syntax, notation, axiom, sorry.
-/
import Derived.Test.YtogohilnogcdaaaDoorRows
import GoSem.ClaimSeven
namespace Go.Proofs.YtogohilnogcdaaaDoor
namespace Rows

/-- THE TIED CARD OF 'laws.FnExactStatesAlong'. -/
def fnExactStatesAlongCard : Claim7 := { stood := { row := fnExactStatesAlongRow, standIns := [], harness := (true, "b4e0f454490f73353caf9856126cd5dc11f14616e9832e09e3c2777bd832b939"), looks := false }, kinds := [], alts := [], laidByText := true, laidKinds := [.data, .pinned], laidTests := true, laidLooks := .later }
def FnExactStatesAlongCardSaid : Prop := Claim7.holds Tryd.pinned (.plain (OpenSpec.ofChange fnExactStatesAlongSpec)) fnExactStatesAlongCard

/-- THE TIED CARD OF 'laws.FnExactFirstStop'. -/
def fnExactFirstStopCard : Claim7 := { stood := { row := fnExactFirstStopRow, standIns := [], harness := (true, "b4e0f454490f73353caf9856126cd5dc11f14616e9832e09e3c2777bd832b939"), looks := false }, kinds := [], alts := [], laidByText := true, laidKinds := [.data, .pinned], laidTests := true, laidLooks := .later }
def FnExactFirstStopCardSaid : Prop := Claim7.holds Tryd.pinned (.plain (OpenSpec.ofChange fnExactFirstStopSpec)) fnExactFirstStopCard

/-- THE TIED CARD OF 'laws.FnExactSumOfTops'. -/
def fnExactSumOfTopsCard : Claim7 := { stood := { row := fnExactSumOfTopsRow, standIns := [], harness := (true, "b4e0f454490f73353caf9856126cd5dc11f14616e9832e09e3c2777bd832b939"), looks := false }, kinds := [], alts := [], laidByText := true, laidKinds := [.data, .pinned], laidTests := true, laidLooks := .later }
def FnExactSumOfTopsCardSaid : Prop := Claim7.holds Tryd.pinned (.plain (OpenSpec.ofChange fnExactSumOfTopsSpec)) fnExactSumOfTopsCard

/-- THE TIED CARD OF 'laws.FnExactRollAlong'. -/
def fnExactRollAlongCard : Claim7 := { stood := { row := fnExactRollAlongRow, standIns := [], harness := (true, "b4e0f454490f73353caf9856126cd5dc11f14616e9832e09e3c2777bd832b939"), looks := false }, kinds := [], alts := [], laidByText := true, laidKinds := [.data, .pinned], laidTests := true, laidLooks := .later }
def FnExactRollAlongCardSaid : Prop := Claim7.holds Tryd.pinned (.plain (OpenSpec.ofChange fnExactRollAlongSpec)) fnExactRollAlongCard

/-- THE TIED CARD OF 'laws.FnExactPrintCounts'. -/
def fnExactPrintCountsCard : Claim7 := { stood := { row := fnExactPrintCountsRow, standIns := [], harness := (true, "b4e0f454490f73353caf9856126cd5dc11f14616e9832e09e3c2777bd832b939"), looks := false }, kinds := [], alts := [], laidByText := true, laidKinds := [.data, .pinned], laidTests := true, laidLooks := .later }
def FnExactPrintCountsCardSaid : Prop := Claim7.holds Tryd.pinned (.plain (OpenSpec.ofChange fnExactPrintCountsSpec)) fnExactPrintCountsCard

/-- THE TIED CARD OF 'laws.FnExactTopsAlong'. -/
def fnExactTopsAlongCard : Claim7 := { stood := { row := fnExactTopsAlongRow, standIns := [], harness := (true, "b4e0f454490f73353caf9856126cd5dc11f14616e9832e09e3c2777bd832b939"), looks := false }, kinds := [], alts := [], laidByText := true, laidKinds := [.data, .pinned], laidTests := true, laidLooks := .later }
def FnExactTopsAlongCardSaid : Prop := Claim7.holds Tryd.pinned (.plain (OpenSpec.ofChange fnExactTopsAlongSpec)) fnExactTopsAlongCard

/-- THE SECOND FORM's CARD OF 'laws.FnExactStatesAlong'. -/
def fnExactStatesAlongUptoCard : Claim7 := { stood := { row := fnExactStatesAlongUptoRow, standIns := [], harness := (true, "b4e0f454490f73353caf9856126cd5dc11f14616e9832e09e3c2777bd832b939"), looks := false }, kinds := [], alts := [], laidByText := true, laidKinds := [.data, .pinned], laidTests := true, laidLooks := .later }
def FnExactStatesAlongUptoCardSaid : Prop := Claim7.holds Tryd.pinned (.plain (OpenSpec.upto fnExactStatesAlongSpec)) fnExactStatesAlongUptoCard

/-- THE SECOND FORM's CARD OF 'laws.FnExactFirstStop'. -/
def fnExactFirstStopUptoCard : Claim7 := { stood := { row := fnExactFirstStopUptoRow, standIns := [], harness := (true, "b4e0f454490f73353caf9856126cd5dc11f14616e9832e09e3c2777bd832b939"), looks := false }, kinds := [], alts := [], laidByText := true, laidKinds := [.data, .pinned], laidTests := true, laidLooks := .later }
def FnExactFirstStopUptoCardSaid : Prop := Claim7.holds Tryd.pinned (.plain (OpenSpec.upto fnExactFirstStopSpec)) fnExactFirstStopUptoCard

/-- THE SECOND FORM's CARD OF 'laws.FnExactSumOfTops'. -/
def fnExactSumOfTopsUptoCard : Claim7 := { stood := { row := fnExactSumOfTopsUptoRow, standIns := [], harness := (true, "b4e0f454490f73353caf9856126cd5dc11f14616e9832e09e3c2777bd832b939"), looks := false }, kinds := [], alts := [], laidByText := true, laidKinds := [.data, .pinned], laidTests := true, laidLooks := .later }
def FnExactSumOfTopsUptoCardSaid : Prop := Claim7.holds Tryd.pinned (.plain (OpenSpec.upto fnExactSumOfTopsSpec)) fnExactSumOfTopsUptoCard

/-- THE SECOND FORM's CARD OF 'laws.FnExactRollAlong'. -/
def fnExactRollAlongUptoCard : Claim7 := { stood := { row := fnExactRollAlongUptoRow, standIns := [], harness := (true, "b4e0f454490f73353caf9856126cd5dc11f14616e9832e09e3c2777bd832b939"), looks := false }, kinds := [], alts := [], laidByText := true, laidKinds := [.data, .pinned], laidTests := true, laidLooks := .later }
def FnExactRollAlongUptoCardSaid : Prop := Claim7.holds Tryd.pinned (.plain (OpenSpec.upto fnExactRollAlongSpec)) fnExactRollAlongUptoCard

/-- THE SECOND FORM's CARD OF 'laws.FnExactPrintCounts'. -/
def fnExactPrintCountsUptoCard : Claim7 := { stood := { row := fnExactPrintCountsUptoRow, standIns := [], harness := (true, "b4e0f454490f73353caf9856126cd5dc11f14616e9832e09e3c2777bd832b939"), looks := false }, kinds := [], alts := [], laidByText := true, laidKinds := [.data, .pinned], laidTests := true, laidLooks := .later }
def FnExactPrintCountsUptoCardSaid : Prop := Claim7.holds Tryd.pinned (.plain (OpenSpec.upto fnExactPrintCountsSpec)) fnExactPrintCountsUptoCard

/-- THE SECOND FORM's CARD OF 'laws.FnExactTopsAlong'. -/
def fnExactTopsAlongUptoCard : Claim7 := { stood := { row := fnExactTopsAlongUptoRow, standIns := [], harness := (true, "b4e0f454490f73353caf9856126cd5dc11f14616e9832e09e3c2777bd832b939"), looks := false }, kinds := [], alts := [], laidByText := true, laidKinds := [.data, .pinned], laidTests := true, laidLooks := .later }
def FnExactTopsAlongUptoCardSaid : Prop := Claim7.holds Tryd.pinned (.plain (OpenSpec.upto fnExactTopsAlongSpec)) fnExactTopsAlongUptoCard
end Rows
end Go.Proofs.YtogohilnogcdaaaDoor
