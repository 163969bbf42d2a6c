/-
  DERIVED. GIVEN WITH THE SEED: THE CARDS: each row of YtkoejpimalbhbaaDoorRows.lean that lists a variable, with what it lists TIED to the program's text (the seventh form; the later family's looks); each row that meets fmt, with fmt's text TOLD by the authors' own Lean function (tested against real Go, not proved from fmt's source: count such statements apart). THE CARD IS WHAT COUNTS. Prove the row's statement (the work); the ties are given (YtkoejpimalbhbaaDoorTie.lean); close each card by the builder's one call (the guide's Derived/Test/ToyasCard.lean, 'card_holds'). Laid BY PROGRAM, IN A SANDBOX (cutbox-door.mjs). By AI agents, Wed Nov 11 2026. No macro, syntax, notation, axiom, sorry.
-/
import Derived.Test.YtkoejpimalbhbaaDoorRows
import GoSem.ClaimSeven
namespace Go.Proofs.YtkoejpimalbhbaaDoor
namespace Rows

/-- THE TIED CARD OF 'laws.FnExactCheapestWay'. -/
def fnExactCheapestWayCard : Claim7 := { stood := { row := fnExactCheapestWayRow, standIns := [], harness := (true, "ffad0099d2c24d0bf28985c214c073db571d9d8f0e9e3a2b5fd79cc81d45c540"), looks := false }, kinds := [], alts := [], laidByText := true, laidKinds := [.data, .pinned], laidTests := true, laidLooks := .later }
def FnExactCheapestWayCardSaid : Prop := Claim7.holds Tryd.pinned (.plain (OpenSpec.ofChange fnExactCheapestWaySpec)) fnExactCheapestWayCard

/-- THE TIED CARD OF 'laws.FnExactLeastSum'. -/
def fnExactLeastSumCard : Claim7 := { stood := { row := fnExactLeastSumRow, standIns := [], harness := (true, "ffad0099d2c24d0bf28985c214c073db571d9d8f0e9e3a2b5fd79cc81d45c540"), looks := false }, kinds := [], alts := [], laidByText := true, laidKinds := [.data, .pinned], laidTests := true, laidLooks := .later }
def FnExactLeastSumCardSaid : Prop := Claim7.holds Tryd.pinned (.plain (OpenSpec.ofChange fnExactLeastSumSpec)) fnExactLeastSumCard

/-- THE SECOND FORM's CARD OF 'laws.FnExactCheapestWay'. -/
def fnExactCheapestWayUptoCard : Claim7 := { stood := { row := fnExactCheapestWayUptoRow, standIns := [], harness := (true, "ffad0099d2c24d0bf28985c214c073db571d9d8f0e9e3a2b5fd79cc81d45c540"), looks := false }, kinds := [], alts := [], laidByText := true, laidKinds := [.data, .pinned], laidTests := true, laidLooks := .later }
def FnExactCheapestWayUptoCardSaid : Prop := Claim7.holds Tryd.pinned (.plain (OpenSpec.upto fnExactCheapestWaySpec)) fnExactCheapestWayUptoCard

/-- THE SECOND FORM's CARD OF 'laws.FnExactLeastSum'. -/
def fnExactLeastSumUptoCard : Claim7 := { stood := { row := fnExactLeastSumUptoRow, standIns := [], harness := (true, "ffad0099d2c24d0bf28985c214c073db571d9d8f0e9e3a2b5fd79cc81d45c540"), looks := false }, kinds := [], alts := [], laidByText := true, laidKinds := [.data, .pinned], laidTests := true, laidLooks := .later }
def FnExactLeastSumUptoCardSaid : Prop := Claim7.holds Tryd.pinned (.plain (OpenSpec.upto fnExactLeastSumSpec)) fnExactLeastSumUptoCard
end Rows
end Go.Proofs.YtkoejpimalbhbaaDoor
