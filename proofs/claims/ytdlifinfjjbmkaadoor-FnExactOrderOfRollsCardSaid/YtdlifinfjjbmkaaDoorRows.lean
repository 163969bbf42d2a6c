/-
  NARROWER THAN 'FOR EVERY INPUT', by the rows' own cells (each row's printed sentence says how): FnExactIsRolls: laid · FnExactTurnRolls: laid · FnExactBackWord: laid · FnExactAreSameRolls: laid · FnExactOrderOfRolls: laid · FnExactShortestRolls: laid · FnExactRollWord: laid · FnExactIsClosedWay: laid · FnExactTurnOfWay: laid · FnDiceRoll: laid.
  DERIVED. THE GIVEN ROWS OF THIS SEAT. 10 by the template 'for every input the law returns true; each argument reads behind the call as it read before'; 0 by the template 'total and deterministic' (their statements: YtdlifinfjjbmkaaDoorTotals.lean).
  GIVEN WITH THE SEED: the statements are not yours to turn. If you find one false, say at which input.
  Laid BY PROGRAM, IN A SANDBOX (cutbox-rows.mjs): the forced cells as the released guide's own fill.sh prints them over the translation fb8e4f853c37546c… (all of the seat's roots in one cut). By AI agents, Wed Nov 11 2026. No macro, syntax, notation, axiom, sorry.
-/
import Derived.Test.YtdlifinfjjbmkaaDoorChecked
import GoSem.PinnedTables
import GoSem.Claim
import GoSem.ClaimJoined
import GoSem.ClaimMapViews
import Derived.JoinedTies
import Derived.KernelRfl
namespace Go.Proofs.YtdlifinfjjbmkaaDoor
/- THE CELL 'sum', in the pinned program and in every row, IS THE sha256 OF THE DUMP (.gsa) THAT YtdlifinfjjbmkaaDoorProg.lean LOADS. Nothing in Lean hashes anything: it is a label: what it is worth is what the hold of that sum in a sandbox is worth. -/
noncomputable def Tryd.pinned : Pinned := { name := "ytdlifinfjjbmkaadoor", sum := "fb8e4f853c37546cadff9863ff280ce0528f9861cce93a9b03761275ce21f5ef", checked := Tryd.checked }
namespace Rows
def none {H : Type} : Left H := { results := [], args := [] }

/- WHAT THE LISTED PACKAGE-LEVEL VARIABLES READ AS WHEN THE CALL BEGINS. Each datum BY PROGRAM (the guide's laid-datum.mjs) off the statement by which the dump's own 'gosem.cut.vars' lays the variable. In a bare row this is a premise. The card (YtdlifinfjjbmkaaDoorCards.lean) ties it to the program's text. -/
def laid_unicode_utf8_acceptRanges {H : Type} : DataW H := .agg [.agg [.lit (.int .u8 128), .lit (.int .u8 191)], .agg [.lit (.int .u8 160), .lit (.int .u8 191)], .agg [.lit (.int .u8 128), .lit (.int .u8 159)], .agg [.lit (.int .u8 144), .lit (.int .u8 191)], .agg [.lit (.int .u8 128), .lit (.int .u8 143)], .agg [.lit (.int .u8 0), .lit (.int .u8 0)], .agg [.lit (.int .u8 0), .lit (.int .u8 0)], .agg [.lit (.int .u8 0), .lit (.int .u8 0)], .agg [.lit (.int .u8 0), .lit (.int .u8 0)], .agg [.lit (.int .u8 0), .lit (.int .u8 0)], .agg [.lit (.int .u8 0), .lit (.int .u8 0)], .agg [.lit (.int .u8 0), .lit (.int .u8 0)], .agg [.lit (.int .u8 0), .lit (.int .u8 0)], .agg [.lit (.int .u8 0), .lit (.int .u8 0)], .agg [.lit (.int .u8 0), .lit (.int .u8 0)], .agg [.lit (.int .u8 0), .lit (.int .u8 0)]]
/-- One of Go's own tables, pinned by name: the form's constant. -/
def laid_unicode_utf8_first : DataW Unit := Go.Pinned.utf8First

/-- 'laws.FnExactIsRolls': WHATEVER THE INPUT: true; the input reads as it did. -/
def fnExactIsRollsSpec : ChangeSpec := { name := "fnExactIsRolls", fn := fun _ => fun
  | [d] => { results := [.lit (.bool true)], args := [d] }
  | _ => none }
def fnExactIsRollsRow : OpenClaim := { program := "ytdlifinfjjbmkaadoor", sum := "fb8e4f853c37546cadff9863ff280ce0528f9861cce93a9b03761275ce21f5ef", func := "loop.example/g01207/laws.FnExactIsRolls", spec := "fnExactIsRolls", inPlace := ["internal/bytealg.IndexByteString", "internal/bytealg.IndexString"], named := ["unicode/utf8.first", "unicode/utf8.acceptRanges", "internal/bytealg.MaxLen"], plainKeys := false, apart := false, laid := [("unicode/utf8.acceptRanges", laid_unicode_utf8_acceptRanges), ("unicode/utf8.first", laid_unicode_utf8_first)] }
def FnExactIsRollsSaid : Prop := fnExactIsRollsRow.holds Tryd.pinned (OpenSpec.ofChange fnExactIsRollsSpec)

/-- ITS FALSE NEIGHBOUR: 'it returns false'. Refute it at one input. -/
def fnExactIsRollsWrong : ChangeSpec := { name := "fnExactIsRolls", fn := fun _ => fun
  | [d] => { results := [.lit (.bool false)], args := [d] }
  | _ => none }
def FnExactIsRollsWrongFalsely : Prop := fnExactIsRollsRow.holds Tryd.pinned (OpenSpec.ofChange fnExactIsRollsWrong)

/-- 'laws.FnExactTurnRolls': WHATEVER THE INPUT: true; the input reads as it did. -/
def fnExactTurnRollsSpec : ChangeSpec := { name := "fnExactTurnRolls", fn := fun _ => fun
  | [d] => { results := [.lit (.bool true)], args := [d] }
  | _ => none }
def fnExactTurnRollsRow : OpenClaim := { program := "ytdlifinfjjbmkaadoor", sum := "fb8e4f853c37546cadff9863ff280ce0528f9861cce93a9b03761275ce21f5ef", func := "loop.example/g01207/laws.FnExactTurnRolls", spec := "fnExactTurnRolls", inPlace := ["internal/bytealg.IndexByteString", "internal/bytealg.IndexString"], named := ["unicode/utf8.first", "unicode/utf8.acceptRanges", "internal/bytealg.MaxLen"], plainKeys := false, apart := false, laid := [("unicode/utf8.acceptRanges", laid_unicode_utf8_acceptRanges), ("unicode/utf8.first", laid_unicode_utf8_first)] }
def FnExactTurnRollsSaid : Prop := fnExactTurnRollsRow.holds Tryd.pinned (OpenSpec.ofChange fnExactTurnRollsSpec)

/-- ITS FALSE NEIGHBOUR: 'it returns false'. Refute it at one input. -/
def fnExactTurnRollsWrong : ChangeSpec := { name := "fnExactTurnRolls", fn := fun _ => fun
  | [d] => { results := [.lit (.bool false)], args := [d] }
  | _ => none }
def FnExactTurnRollsWrongFalsely : Prop := fnExactTurnRollsRow.holds Tryd.pinned (OpenSpec.ofChange fnExactTurnRollsWrong)

/-- 'laws.FnExactBackWord': WHATEVER THE INPUT: true; the input reads as it did. -/
def fnExactBackWordSpec : ChangeSpec := { name := "fnExactBackWord", fn := fun _ => fun
  | [d] => { results := [.lit (.bool true)], args := [d] }
  | _ => none }
def fnExactBackWordRow : OpenClaim := { program := "ytdlifinfjjbmkaadoor", sum := "fb8e4f853c37546cadff9863ff280ce0528f9861cce93a9b03761275ce21f5ef", func := "loop.example/g01207/laws.FnExactBackWord", spec := "fnExactBackWord", inPlace := ["internal/bytealg.IndexByteString", "internal/bytealg.IndexString"], named := ["unicode/utf8.first", "unicode/utf8.acceptRanges", "internal/bytealg.MaxLen"], plainKeys := false, apart := false, laid := [("unicode/utf8.acceptRanges", laid_unicode_utf8_acceptRanges), ("unicode/utf8.first", laid_unicode_utf8_first)] }
def FnExactBackWordSaid : Prop := fnExactBackWordRow.holds Tryd.pinned (OpenSpec.ofChange fnExactBackWordSpec)

/-- ITS FALSE NEIGHBOUR: 'it returns false'. Refute it at one input. -/
def fnExactBackWordWrong : ChangeSpec := { name := "fnExactBackWord", fn := fun _ => fun
  | [d] => { results := [.lit (.bool false)], args := [d] }
  | _ => none }
def FnExactBackWordWrongFalsely : Prop := fnExactBackWordRow.holds Tryd.pinned (OpenSpec.ofChange fnExactBackWordWrong)

/-- 'laws.FnExactAreSameRolls': WHATEVER THE INPUT: true; the input reads as it did. -/
def fnExactAreSameRollsSpec : ChangeSpec := { name := "fnExactAreSameRolls", fn := fun _ => fun
  | [d1, d2] => { results := [.lit (.bool true)], args := [d1, d2] }
  | _ => none }
def fnExactAreSameRollsRow : OpenClaim := { program := "ytdlifinfjjbmkaadoor", sum := "fb8e4f853c37546cadff9863ff280ce0528f9861cce93a9b03761275ce21f5ef", func := "loop.example/g01207/laws.FnExactAreSameRolls", spec := "fnExactAreSameRolls", inPlace := ["internal/bytealg.IndexByteString", "internal/bytealg.IndexString"], named := ["unicode/utf8.first", "unicode/utf8.acceptRanges", "internal/bytealg.MaxLen"], plainKeys := false, apart := false, laid := [("unicode/utf8.acceptRanges", laid_unicode_utf8_acceptRanges), ("unicode/utf8.first", laid_unicode_utf8_first)] }
def FnExactAreSameRollsSaid : Prop := fnExactAreSameRollsRow.holds Tryd.pinned (OpenSpec.ofChange fnExactAreSameRollsSpec)

/-- ITS FALSE NEIGHBOUR: 'it returns false'. Refute it at one input. -/
def fnExactAreSameRollsWrong : ChangeSpec := { name := "fnExactAreSameRolls", fn := fun _ => fun
  | [d1, d2] => { results := [.lit (.bool false)], args := [d1, d2] }
  | _ => none }
def FnExactAreSameRollsWrongFalsely : Prop := fnExactAreSameRollsRow.holds Tryd.pinned (OpenSpec.ofChange fnExactAreSameRollsWrong)

/-- 'laws.FnExactOrderOfRolls': WHATEVER THE INPUT: true; the input reads as it did. -/
def fnExactOrderOfRollsSpec : ChangeSpec := { name := "fnExactOrderOfRolls", fn := fun _ => fun
  | [d] => { results := [.lit (.bool true)], args := [d] }
  | _ => none }
def fnExactOrderOfRollsRow : OpenClaim := { program := "ytdlifinfjjbmkaadoor", sum := "fb8e4f853c37546cadff9863ff280ce0528f9861cce93a9b03761275ce21f5ef", func := "loop.example/g01207/laws.FnExactOrderOfRolls", spec := "fnExactOrderOfRolls", inPlace := ["internal/bytealg.IndexByteString", "internal/bytealg.IndexString"], named := ["unicode/utf8.first", "unicode/utf8.acceptRanges", "internal/bytealg.MaxLen"], plainKeys := false, apart := false, laid := [("unicode/utf8.acceptRanges", laid_unicode_utf8_acceptRanges), ("unicode/utf8.first", laid_unicode_utf8_first)] }
def FnExactOrderOfRollsSaid : Prop := fnExactOrderOfRollsRow.holds Tryd.pinned (OpenSpec.ofChange fnExactOrderOfRollsSpec)

/-- ITS FALSE NEIGHBOUR: 'it returns false'. Refute it at one input. -/
def fnExactOrderOfRollsWrong : ChangeSpec := { name := "fnExactOrderOfRolls", fn := fun _ => fun
  | [d] => { results := [.lit (.bool false)], args := [d] }
  | _ => none }
def FnExactOrderOfRollsWrongFalsely : Prop := fnExactOrderOfRollsRow.holds Tryd.pinned (OpenSpec.ofChange fnExactOrderOfRollsWrong)

/-- 'laws.FnExactShortestRolls': WHATEVER THE INPUT: true; the input reads as it did. -/
def fnExactShortestRollsSpec : ChangeSpec := { name := "fnExactShortestRolls", fn := fun _ => fun
  | [d] => { results := [.lit (.bool true)], args := [d] }
  | _ => none }
def fnExactShortestRollsRow : OpenClaim := { program := "ytdlifinfjjbmkaadoor", sum := "fb8e4f853c37546cadff9863ff280ce0528f9861cce93a9b03761275ce21f5ef", func := "loop.example/g01207/laws.FnExactShortestRolls", spec := "fnExactShortestRolls", inPlace := ["internal/bytealg.IndexByteString", "internal/bytealg.IndexString"], named := ["unicode/utf8.first", "unicode/utf8.acceptRanges", "internal/bytealg.MaxLen"], plainKeys := false, apart := false, laid := [("unicode/utf8.acceptRanges", laid_unicode_utf8_acceptRanges), ("unicode/utf8.first", laid_unicode_utf8_first)] }
def FnExactShortestRollsSaid : Prop := fnExactShortestRollsRow.holds Tryd.pinned (OpenSpec.ofChange fnExactShortestRollsSpec)

/-- ITS FALSE NEIGHBOUR: 'it returns false'. Refute it at one input. -/
def fnExactShortestRollsWrong : ChangeSpec := { name := "fnExactShortestRolls", fn := fun _ => fun
  | [d] => { results := [.lit (.bool false)], args := [d] }
  | _ => none }
def FnExactShortestRollsWrongFalsely : Prop := fnExactShortestRollsRow.holds Tryd.pinned (OpenSpec.ofChange fnExactShortestRollsWrong)

/-- 'laws.FnExactRollWord': WHATEVER THE INPUT: true; the input reads as it did. -/
def fnExactRollWordSpec : ChangeSpec := { name := "fnExactRollWord", fn := fun _ => fun
  | [d1, d2] => { results := [.lit (.bool true)], args := [d1, d2] }
  | _ => none }
def fnExactRollWordRow : OpenClaim := { program := "ytdlifinfjjbmkaadoor", sum := "fb8e4f853c37546cadff9863ff280ce0528f9861cce93a9b03761275ce21f5ef", func := "loop.example/g01207/laws.FnExactRollWord", spec := "fnExactRollWord", inPlace := ["internal/bytealg.IndexByteString", "internal/bytealg.IndexString"], unfollowed := true, recurses := true, named := ["unicode/utf8.first", "unicode/utf8.acceptRanges", "internal/bytealg.MaxLen"], plainKeys := false, apart := false, laid := [("unicode/utf8.acceptRanges", laid_unicode_utf8_acceptRanges), ("unicode/utf8.first", laid_unicode_utf8_first)] }
def FnExactRollWordSaid : Prop := fnExactRollWordRow.holds Tryd.pinned (OpenSpec.ofChange fnExactRollWordSpec)

/-- ITS FALSE NEIGHBOUR: 'it returns false'. Refute it at one input. -/
def fnExactRollWordWrong : ChangeSpec := { name := "fnExactRollWord", fn := fun _ => fun
  | [d1, d2] => { results := [.lit (.bool false)], args := [d1, d2] }
  | _ => none }
def FnExactRollWordWrongFalsely : Prop := fnExactRollWordRow.holds Tryd.pinned (OpenSpec.ofChange fnExactRollWordWrong)

/-- 'laws.FnExactIsClosedWay': WHATEVER THE INPUT: true; the input reads as it did. -/
def fnExactIsClosedWaySpec : ChangeSpec := { name := "fnExactIsClosedWay", fn := fun _ => fun
  | [d] => { results := [.lit (.bool true)], args := [d] }
  | _ => none }
def fnExactIsClosedWayRow : OpenClaim := { program := "ytdlifinfjjbmkaadoor", sum := "fb8e4f853c37546cadff9863ff280ce0528f9861cce93a9b03761275ce21f5ef", func := "loop.example/g01207/laws.FnExactIsClosedWay", spec := "fnExactIsClosedWay", inPlace := ["internal/bytealg.IndexByteString", "internal/bytealg.IndexString", "internal/bytealg.CountString"], named := ["unicode/utf8.first", "unicode/utf8.acceptRanges", "internal/bytealg.MaxLen"], plainKeys := false, apart := false, laid := [("unicode/utf8.acceptRanges", laid_unicode_utf8_acceptRanges), ("unicode/utf8.first", laid_unicode_utf8_first)] }
def FnExactIsClosedWaySaid : Prop := fnExactIsClosedWayRow.holds Tryd.pinned (OpenSpec.ofChange fnExactIsClosedWaySpec)

/-- ITS FALSE NEIGHBOUR: 'it returns false'. Refute it at one input. -/
def fnExactIsClosedWayWrong : ChangeSpec := { name := "fnExactIsClosedWay", fn := fun _ => fun
  | [d] => { results := [.lit (.bool false)], args := [d] }
  | _ => none }
def FnExactIsClosedWayWrongFalsely : Prop := fnExactIsClosedWayRow.holds Tryd.pinned (OpenSpec.ofChange fnExactIsClosedWayWrong)

/-- 'laws.FnExactTurnOfWay': WHATEVER THE INPUT: true; the input reads as it did. -/
def fnExactTurnOfWaySpec : ChangeSpec := { name := "fnExactTurnOfWay", fn := fun _ => fun
  | [d] => { results := [.lit (.bool true)], args := [d] }
  | _ => none }
def fnExactTurnOfWayRow : OpenClaim := { program := "ytdlifinfjjbmkaadoor", sum := "fb8e4f853c37546cadff9863ff280ce0528f9861cce93a9b03761275ce21f5ef", func := "loop.example/g01207/laws.FnExactTurnOfWay", spec := "fnExactTurnOfWay", inPlace := ["internal/bytealg.IndexByteString", "internal/bytealg.IndexString", "internal/bytealg.CountString"], named := ["unicode/utf8.first", "unicode/utf8.acceptRanges", "internal/bytealg.MaxLen"], plainKeys := false, apart := false, laid := [("unicode/utf8.acceptRanges", laid_unicode_utf8_acceptRanges), ("unicode/utf8.first", laid_unicode_utf8_first)] }
def FnExactTurnOfWaySaid : Prop := fnExactTurnOfWayRow.holds Tryd.pinned (OpenSpec.ofChange fnExactTurnOfWaySpec)

/-- ITS FALSE NEIGHBOUR: 'it returns false'. Refute it at one input. -/
def fnExactTurnOfWayWrong : ChangeSpec := { name := "fnExactTurnOfWay", fn := fun _ => fun
  | [d] => { results := [.lit (.bool false)], args := [d] }
  | _ => none }
def FnExactTurnOfWayWrongFalsely : Prop := fnExactTurnOfWayRow.holds Tryd.pinned (OpenSpec.ofChange fnExactTurnOfWayWrong)

/-- 'laws.FnDiceRoll': WHATEVER THE INPUT: true; the input reads as it did. -/
def fnDiceRollSpec : ChangeSpec := { name := "fnDiceRoll", fn := fun _ => fun
  | [d1, d2] => { results := [.lit (.bool true)], args := [d1, d2] }
  | _ => none }
def fnDiceRollRow : OpenClaim := { program := "ytdlifinfjjbmkaadoor", sum := "fb8e4f853c37546cadff9863ff280ce0528f9861cce93a9b03761275ce21f5ef", func := "loop.example/g01207/laws.FnDiceRoll", spec := "fnDiceRoll", inPlace := ["internal/bytealg.IndexByteString", "internal/bytealg.IndexString"], unfollowed := true, recurses := true, named := ["unicode/utf8.first", "unicode/utf8.acceptRanges", "internal/bytealg.MaxLen"], plainKeys := false, apart := false, laid := [("unicode/utf8.acceptRanges", laid_unicode_utf8_acceptRanges), ("unicode/utf8.first", laid_unicode_utf8_first)] }
def FnDiceRollSaid : Prop := fnDiceRollRow.holds Tryd.pinned (OpenSpec.ofChange fnDiceRollSpec)

/-- ITS FALSE NEIGHBOUR: 'it returns false'. Refute it at one input. -/
def fnDiceRollWrong : ChangeSpec := { name := "fnDiceRoll", fn := fun _ => fun
  | [d1, d2] => { results := [.lit (.bool false)], args := [d1, d2] }
  | _ => none }
def FnDiceRollWrongFalsely : Prop := fnDiceRollRow.holds Tryd.pinned (OpenSpec.ofChange fnDiceRollWrong)

/- THE SECOND FORM. 'bulk': how many values and letters a reading holds, each counted each time it is reached (what is shared counts as often as it is met; a slice's spare places count too). A statement '..UptoSaid' is the law's where the arguments, and the package variables that the reading takes, are together of bulk at most 1048576: NARROWER than '..Said'. Prove '..Said' where nothing that the law and all that it calls make is longer than what came in: it says more and counts as full. Else prove '..UptoSaid'. A law counts once. -/
mutual
def uptoBulk {H : Type} : DataW H → Nat
  | .lit (.string bytes) => bytes.length + 1
  | .lit _ => 1
  | .nil => 1
  | .ptr d => uptoBulk d + 1
  | .slice elems spare => uptoBulkAll elems + uptoBulkAll spare + 1
  | .agg parts => uptoBulkAll parts + 1
  | .iface _ d => uptoBulk d + 1
  | .map entries => uptoBulkEntries entries + 1
  | .held _ => 1
def uptoBulkAll {H : Type} : List (DataW H) → Nat
  | [] => 0
  | d :: r => uptoBulk d + uptoBulkAll r
def uptoBulkEntries {H : Type} : List (Lit × DataW H) → Nat
  | [] => 0
  | x :: r => uptoBulkEntry x + uptoBulkEntries r
def uptoBulkEntry {H : Type} : Lit × DataW H → Nat
  | (.string bytes, d) => bytes.length + uptoBulk d + 1
  | (_, d) => uptoBulk d + 1
 end
def uptoSmall : (H : Type) → List (DataW H) → Bool := fun _ ds => decide (uptoBulkAll ds ≤ 1048576)
def OpenSpec.upto (s : _root_.Go.ChangeSpec) : _root_.Go.OpenSpec := { _root_.Go.OpenSpec.ofChange s with cond := some uptoSmall }

/-- 'laws.FnExactIsRolls', WHERE WHAT IT READS IS OF BULK AT MOST 1048576: true; the input reads as it did. -/
def fnExactIsRollsUptoRow : OpenClaim := { program := "ytdlifinfjjbmkaadoor", sum := "fb8e4f853c37546cadff9863ff280ce0528f9861cce93a9b03761275ce21f5ef", func := "loop.example/g01207/laws.FnExactIsRolls", spec := "fnExactIsRolls", inPlace := ["internal/bytealg.IndexByteString", "internal/bytealg.IndexString"], named := ["unicode/utf8.first", "unicode/utf8.acceptRanges", "internal/bytealg.MaxLen"], plainKeys := false, apart := false, laid := [("unicode/utf8.acceptRanges", laid_unicode_utf8_acceptRanges), ("unicode/utf8.first", laid_unicode_utf8_first)], narrowed := true }
def FnExactIsRollsUptoSaid : Prop := fnExactIsRollsUptoRow.holds Tryd.pinned (OpenSpec.upto fnExactIsRollsSpec)

/-- 'laws.FnExactTurnRolls', WHERE WHAT IT READS IS OF BULK AT MOST 1048576: true; the input reads as it did. -/
def fnExactTurnRollsUptoRow : OpenClaim := { program := "ytdlifinfjjbmkaadoor", sum := "fb8e4f853c37546cadff9863ff280ce0528f9861cce93a9b03761275ce21f5ef", func := "loop.example/g01207/laws.FnExactTurnRolls", spec := "fnExactTurnRolls", inPlace := ["internal/bytealg.IndexByteString", "internal/bytealg.IndexString"], named := ["unicode/utf8.first", "unicode/utf8.acceptRanges", "internal/bytealg.MaxLen"], plainKeys := false, apart := false, laid := [("unicode/utf8.acceptRanges", laid_unicode_utf8_acceptRanges), ("unicode/utf8.first", laid_unicode_utf8_first)], narrowed := true }
def FnExactTurnRollsUptoSaid : Prop := fnExactTurnRollsUptoRow.holds Tryd.pinned (OpenSpec.upto fnExactTurnRollsSpec)

/-- 'laws.FnExactBackWord', WHERE WHAT IT READS IS OF BULK AT MOST 1048576: true; the input reads as it did. -/
def fnExactBackWordUptoRow : OpenClaim := { program := "ytdlifinfjjbmkaadoor", sum := "fb8e4f853c37546cadff9863ff280ce0528f9861cce93a9b03761275ce21f5ef", func := "loop.example/g01207/laws.FnExactBackWord", spec := "fnExactBackWord", inPlace := ["internal/bytealg.IndexByteString", "internal/bytealg.IndexString"], named := ["unicode/utf8.first", "unicode/utf8.acceptRanges", "internal/bytealg.MaxLen"], plainKeys := false, apart := false, laid := [("unicode/utf8.acceptRanges", laid_unicode_utf8_acceptRanges), ("unicode/utf8.first", laid_unicode_utf8_first)], narrowed := true }
def FnExactBackWordUptoSaid : Prop := fnExactBackWordUptoRow.holds Tryd.pinned (OpenSpec.upto fnExactBackWordSpec)

/-- 'laws.FnExactAreSameRolls', WHERE WHAT IT READS IS OF BULK AT MOST 1048576: true; the input reads as it did. -/
def fnExactAreSameRollsUptoRow : OpenClaim := { program := "ytdlifinfjjbmkaadoor", sum := "fb8e4f853c37546cadff9863ff280ce0528f9861cce93a9b03761275ce21f5ef", func := "loop.example/g01207/laws.FnExactAreSameRolls", spec := "fnExactAreSameRolls", inPlace := ["internal/bytealg.IndexByteString", "internal/bytealg.IndexString"], named := ["unicode/utf8.first", "unicode/utf8.acceptRanges", "internal/bytealg.MaxLen"], plainKeys := false, apart := false, laid := [("unicode/utf8.acceptRanges", laid_unicode_utf8_acceptRanges), ("unicode/utf8.first", laid_unicode_utf8_first)], narrowed := true }
def FnExactAreSameRollsUptoSaid : Prop := fnExactAreSameRollsUptoRow.holds Tryd.pinned (OpenSpec.upto fnExactAreSameRollsSpec)

/-- 'laws.FnExactOrderOfRolls', WHERE WHAT IT READS IS OF BULK AT MOST 1048576: true; the input reads as it did. -/
def fnExactOrderOfRollsUptoRow : OpenClaim := { program := "ytdlifinfjjbmkaadoor", sum := "fb8e4f853c37546cadff9863ff280ce0528f9861cce93a9b03761275ce21f5ef", func := "loop.example/g01207/laws.FnExactOrderOfRolls", spec := "fnExactOrderOfRolls", inPlace := ["internal/bytealg.IndexByteString", "internal/bytealg.IndexString"], named := ["unicode/utf8.first", "unicode/utf8.acceptRanges", "internal/bytealg.MaxLen"], plainKeys := false, apart := false, laid := [("unicode/utf8.acceptRanges", laid_unicode_utf8_acceptRanges), ("unicode/utf8.first", laid_unicode_utf8_first)], narrowed := true }
def FnExactOrderOfRollsUptoSaid : Prop := fnExactOrderOfRollsUptoRow.holds Tryd.pinned (OpenSpec.upto fnExactOrderOfRollsSpec)

/-- 'laws.FnExactShortestRolls', WHERE WHAT IT READS IS OF BULK AT MOST 1048576: true; the input reads as it did. -/
def fnExactShortestRollsUptoRow : OpenClaim := { program := "ytdlifinfjjbmkaadoor", sum := "fb8e4f853c37546cadff9863ff280ce0528f9861cce93a9b03761275ce21f5ef", func := "loop.example/g01207/laws.FnExactShortestRolls", spec := "fnExactShortestRolls", inPlace := ["internal/bytealg.IndexByteString", "internal/bytealg.IndexString"], named := ["unicode/utf8.first", "unicode/utf8.acceptRanges", "internal/bytealg.MaxLen"], plainKeys := false, apart := false, laid := [("unicode/utf8.acceptRanges", laid_unicode_utf8_acceptRanges), ("unicode/utf8.first", laid_unicode_utf8_first)], narrowed := true }
def FnExactShortestRollsUptoSaid : Prop := fnExactShortestRollsUptoRow.holds Tryd.pinned (OpenSpec.upto fnExactShortestRollsSpec)

/-- 'laws.FnExactRollWord', WHERE WHAT IT READS IS OF BULK AT MOST 1048576: true; the input reads as it did. -/
def fnExactRollWordUptoRow : OpenClaim := { program := "ytdlifinfjjbmkaadoor", sum := "fb8e4f853c37546cadff9863ff280ce0528f9861cce93a9b03761275ce21f5ef", func := "loop.example/g01207/laws.FnExactRollWord", spec := "fnExactRollWord", inPlace := ["internal/bytealg.IndexByteString", "internal/bytealg.IndexString"], unfollowed := true, recurses := true, named := ["unicode/utf8.first", "unicode/utf8.acceptRanges", "internal/bytealg.MaxLen"], plainKeys := false, apart := false, laid := [("unicode/utf8.acceptRanges", laid_unicode_utf8_acceptRanges), ("unicode/utf8.first", laid_unicode_utf8_first)], narrowed := true }
def FnExactRollWordUptoSaid : Prop := fnExactRollWordUptoRow.holds Tryd.pinned (OpenSpec.upto fnExactRollWordSpec)

/-- 'laws.FnExactIsClosedWay', WHERE WHAT IT READS IS OF BULK AT MOST 1048576: true; the input reads as it did. -/
def fnExactIsClosedWayUptoRow : OpenClaim := { program := "ytdlifinfjjbmkaadoor", sum := "fb8e4f853c37546cadff9863ff280ce0528f9861cce93a9b03761275ce21f5ef", func := "loop.example/g01207/laws.FnExactIsClosedWay", spec := "fnExactIsClosedWay", inPlace := ["internal/bytealg.IndexByteString", "internal/bytealg.IndexString", "internal/bytealg.CountString"], named := ["unicode/utf8.first", "unicode/utf8.acceptRanges", "internal/bytealg.MaxLen"], plainKeys := false, apart := false, laid := [("unicode/utf8.acceptRanges", laid_unicode_utf8_acceptRanges), ("unicode/utf8.first", laid_unicode_utf8_first)], narrowed := true }
def FnExactIsClosedWayUptoSaid : Prop := fnExactIsClosedWayUptoRow.holds Tryd.pinned (OpenSpec.upto fnExactIsClosedWaySpec)

/-- 'laws.FnExactTurnOfWay', WHERE WHAT IT READS IS OF BULK AT MOST 1048576: true; the input reads as it did. -/
def fnExactTurnOfWayUptoRow : OpenClaim := { program := "ytdlifinfjjbmkaadoor", sum := "fb8e4f853c37546cadff9863ff280ce0528f9861cce93a9b03761275ce21f5ef", func := "loop.example/g01207/laws.FnExactTurnOfWay", spec := "fnExactTurnOfWay", inPlace := ["internal/bytealg.IndexByteString", "internal/bytealg.IndexString", "internal/bytealg.CountString"], named := ["unicode/utf8.first", "unicode/utf8.acceptRanges", "internal/bytealg.MaxLen"], plainKeys := false, apart := false, laid := [("unicode/utf8.acceptRanges", laid_unicode_utf8_acceptRanges), ("unicode/utf8.first", laid_unicode_utf8_first)], narrowed := true }
def FnExactTurnOfWayUptoSaid : Prop := fnExactTurnOfWayUptoRow.holds Tryd.pinned (OpenSpec.upto fnExactTurnOfWaySpec)

/-- 'laws.FnDiceRoll', WHERE WHAT IT READS IS OF BULK AT MOST 1048576: true; the input reads as it did. -/
def fnDiceRollUptoRow : OpenClaim := { program := "ytdlifinfjjbmkaadoor", sum := "fb8e4f853c37546cadff9863ff280ce0528f9861cce93a9b03761275ce21f5ef", func := "loop.example/g01207/laws.FnDiceRoll", spec := "fnDiceRoll", inPlace := ["internal/bytealg.IndexByteString", "internal/bytealg.IndexString"], unfollowed := true, recurses := true, named := ["unicode/utf8.first", "unicode/utf8.acceptRanges", "internal/bytealg.MaxLen"], plainKeys := false, apart := false, laid := [("unicode/utf8.acceptRanges", laid_unicode_utf8_acceptRanges), ("unicode/utf8.first", laid_unicode_utf8_first)], narrowed := true }
def FnDiceRollUptoSaid : Prop := fnDiceRollUptoRow.holds Tryd.pinned (OpenSpec.upto fnDiceRollSpec)

end Rows
end Go.Proofs.YtdlifinfjjbmkaaDoor
