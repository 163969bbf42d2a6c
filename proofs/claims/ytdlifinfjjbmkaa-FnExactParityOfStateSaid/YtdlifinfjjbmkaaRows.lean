/-
  No cell of these rows narrows 'for every input' (looked for: loops, veiled, ifaces, maps, wideKeys, modest, calm, conditions, laid).
  DERIVED. THE GIVEN ROWS OF THIS SEAT. 14 by the template 'for every input the law returns true; each argument reads behind the call as it read before'; 0 by the template 'total and deterministic' (their statements: YtdlifinfjjbmkaaTotals.lean).
  GIVEN WITH THE SEED: the statements are not yours to turn. If you find one false, say at which input.
  Laid BY PROGRAM, IN A SANDBOX (cutbox-rows.mjs): the forced cells as the released guide's own fill.sh prints them over the translation 188c6aad063f410d… (all of the seat's roots in one cut). By AI agents, Wed Nov 11 2026. No macro, syntax, notation, axiom, sorry.
-/
import Derived.Test.YtdlifinfjjbmkaaChecked
import GoSem.Claim
import GoSem.ClaimJoined
import GoSem.ClaimMapViews
import Derived.JoinedTies
import Derived.KernelRfl
namespace Go.Proofs.Ytdlifinfjjbmkaa
/- THE CELL 'sum', in the pinned program and in every row, IS THE sha256 OF THE DUMP (.gsa) THAT YtdlifinfjjbmkaaProg.lean LOADS. Nothing in Lean hashes anything: it is a label: what it is worth is what the hold of that sum in a sandbox is worth. -/
noncomputable def Try.pinned : Pinned := { name := "ytdlifinfjjbmkaa", sum := "188c6aad063f410dd27db2c3fc9803fe0f044482b4db867bfb85cbf8d05ce1ff", checked := Try.checked }
namespace Rows
def none {H : Type} : Left H := { results := [], args := [] }

/-- 'laws.FnExactConstants': WHATEVER THE INPUT: true; the input reads as it did. -/
def fnExactConstantsSpec : ChangeSpec := { name := "fnExactConstants", fn := fun _ => fun
  | [] => { results := [.lit (.bool true)], args := [] }
  | _ => none }
def fnExactConstantsRow : OpenClaim := { program := "ytdlifinfjjbmkaa", sum := "188c6aad063f410dd27db2c3fc9803fe0f044482b4db867bfb85cbf8d05ce1ff", func := "loop.example/g01207/laws.FnExactConstants", spec := "fnExactConstants", plainKeys := false, apart := false }
def FnExactConstantsSaid : Prop := fnExactConstantsRow.holds Try.pinned (OpenSpec.ofChange fnExactConstantsSpec)

/-- ITS FALSE NEIGHBOUR: 'it returns false'. Refute it at one input. -/
def fnExactConstantsWrong : ChangeSpec := { name := "fnExactConstants", fn := fun _ => fun
  | [] => { results := [.lit (.bool false)], args := [] }
  | _ => none }
def FnExactConstantsWrongFalsely : Prop := fnExactConstantsRow.holds Try.pinned (OpenSpec.ofChange fnExactConstantsWrong)

/-- 'laws.FnExactIsDie': WHATEVER THE INPUT: true; the input reads as it did. -/
def fnExactIsDieSpec : ChangeSpec := { name := "fnExactIsDie", fn := fun _ => fun
  | [d] => { results := [.lit (.bool true)], args := [d] }
  | _ => none }
def fnExactIsDieRow : OpenClaim := { program := "ytdlifinfjjbmkaa", sum := "188c6aad063f410dd27db2c3fc9803fe0f044482b4db867bfb85cbf8d05ce1ff", func := "loop.example/g01207/laws.FnExactIsDie", spec := "fnExactIsDie", unfollowed := true, recurses := true, plainKeys := false, apart := false }
def FnExactIsDieSaid : Prop := fnExactIsDieRow.holds Try.pinned (OpenSpec.ofChange fnExactIsDieSpec)

/-- ITS FALSE NEIGHBOUR: 'it returns false'. Refute it at one input. -/
def fnExactIsDieWrong : ChangeSpec := { name := "fnExactIsDie", fn := fun _ => fun
  | [d] => { results := [.lit (.bool false)], args := [d] }
  | _ => none }
def FnExactIsDieWrongFalsely : Prop := fnExactIsDieRow.holds Try.pinned (OpenSpec.ofChange fnExactIsDieWrong)

/-- 'laws.FnExactParseDie': WHATEVER THE INPUT: true; the input reads as it did. -/
def fnExactParseDieSpec : ChangeSpec := { name := "fnExactParseDie", fn := fun _ => fun
  | [d] => { results := [.lit (.bool true)], args := [d] }
  | _ => none }
def fnExactParseDieRow : OpenClaim := { program := "ytdlifinfjjbmkaa", sum := "188c6aad063f410dd27db2c3fc9803fe0f044482b4db867bfb85cbf8d05ce1ff", func := "loop.example/g01207/laws.FnExactParseDie", spec := "fnExactParseDie", plainKeys := false, apart := false }
def FnExactParseDieSaid : Prop := fnExactParseDieRow.holds Try.pinned (OpenSpec.ofChange fnExactParseDieSpec)

/-- ITS FALSE NEIGHBOUR: 'it returns false'. Refute it at one input. -/
def fnExactParseDieWrong : ChangeSpec := { name := "fnExactParseDie", fn := fun _ => fun
  | [d] => { results := [.lit (.bool false)], args := [d] }
  | _ => none }
def FnExactParseDieWrongFalsely : Prop := fnExactParseDieRow.holds Try.pinned (OpenSpec.ofChange fnExactParseDieWrong)

/-- 'laws.FnExactDieText': WHATEVER THE INPUT: true; the input reads as it did. -/
def fnExactDieTextSpec : ChangeSpec := { name := "fnExactDieText", fn := fun _ => fun
  | [d] => { results := [.lit (.bool true)], args := [d] }
  | _ => none }
def fnExactDieTextRow : OpenClaim := { program := "ytdlifinfjjbmkaa", sum := "188c6aad063f410dd27db2c3fc9803fe0f044482b4db867bfb85cbf8d05ce1ff", func := "loop.example/g01207/laws.FnExactDieText", spec := "fnExactDieText", unfollowed := true, recurses := true, plainKeys := false, apart := false }
def FnExactDieTextSaid : Prop := fnExactDieTextRow.holds Try.pinned (OpenSpec.ofChange fnExactDieTextSpec)

/-- ITS FALSE NEIGHBOUR: 'it returns false'. Refute it at one input. -/
def fnExactDieTextWrong : ChangeSpec := { name := "fnExactDieText", fn := fun _ => fun
  | [d] => { results := [.lit (.bool false)], args := [d] }
  | _ => none }
def FnExactDieTextWrongFalsely : Prop := fnExactDieTextRow.holds Try.pinned (OpenSpec.ofChange fnExactDieTextWrong)

/-- 'laws.FnExactOppositeOf': WHATEVER THE INPUT: true; the input reads as it did. -/
def fnExactOppositeOfSpec : ChangeSpec := { name := "fnExactOppositeOf", fn := fun _ => fun
  | [d1, d2] => { results := [.lit (.bool true)], args := [d1, d2] }
  | _ => none }
def fnExactOppositeOfRow : OpenClaim := { program := "ytdlifinfjjbmkaa", sum := "188c6aad063f410dd27db2c3fc9803fe0f044482b4db867bfb85cbf8d05ce1ff", func := "loop.example/g01207/laws.FnExactOppositeOf", spec := "fnExactOppositeOf", unfollowed := true, recurses := true, plainKeys := false, apart := false }
def FnExactOppositeOfSaid : Prop := fnExactOppositeOfRow.holds Try.pinned (OpenSpec.ofChange fnExactOppositeOfSpec)

/-- ITS FALSE NEIGHBOUR: 'it returns false'. Refute it at one input. -/
def fnExactOppositeOfWrong : ChangeSpec := { name := "fnExactOppositeOf", fn := fun _ => fun
  | [d1, d2] => { results := [.lit (.bool false)], args := [d1, d2] }
  | _ => none }
def FnExactOppositeOfWrongFalsely : Prop := fnExactOppositeOfRow.holds Try.pinned (OpenSpec.ofChange fnExactOppositeOfWrong)

/-- 'laws.FnExactMirrorDie': WHATEVER THE INPUT: true; the input reads as it did. -/
def fnExactMirrorDieSpec : ChangeSpec := { name := "fnExactMirrorDie", fn := fun _ => fun
  | [d] => { results := [.lit (.bool true)], args := [d] }
  | _ => none }
def fnExactMirrorDieRow : OpenClaim := { program := "ytdlifinfjjbmkaa", sum := "188c6aad063f410dd27db2c3fc9803fe0f044482b4db867bfb85cbf8d05ce1ff", func := "loop.example/g01207/laws.FnExactMirrorDie", spec := "fnExactMirrorDie", unfollowed := true, recurses := true, plainKeys := false, apart := false }
def FnExactMirrorDieSaid : Prop := fnExactMirrorDieRow.holds Try.pinned (OpenSpec.ofChange fnExactMirrorDieSpec)

/-- ITS FALSE NEIGHBOUR: 'it returns false'. Refute it at one input. -/
def fnExactMirrorDieWrong : ChangeSpec := { name := "fnExactMirrorDie", fn := fun _ => fun
  | [d] => { results := [.lit (.bool false)], args := [d] }
  | _ => none }
def FnExactMirrorDieWrongFalsely : Prop := fnExactMirrorDieRow.holds Try.pinned (OpenSpec.ofChange fnExactMirrorDieWrong)

/-- 'laws.FnExactTurnDie': WHATEVER THE INPUT: true; the input reads as it did. -/
def fnExactTurnDieSpec : ChangeSpec := { name := "fnExactTurnDie", fn := fun _ => fun
  | [d1, d2] => { results := [.lit (.bool true)], args := [d1, d2] }
  | _ => none }
def fnExactTurnDieRow : OpenClaim := { program := "ytdlifinfjjbmkaa", sum := "188c6aad063f410dd27db2c3fc9803fe0f044482b4db867bfb85cbf8d05ce1ff", func := "loop.example/g01207/laws.FnExactTurnDie", spec := "fnExactTurnDie", unfollowed := true, recurses := true, plainKeys := false, apart := false }
def FnExactTurnDieSaid : Prop := fnExactTurnDieRow.holds Try.pinned (OpenSpec.ofChange fnExactTurnDieSpec)

/-- ITS FALSE NEIGHBOUR: 'it returns false'. Refute it at one input. -/
def fnExactTurnDieWrong : ChangeSpec := { name := "fnExactTurnDie", fn := fun _ => fun
  | [d1, d2] => { results := [.lit (.bool false)], args := [d1, d2] }
  | _ => none }
def FnExactTurnDieWrongFalsely : Prop := fnExactTurnDieRow.holds Try.pinned (OpenSpec.ofChange fnExactTurnDieWrong)

/-- 'laws.FnExactRollsBetween': WHATEVER THE INPUT: true; the input reads as it did. -/
def fnExactRollsBetweenSpec : ChangeSpec := { name := "fnExactRollsBetween", fn := fun _ => fun
  | [d1, d2] => { results := [.lit (.bool true)], args := [d1, d2] }
  | _ => none }
def fnExactRollsBetweenRow : OpenClaim := { program := "ytdlifinfjjbmkaa", sum := "188c6aad063f410dd27db2c3fc9803fe0f044482b4db867bfb85cbf8d05ce1ff", func := "loop.example/g01207/laws.FnExactRollsBetween", spec := "fnExactRollsBetween", unfollowed := true, recurses := true, plainKeys := false, apart := false }
def FnExactRollsBetweenSaid : Prop := fnExactRollsBetweenRow.holds Try.pinned (OpenSpec.ofChange fnExactRollsBetweenSpec)

/-- ITS FALSE NEIGHBOUR: 'it returns false'. Refute it at one input. -/
def fnExactRollsBetweenWrong : ChangeSpec := { name := "fnExactRollsBetween", fn := fun _ => fun
  | [d1, d2] => { results := [.lit (.bool false)], args := [d1, d2] }
  | _ => none }
def FnExactRollsBetweenWrongFalsely : Prop := fnExactRollsBetweenRow.holds Try.pinned (OpenSpec.ofChange fnExactRollsBetweenWrong)

/-- 'laws.FnExactIsTurned': WHATEVER THE INPUT: true; the input reads as it did. -/
def fnExactIsTurnedSpec : ChangeSpec := { name := "fnExactIsTurned", fn := fun _ => fun
  | [d1, d2] => { results := [.lit (.bool true)], args := [d1, d2] }
  | _ => none }
def fnExactIsTurnedRow : OpenClaim := { program := "ytdlifinfjjbmkaa", sum := "188c6aad063f410dd27db2c3fc9803fe0f044482b4db867bfb85cbf8d05ce1ff", func := "loop.example/g01207/laws.FnExactIsTurned", spec := "fnExactIsTurned", unfollowed := true, recurses := true, plainKeys := false, apart := false }
def FnExactIsTurnedSaid : Prop := fnExactIsTurnedRow.holds Try.pinned (OpenSpec.ofChange fnExactIsTurnedSpec)

/-- ITS FALSE NEIGHBOUR: 'it returns false'. Refute it at one input. -/
def fnExactIsTurnedWrong : ChangeSpec := { name := "fnExactIsTurned", fn := fun _ => fun
  | [d1, d2] => { results := [.lit (.bool false)], args := [d1, d2] }
  | _ => none }
def FnExactIsTurnedWrongFalsely : Prop := fnExactIsTurnedRow.holds Try.pinned (OpenSpec.ofChange fnExactIsTurnedWrong)

/-- 'laws.FnExactIsHanded': WHATEVER THE INPUT: true; the input reads as it did. -/
def fnExactIsHandedSpec : ChangeSpec := { name := "fnExactIsHanded", fn := fun _ => fun
  | [d] => { results := [.lit (.bool true)], args := [d] }
  | _ => none }
def fnExactIsHandedRow : OpenClaim := { program := "ytdlifinfjjbmkaa", sum := "188c6aad063f410dd27db2c3fc9803fe0f044482b4db867bfb85cbf8d05ce1ff", func := "loop.example/g01207/laws.FnExactIsHanded", spec := "fnExactIsHanded", unfollowed := true, recurses := true, plainKeys := false, apart := false }
def FnExactIsHandedSaid : Prop := fnExactIsHandedRow.holds Try.pinned (OpenSpec.ofChange fnExactIsHandedSpec)

/-- ITS FALSE NEIGHBOUR: 'it returns false'. Refute it at one input. -/
def fnExactIsHandedWrong : ChangeSpec := { name := "fnExactIsHanded", fn := fun _ => fun
  | [d] => { results := [.lit (.bool false)], args := [d] }
  | _ => none }
def FnExactIsHandedWrongFalsely : Prop := fnExactIsHandedRow.holds Try.pinned (OpenSpec.ofChange fnExactIsHandedWrong)

/-- 'laws.FnExactRollDie': WHATEVER THE INPUT: true; the input reads as it did. -/
def fnExactRollDieSpec : ChangeSpec := { name := "fnExactRollDie", fn := fun _ => fun
  | [d1, d2] => { results := [.lit (.bool true)], args := [d1, d2] }
  | _ => none }
def fnExactRollDieRow : OpenClaim := { program := "ytdlifinfjjbmkaa", sum := "188c6aad063f410dd27db2c3fc9803fe0f044482b4db867bfb85cbf8d05ce1ff", func := "loop.example/g01207/laws.FnExactRollDie", spec := "fnExactRollDie", inPlace := ["internal/bytealg.IndexByteString", "internal/bytealg.IndexString"], unfollowed := true, recurses := true, named := ["internal/bytealg.MaxLen"], plainKeys := false, apart := false }
def FnExactRollDieSaid : Prop := fnExactRollDieRow.holds Try.pinned (OpenSpec.ofChange fnExactRollDieSpec)

/-- ITS FALSE NEIGHBOUR: 'it returns false'. Refute it at one input. -/
def fnExactRollDieWrong : ChangeSpec := { name := "fnExactRollDie", fn := fun _ => fun
  | [d1, d2] => { results := [.lit (.bool false)], args := [d1, d2] }
  | _ => none }
def FnExactRollDieWrongFalsely : Prop := fnExactRollDieRow.holds Try.pinned (OpenSpec.ofChange fnExactRollDieWrong)

/-- 'laws.FnExactIsCommonDie': WHATEVER THE INPUT: true; the input reads as it did. -/
def fnExactIsCommonDieSpec : ChangeSpec := { name := "fnExactIsCommonDie", fn := fun _ => fun
  | [d] => { results := [.lit (.bool true)], args := [d] }
  | _ => none }
def fnExactIsCommonDieRow : OpenClaim := { program := "ytdlifinfjjbmkaa", sum := "188c6aad063f410dd27db2c3fc9803fe0f044482b4db867bfb85cbf8d05ce1ff", func := "loop.example/g01207/laws.FnExactIsCommonDie", spec := "fnExactIsCommonDie", recurses := true, plainKeys := false, apart := false }
def FnExactIsCommonDieSaid : Prop := fnExactIsCommonDieRow.holds Try.pinned (OpenSpec.ofChange fnExactIsCommonDieSpec)

/-- ITS FALSE NEIGHBOUR: 'it returns false'. Refute it at one input. -/
def fnExactIsCommonDieWrong : ChangeSpec := { name := "fnExactIsCommonDie", fn := fun _ => fun
  | [d] => { results := [.lit (.bool false)], args := [d] }
  | _ => none }
def FnExactIsCommonDieWrongFalsely : Prop := fnExactIsCommonDieRow.holds Try.pinned (OpenSpec.ofChange fnExactIsCommonDieWrong)

/-- 'laws.FnExactIsEvenDie': WHATEVER THE INPUT: true; the input reads as it did. -/
def fnExactIsEvenDieSpec : ChangeSpec := { name := "fnExactIsEvenDie", fn := fun _ => fun
  | [d1, d2] => { results := [.lit (.bool true)], args := [d1, d2] }
  | _ => none }
def fnExactIsEvenDieRow : OpenClaim := { program := "ytdlifinfjjbmkaa", sum := "188c6aad063f410dd27db2c3fc9803fe0f044482b4db867bfb85cbf8d05ce1ff", func := "loop.example/g01207/laws.FnExactIsEvenDie", spec := "fnExactIsEvenDie", unfollowed := true, recurses := true, plainKeys := false, apart := false }
def FnExactIsEvenDieSaid : Prop := fnExactIsEvenDieRow.holds Try.pinned (OpenSpec.ofChange fnExactIsEvenDieSpec)

/-- ITS FALSE NEIGHBOUR: 'it returns false'. Refute it at one input. -/
def fnExactIsEvenDieWrong : ChangeSpec := { name := "fnExactIsEvenDie", fn := fun _ => fun
  | [d1, d2] => { results := [.lit (.bool false)], args := [d1, d2] }
  | _ => none }
def FnExactIsEvenDieWrongFalsely : Prop := fnExactIsEvenDieRow.holds Try.pinned (OpenSpec.ofChange fnExactIsEvenDieWrong)

/-- 'laws.FnExactParityOfState': WHATEVER THE INPUT: true; the input reads as it did. -/
def fnExactParityOfStateSpec : ChangeSpec := { name := "fnExactParityOfState", fn := fun _ => fun
  | [d1, d2] => { results := [.lit (.bool true)], args := [d1, d2] }
  | _ => none }
def fnExactParityOfStateRow : OpenClaim := { program := "ytdlifinfjjbmkaa", sum := "188c6aad063f410dd27db2c3fc9803fe0f044482b4db867bfb85cbf8d05ce1ff", func := "loop.example/g01207/laws.FnExactParityOfState", spec := "fnExactParityOfState", unfollowed := true, recurses := true, plainKeys := false, apart := false }
def FnExactParityOfStateSaid : Prop := fnExactParityOfStateRow.holds Try.pinned (OpenSpec.ofChange fnExactParityOfStateSpec)

/-- ITS FALSE NEIGHBOUR: 'it returns false'. Refute it at one input. -/
def fnExactParityOfStateWrong : ChangeSpec := { name := "fnExactParityOfState", fn := fun _ => fun
  | [d1, d2] => { results := [.lit (.bool false)], args := [d1, d2] }
  | _ => none }
def FnExactParityOfStateWrongFalsely : Prop := fnExactParityOfStateRow.holds Try.pinned (OpenSpec.ofChange fnExactParityOfStateWrong)

/- THE SECOND FORM. 'bulk': how many values and letters a reading holds, each counted each time it is reached (what is shared counts as often as it is met; a slice's spare places count too). A statement '..UptoSaid' is the law's where the arguments, and the package variables that the reading takes, are together of bulk at most 1048576: NARROWER than '..Said'. Prove '..Said' where nothing that the law and all that it calls make is longer than what came in: it says more and counts as full. Else prove '..UptoSaid'. A law counts once. -/
mutual
def uptoBulk {H : Type} : DataW H → Nat
  | .lit (.string bytes) => bytes.length + 1
  | .lit _ => 1
  | .nil => 1
  | .ptr d => uptoBulk d + 1
  | .slice elems spare => uptoBulkAll elems + uptoBulkAll spare + 1
  | .agg parts => uptoBulkAll parts + 1
  | .iface _ d => uptoBulk d + 1
  | .map entries => uptoBulkEntries entries + 1
  | .held _ => 1
def uptoBulkAll {H : Type} : List (DataW H) → Nat
  | [] => 0
  | d :: r => uptoBulk d + uptoBulkAll r
def uptoBulkEntries {H : Type} : List (Lit × DataW H) → Nat
  | [] => 0
  | x :: r => uptoBulkEntry x + uptoBulkEntries r
def uptoBulkEntry {H : Type} : Lit × DataW H → Nat
  | (.string bytes, d) => bytes.length + uptoBulk d + 1
  | (_, d) => uptoBulk d + 1
 end
def uptoSmall : (H : Type) → List (DataW H) → Bool := fun _ ds => decide (uptoBulkAll ds ≤ 1048576)
def OpenSpec.upto (s : _root_.Go.ChangeSpec) : _root_.Go.OpenSpec := { _root_.Go.OpenSpec.ofChange s with cond := some uptoSmall }

/-- 'laws.FnExactConstants', WHERE WHAT IT READS IS OF BULK AT MOST 1048576: true; the input reads as it did. -/
def fnExactConstantsUptoRow : OpenClaim := { program := "ytdlifinfjjbmkaa", sum := "188c6aad063f410dd27db2c3fc9803fe0f044482b4db867bfb85cbf8d05ce1ff", func := "loop.example/g01207/laws.FnExactConstants", spec := "fnExactConstants", plainKeys := false, apart := false, narrowed := true }
def FnExactConstantsUptoSaid : Prop := fnExactConstantsUptoRow.holds Try.pinned (OpenSpec.upto fnExactConstantsSpec)

/-- 'laws.FnExactIsDie', WHERE WHAT IT READS IS OF BULK AT MOST 1048576: true; the input reads as it did. -/
def fnExactIsDieUptoRow : OpenClaim := { program := "ytdlifinfjjbmkaa", sum := "188c6aad063f410dd27db2c3fc9803fe0f044482b4db867bfb85cbf8d05ce1ff", func := "loop.example/g01207/laws.FnExactIsDie", spec := "fnExactIsDie", unfollowed := true, recurses := true, plainKeys := false, apart := false, narrowed := true }
def FnExactIsDieUptoSaid : Prop := fnExactIsDieUptoRow.holds Try.pinned (OpenSpec.upto fnExactIsDieSpec)

/-- 'laws.FnExactParseDie', WHERE WHAT IT READS IS OF BULK AT MOST 1048576: true; the input reads as it did. -/
def fnExactParseDieUptoRow : OpenClaim := { program := "ytdlifinfjjbmkaa", sum := "188c6aad063f410dd27db2c3fc9803fe0f044482b4db867bfb85cbf8d05ce1ff", func := "loop.example/g01207/laws.FnExactParseDie", spec := "fnExactParseDie", plainKeys := false, apart := false, narrowed := true }
def FnExactParseDieUptoSaid : Prop := fnExactParseDieUptoRow.holds Try.pinned (OpenSpec.upto fnExactParseDieSpec)

/-- 'laws.FnExactDieText', WHERE WHAT IT READS IS OF BULK AT MOST 1048576: true; the input reads as it did. -/
def fnExactDieTextUptoRow : OpenClaim := { program := "ytdlifinfjjbmkaa", sum := "188c6aad063f410dd27db2c3fc9803fe0f044482b4db867bfb85cbf8d05ce1ff", func := "loop.example/g01207/laws.FnExactDieText", spec := "fnExactDieText", unfollowed := true, recurses := true, plainKeys := false, apart := false, narrowed := true }
def FnExactDieTextUptoSaid : Prop := fnExactDieTextUptoRow.holds Try.pinned (OpenSpec.upto fnExactDieTextSpec)

/-- 'laws.FnExactOppositeOf', WHERE WHAT IT READS IS OF BULK AT MOST 1048576: true; the input reads as it did. -/
def fnExactOppositeOfUptoRow : OpenClaim := { program := "ytdlifinfjjbmkaa", sum := "188c6aad063f410dd27db2c3fc9803fe0f044482b4db867bfb85cbf8d05ce1ff", func := "loop.example/g01207/laws.FnExactOppositeOf", spec := "fnExactOppositeOf", unfollowed := true, recurses := true, plainKeys := false, apart := false, narrowed := true }
def FnExactOppositeOfUptoSaid : Prop := fnExactOppositeOfUptoRow.holds Try.pinned (OpenSpec.upto fnExactOppositeOfSpec)

/-- 'laws.FnExactMirrorDie', WHERE WHAT IT READS IS OF BULK AT MOST 1048576: true; the input reads as it did. -/
def fnExactMirrorDieUptoRow : OpenClaim := { program := "ytdlifinfjjbmkaa", sum := "188c6aad063f410dd27db2c3fc9803fe0f044482b4db867bfb85cbf8d05ce1ff", func := "loop.example/g01207/laws.FnExactMirrorDie", spec := "fnExactMirrorDie", unfollowed := true, recurses := true, plainKeys := false, apart := false, narrowed := true }
def FnExactMirrorDieUptoSaid : Prop := fnExactMirrorDieUptoRow.holds Try.pinned (OpenSpec.upto fnExactMirrorDieSpec)

/-- 'laws.FnExactTurnDie', WHERE WHAT IT READS IS OF BULK AT MOST 1048576: true; the input reads as it did. -/
def fnExactTurnDieUptoRow : OpenClaim := { program := "ytdlifinfjjbmkaa", sum := "188c6aad063f410dd27db2c3fc9803fe0f044482b4db867bfb85cbf8d05ce1ff", func := "loop.example/g01207/laws.FnExactTurnDie", spec := "fnExactTurnDie", unfollowed := true, recurses := true, plainKeys := false, apart := false, narrowed := true }
def FnExactTurnDieUptoSaid : Prop := fnExactTurnDieUptoRow.holds Try.pinned (OpenSpec.upto fnExactTurnDieSpec)

/-- 'laws.FnExactRollsBetween', WHERE WHAT IT READS IS OF BULK AT MOST 1048576: true; the input reads as it did. -/
def fnExactRollsBetweenUptoRow : OpenClaim := { program := "ytdlifinfjjbmkaa", sum := "188c6aad063f410dd27db2c3fc9803fe0f044482b4db867bfb85cbf8d05ce1ff", func := "loop.example/g01207/laws.FnExactRollsBetween", spec := "fnExactRollsBetween", unfollowed := true, recurses := true, plainKeys := false, apart := false, narrowed := true }
def FnExactRollsBetweenUptoSaid : Prop := fnExactRollsBetweenUptoRow.holds Try.pinned (OpenSpec.upto fnExactRollsBetweenSpec)

/-- 'laws.FnExactIsTurned', WHERE WHAT IT READS IS OF BULK AT MOST 1048576: true; the input reads as it did. -/
def fnExactIsTurnedUptoRow : OpenClaim := { program := "ytdlifinfjjbmkaa", sum := "188c6aad063f410dd27db2c3fc9803fe0f044482b4db867bfb85cbf8d05ce1ff", func := "loop.example/g01207/laws.FnExactIsTurned", spec := "fnExactIsTurned", unfollowed := true, recurses := true, plainKeys := false, apart := false, narrowed := true }
def FnExactIsTurnedUptoSaid : Prop := fnExactIsTurnedUptoRow.holds Try.pinned (OpenSpec.upto fnExactIsTurnedSpec)

/-- 'laws.FnExactIsHanded', WHERE WHAT IT READS IS OF BULK AT MOST 1048576: true; the input reads as it did. -/
def fnExactIsHandedUptoRow : OpenClaim := { program := "ytdlifinfjjbmkaa", sum := "188c6aad063f410dd27db2c3fc9803fe0f044482b4db867bfb85cbf8d05ce1ff", func := "loop.example/g01207/laws.FnExactIsHanded", spec := "fnExactIsHanded", unfollowed := true, recurses := true, plainKeys := false, apart := false, narrowed := true }
def FnExactIsHandedUptoSaid : Prop := fnExactIsHandedUptoRow.holds Try.pinned (OpenSpec.upto fnExactIsHandedSpec)

/-- 'laws.FnExactRollDie', WHERE WHAT IT READS IS OF BULK AT MOST 1048576: true; the input reads as it did. -/
def fnExactRollDieUptoRow : OpenClaim := { program := "ytdlifinfjjbmkaa", sum := "188c6aad063f410dd27db2c3fc9803fe0f044482b4db867bfb85cbf8d05ce1ff", func := "loop.example/g01207/laws.FnExactRollDie", spec := "fnExactRollDie", inPlace := ["internal/bytealg.IndexByteString", "internal/bytealg.IndexString"], unfollowed := true, recurses := true, named := ["internal/bytealg.MaxLen"], plainKeys := false, apart := false, narrowed := true }
def FnExactRollDieUptoSaid : Prop := fnExactRollDieUptoRow.holds Try.pinned (OpenSpec.upto fnExactRollDieSpec)

/-- 'laws.FnExactIsCommonDie', WHERE WHAT IT READS IS OF BULK AT MOST 1048576: true; the input reads as it did. -/
def fnExactIsCommonDieUptoRow : OpenClaim := { program := "ytdlifinfjjbmkaa", sum := "188c6aad063f410dd27db2c3fc9803fe0f044482b4db867bfb85cbf8d05ce1ff", func := "loop.example/g01207/laws.FnExactIsCommonDie", spec := "fnExactIsCommonDie", recurses := true, plainKeys := false, apart := false, narrowed := true }
def FnExactIsCommonDieUptoSaid : Prop := fnExactIsCommonDieUptoRow.holds Try.pinned (OpenSpec.upto fnExactIsCommonDieSpec)

/-- 'laws.FnExactIsEvenDie', WHERE WHAT IT READS IS OF BULK AT MOST 1048576: true; the input reads as it did. -/
def fnExactIsEvenDieUptoRow : OpenClaim := { program := "ytdlifinfjjbmkaa", sum := "188c6aad063f410dd27db2c3fc9803fe0f044482b4db867bfb85cbf8d05ce1ff", func := "loop.example/g01207/laws.FnExactIsEvenDie", spec := "fnExactIsEvenDie", unfollowed := true, recurses := true, plainKeys := false, apart := false, narrowed := true }
def FnExactIsEvenDieUptoSaid : Prop := fnExactIsEvenDieUptoRow.holds Try.pinned (OpenSpec.upto fnExactIsEvenDieSpec)

/-- 'laws.FnExactParityOfState', WHERE WHAT IT READS IS OF BULK AT MOST 1048576: true; the input reads as it did. -/
def fnExactParityOfStateUptoRow : OpenClaim := { program := "ytdlifinfjjbmkaa", sum := "188c6aad063f410dd27db2c3fc9803fe0f044482b4db867bfb85cbf8d05ce1ff", func := "loop.example/g01207/laws.FnExactParityOfState", spec := "fnExactParityOfState", unfollowed := true, recurses := true, plainKeys := false, apart := false, narrowed := true }
def FnExactParityOfStateUptoSaid : Prop := fnExactParityOfStateUptoRow.holds Try.pinned (OpenSpec.upto fnExactParityOfStateSpec)

end Rows
end Go.Proofs.Ytdlifinfjjbmkaa
