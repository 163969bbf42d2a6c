/- Functions of the program as plain Lean functions, with their contracts: lines written by program for this claim. -/
import Derived.Test.YtdlifinfjjbmkaaProg
import Derived.Below
import Derived.Deep.Draws
import Derived.Deep.AppendLies
import Derived.Maps.AppendAt
import Derived.OwnWalk
import Derived.Laws.BytesArg
import Derived.Laws.MakeOwn
import Derived.Laws.OwnMore
import Derived.Deep.OwnRows
import Derived.Tactics
import Derived.Lib.ConvBytes
import Derived.Laws.Slices
import Derived.WalkKit
import Derived.KernelRfl
import Derived.RowKit3
import Derived.Deep.LoopGhost
import Derived.Deep.QuietTactic
import Derived.BigQuiet
import Derived.WideLaws
import Derived.Deep.DeepCutAuto
import Derived.Deep.CutBlock
import Derived.Deep.RegionHeld3
import Derived.Laws.Rows
import Derived.Lib.AppendStr
import Derived.ArgAppend
import Derived.Laws.IdiomCopy
import Derived.OrdersHeld
import Derived.Laws.BitsLemmas
import Derived.RowKit
import Derived.Test.YtdlifinfjjbmkaaWWords
import Derived.Test.YtdlifinfjjbmkaaWLast
import Derived.Test.YtdlifinfjjbmkaaWTab
import Derived.Test.YtdlifinfjjbmkaaWFour
import Derived.Test.YtdlifinfjjbmkaaWQPut
import Derived.Test.YtdlifinfjjbmkaaWApart
import Derived.Test.YtdlifinfjjbmkaaWArr
import Derived.Test.YtdlifinfjjbmkaaWZeros
import Derived.Test.YtdlifinfjjbmkaaWFoot
import Derived.Test.YtdlifinfjjbmkaaWKept
import Derived.Test.YtdlifinfjjbmkaaWShare
import Derived.Test.YtdlifinfjjbmkaaWN
import Derived.Test.YtdlifinfjjbmkaaWFootNe
import Derived.Test.YtdlifinfjjbmkaaWAt
import Derived.Test.YtdlifinfjjbmkaaWEqStruct
import Derived.Test.YtdlifinfjjbmkaaWRepsOne
import Derived.Test.YtdlifinfjjbmkaaWInv
import Derived.Test.YtdlifinfjjbmkaaWInvWords
import Derived.Test.YtdlifinfjjbmkaaWGuard
import Derived.Test.YtdlifinfjjbmkaaWNEv
import Derived.Test.YtdlifinfjjbmkaaWMore
namespace Go.Proofs.Ytdlifinfjjbmkaa.QBase
open Go.RowKit Go.Proofs.YtdlifinfjjbmkaaW.PrintWords Go.Proofs.YtdlifinfjjbmkaaW.PrintLast Go.Proofs.YtdlifinfjjbmkaaW.PrintMore
attribute [local go_sem] max2_int min2_int max_two min_two max_three min_three max_four min_four   -- for this text's walks alone
set_option linter.unusedVariables false
set_option linter.unusedSimpArgs false



def errW : Option Int → Value
  | none => .nilIface
  | some c => .iface 0 (.int .i64 c)
theorem errW_none : errW none = .nilIface := rfl
theorem errW_some (c : Int) : errW (some c) = .iface 0 (.int .i64 c) := rfl

-- the values' own types

end Go.Proofs.Ytdlifinfjjbmkaa.QBase
