/- Functions of the program as plain Lean functions, with their contracts: lines written by program for this claim. -/
import Derived.Test.YtdlifinfjjbmkaaDoorProg
import Derived.Below
import Derived.Deep.Draws
import Derived.Deep.AppendLies
import Derived.Maps.AppendAt
import Derived.OwnWalk
import Derived.Laws.BytesArg
import Derived.Laws.MakeOwn
import Derived.Laws.OwnMore
import Derived.Deep.OwnRows
import Derived.Tactics
import Derived.Lib.ConvBytes
import Derived.Laws.Slices
import Derived.WalkKit
import Derived.KernelRfl
import Derived.RowKit3
import Derived.Deep.LoopGhost
import Derived.Deep.QuietTactic
import Derived.BigQuiet
import Derived.WideLaws
import Derived.Deep.DeepCutAuto
import Derived.Deep.CutBlock
import Derived.Deep.RegionHeld3
import Derived.Laws.Rows
import Derived.Lib.AppendStr
import Derived.ArgAppend
import Derived.Laws.IdiomCopy
import Derived.OrdersHeld
import Derived.Laws.BitsLemmas
import Derived.RowKit
import Derived.Test.YtdlifinfjjbmkaaDoorLib
import Derived.Test.YtdlifinfjjbmkaaDoorLibx
import Derived.Test.YtdlifinfjjbmkaaDoorWWords
import Derived.Test.YtdlifinfjjbmkaaDoorWLast
import Derived.Test.YtdlifinfjjbmkaaDoorWTab
import Derived.Test.YtdlifinfjjbmkaaDoorWFour
import Derived.Test.YtdlifinfjjbmkaaDoorWQPut
import Derived.Test.YtdlifinfjjbmkaaDoorWApart
import Derived.Test.YtdlifinfjjbmkaaDoorWArr
import Derived.Test.YtdlifinfjjbmkaaDoorWZeros
import Derived.Test.YtdlifinfjjbmkaaDoorWFoot
import Derived.Test.YtdlifinfjjbmkaaDoorWKept
import Derived.Test.YtdlifinfjjbmkaaDoorWShare
import Derived.Test.YtdlifinfjjbmkaaDoorWN
import Derived.Test.YtdlifinfjjbmkaaDoorWFootNe
import Derived.Test.YtdlifinfjjbmkaaDoorWAt
import Derived.Test.YtdlifinfjjbmkaaDoorWEqStruct
import Derived.Test.YtdlifinfjjbmkaaDoorWRepsOne
import Derived.Test.YtdlifinfjjbmkaaDoorWInv
import Derived.Test.YtdlifinfjjbmkaaDoorWInvWords
import Derived.Test.YtdlifinfjjbmkaaDoorWGuard
import Derived.Test.YtdlifinfjjbmkaaDoorWNEv
import Derived.Test.YtdlifinfjjbmkaaDoorWMore
namespace Go.Proofs.YtdlifinfjjbmkaaDoor.QWord
open Go.RowKit Go.Proofs.YtdlifinfjjbmkaaDoorW.PrintWords Go.Proofs.YtdlifinfjjbmkaaDoorW.PrintLast Go.Proofs.YtdlifinfjjbmkaaDoorW.PrintMore
attribute [local go_sem] max2_int min2_int max_two min_two max_three min_three max_four min_four   -- for this text's walks alone
set_option linter.unusedVariables false
set_option linter.unusedSimpArgs false



def errW : Option Int → Value
  | none => .nilIface
  | some c => .iface 0 (.int .i64 c)
theorem errW_none : errW none = .nilIface := rfl
theorem errW_some (c : Int) : errW (some c) = .iface 0 (.int .i64 c) := rfl

-- the values' own types

end Go.Proofs.YtdlifinfjjbmkaaDoor.QWord
