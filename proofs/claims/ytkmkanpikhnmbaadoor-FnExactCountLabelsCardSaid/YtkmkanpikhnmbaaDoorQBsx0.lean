/- Functions of the program as plain Lean functions, with their contracts: lines written by program for this claim. -/
import Derived.Test.YtkmkanpikhnmbaaDoorProg
import Derived.Below
import Derived.Deep.Draws
import Derived.Deep.AppendLies
import Derived.Maps.AppendAt
import Derived.OwnWalk
import Derived.Laws.BytesArg
import Derived.Laws.MakeOwn
import Derived.Laws.OwnMore
import Derived.Deep.OwnRows
import Derived.Tactics
import Derived.Lib.ConvBytes
import Derived.Laws.Slices
import Derived.WalkKit
import Derived.KernelRfl
import Derived.RowKit3
import Derived.Deep.LoopGhost
import Derived.Deep.QuietTactic
import Derived.BigQuiet
import Derived.WideLaws
import Derived.Deep.DeepCutAuto
import Derived.Deep.CutBlock
import Derived.Deep.RegionHeld3
import Derived.Laws.Rows
import Derived.Lib.AppendStr
import Derived.ArgAppend
import Derived.Laws.IdiomCopy
import Derived.OrdersHeld
import Derived.Laws.BitsLemmas
import Derived.RowKit
import Derived.Test.YtkmkanpikhnmbaaDoorWWords
import Derived.Test.YtkmkanpikhnmbaaDoorWLast
import Derived.Test.YtkmkanpikhnmbaaDoorWTab
import Derived.Test.YtkmkanpikhnmbaaDoorWFour
import Derived.Test.YtkmkanpikhnmbaaDoorWQPut
import Derived.Test.YtkmkanpikhnmbaaDoorWApart
import Derived.Test.YtkmkanpikhnmbaaDoorWArr
import Derived.Test.YtkmkanpikhnmbaaDoorWZeros
import Derived.Test.YtkmkanpikhnmbaaDoorWFoot
import Derived.Test.YtkmkanpikhnmbaaDoorWKept
import Derived.Test.YtkmkanpikhnmbaaDoorWShare
import Derived.Test.YtkmkanpikhnmbaaDoorWN
import Derived.Test.YtkmkanpikhnmbaaDoorWFootNe
import Derived.Test.YtkmkanpikhnmbaaDoorWAt
import Derived.Test.YtkmkanpikhnmbaaDoorWEqStruct
import Derived.Test.YtkmkanpikhnmbaaDoorWRepsOne
import Derived.Test.YtkmkanpikhnmbaaDoorWInv
import Derived.Test.YtkmkanpikhnmbaaDoorWInvWords
import Derived.Test.YtkmkanpikhnmbaaDoorWGuard
import Derived.Test.YtkmkanpikhnmbaaDoorWNEv
import Derived.Test.YtkmkanpikhnmbaaDoorWMore
namespace Go.Proofs.YtkmkanpikhnmbaaDoor.QBs
open Go.RowKit Go.Proofs.YtkmkanpikhnmbaaDoorW.PrintWords Go.Proofs.YtkmkanpikhnmbaaDoorW.PrintLast Go.Proofs.YtkmkanpikhnmbaaDoorW.PrintMore
attribute [local go_sem] max2_int min2_int max_two min_two max_three min_three max_four min_four   -- for this text's walks alone
set_option linter.unusedVariables false
set_option linter.unusedSimpArgs false



def errW : Option Int → Value
  | none => .nilIface
  | some c => .iface 0 (.int .i64 c)
theorem errW_none : errW none = .nilIface := rfl
theorem errW_some (c : Int) : errW (some c) = .iface 0 (.int .i64 c) := rfl

theorem info3 : (Tryd.prog.info? 3).map (fun i => (i.zero, i.size, i.bytes)) = some (some (.int .i64 0), 1, 8) := by kernel_rfl
theorem info5 : (Tryd.prog.info? 5).map (fun i => (i.zero, i.size, i.bytes)) = some (some (.int .u8 0), 1, 1) := by kernel_rfl
-- the values' own types

end Go.Proofs.YtkmkanpikhnmbaaDoor.QBs
