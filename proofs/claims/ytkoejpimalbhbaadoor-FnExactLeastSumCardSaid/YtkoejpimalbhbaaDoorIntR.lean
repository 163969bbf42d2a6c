/- Small laws that the walks of counts share: a row of numbers, how long a word is. Conditions: none. -/
import Derived.Test.YtkoejpimalbhbaaDoorReachR
import Derived.KernelRfl
namespace Go.Proofs.YtkoejpimalbhbaaDoor.IntR
open Go.RowKit Go.Proofs.YtkoejpimalbhbaaDoorW.PrintWords Go.Proofs.YtkoejpimalbhbaaDoorW.PrintLast Go.Proofs.YtkoejpimalbhbaaDoor.ReachR
open Go.Proofs.YtkoejpimalbhbaaDoor.Reach (St)
set_option linter.unusedVariables false
set_option linter.unusedSimpArgs false

theorem infoI : (Tryd.prog.info? 3).map (fun i => (i.zero, i.size, i.bytes)) = some (some (.int .i64 0), 1, 8) := by kernel_rfl
end Go.Proofs.YtkoejpimalbhbaaDoor.IntR
