/- Functions of the program as plain Lean functions, with their contracts: lines written by program for this claim. -/
import Derived.Test.YtogohilnogcdaaaDoorQCFirstStopx0
import Derived.Test.YtogohilnogcdaaaDoorQCFirstStopx1
import Derived.Test.YtogohilnogcdaaaDoorQCFirstStopx2
import Derived.Test.YtogohilnogcdaaaDoorQCFirstStopx3
import Derived.Test.YtogohilnogcdaaaDoorQCFirstStopx4
import Derived.Test.YtogohilnogcdaaaDoorQCFirstStopx5
namespace Go.Proofs.YtogohilnogcdaaaDoor.QCFirstStop
open Go.RowKit Go.Proofs.YtogohilnogcdaaaDoorW.PrintWords Go.Proofs.YtogohilnogcdaaaDoorW.PrintLast Go.Proofs.YtogohilnogcdaaaDoorW.PrintMore
attribute [local go_sem] max2_int min2_int max_two min_two max_three min_three max_four min_four   -- for this text's walks alone
set_option linter.unusedVariables false
set_option linter.unusedSimpArgs false

end Go.Proofs.YtogohilnogcdaaaDoor.QCFirstStop
