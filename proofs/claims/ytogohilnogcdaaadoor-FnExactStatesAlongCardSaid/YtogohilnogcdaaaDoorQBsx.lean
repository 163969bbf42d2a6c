/- Functions of the program as plain Lean functions, with their contracts: lines written by program for this claim. -/
import Derived.Test.YtogohilnogcdaaaDoorQBsx0
import Derived.Test.YtogohilnogcdaaaDoorQBsx1
import Derived.Test.YtogohilnogcdaaaDoorQBsx2
import Derived.Test.YtogohilnogcdaaaDoorQBsx3
namespace Go.Proofs.YtogohilnogcdaaaDoor.QBs
open Go.RowKit Go.Proofs.YtogohilnogcdaaaDoorW.PrintWords Go.Proofs.YtogohilnogcdaaaDoorW.PrintLast Go.Proofs.YtogohilnogcdaaaDoorW.PrintMore
attribute [local go_sem] max2_int min2_int max_two min_two max_three min_three max_four min_four   -- for this text's walks alone
set_option linter.unusedVariables false
set_option linter.unusedSimpArgs false

end Go.Proofs.YtogohilnogcdaaaDoor.QBs
