/- Functions of the program as plain Lean functions, with their contracts: lines written by program for this claim. -/
import Derived.Test.YtkoejpimalbhbaaDoorQBsx0
import Derived.Test.YtkoejpimalbhbaaDoorQBwx0
import Derived.Test.YtkoejpimalbhbaaDoorQBwx1
namespace Go.Proofs.YtkoejpimalbhbaaDoor.QBw
set_option maxHeartbeats 8000000
set_option maxRecDepth 100000
open QBs
open Go.RowKit Go.Proofs.YtkoejpimalbhbaaDoorW.PrintWords Go.Proofs.YtkoejpimalbhbaaDoorW.PrintLast Go.Proofs.YtkoejpimalbhbaaDoorW.PrintMore
attribute [local go_sem] max2_int min2_int max_two min_two max_three min_three max_four min_four   -- for this text's walks alone
set_option linter.unusedVariables false
set_option linter.unusedSimpArgs false

end Go.Proofs.YtkoejpimalbhbaaDoor.QBw
