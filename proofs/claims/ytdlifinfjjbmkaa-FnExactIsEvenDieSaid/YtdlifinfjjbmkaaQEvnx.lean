/- Functions of the program as plain Lean functions, with their contracts: lines written by program for this claim. -/
import Derived.Test.YtdlifinfjjbmkaaQEvnx0
import Derived.Test.YtdlifinfjjbmkaaQEvnx1
import Derived.Test.YtdlifinfjjbmkaaQEvnx2
import Derived.Test.YtdlifinfjjbmkaaQEvnx3
import Derived.Test.YtdlifinfjjbmkaaQEvnx4
import Derived.Test.YtdlifinfjjbmkaaQEvnx5
import Derived.Test.YtdlifinfjjbmkaaQEvnx6
namespace Go.Proofs.Ytdlifinfjjbmkaa.QEvn
open Go.RowKit Go.Proofs.YtdlifinfjjbmkaaW.PrintWords Go.Proofs.YtdlifinfjjbmkaaW.PrintLast Go.Proofs.YtdlifinfjjbmkaaW.PrintMore
attribute [local go_sem] max2_int min2_int max_two min_two max_three min_three max_four min_four   -- for this text's walks alone
set_option linter.unusedVariables false
set_option linter.unusedSimpArgs false

end Go.Proofs.Ytdlifinfjjbmkaa.QEvn
