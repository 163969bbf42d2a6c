/- Functions of the program as plain Lean functions, with their contracts: lines written by program for this claim. -/
import Derived.Test.YthfeiklaoljdnaaDoorQBsx0
import Derived.Test.YthfeiklaoljdnaaDoorQBsx1
import Derived.Test.YthfeiklaoljdnaaDoorQBsx2
import Derived.Test.YthfeiklaoljdnaaDoorQBsx3
import Derived.Test.YthfeiklaoljdnaaDoorQBsx4
namespace Go.Proofs.YthfeiklaoljdnaaDoor.QBs
open Go.RowKit Go.Proofs.YthfeiklaoljdnaaDoorW.PrintWords Go.Proofs.YthfeiklaoljdnaaDoorW.PrintLast Go.Proofs.YthfeiklaoljdnaaDoorW.PrintMore
attribute [local go_sem] max2_int min2_int max_two min_two max_three min_three max_four min_four   -- for this text's walks alone
set_option linter.unusedVariables false
set_option linter.unusedSimpArgs false

end Go.Proofs.YthfeiklaoljdnaaDoor.QBs
