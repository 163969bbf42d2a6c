/- The call that finds the place of a byte in a text: the shelf's contract, laid at this text. -/
import Derived.Test.YtfcifidjjbknaaaDoorRows
import Derived.Test.YtfcifidjjbknaaaDoorShelf
import Derived.Below
namespace Go.Proofs.YtfcifidjjbknaaaDoor.Libx
open Go.RowKit
set_option linter.unusedVariables false
end Go.Proofs.YtfcifidjjbknaaaDoor.Libx
