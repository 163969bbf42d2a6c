/- The law on the constants: computed, it answers true. Conditions: none. -/
import Derived.Test.YtdlifinfjjbmkaaPFnExactConstantsx1
namespace Go.Proofs.Ytdlifinfjjbmkaa.Pure
open Go.RowKit Go.Proofs.Ytdlifinfjjbmkaa.PFnExactConstants Go.Proofs.YtdlifinfjjbmkaaW.PrintWords Go.Proofs.YtdlifinfjjbmkaaW.PrintLast

theorem FnExactConstants : laws_FnExactConstants.Pure := by
  rfl

end Go.Proofs.Ytdlifinfjjbmkaa.Pure
