/- The call that finds the place of a byte in a text: the shelf's contract, laid at this text. -/
import Derived.Test.YtdlifinfjjbmkaaDoorRows
import Derived.Test.YtdlifinfjjbmkaaDoorShelf
import Derived.Below
namespace Go.Proofs.YtdlifinfjjbmkaaDoor.Libx
open Go.RowKit
set_option linter.unusedVariables false
theorem byte_calls (a0 : ByteArray) (a1 : Int) (r : Int) (w : World) (h : some (Go.Lib.indexByte a0.data.toList a1.toNat.toUInt8) = some r) : Calls Tryd.prog 77 #[.string a0, .int .u8 a1] w fun e w' => e = .returned (.int .i64 r) ∧ Below w.heap.size w w' := by
  obtain rfl := Option.some.inj h
  exact (Tryd.strings_IndexByte a0 a1 w).mono fun e w' ⟨h1, h2⟩ => ⟨h1, h2 ▸ Below.refl _ _⟩
end Go.Proofs.YtdlifinfjjbmkaaDoor.Libx
