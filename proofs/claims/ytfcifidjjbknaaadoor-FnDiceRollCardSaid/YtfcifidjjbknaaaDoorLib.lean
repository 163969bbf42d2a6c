/- What the calls of the library's text functions give, in plain words: trimming by a set of ASCII bytes, counting one byte, the place of a byte. The shelf's contracts, laid at this text. -/
import Derived.Test.YtfcifidjjbknaaaDoorRows
import Derived.Test.YtfcifidjjbknaaaDoorShelf
import Derived.Below
import Derived.KernelRfl
import Derived.Shelf.Strings.SlTrimAscii
namespace Go.Proofs.YtfcifidjjbknaaaDoor.Lib
open Go.RowKit
set_option linter.unusedVariables false

def asciiB (s : ByteArray) : Bool := decide (s.size < 1000) && s.data.toList.all fun b => decide (b.toNat < 128)
def trim (a0 a1 : ByteArray) : Option ByteArray := if a0.size ≤ 9223372036854775807 ∧ asciiB a1 = true then some ⟨(Go.Lib.trimS a0.data.toList a1.data.toList).toArray⟩ else none
theorem trim_calls (a0 a1 r : ByteArray) (w : World) (h : trim a0 a1 = some r) : Calls Tryd.prog 50 #[.string a0, .string a1] w fun e w' => e = .returned (.string r) ∧ Below w.heap.size w w' := by
  unfold trim at h
  by_cases hc : a0.size ≤ 9223372036854775807 ∧ asciiB a1 = true
  · rw [if_pos hc] at h
    obtain rfl := Option.some.inj h
    obtain ⟨h1, h2⟩ := hc
    unfold asciiB at h2
    simp only [Bool.and_eq_true, decide_eq_true_eq, List.all_eq_true] at h2
    exact Any.strings_Trim_laid Tryd.lays160 (by kernel_rfl) a0 a1 w h1 (by omega) (fun j b hj => h2.2 b (List.mem_of_getElem? hj))
  · rw [if_neg hc] at h
    cases h

end Go.Proofs.YtfcifidjjbknaaaDoor.Lib
