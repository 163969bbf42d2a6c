/- The reference's CheapestWay: its call, told in plain words. Conditions: none. -/
import Derived.Test.YtkoejpimalbhbaaDoorCheapR
namespace Go.Proofs.YtkoejpimalbhbaaDoor.CheapF
open Go.RowKit Go.Proofs.YtkoejpimalbhbaaDoorW.PrintWords Go.Proofs.YtkoejpimalbhbaaDoorW.PrintLast Go.Proofs.YtkoejpimalbhbaaDoor.CheapR
set_option linter.unusedVariables false

def says (k : Nat) (s : ByteArray) (a0 a1 a2 a3 a4 a5 a6 a7 x y : Int) : Option (ByteArray × Int × Bool) := (QBw.spec_wyCell.f k s a0 a1 a2 a3 a4 a5 a6 a7 x y).bind fun p => if p.2 = true ∧ rOk p.1 = false then none else some (resS p.1 p.2 x y)
theorem says_mono : ∀ s a0 a1 a2 a3 a4 a5 a6 a7 x y k, LeO (says k s a0 a1 a2 a3 a4 a5 a6 a7 x y) (says (k + 1) s a0 a1 a2 a3 a4 a5 a6 a7 x y) := by
 intro s a0 a1 a2 a3 a4 a5 a6 a7 x y k v h
 unfold says at h ⊢
 rw [Option.bind_eq_some_iff] at h ⊢
 obtain ⟨p, h1, h2⟩ := h
 exact ⟨p, QBw.spec_wyCell.mono s a0 a1 a2 a3 a4 a5 a6 a7 x y k p h1, h2⟩
theorem says_calls (k : Nat) (s : ByteArray) (a0 a1 a2 a3 a4 a5 a6 a7 x y : Int) (r1 : ByteArray) (r2 : Int) (r3 : Bool) (w : World) (h : says k s a0 a1 a2 a3 a4 a5 a6 a7 x y = some (r1, r2, r3)) :
  Calls Tryd.prog 5 #[.string s, .agg #[.int .i64 a0, .int .i64 a1, .int .i64 a2, .int .i64 a3, .int .i64 a4, .int .i64 a5, .int .i64 a6, .int .i64 a7], .int .i64 x, .int .i64 y] w fun e w' => e = .returned (.tuple #[.string r1, .int .i64 r2, .bool r3]) ∧ Below w.heap.size w w' := by
 unfold says at h
 rw [Option.bind_eq_some_iff] at h
 obtain ⟨⟨l, ok⟩, h1, h2⟩ := h
 simp only at h2
 by_cases hc : ok = true ∧ rOk l = false
 ·rw [if_pos hc] at h2
  cases h2
 ·rw [if_neg hc] at h2
  have h2 := Option.some.inj h2
  have := cheap_walk k s a0 a1 a2 a3 a4 a5 a6 a7 x y l ok w h1 (fun ho => by
   cases hr : rOk l with
   | true => rfl
   | false => exact absurd ⟨ho, hr⟩ hc)
  rw [h2] at this
  exact this
end Go.Proofs.YtkoejpimalbhbaaDoor.CheapF
