/- The call of strings.Split at a stroke: the rows of a text, as texts. The shelf's contracts, laid at this text. -/
import Derived.Test.YtolopkjpodnmkaaDoorRows
import Derived.Test.YtolopkjpodnmkaaDoorShelf
import Derived.Test.YtolopkjpodnmkaaDoorBoard
import Derived.Test.YtolopkjpodnmkaaDoorWOne
import Derived.Below
import Derived.WalkKit
import Derived.KernelRfl
import Derived.Lib.Hide
import Derived.Shelf.Strings.Split
namespace Go.Proofs.YtolopkjpodnmkaaDoor.Split
open Go.RowKit Go.Proofs.YtolopkjpodnmkaaDoorW.PrintWords
set_option linter.unusedVariables false
set_option linter.unusedSimpArgs false

def mk (r : List UInt8) : ByteArray := ⟨r.toArray⟩
theorem mk_data (s : ByteArray) : mk s.data.toList = s := by
  obtain ⟨⟨l⟩⟩ := s
  rfl
theorem pieces (s : ByteArray) : Go.Lib.splitB ⟨#[47]⟩ 0 (Go.Lib.countB s ⟨#[47]⟩) s = (Board.rows s.data.toList).map mk := by
  have h := Go.Lib.splitB_data ⟨#[47]⟩ 0 (Go.Lib.countB s ⟨#[47]⟩) s
  have hc : Go.Lib.countB s ⟨#[47]⟩ = s.data.toList.count 47 := Go.Lib.count_one 47 s.data.toList
  have h2 : Go.Lib.splitK [47] 0 (Go.Lib.countB s ⟨#[47]⟩) s.data.toList = Board.rows s.data.toList := by
    rw [hc]
    exact Board.splitK_rows _ _ rfl
  have h3 : (Go.Lib.splitB ⟨#[47]⟩ 0 (Go.Lib.countB s ⟨#[47]⟩) s).map (·.data.toList) = Board.rows s.data.toList := h.trans h2
  rw [← h3, List.map_map]
  have e : (mk ∘ fun x : ByteArray => x.data.toList) = id := by
    funext x
    exact mk_data x
  rw [e, List.map_id]

def Cut (s : ByteArray) (w : World) (e : Ending) (w' : World) : Prop :=
  e = .returned (.slice (some ⟨w.heap.size, 0, none⟩) (Board.rows s.data.toList).length (Board.rows s.data.toList).length) ∧ w' = w.alloc (.cells (((Board.rows s.data.toList).map mk).map Value.string).toArray 9)
theorem gen (s : ByteArray) (hs : s.size < 4294967281) (w : World) : Calls Tryd.prog 55 #[.string s, .string ⟨#[47]⟩, .int .i64 0, .int .i64 (-1)] w (Cut s w) := by
  have hle := Go.Lib.countB_le ⟨#[47]⟩ (by decide) s.size s (Nat.le_refl _)
  have hlen := Go.Lib.splitB_all ⟨#[47]⟩ (by decide) 0 _ s rfl
  have c := Any.strings_genSplit_core Tryd.lays221 (by kernel_rfl) s ⟨#[47]⟩ 0 (-1) (Go.Lib.countB s ⟨#[47]⟩ + 1) w hs (by decide) (Nat.zero_le _)
    (fun x cs hx => (Any.strings_Index_one { Tryd.lays221 with } x 47 _).mono fun e w' ⟨h1, h2⟩ => ⟨by rw [h1]; exact congrArg (fun z => Ending.returned (.int .i64 z)) (Go.Lib.index_one _ _).symm, h2⟩)
    ((Any.strings_Count_one { Tryd.lays221 with } s 47 w).mono fun e w' ⟨h1, h2⟩ => ⟨by rw [h1]; exact congrArg (fun z : Nat => Ending.returned (.int .i64 (z : Int))) (Go.Lib.count_one 47 s.data.toList).symm, h2⟩)
    (by decide) (by decide) (by rw [if_pos (by decide)]; omega)
  rw [Nat.add_sub_cancel, hlen] at c
  have e2 : Go.Lib.cellsOf (Go.Lib.splitB ⟨#[47]⟩ 0 (Go.Lib.countB s ⟨#[47]⟩) s) (Go.Lib.countB s ⟨#[47]⟩ + 1) = ((Go.Lib.splitB ⟨#[47]⟩ 0 (Go.Lib.countB s ⟨#[47]⟩) s).map Value.string).toArray := by
    rw [← hlen]
    exact Go.Lib.cellsOf_full _
  have hn : Go.Lib.countB s ⟨#[47]⟩ + 1 = (Board.rows s.data.toList).length := by
    rw [← hlen, pieces, List.length_map]
  rw [e2, pieces, hn] at c
  exact c

set_option maxHeartbeats 1000000 in
theorem cut (s : ByteArray) (hs : s.size < 4294967281) (w : World) : Calls Tryd.prog 45 #[.string s, .string ⟨#[47]⟩] w (Cut s w) := by
  have HG := Go.Lib.hid (gen s hs w)
  clear hs
  go_enter Tryd.func45, Tryd.ntmps45
  go_wp2_with (go_at_call 55; refine HG.out.mono ?_; rintro e w' ⟨rfl, rfl⟩)
  go_ret
  exact ⟨rfl, by rw [List.map_map]⟩

def says (a0 a1 : ByteArray) : Option (List ByteArray) := if a1 = ⟨#[47]⟩ ∧ a0.size < 4294967281 then some ((Board.rows a0.data.toList).map mk) else none
theorem says_calls (a0 a1 : ByteArray) (r : List ByteArray) (w : World) (h : says a0 a1 = some r) :
    Calls Tryd.prog 45 #[.string a0, .string a1] w fun e w' => ∃ v0_ : Value, e = .returned (v0_) ∧ Kd.R Kd.string 9 w' w.heap.size (fun _ => True) v0_ r ∧ Below w.heap.size w w' := by
  unfold says at h
  by_cases hc : a1 = ⟨#[47]⟩ ∧ a0.size < 4294967281
  · rw [if_pos hc] at h
    obtain rfl := Option.some.inj h
    obtain ⟨rfl, hs⟩ := hc
    refine (cut a0 hs w).mono ?_
    rintro e w' ⟨rfl, rfl⟩
    have hl := Board.rows_length a0.data.toList
    have hsz : a0.data.toList.length = a0.size := rfl
    refine ⟨_, rfl, Kd.R_of_own ?_ (fun _ _ => trivial), (Below.refl _ _).alloc (Nat.le_refl _) _⟩
    have ho := World.ownsRow_lit (base := w.heap.size) (e := 9) (size := 1) w (((Board.rows a0.data.toList).map mk).map Value.string).toArray (Board.rows a0.data.toList).length (Nat.le_refl _) (by unfold maxLen; omega) (by simp)
    simpa [encs] using ho
  · rw [if_neg hc] at h
    cases h
end Go.Proofs.YtolopkjpodnmkaaDoor.Split
