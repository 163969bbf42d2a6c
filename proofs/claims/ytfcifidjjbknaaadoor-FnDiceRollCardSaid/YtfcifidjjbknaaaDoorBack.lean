/- The call of BackWord: the turned letters of a word, the last one first. -/
import Derived.Test.YtfcifidjjbknaaaDoorTurned
import Derived.Test.YtfcifidjjbknaaaDoorWords
import Derived.Test.YtfcifidjjbknaaaDoorLib
import Derived.Test.YtfcifidjjbknaaaDoorQWordx
import Derived.Shelf.SlicesE.Reverse
namespace Go.Proofs.YtfcifidjjbknaaaDoor.Back
open Go.RowKit Go.Sort Go.Proofs.YtfcifidjjbknaaaDoorW.PrintWords
open Go.Proofs.YtfcifidjjbknaaaDoor.Turned (turnByte St turned_walk byteCells)
open Go.Proofs.YtfcifidjjbknaaaDoor.Words
set_option linter.unusedVariables false
set_option linter.unusedSimpArgs false

def backSays (s : ByteArray) : ByteArray × Bool := if goodWord s = true then (⟨(s.data.toList.map (turnByte 2)).reverse.toArray⟩, true) else (⟨#[]⟩, false)

theorem rolls_calls (s : ByteArray) (hs : s.size ≤ 1048576) (w : World) : Calls Tryd.prog 21 #[.string s] w fun e w' => e = .returned (.bool (goodWord s)) ∧ Below w.heap.size w w' := by
  refine QWord.impl_IsRolls.calls s (goodWord s) w ?_
  unfold QWord.impl_IsRolls.f QWord.strings_Trim.f Go.Proofs.YtfcifidjjbknaaaDoor.Lib.trim goodWord
  by_cases h : s.size ≤ 60
  · rw [if_pos (by omega), if_pos ⟨by omega, by decide⟩, Option.bind_some]
    congr 1
    rw [Go.Lib.toList_data, Bool.eq_iff_iff]
    simp only [beq_iff_eq, decide_eq_true h, Bool.true_and]
    exact trim_nil s.data.toList letters
  · rw [if_neg (by omega)]
    simp [h]

abbrev encB (b : UInt8) : Value := .int .u8 b.toNat
theorem grown_row {w : World} {g n : Nat} (d : Array UInt8) : w.grownBy (putRow encB (Sort.ahead w n) g 0 d) (some g) :=
  ⟨rfl, rfl, rfl, by simp [putRow, mapBlock, Sort.ahead], fun k _ hne => by
    have : k ≠ g := fun e => hne (by rw [e])
    simp [putRow, mapBlock, Sort.ahead, Array.getElem?_modify, Ne.symm this]⟩
theorem st_holds {w0 wr : World} {g : Nat} {l : List UInt8} {z : Array Value} (h : St w0 wr g l z) : Holds encB wr g 0 l.toArray := by
  intro j hj
  have hj' : j < l.length := by simpa using hj
  rw [Nat.zero_add]
  refine ⟨?_, h.open_ j hj'⟩
  rw [h.read j hj']
  simp [List.getD, hj']
def Behind (w0 w : World) (g : Nat) (l : List UInt8) (e : Ending) (w' : World) : Prop := e = .returned (.tuple #[]) ∧ Below w0.heap.size w0 w' ∧
  ∀ n cap, n = l.length → (convert 22 9 (.slice (some ⟨g, 0, none⟩) n cap)).run Tryd.prog w' = .ok (.string ⟨l.reverse.toArray⟩) w'
theorem reverse_calls {w0 wr : World} {g : Nat} {l : List UInt8} {z : Array Value} (h : St w0 wr g l z) (hl : l.length ≤ 1000) (n cap : Nat) (hn : n = l.length) :
    Calls Tryd.prog 29 #[.slice (some ⟨g, 0, none⟩) n cap] wr (Behind w0 wr g l) := by
  subst hn
  refine (AnyE.slices_Reverse Tryd.laysRev encB (fun _ => rfl) g 0 cap l wr (st_holds h) (by omega)).mono ?_
  rintro e w' ⟨rfl, q, rfl⟩
  refine ⟨rfl, h.bel.grown (grown_row _) h.bel.size (fun k hk => by cases hk; exact h.big), ?_⟩
  intro n cap hn
  have hh : Holds encB (putRow encB (Sort.ahead wr q) g 0 l.reverse.toArray) g 0 l.reverse.toArray :=
    holds_putRow encB _ g 0 l.toArray _ (holds_ahead encB wr q g 0 l.toArray (st_holds h)) (by simp)
  have hr : n = l.reverse.length := by rw [List.length_reverse, hn]
  rw [hr]
  refine run_convert_bytes_back _ _ _ 5 _ cap l.reverse Tryd.underlying22 Tryd.underlying5 Tryd.underlying9 (fun j hj => ?_)
  have := (hh j (by simpa using hj)).1
  rw [add_plain]
  rw [Nat.zero_add] at this
  rw [this]
  simp at hj
  simp [hj]

set_option maxHeartbeats 4000000 in
set_option maxRecDepth 100000 in
theorem back_walk (s : ByteArray) (hs : s.size ≤ 1048576) (w : World) : Calls Tryd.prog 9 #[.string s] w fun e w' => e = .returned (.tuple #[.string (backSays s).1, .bool (backSays s).2]) ∧ Below w.heap.size w w' := by
  have hro := rolls_calls s hs w
  cases hg : goodWord s with
  | false =>
    rw [hg] at hro
    have hb : backSays s = (⟨#[]⟩, false) := by rw [backSays, hg]; rfl
    rw [hb]
    have HR := Go.Lib.hid hro
    clear hro hb hg
    go_enter Tryd.func9, Tryd.ntmps9
    go_wp2_with fail
    refine HR.out.mono ?_
    rintro e w1 ⟨rfl, hb⟩
    have HB := Go.Lib.hid hb
    clear hb
    go_wp2_with fail
    go_ret2
    exact ⟨rfl, HB.out⟩
  | true =>
    rw [hg] at hro
    have hb : backSays s = (⟨(s.data.toList.map (turnByte 2)).reverse.toArray⟩, true) := by rw [backSays, hg]; rfl
    rw [hb]
    obtain ⟨h60, hw⟩ := good_small hg
    have hl : (s.data.toList.map (turnByte 2)).length = s.size := by rw [List.length_map]; rfl
    have ht := fun w => turned_walk s 2 2 (.inr ⟨rfl, rfl⟩) (by omega) (fun c hc => by
      have h2 : c ∈ letters := by simpa using List.all_eq_true.1 hw c hc
      exact h2) w
    obtain ⟨l, hle⟩ : ∃ l, l = s.data.toList.map (turnByte 2) := ⟨_, rfl⟩
    rw [← hle] at hl ht ⊢
    have HR := Go.Lib.hid hro
    have HT := Go.Lib.hid ht
    have HL := Go.Lib.hid hl
    clear hro hb hg ht hle hw hl
    go_enter Tryd.func9, Tryd.ntmps9
    go_wp2_with fail
    refine HR.out.mono ?_
    rintro e w1 ⟨rfl, hb⟩
    have HB := Go.Lib.hid hb
    clear hb
    go_wp2_with fail
    refine (HT.out w1).mono ?_
    rintro e w2 ⟨rfl, hb⟩
    have HB2 := Go.Lib.hid (below_then HB.out HB.out.size hb)
    clear hb
    obtain ⟨cap, wb, z, hconv, hst⟩ := Turned.start ⟨l.toArray⟩ w2
    have hst : St w wb w2.heap.size l z := ⟨below_then HB2.out HB2.out.size hst.bel, HB2.out.size, hst.blk⟩
    have HS := Go.Lib.hid hst
    clear hst
    go_wp2_with fail
    refine (reverse_calls HS.out (by rw [HL.out]; omega) _ cap rfl).mono ?_
    rintro e w3 ⟨rfl, hb, hc⟩
    have hcc := hc l.length cap rfl
    have HB3 := Go.Lib.hid hb
    clear hc hb
    go_wp2_with fail
    go_ret2
    exact ⟨rfl, HB3.out⟩
end Go.Proofs.YtfcifidjjbknaaaDoor.Back
