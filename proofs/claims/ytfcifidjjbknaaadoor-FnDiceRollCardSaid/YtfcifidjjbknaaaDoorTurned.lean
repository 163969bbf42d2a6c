/- The call that turns a word: for a word of the four letters, turned by one quarter or two, each letter is replaced by the turned one. -/
import Derived.Test.YtfcifidjjbknaaaDoorRows
import Derived.Test.YtfcifidjjbknaaaDoorWOne
import Derived.Test.YtfcifidjjbknaaaDoorShelf
import Derived.Below
import Derived.OwnWalk
import Derived.WalkKit
import Derived.KernelRfl
import Derived.Deep.LoopGhost
import Derived.Lib.Hide
import Derived.Outline
import Derived.Deep.QuietTactic
import Derived.BigQuiet
import Derived.Lib.ConvBytes
import Derived.Laws.IdiomStrings
import Derived.Lib.Bytealg
namespace Go.Proofs.YtfcifidjjbknaaaDoor.Turned
open Go.RowKit Go.Proofs.YtfcifidjjbknaaaDoorW.PrintWords
set_option linter.unusedVariables false
set_option linter.unusedSimpArgs false

def letters : List UInt8 := [110, 101, 115, 119]
def turnByte (k : Nat) (c : UInt8) : UInt8 := letters.getD ((if c = 110 then 0 + k else if c = 101 then 1 + k else if c = 115 then 2 + k else 3 + k) % 4) 0

abbrev byteCells (l : List UInt8) (z : Array Value) : Array Value := (l.map fun b => Value.int .u8 b.toNat).toArray ++ z
/-- The row of bytes that the call owns. -/
structure St (w0 wr : World) (g : Nat) (l : List UInt8) (z : Array Value) : Prop where
  bel : Below w0.heap.size w0 wr
  big : w0.heap.size ≤ g
  blk : wr.heap[g]? = some (.cells (byteCells l z) 5 ((byteCells l z).size, (byteCells l z).size + 1))
theorem St.lt {w0 wr : World} {g : Nat} {l : List UInt8} {z : Array Value} (h : St w0 wr g l z) : g < wr.heap.size := (Array.getElem?_eq_some_iff.1 h.blk).1
theorem St.read {w0 wr : World} {g : Nat} {l : List UInt8} {z : Array Value} (h : St w0 wr g l z) (j : Nat) (hj : j < l.length) : wr.cell? ⟨g, j, none⟩ = some (.int .u8 (l.getD j 0).toNat) := by
  unfold World.cell?
  rw [h.blk]
  simp [byteCells, Array.getElem?_append, hj, List.getD]
theorem St.open_ {w0 wr : World} {g : Nat} {l : List UInt8} {z : Array Value} (h : St w0 wr g l z) (j : Nat) (hj : j < l.length) : wr.frozen? ⟨g, j, none⟩ = false := by
  have hs : (byteCells l z).size = l.length + z.size := by simp [byteCells]
  simp [World.frozen?, h.blk]
  omega
theorem St.set {w0 wr : World} {g : Nat} {l : List UInt8} {z : Array Value} (h : St w0 wr g l z) (j : Nat) (hj : j < l.length) (b : UInt8) : St w0 (wr.setCell ⟨g, j, none⟩ (.int .u8 b.toNat)) g (l.set j b) z := by
  refine ⟨Below.setCell h.bel h.big _, h.big, ?_⟩
  have hb := h.blk
  have hlt := h.lt
  have e : byteCells (l.set j b) z = (byteCells l z).set! j (.int .u8 b.toNat) := by
    apply Array.ext'
    simp [byteCells, List.map_set, List.set_append, hj]
  have hsz : (byteCells (l.set j b) z).size = (byteCells l z).size := by simp [byteCells]
  rw [hsz, e]
  simp [World.setCell, World.setCells, hb, Array.getElem?_modify]
theorem St.drew {w0 wr : World} {g : Nat} {l : List UInt8} {z : Array Value} (h : St w0 wr g l z) : St w0 wr.drew g l z := ⟨h.bel.drew, h.big, h.blk⟩

theorem start (s : ByteArray) (w : World) : ∃ cap wb z, (convert 9 22 (.string s)).run Tryd.prog w = .ok (.slice (some ⟨w.heap.size, 0, none⟩) s.size cap) wb ∧ St w wb w.heap.size s.data.toList z := by
  refine ⟨_, _, Array.replicate (grownCap w s.size 0 5 - s.size) (.int .u8 0), Go.Lib.run_convert_string_bytes w _ _ 5 s Tryd.underlying9 Tryd.underlying22 Tryd.underlying5, ?_, Nat.le_refl _, ?_⟩
  · exact ⟨rfl, rfl, rfl, by rw [Go.Lib.bytesWorld_size]; omega, fun k hk => Go.Lib.bytesWorld_at_old _ _ _ _ hk⟩
  · rw [Go.Lib.bytesWorld_at_new]
    have e : Go.Lib.bytesCells w 5 s = byteCells s.data.toList (Array.replicate (grownCap w s.size 0 5 - s.size) (.int .u8 0)) := by
      unfold Go.Lib.bytesCells byteCells
      congr 1
      apply Array.ext'
      simp
    rw [e]

def part (k i : Nat) (l : List UInt8) : List UInt8 := (l.take i).map (turnByte k) ++ l.drop i
theorem part_length (k i : Nat) (l : List UInt8) : (part k i l).length = l.length := by
  simp [part]
  omega
theorem part_at (k i : Nat) (l : List UInt8) (hi : i < l.length) : (part k i l).getD i 0 = l.getD i 0 := by
  simp [part, List.getD, List.getElem?_append, Nat.min_eq_left (Nat.le_of_lt hi)]
theorem part_set (k i : Nat) (l : List UInt8) (hi : i < l.length) : (part k i l).set i (turnByte k (l.getD i 0)) = part k (i + 1) l := by
  unfold part
  have h1 : ((l.take i).map (turnByte k)).length = i := by simp; omega
  rw [List.set_append, if_neg (by omega), List.take_succ_eq_append_getElem hi, List.map_append, List.append_assoc, h1, Nat.sub_self, List.drop_eq_getElem_cons hi, List.set_cons_zero]
  simp [List.getD, hi]

theorem ix (n : Nat) (c : Int) (w : World) (h : Go.Lib.indexByte [110, 101, 115, 119] c.toNat.toUInt8 = n) :
    Calls Tryd.prog 53 #[.string ⟨#[110, 101, 115, 119]⟩, .int .u8 c] w fun e w' => e = .returned (.int .i64 n) ∧ w = w' :=
  (Tryd.strings_IndexByte ⟨#[110, 101, 115, 119]⟩ c w).mono fun e w' ⟨h1, h2⟩ => ⟨by rw [h1]; exact congrArg (fun z => Ending.returned (.int .i64 z)) h, h2.symm⟩

theorem back {w0 wr : World} {g cap : Nat} {l : List UInt8} {z : Array Value} (h : St w0 wr g l z) (n : Nat) (hn : n = l.length) :
    (convert 22 9 (.slice (some ⟨g, 0, none⟩) n cap)).run Tryd.prog wr = .ok (.string ⟨l.toArray⟩) wr := by
  subst hn
  refine run_convert_bytes_back wr _ _ 5 _ cap l Tryd.underlying22 Tryd.underlying5 Tryd.underlying9 (fun j hj => ?_)
  have := h.read j hj
  rw [add_plain, this]
  simp [List.getD, hj]

set_option maxHeartbeats 4000000 in
set_option maxRecDepth 100000 in
theorem turned_walk (s : ByteArray) (K : Nat) (kk : Int) (hk : (K = 1 ∧ kk = 1) ∨ (K = 2 ∧ kk = 2)) (hs : s.size ≤ 1000) (hw : ∀ c ∈ s.data.toList, c ∈ letters) (w : World) :
    Calls Tryd.prog 28 #[.string s, .int .i64 kk] w fun e w' => e = .returned (.string ⟨(s.data.toList.map (turnByte K)).toArray⟩) ∧ Below w.heap.size w w' := by
  obtain ⟨cap, wb, z, hconv, hst⟩ := start s w
  have hsz : s.data.toList.length = s.size := rfl
  have HS := Go.Lib.hid hst
  have HL := Go.Lib.hid hsz
  have HW := Go.Lib.hid hw
  clear hst hsz hw
  obtain ⟨n, hn⟩ : ∃ n, n = s.size := ⟨_, rfl⟩
  rw [← hn] at hconv HL hs
  have HN := Go.Lib.hid hn
  clear hn
  rcases hk with ⟨hK, rfl⟩ | ⟨hK, rfl⟩
  all_goals
    have HK := Go.Lib.hid hK
    clear hK
    go_enter Tryd.func28, Tryd.ntmps28
    go_wp2_with fail
    go_loopw [12] (fun v12 wr => ∃ i : Nat, v12 = .int .i64 i ∧ i ≤ n ∧ St w wr w.heap.size (part K i s.data.toList) z) (fun v12 _ => n - (intOf v12).toNat)
    case atStart => exact ⟨0, rfl, by omega, HS.out⟩
    case round =>
      obtain ⟨i, rfl, hi, hst⟩ := hrel
      have HT := Go.Lib.hid hst
      clear hst
      by_cases hlt : i < n
      · have hil : i < s.data.toList.length := by rw [HL.out]; exact hlt
        have hr := HT.out.read i (by rw [part_length]; exact hil)
        rw [part_at _ _ _ hil] at hr
        have hf := HT.out.open_ i (by rw [part_length]; exact hil)
        have hc : s.data.toList.getD i 0 ∈ letters := HW.out _ (by rw [List.getD_eq_getElem?_getD, List.getElem?_eq_getElem hil]; exact List.getElem_mem hil)
        obtain ⟨c, hce⟩ : ∃ c, c = s.data.toList.getD i 0 := ⟨_, rfl⟩
        rw [← hce] at hr hc
        have HC := Go.Lib.hid hce
        have HIL := Go.Lib.hid hil
        clear hce hil
        have hset := HT.out.set i (by rw [part_length]; exact HIL.out) (turnByte K c)
        have htk := congrArg (fun q => turnByte q c) HK.out
        rw [HC.out, part_set _ _ _ HIL.out, ← HC.out, htk] at hset
        clear htk
        simp only [letters, List.mem_cons, List.not_mem_nil, or_false] at hc
        rcases hc with rfl | rfl | rfl | rfl
        all_goals
          have HE := Go.Lib.hid hset
          clear hset
          go_wp2_with fail
          first
            | refine (ix 0 110 _ (by decide)).mono ?_
            | refine (ix 1 101 _ (by decide)).mono ?_
            | refine (ix 2 115 _ (by decide)).mono ?_
            | refine (ix 3 119 _ (by decide)).mono ?_
          rintro e w' ⟨rfl, rfl⟩
          go_wp2_with fail
          go_roundw
          case rel => exact ⟨i + 1, by go_num, by omega, HE.out⟩
          case measure => simp [intOf]; omega
      · obtain rfl : i = n := by omega
        have hb := back (cap := cap) HT.out i (by rw [part_length, HL.out])
        have he : part K i s.data.toList = s.data.toList.map (turnByte K) := by
          unfold part
          rw [List.take_of_length_le (by rw [HL.out]; exact Nat.le_refl _), List.drop_eq_nil_of_le (by rw [HL.out]; exact Nat.le_refl _), List.append_nil]
        rw [he] at hb
        clear he
        go_wp2_with fail
        go_ret
        exact ⟨rfl, HT.out.bel⟩

def isWord (s : ByteArray) : Bool := s.data.toList.all fun c => letters.contains c
def says (a0 : ByteArray) (a1 : Int) : Option ByteArray := if (a1 = 1 ∨ a1 = 2) ∧ a0.size ≤ 1000 ∧ isWord a0 = true then some ⟨(a0.data.toList.map (turnByte a1.toNat)).toArray⟩ else none
theorem says_calls (a0 : ByteArray) (a1 : Int) (r : ByteArray) (w : World) (h : says a0 a1 = some r) :
    Calls Tryd.prog 28 #[.string a0, .int .i64 a1] w fun e w' => e = .returned (.string r) ∧ Below w.heap.size w w' := by
  unfold says at h
  by_cases hc : (a1 = 1 ∨ a1 = 2) ∧ a0.size ≤ 1000 ∧ isWord a0 = true
  · rw [if_pos hc] at h
    obtain rfl := Option.some.inj h
    obtain ⟨h1, h2, h3⟩ := hc
    refine turned_walk a0 a1.toNat a1 (by omega) h2 (fun c hx => ?_) w
    have := List.all_eq_true.1 h3 c hx
    simpa using this
  · rw [if_neg hc] at h
    cases h
end Go.Proofs.YtfcifidjjbknaaaDoor.Turned
