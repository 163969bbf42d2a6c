/- The call that finds all shortest words of ways to lie: the table of them, in its order. -/
import Derived.Test.YtfcifidjjbknaaaDoorDieKey
import Derived.OwnWalk
import Derived.Deep.LoopGhost
import Derived.Deep.QuietTactic
import Derived.BigQuiet
import Derived.Deep.CutBlock
import Derived.Deep.RegionHeld3
import Derived.Deep.RegionWith
import Derived.Deep.DeepCutAuto
import Derived.Lib.Hide
import Derived.Carry
import Derived.IntWalk
namespace Go.Proofs.YtfcifidjjbknaaaDoor.ShortWords
open Go.RowKit Go.Proofs.YtfcifidjjbknaaaDoor.QBase Go.Proofs.YtfcifidjjbknaaaDoorW.PrintWords Go.Proofs.YtfcifidjjbknaaaDoor.Rolled Go.Proofs.YtfcifidjjbknaaaDoor.Dirs Go.Proofs.YtfcifidjjbknaaaDoor.Maps Go.Proofs.YtfcifidjjbknaaaDoor.DieKey
open Go.Proofs.YtfcifidjjbknaaaDoor.Dice (Die)
open Go.ChangeMaps (setBlock)
set_option linter.unusedVariables false
set_option linter.unusedSimpArgs false

theorem plain_calls (w : World) : Calls Tryd.prog 30 #[] w fun e w' => e = .returned (.agg #[.int .i64 0, .int .i64 1, .int .i64 2, .int .i64 3, .int .i64 4, .int .i64 5]) ∧ w' = w.alloc (.cells #[.int .i64 0, .int .i64 1, .int .i64 2, .int .i64 3, .int .i64 4, .int .i64 5] 25) := by
  go_enter Tryd.func30, Tryd.ntmps30
  go_wp2
  exact bodyPost_ret (v := .agg #[.int .i64 0, .int .i64 1, .int .i64 2, .int .i64 3, .int .i64 4, .int .i64 5]) (by simp [results, Tryd.results30, go_sem]) rfl ⟨rfl, rfl⟩

theorem heap_alloc (w : World) (o : Obj) (k : Nat) : (w.alloc o).heap[k]? = if k = w.heap.size then some o else w.heap[k]? := by
  show (w.heap.push o)[k]? = _
  rw [Array.getElem?_push]
theorem heap_drew (w : World) (k : Nat) : w.drew.heap[k]? = w.heap[k]? := rfl

abbrev tt : Nat → Value := fun _ => .bool true
abbrev mv := Dice.mv

/-- What holds of the words found and of the map, L being what has been found. -/
structure St (w0 wr : World) (v : Value) (B : Nat) (L : Bfs.Nodes Die) : Prop where
  row : Kd.R Kd.string 9 wr w0.heap.size (fun k => k ≠ B) v (L.map fun x => text x.2)
  map : holds wr encDie tt B (L.map (·.1))
  big : w0.heap.size ≤ B
  bel : Below w0.heap.size w0 wr

theorem St.below {w0 wr w1 : World} {v : Value} {B : Nat} {L : Bfs.Nodes Die} (h : St w0 wr v B L) (hb : Below wr.heap.size wr w1) : St w0 w1 v B L :=
  ⟨Kd.R_below h.row hb, holds_below h.map hb, h.big, below_then h.bel h.bel.size hb⟩

theorem put0 (W : World) (B : Nat) (hB : W.heap[B]? = some (.map #[] 0)) :
    (Instr.mapUpdate (86) (.map (some B)) (.agg #[.int .i64 0, .int .i64 1, .int .i64 2, .int .i64 3, .int .i64 4, .int .i64 5]) (.bool true)).run Tryd.prog W = .ok () (setBlock W B (.map (entries encDie tt 0 [Dice.plain]).toArray 1)) :=
  put_run (val := tt) fits Tryd.underlying86 (l := []) hB Dice.plain rfl

theorem st0 {w X : World} {g B : Nat} (hg : X.heap[g]? = some (.cells #[.string ⟨#[]⟩] 9 (0, 0))) (hB : X.heap[B]? = some (.map #[] 0)) (hgB : g ≠ B) (h1 : w.heap.size ≤ g) (h2 : w.heap.size ≤ B) (hb : Below w.heap.size w X) :
    St w (setBlock X B (.map (entries encDie tt 0 [Dice.plain]).toArray 1)) (.slice (some ⟨g, 0, none⟩) 1 1) B [(Dice.plain, [])] := by
  have hg' : (setBlock X B (.map (entries encDie tt 0 [Dice.plain]).toArray 1)).heap[g]? = some (.cells #[.string ⟨#[]⟩] 9 (0, 0)) := (ChangeMaps.heap_setBlock_other hB _ hgB).trans hg
  refine ⟨?_, ?_, h2, ?_⟩
  · refine Kd.R_of_own ⟨rfl, .inr ⟨g, 1, _, rfl, h1, hg', Nat.le_refl _, by decide, rfl, rfl⟩⟩ (fun k hk => ?_)
    simp [Value.ownBlock] at hk
    omega
  · exact ChangeMaps.heap_setBlock_same hB _
  · refine ⟨hb.os, hb.tape, hb.output, by simpa [setBlock] using hb.size, fun k hk => ?_⟩
    rw [ChangeMaps.heap_setBlock_other hB _ (by omega)]
    exact hb.block k hk

theorem st1 {w X : World} {B : Nat} (hB : X.heap[B]? = some (.map #[] 0)) (h1 : w.heap.size ≤ X.heap.size) (h2 : w.heap.size ≤ B) (hb : Below w.heap.size w X) :
    St w ((setBlock X B (.map (entries encDie tt 0 [Dice.plain]).toArray 1)).alloc (.cells #[.string ⟨#[]⟩] 9)) (.slice (some ⟨(setBlock X B (.map (entries encDie tt 0 [Dice.plain]).toArray 1)).heap.size, 0, none⟩) 1 1) B [(Dice.plain, [])] := by
  have hlt : B < X.heap.size := (Array.getElem?_eq_some_iff.1 hB).1
  have hsz : (setBlock X B (.map (entries encDie tt 0 [Dice.plain]).toArray 1)).heap.size = X.heap.size := by simp [setBlock]
  have hb' : Below w.heap.size w (setBlock X B (.map (entries encDie tt 0 [Dice.plain]).toArray 1)) := by
    refine ⟨hb.os, hb.tape, hb.output, by simpa [setBlock] using hb.size, fun k hk => ?_⟩
    rw [ChangeMaps.heap_setBlock_other hB _ (by omega)]
    exact hb.block k hk
  refine ⟨?_, ?_, h2, hb'.alloc (by omega) _⟩
  · refine Kd.R_of_own ⟨rfl, .inr ⟨_, 1, _, rfl, by omega, by rw [heap_alloc, if_pos rfl], Nat.le_refl _, by decide, rfl, rfl⟩⟩ (fun k hk => ?_)
    simp [Value.ownBlock] at hk
    omega
  · unfold holds
    rw [heap_alloc, if_neg (by omega)]
    exact ChangeMaps.heap_setBlock_same hB _

/-- At the head of a round: k states are done. -/
structure At (w0 wr : World) (v : Value) (B : Nat) (L : Bfs.Nodes Die) (k : Nat) : Prop where
  st : St w0 wr v B L
  inv : Bfs.Inv mv Dice.plain L k 0
  le : k ≤ L.length
  goes : Bfs.from_ mv (25 - k) L k = Dice.table

theorem inv_small {L : Bfs.Nodes Die} {k i : Nat} (h : Bfs.Inv mv Dice.plain L k i) : L.length ≤ 24 := by
  have := Bfs.inv_length mv h (Dice.table.map (fun x => Dice.act Dice.plain x.1)) (fun w s hd hr => Dice.reached Dice.plain w s hd hr)
  rwa [List.length_map, Dice.table_length] at this
theorem word_small {L : Bfs.Nodes Die} {k i : Nat} (h : Bfs.Inv mv Dice.plain L k i) : ∀ (j : Nat) (x : Die × List Nat), L[j]? = some x → x.2.length ≤ j := by
  intro j
  induction j using Nat.strongRecOn with
  | _ j ih =>
    intro x hx
    by_cases h0 : j = 0
    · subst h0
      rw [h.root] at hx
      injection hx with hx
      subst hx
      exact Nat.le_refl _
    · obtain ⟨p, d, y, h1, _, h3, _, _, h6⟩ := h.born j (by omega) x hx
      have := ih p h3 y h1
      rw [h6, List.length_append, List.length_singleton]
      omega
theorem At.next {w0 wo wr : World} {v v1 : Value} {B : Nat} {L : Bfs.Nodes Die} {k : Nat} (h : At w0 wo v B L k) (hk : k < L.length) (hs : St w0 wr v1 B (Bfs.some_ mv L k 4)) : At w0 wr v1 B (Bfs.some_ mv L k 4) (k + 1) := by
  obtain ⟨h1, h2⟩ := Bfs.inv_some mv h.inv hk 4 (Nat.le_refl _)
  have hs24 := inv_small h.inv
  refine ⟨hs, Bfs.inv_next mv h1, by omega, ?_⟩
  have hg := h.goes
  rw [show 25 - k = (25 - (k + 1)) + 1 from by omega, Bfs.from_, if_pos hk] at hg
  exact hg
theorem At.done {w0 wo : World} {v : Value} {B : Nat} {L : Bfs.Nodes Die} {k : Nat} (h : At w0 wo v B L k) (hk : L.length ≤ k) : L = Dice.table := by
  have hg := h.goes
  have hs24 := inv_small h.inv
  have := h.le
  rw [show 25 - k = (24 - k) + 1 from by omega, Bfs.from_, if_neg (by omega)] at hg
  exact hg
theorem St.reads {w0 wr : World} {v : Value} {B : Nat} {L : Bfs.Nodes Die} (h : St w0 wr v B L) (hn : 0 < L.length) :
    ∃ g c, v = .slice (some ⟨g, 0, none⟩) L.length c ∧ ∀ j x, L[j]? = some x → wr.cell? ⟨g, j, none⟩ = some (.string (text x.2)) := by
  have ho := Kd.own_of_R h.row
  simp only [List.length_map] at ho
  obtain ⟨g, c, rfl, _, _⟩ := ho.form hn
  refine ⟨g, c, rfl, fun j x hj => ?_⟩
  have := ho.cells (g := g) rfl j (.string (text x.2)) (by simp [encs, hj])
  rwa [add_plain] at this

theorem mem_iff {L : Bfs.Nodes Die} {d : Die} : Bfs.has L d = true ↔ d ∈ L.map (·.1) := by
  rw [Bfs.has_iff, List.mem_map]
  constructor
  · rintro ⟨w, hw⟩
    exact ⟨_, hw, rfl⟩
  · rintro ⟨⟨a, w⟩, hw, rfl⟩
    exact ⟨w, hw⟩
theorem zeroB (w : World) : (zeroValue 4).run Tryd.prog w = .ok (.bool false) w := by kernel_rfl
theorem St.look_true {w0 wr : World} {v : Value} {B : Nat} {L : Bfs.Nodes Die} (h : St w0 wr v B L) (d : Die) (hh : Bfs.has L d = true) :
    (Instr.lookup 86 (.map (some B)) (.agg #[.int .i64 d.t, .int .i64 d.n, .int .i64 d.e, .int .i64 d.s, .int .i64 d.w, .int .i64 d.b]) false).run Tryd.prog wr = .ok (.bool true) wr := by
  have hr := look_run (val := tt) fits Tryd.underlying86 (zeroB wr) h.map d false
  rw [show encDie d = _ from rfl] at hr
  rw [hr]
  have : place d 0 (L.map (·.1)) ≠ none := fun e => (place_none.1 e) (mem_iff.1 hh)
  obtain ⟨i, hi⟩ := Option.ne_none_iff_exists'.1 this
  rw [hi]
  rfl
theorem no_place {L : Bfs.Nodes Die} {d : Die} (hh : Bfs.has L d = false) : place d 0 (L.map (·.1)) = none :=
  place_none.2 (fun hm => by rw [mem_iff.2 hm] at hh; cases hh)
theorem St.look_false {w0 wr : World} {v : Value} {B : Nat} {L : Bfs.Nodes Die} (h : St w0 wr v B L) (d : Die) (hh : Bfs.has L d = false) :
    (Instr.lookup 86 (.map (some B)) (.agg #[.int .i64 d.t, .int .i64 d.n, .int .i64 d.e, .int .i64 d.s, .int .i64 d.w, .int .i64 d.b]) false).run Tryd.prog wr = .ok (.bool false) wr := by
  have hr := look_run (val := tt) fits Tryd.underlying86 (zeroB wr) h.map d false
  rw [show encDie d = _ from rfl] at hr
  rw [hr, no_place hh]
  rfl
theorem St.put {w0 wr : World} {v : Value} {B : Nat} {L : Bfs.Nodes Die} (h : St w0 wr v B L) (d : Die) (hh : Bfs.has L d = false) :
    ∃ W, (Instr.mapUpdate 86 (.map (some B)) (.agg #[.int .i64 d.t, .int .i64 d.n, .int .i64 d.e, .int .i64 d.s, .int .i64 d.w, .int .i64 d.b]) (.bool true)).run Tryd.prog wr = .ok () W ∧
      Kd.R Kd.string 9 W w0.heap.size (fun k => k ≠ B) v (L.map fun x => text x.2) ∧ holds W encDie tt B (L.map (·.1) ++ [d]) ∧ Below w0.heap.size w0 W := by
  have hg := grown_put h.map (.map (entries encDie tt 0 (L.map (·.1) ++ [d])).toArray (L.map (·.1) ++ [d]).length)
  refine ⟨_, put_run (val := tt) fits Tryd.underlying86 h.map d (no_place hh), Kd.R_grown h.row hg (fun k hk e => hk (Option.some.inj e)), holds_put h.map d, ?_⟩
  exact pw_below_grown h.bel (some B) h.bel.size hg (fun k e => by
    injection e with e
    have := h.big
    omega)
theorem info_str : (Tryd.prog.info? 9).map (fun i => (i.zero, i.size, i.bytes)) = some (some (.string ⟨#[]⟩), 1, 16) := by kernel_rfl
theorem St.new {w0 W w4 : World} {v v4 : Value} {B : Nat} {L : Bfs.Nodes Die} {d : Die} {u : List Nat} (hmap : holds W encDie tt B (L.map (·.1) ++ [d])) (hbig : w0.heap.size ≤ B)
    (ho : Kd.R Kd.string 9 w4 w0.heap.size (fun k => k ≠ B) v4 ((L.map fun x => text x.2) ++ [text u])) (hb : Below w0.heap.size w0 w4) (hg : W.grownBy w4 v.ownBlock) (hne : some B ≠ v.ownBlock) : St w0 w4 v4 B (L ++ [(d, u)]) := by
  refine ⟨?_, ?_, hbig, hb⟩
  · simpa using ho
  · have := holds_grown hmap hg hne
    simpa using this
theorem one_true {L : Bfs.Nodes Die} {k i : Nat} {x : Die × List Nat} {d : Die} (hx : L[k]? = some x) (hd : d = Dice.roll x.1 i) (hh : Bfs.has L d = true) : Bfs.one mv L k i = L := by
  unfold Bfs.one
  rw [hx]
  subst hd
  simp only [mv, Dice.mv]
  rw [if_pos hh]
theorem one_false {L : Bfs.Nodes Die} {k i : Nat} {x : Die × List Nat} {d : Die} (hx : L[k]? = some x) (hd : d = Dice.roll x.1 i) (hh : Bfs.has L d = false) : Bfs.one mv L k i = L ++ [(d, x.2 ++ [i])] := by
  unfold Bfs.one
  rw [hx]
  subst hd
  simp only [mv, Dice.mv]
  rw [if_neg (by rw [hh]; decide)]
theorem slice_dir (i : Nat) (hi : i < 4) : ∃ s1, s1 = ByteArray.extract ⟨#[110, 101, 115, 119]⟩ i (i + 1) ∧ s1.size ≤ 1 ∧
    ∀ W : World, (Instr.slice 9 (.string ⟨#[110, 101, 115, 119]⟩) (some (.int .i64 (i : Int))) (some (.int .i64 ((i : Int) + 1))) none).run Tryd.prog W = .ok (.string s1) W := by
  have h4 : (ByteArray.size ⟨#[110, 101, 115, 119]⟩) = 4 := rfl
  refine ⟨_, rfl, ?_, fun W => ?_⟩
  · rw [ByteArray.size_extract]
    omega
  · have h := run_slice_string (P := Tryd.prog) W 9 ⟨#[110, 101, 115, 119]⟩ .i64 .i64 (i : Int) ((i : Int) + 1) Tryd.underlying9 (by omega) (by omega) (by omega)
    rw [h]
    have e : ((i : Int) + 1).toNat = i + 1 := by omega
    rw [e, Int.toNat_natCast]
theorem At.small {w0 wr : World} {v : Value} {B : Nat} {L : Bfs.Nodes Die} {k : Nat} (h : At w0 wr v B L k) : L.length ≤ 24 := by
  have := Bfs.inv_length mv h.inv (Dice.table.map (fun x => Dice.act Dice.plain x.1)) (fun w s hd hr => Dice.reached Dice.plain w s hd hr)
  rwa [List.length_map, Dice.table_length] at this

def words : List ByteArray := Dice.table.map fun x => text x.2
set_option maxRecDepth 100000 in
set_option maxHeartbeats 4000000 in
theorem short (w : World) : Calls Tryd.prog 56 #[] w fun e w' =>
    ∃ v0_ : Value, e = .returned v0_ ∧ Kd.R Kd.string 9 w' w.heap.size (fun _ => True) v0_ words ∧ Below w.heap.size w w' := by
  have hmm := @run_makeMap Tryd.prog
  have f0 := put0 (World.drew (World.alloc (World.alloc (World.alloc w (.cells #[.string ⟨#[]⟩] 9)) (.map #[] 0)) (.cells #[.int .i64 0, .int .i64 1, .int .i64 2, .int .i64 3, .int .i64 4, .int .i64 5] 25))) (w.heap.size + 1) (by simp only [heap_drew, heap_alloc]; simp; try omega)
  have f1 := put0 (World.drew (World.alloc (World.alloc (World.alloc w (.map #[] 0)) (.cells #[.string ⟨#[]⟩] 9)) (.cells #[.int .i64 0, .int .i64 1, .int .i64 2, .int .i64 3, .int .i64 4, .int .i64 5] 25))) (w.heap.size) (by simp only [heap_drew, heap_alloc]; simp; try omega)
  have f2 := put0 (World.drew (World.alloc (World.alloc (World.alloc w (.map #[] 0)) (.cells #[.int .i64 0, .int .i64 1, .int .i64 2, .int .i64 3, .int .i64 4, .int .i64 5] 25)) (.cells #[.string ⟨#[]⟩] 9))) (w.heap.size) (by simp only [heap_drew, heap_alloc]; simp; try omega)
  have f3 := put0 (World.drew (World.alloc (World.alloc (World.alloc w (.cells #[.string ⟨#[]⟩] 9)) (.cells #[.int .i64 0, .int .i64 1, .int .i64 2, .int .i64 3, .int .i64 4, .int .i64 5] 25)) (.map #[] 0))) (w.heap.size + 1 + 1) (by simp only [heap_drew, heap_alloc]; simp; try omega)
  have f4 := put0 (World.drew (World.alloc (World.alloc (World.alloc w (.cells #[.int .i64 0, .int .i64 1, .int .i64 2, .int .i64 3, .int .i64 4, .int .i64 5] 25)) (.cells #[.string ⟨#[]⟩] 9)) (.map #[] 0))) (w.heap.size + 1 + 1) (by simp only [heap_drew, heap_alloc]; simp; try omega)
  have f5 := put0 (World.drew (World.alloc (World.alloc (World.alloc w (.cells #[.int .i64 0, .int .i64 1, .int .i64 2, .int .i64 3, .int .i64 4, .int .i64 5] 25)) (.map #[] 0)) (.cells #[.string ⟨#[]⟩] 9))) (w.heap.size + 1) (by simp only [heap_drew, heap_alloc]; simp; try omega)
  have f6 := put0 (World.drew (World.alloc (World.alloc w (.map #[] 0)) (.cells #[.int .i64 0, .int .i64 1, .int .i64 2, .int .i64 3, .int .i64 4, .int .i64 5] 25))) (w.heap.size) (by simp only [heap_drew, heap_alloc]; simp; try omega)
  have f7 := put0 (World.drew (World.alloc (World.alloc w (.cells #[.int .i64 0, .int .i64 1, .int .i64 2, .int .i64 3, .int .i64 4, .int .i64 5] 25)) (.map #[] 0))) (w.heap.size + 1) (by simp only [heap_drew, heap_alloc]; simp; try omega)
  go_enter Tryd.func56, Tryd.ntmps56
  go_upto_region 1 with fail
  go_cut [1, 2] (fun v1 v2 wx => ∃ B, v2 = .map (some B) ∧ St w wx v1 B [(Dice.plain, [])])
  case first =>
    go_region_with (first | (go_at_call 30; refine (plain_calls _).mono ?_; rintro e w' ⟨rfl, rfl⟩))
    all_goals (go_wp2_with fail; go_meet)
    all_goals first | refine ⟨_, rfl, st0 ?_ ?_ ?_ ?_ ?_ ?_⟩ | refine ⟨_, rfl, st1 ?_ ?_ ?_ ?_⟩
    all_goals first | omega | exact below_drew ((((Below.refl _ _).alloc (Nat.le_refl _) _).alloc (by simp) _).alloc (by simp; omega) _) | exact below_drew (((Below.refl _ _).alloc (Nat.le_refl _) _).alloc (by simp) _) | (simp; done) | (simp; omega; done) | (simp only [heap_drew, heap_alloc]; simp; try omega)
  case rest =>
    clear f0 f1 f2 f3 f4 f5 f6 f7 hmm
    obtain ⟨B, rfl, h0⟩ := hcut
    have H0 := Lib.hid h0
    clear h0
    go_wp2_with fail
    go_loopw [1, 3] (fun v1 v3 wr => ∃ (k : Nat) (L : Bfs.Nodes Die), v3 = .int .i64 k ∧ At w wr v1 B L k) (fun _ v3 _ => 25 - (intOf v3).toNat)
    case atStart => exact ⟨0, _, rfl, H0.out, Bfs.inv_start mv Dice.plain, by simp, rfl⟩
    case round =>
      obtain ⟨k, L, rfl, hat⟩ := hrel
      have HA := Lib.hid hat
      clear hat
      obtain ⟨wo, rfl⟩ : ∃ wo : World, wo = wr := ⟨_, rfl⟩
      by_cases hlt : k < L.length
      · obtain ⟨g, c, rfl, hcell⟩ := HA.out.st.reads (by omega)
        have HC := Lib.hid hcell
        clear hcell
        have hle := At.small HA.out
        go_wp2_with fail
        go_loopw [1, 17] (fun v1 v17 wr => ∃ i : Nat, v17 = .int .i64 i ∧ i ≤ 4 ∧ St w wr v1 B (Bfs.some_ mv L k i)) (fun _ v17 _ => 4 - (intOf v17).toNat)
        case atStart => exact ⟨0, rfl, by omega, HA.out.st⟩
        case round =>
          clear HC
          obtain ⟨i, rfl, hi, hst⟩ := hrel
          have HS := Lib.hid hst
          clear hst
          by_cases hi4 : i < 4
          · obtain ⟨hin, hkl⟩ := Bfs.inv_some mv HA.out.inv hlt i hi
            have hkl24 : (Bfs.some_ mv L k i).length ≤ 24 := inv_small hin
            obtain ⟨x, hx⟩ : ∃ x, (Bfs.some_ mv L k i)[k]? = some x := ⟨_, List.getElem?_eq_getElem hkl⟩
            have hwl := word_small hin k x hx
            have hts : (text x.2).size ≤ 24 := by rw [text_size]; omega
            obtain ⟨g1, c1, rfl, hcell1⟩ := HS.out.reads (by omega)
            have hck := hcell1 k x hx
            obtain ⟨n1, hn1⟩ : ∃ n1, n1 = (Bfs.some_ mv L k i).length := ⟨_, rfl⟩
            rw [← hn1] at HS hkl hkl24
            have HN := Lib.hid hn1
            have HX := Lib.hid hx
            have HI := Lib.hid hin
            clear hin hx hn1 hcell1
            obtain ⟨tx, htx⟩ : ∃ tx, tx = text x.2 := ⟨_, rfl⟩
            rw [← htx] at hck hts
            have HT := Lib.hid htx
            clear htx
            obtain ⟨s1, hs1, hsz1, hsl⟩ := slice_dir i hi4
            have HS1 := Lib.hid hs1
            clear hs1
            have e1 : IntKind.i64.wrap ((i : Int) + 1) = (i : Int) + 1 := IntWalk.i64_in _ (by omega)
            have e2 : ((i : Int) + 1).toNat = i + 1 := by omega
            have e3 : (0 : Int) ≤ (i : Int) + 1 := by omega
            have e4 : ((k : Int)) < ((n1 : Nat) : Int) := by omega
            go_wp2_with fail
            rw [← HN.out]
            go_quiet (fail)
            have hcat : (tx ++ s1).size ≤ 140737488351232 := by
              rw [ByteArray.size_append]
              omega
            obtain ⟨ts, hts2⟩ : ∃ ts, ts = tx ++ s1 := ⟨_, rfl⟩
            rw [← hts2] at hcat
            try rw [← hts2]
            have HTS := Lib.hid hts2
            clear hts2 e1 e2 e3 e4 hsl
            go_wp2_with fail
            refine (plain_calls _).mono ?_
            rintro e w1 ⟨rfl, rfl⟩
            go_wp2_with fail
            refine (rolled_calls Dice.plain ts hcat _).mono ?_
            rintro e w2 ⟨rfl, hb2⟩
            have hB2 : Below wr.heap.size wr w2 := below_then ((pw_below_drewN (Below.refl _ wr) nq).alloc (by simp) _) (by simp) hb2
            obtain ⟨d, hd⟩ : ∃ d, d = Dice.rolled Dice.plain (dirs ts) := ⟨_, rfl⟩
            rw [← hd]
            have HD := Lib.hid hd
            clear hd hb2
            have hW : Below wr.heap.size wr (w2.alloc (.cells #[.int .i64 d.t, .int .i64 d.n, .int .i64 d.e, .int .i64 d.s, .int .i64 d.w, .int .i64 d.b] 25)) := hB2.alloc hB2.size _
            have hS2 := HS.out.below hW
            have HW := Lib.hid hW
            clear hB2 hW
            have hdx : d = Dice.roll x.1 i := by
              rw [HD.out, HTS.out, HT.out, HS1.out, ← text_snoc x.2 i hi4, dirs_text, Dice.rolled_snoc]
              · congr 1
                have := HI.out.leads x.1 x.2 (List.mem_of_getElem? HX.out)
                rw [Dice.run_mv, Option.some.injEq] at this
                exact this
              · intro e he
                rw [List.mem_append, List.mem_singleton] at he
                rcases he with he | rfl
                · exact HI.out.small x.1 x.2 (List.mem_of_getElem? HX.out) e he
                · exact hi4
            have htsx : ts = text (x.2 ++ [i]) := by rw [HTS.out, HT.out, HS1.out, text_snoc _ _ hi4]
            have HDX := Lib.hid hdx
            have HTX := Lib.hid htsx
            clear hdx htsx
            cases hh : Bfs.has (Bfs.some_ mv L k i) d with
            | true =>
              have hlk := hS2.look_true d hh
              have HS2 := Lib.hid hS2
              have HH := Lib.hid hh
              clear hS2 hh
              go_wp2_with fail
              go_roundw
              case rel => exact ⟨i + 1, by go_num, by omega, by
                rw [Bfs.some_, one_true HX.out HDX.out HH.out]
                exact HS2.out⟩
              case measure => simp [intOf]; omega
            | false =>
              have hlk := hS2.look_false d hh
              obtain ⟨W3, hpt, hrow3, hmap3, hbel3⟩ := hS2.put d hh
              have hbB := hS2.big
              have hB3 := holds_lt hmap3
              have hsz3 := hbel3.size
              have HS2 := Lib.hid hS2
              have HH := Lib.hid hh
              clear hS2 hh
              have HR3 := Lib.hid hrow3
              have HM3 := Lib.hid hmap3
              have HL3 := Lib.hid hbel3
              clear hrow3 hmap3 hbel3
              have hlen : ((Bfs.some_ mv L k i).map fun x => text x.2).length ≤ 24 := by
                rw [List.length_map, ← HN.out]
                exact hkl24
              go_wp2_with ((with_reducible refine gate_builtin (b := .append) (xs := #[.tmp 38, .tmp 40]) rfl ?_); at_builtin; refine Kd.R_append Kd.string (w0 := w) w.heap.size rfl (.tmp 38) (.tmp 40) 65 9 (.string ⟨#[]⟩) 16 rfl Tryd.underlying65 info_str rfl (by decide) (by omega) (.slice (some ⟨g1, 0, none⟩) n1 c1) ((Bfs.some_ mv L k i).map fun x => text x.2) ts [.string ts] (fun k => k ≠ B) (fun _ => False) rfl rfl ?aP (fun _ hk => hk.elim) ?aF ?aO ?aB ?aS ?aL ?_; (case aP => exact rfl); (case aF => exact fun k hk => by omega); (case aO => exact HR3.out); (case aB => exact HL3.out); (case aS => exact hsz3); (case aL => omega); intro v4 w4 ho hb hg hat; have HO4 := Lib.hid ho; have HB4 := Lib.hid hb; have HG4 := Lib.hid hg; clear ho hb hg hat)
              go_roundw
              case rel => exact ⟨i + 1, by go_num, by omega, by
                rw [Bfs.some_, one_false HX.out HDX.out HH.out]
                have ho := HO4.out
                rw [HTX.out] at ho
                exact St.new HM3.out hbB ho HB4.out HG4.out (by
                  intro e
                  have := HR3.out.1 B e.symm
                  exact this rfl)⟩
              case measure => simp [intOf]; omega
          · obtain rfl : i = 4 := by omega
            have hnx := At.next HA.out hlt HS.out
            have HX := Lib.hid hnx
            clear hnx
            go_wp2_with fail
            go_roundw
            case rel => exact ⟨k + 1, _, by go_num, HX.out⟩
            case measure => simp [intOf]; omega
      · have hend := At.done HA.out (by omega)
        have hst := HA.out.st
        rw [hend] at hst
        obtain ⟨A, c, he⟩ := Kd.R_slice hst.row
        rw [hend] at HA hlt
        simp only [List.length_map, Dice.table_length] at he hlt
        obtain rfl := he
        have HS := Lib.hid hst
        clear hst hend HA
        go_wp2_with fail
        go_ret
        exact ⟨_, rfl, Kd.R_mono HS.out.row (fun _ _ => trivial), HS.out.bel⟩
end Go.Proofs.YtfcifidjjbknaaaDoor.ShortWords
