/- The reference's search for all ways to lie: what it finds. Conditions: none. -/
import Derived.Test.YtfcifidjjbknaaaDoorQDsx
import Derived.Test.YtfcifidjjbknaaaDoorDice
import Derived.Test.YtfcifidjjbknaaaDoorDirs
namespace Go.Proofs.YtfcifidjjbknaaaDoor.DiS
open Go.RowKit Go.Proofs.YtfcifidjjbknaaaDoor.QDs Go.Proofs.YtfcifidjjbknaaaDoorW.PrintWords Go.Proofs.YtfcifidjjbknaaaDoorW.PrintLast
open Go.Proofs.YtfcifidjjbknaaaDoor.Dice (Die roll rolled)
open Go.Proofs.YtfcifidjjbknaaaDoor.Dirs (text text_size dirs dirs_text dirOf text_snoc tup)
set_option linter.unusedVariables false
set_option linter.unusedSimpArgs false

theorem succ_wrap {i : Nat} (h : i < 1000000) : wrap64 ((i : Int) + 1) = ((i + 1 : Nat) : Int) := by
  unfold wrap64
  omega
abbrev mv := Dice.mv
def W (L : Bfs.Nodes Die) : List ByteArray := L.map fun x => text x.2
theorem W_length (L : Bfs.Nodes Die) : (W L).length = L.length := by simp [W]
theorem W_at (L : Bfs.Nodes Die) (j : Nat) (x : Die × List Nat) (h : L[j]? = some x) : rdOf ByteArray.empty (W L) j = text x.2 := by
  simp [rdOf, W, h]
theorem beqDie (x y : Die) : (x.t == y.t && (x.n == y.n && (x.e == y.e && (x.s == y.s && (x.w == y.w && (x.b == y.b)))))) = decide (x = y) := by
  obtain ⟨x0, x1, x2, x3, x4, x5⟩ := x
  obtain ⟨y0, y1, y2, y3, y4, y5⟩ := y
  rw [Bool.eq_iff_iff]
  simp
/-! ### The reference's search -/
def toS (d : Die) : S25 := ⟨d.t, d.n, d.e, d.s, d.w, d.b⟩
def D (L : Bfs.Nodes Die) : List S25 := L.map fun x => toS x.1
theorem D_length (L : Bfs.Nodes Die) : (D L).length = L.length := by simp [D]
theorem D_at (L : Bfs.Nodes Die) (j : Nat) (x : Die × List Nat) (h : L[j]? = some x) : rd_T25 (D L) j = toS x.1 := by
  simp [rd_T25, D, h]


theorem beqS (x y : Die) : ((toS x).f0 == y.t && ((toS x).f1 == y.n && ((toS x).f2 == y.e && ((toS x).f3 == y.s && ((toS x).f4 == y.w && ((toS x).f5 == y.b)))))) = decide (x = y) := beqDie x y
theorem roll_eq (d : Die) (i : Nat) (hi : i < 4) : spec_diRoll.f d.t d.n d.e d.s d.w d.b i = some (tup (roll d i)) := by
  rcases i with _ | _ | _ | _ | i
  · first | (simp [spec_diRoll.f, roll]; done) | simp [spec_diRoll.f, Go.Proofs.YtfcifidjjbknaaaDoor.DieRolls.sroll, roll]
  · first | (simp [spec_diRoll.f, roll]; done) | simp [spec_diRoll.f, Go.Proofs.YtfcifidjjbknaaaDoor.DieRolls.sroll, roll]
  · first | (simp [spec_diRoll.f, roll]; done) | simp [spec_diRoll.f, Go.Proofs.YtfcifidjjbknaaaDoor.DieRolls.sroll, roll]
  · first | (simp [spec_diRoll.f, roll]; done) | simp [spec_diRoll.f, Go.Proofs.YtfcifidjjbknaaaDoor.DieRolls.sroll, roll]
  · omega

theorem letters_size : (ByteArray.size ⟨#[110, 101, 115, 119]⟩) = 4 := rfl
theorem cat_le (x : List Nat) (i : Nat) (hi : i < 4) (hwl : x.length ≤ 24) : (text x).size + (ByteArray.extract ⟨#[110, 101, 115, 119]⟩ i (i + 1)).size ≤ 30 := by
  rw [text_size, ByteArray.size_extract]
  omega
theorem D_new (L : Bfs.Nodes Die) (d : Die) (u : List Nat) : D L ++ [(⟨d.t, d.n, d.e, d.s, d.w, d.b⟩ : S25)] = D (L ++ [(d, u)]) := by simp [D, toS]
theorem W_new (L : Bfs.Nodes Die) (d : Die) (u : List Nat) (i : Nat) (hi : i < 4) : W L ++ [text u ++ ByteArray.extract ⟨#[110, 101, 115, 119]⟩ i (i + 1)] = W (L ++ [(d, u ++ [i])]) := by simp [W, text_snoc _ _ hi]
theorem l2_new (L : Bfs.Nodes Die) (k i : Nat) (x : Die × List Nat) (d : Die) (hL : L.length ≤ 24) (hx : L[k]? = some x) (hi : i < 4) (hwl : x.2.length ≤ 24) (j : Nat) (hj : L.length ≤ j) (q : Nat) :
    spec_diSearch.l2 (q + 1) (D L) (W L) k i false (D L) (D L).length j d.t d.n d.e d.s d.w d.b = spec_diSearch.l1 q (D (L ++ [(d, x.2 ++ [i])])) (W (L ++ [(d, x.2 ++ [i])])) k ((i + 1 : Nat) : Int) := by
  have hkl : k < L.length := (List.getElem?_eq_some_iff.1 hx).1
  have hD := D_length L
  have hW := W_length L
  have c1 : ¬ ((j : Int) < ((D L).length : Int)) := by omega
  have c2 : (D L).length < 2932031007402 := by omega
  have c3 : (0 : Int) ≤ (k : Int) := by omega
  have c4 : (k : Int) < ((W L).length : Int) := by omega
  have c5 : (0 : Int) ≤ (i : Int) := by omega
  have c6 : (i : Int) ≤ ((i + 1 : Nat) : Int) := by omega
  have c7 : ((i + 1 : Nat) : Int) ≤ ((ByteArray.size ⟨#[110, 101, 115, 119]⟩ : Nat) : Int) := by
    rw [letters_size]
    omega
  have c8 : (text x.2).size + (ByteArray.extract ⟨#[110, 101, 115, 119]⟩ ((i : Int)).toNat (((i + 1 : Nat) : Int)).toNat).size ≤ 9223372036854775807 :=
    Nat.le_trans (cat_le x.2 i hi hwl) (by omega)
  have c9 : (W L).length < 8796093022208 := by omega
  have hdd : spec_diDirs.f = some ⟨#[110, 101, 115, 119]⟩ := rfl
  rw [spec_diSearch.l2, if_neg c1, if_neg (by decide), if_pos c2, if_pos c3, if_pos c4, hdd, Option.bind_some]
  rw [succ_wrap (by omega), if_pos c5, if_pos c6, if_pos c7, W_at L k x hx, if_pos c8, if_pos c9, D_new L d (x.2 ++ [i])]
  rw [show ((i : Int)).toNat = i from rfl, show (((i + 1 : Nat) : Int)).toNat = i + 1 from rfl, W_new L d x.2 i hi]
theorem l2_ev (L : Bfs.Nodes Die) (k i : Nat) (x : Die × List Nat) (d : Die) (hL : L.length ≤ 24) (hx : L[k]? = some x) (hi : i < 4) (hwl : x.2.length ≤ 24) (r : List S25 × List ByteArray) :
    ∀ (n j : Nat) (fl : Bool), j + n = L.length →
      (if (fl || (L.drop j).any fun y => decide (y.1 = d)) = true then Ev (fun q => spec_diSearch.l1 q (D L) (W L) k ((i + 1 : Nat) : Int)) r
        else Ev (fun q => spec_diSearch.l1 q (D (L ++ [(d, x.2 ++ [i])])) (W (L ++ [(d, x.2 ++ [i])])) k ((i + 1 : Nat) : Int)) r) →
      Ev (fun q => spec_diSearch.l2 q (D L) (W L) k i fl (D L) (D L).length j d.t d.n d.e d.s d.w d.b) r := by
  intro n
  induction n with
  | zero =>
    intro j fl hj h
    have hkl : k < L.length := (List.getElem?_eq_some_iff.1 hx).1
    rw [List.drop_eq_nil_of_le (by omega)] at h
    simp only [List.any_nil, Bool.or_false] at h
    cases fl with
    | true =>
      rw [if_pos rfl] at h
      refine Ev.step (fun q => ?_) h
      rw [spec_diSearch.l2, if_neg (by rw [D_length]; omega), if_pos rfl, succ_wrap (by omega)]
    | false =>
      rw [if_neg (by decide)] at h
      refine Ev.step (fun q => ?_) h
      exact l2_new L k i x d hL hx hi hwl j (by omega) q
  | succ n ih =>
    intro j fl hj h
    have hlt : j < L.length := by omega
    have hy : L[j]? = some L[j] := List.getElem?_eq_getElem hlt
    rw [List.drop_eq_getElem_cons hlt, List.any_cons] at h
    have step := ih (j + 1) (fl || decide (L[j].1 = d)) (by omega) (by rw [Bool.or_assoc]; exact h)
    refine Ev.step (fun q => ?_) step
    rw [spec_diSearch.l2, if_pos (by rw [D_length]; omega), if_pos (by omega), if_pos (by rw [D_length]; omega), D_at L j _ hy]
    cases fl with
    | true =>
      rw [if_pos rfl, succ_wrap (by omega)]
      simp
    | false =>
      rw [if_neg (by decide), succ_wrap (by omega)]
      rw [beqS, Bool.false_or]

theorem inv_small {d : Die} {L : Bfs.Nodes Die} {k i : Nat} (h : Bfs.Inv mv d L k i) : L.length ≤ 24 := by
  have := Bfs.inv_length mv h (Dice.table.map (fun x => Dice.act d x.1)) (fun w s hd hr => Dice.reached d w s hd hr)
  rwa [List.length_map, Dice.table_length] at this
theorem word_small {d : Die} {L : Bfs.Nodes Die} {k i : Nat} (h : Bfs.Inv mv d L k i) : ∀ (j : Nat) (x : Die × List Nat), L[j]? = some x → x.2.length ≤ j := by
  intro j
  induction j using Nat.strongRecOn with
  | _ j ih =>
    intro x hx
    by_cases h0 : j = 0
    · subst h0
      rw [h.root] at hx
      injection hx with hx
      subst hx
      exact Nat.le_refl _
    · obtain ⟨p, e, y, h1, _, h3, _, _, h6⟩ := h.born j (by omega) x hx
      have := ih p h3 y h1
      rw [h6, List.length_append, List.length_singleton]
      omega

theorem l1_ev (d0 : Die) (L : Bfs.Nodes Die) (k : Nat) (hv : Bfs.Inv mv d0 L k 0) (hk : k < L.length) (r : List S25 × List ByteArray)
    (h : Ev (fun q => spec_diSearch.l0 q (D (Bfs.some_ mv L k 4)) (W (Bfs.some_ mv L k 4)) ((k + 1 : Nat) : Int)) r) :
    ∀ (n i : Nat), i + n = 4 → Ev (fun q => spec_diSearch.l1 q (D (Bfs.some_ mv L k i)) (W (Bfs.some_ mv L k i)) k i) r := by
  intro n
  induction n with
  | zero =>
    intro i hi
    obtain rfl : i = 4 := by omega
    refine Ev.step (fun q => ?_) h
    have := inv_small hv
    rw [spec_diSearch.l1, if_neg (by omega), succ_wrap (by omega)]
  | succ n ih =>
    intro i hi
    obtain ⟨hin, hkl⟩ := Bfs.inv_some mv hv hk i (by omega)
    have hs24 := inv_small hin
    have hx : (Bfs.some_ mv L k i)[k]? = some (Bfs.some_ mv L k i)[k] := List.getElem?_eq_getElem hkl
    have hwl := word_small hin k _ hx
    have step := ih (i + 1) (by omega)
    rw [Bfs.some_] at step
    have h2 : Ev (fun q => spec_diSearch.l2 q (D (Bfs.some_ mv L k i)) (W (Bfs.some_ mv L k i)) k i false (D (Bfs.some_ mv L k i)) (D (Bfs.some_ mv L k i)).length 0
        (roll (Bfs.some_ mv L k i)[k].1 i).t (roll (Bfs.some_ mv L k i)[k].1 i).n (roll (Bfs.some_ mv L k i)[k].1 i).e (roll (Bfs.some_ mv L k i)[k].1 i).s (roll (Bfs.some_ mv L k i)[k].1 i).w (roll (Bfs.some_ mv L k i)[k].1 i).b) r := by
      refine l2_ev (Bfs.some_ mv L k i) k i _ (roll (Bfs.some_ mv L k i)[k].1 i) hs24 hx (by omega) (by omega) r (Bfs.some_ mv L k i).length 0 false (by omega) ?_
      simp only [List.drop_zero, Bool.false_or]
      unfold Bfs.one at step
      rw [hx] at step
      simp only [mv, Dice.mv] at step
      cases hh : Bfs.has (Bfs.some_ mv L k i) (roll (Bfs.some_ mv L k i)[k].1 i) with
      | true =>
        rw [if_pos hh] at step
        rw [if_pos (by exact hh)]
        exact step
      | false =>
        rw [if_neg (by rw [hh]; decide)] at step
        rw [if_neg (by intro e; unfold Bfs.has at hh; rw [hh] at e; cases e)]
        exact step
    refine Ev.step (fun q => ?_) h2
    rw [spec_diSearch.l1, if_pos (by omega), if_pos (by omega), if_pos (by rw [D_length]; omega), D_at _ k _ hx]
    simp only [toS]
    rw [roll_eq _ i (by omega)]
    simp only [Option.bind_some, tup]

theorem l0_ev (d0 : Die) : ∀ (fuel : Nat) (L : Bfs.Nodes Die) (k : Nat), Bfs.Inv mv d0 L k 0 → k ≤ L.length → 24 < fuel + k →
    Ev (fun q => spec_diSearch.l0 q (D L) (W L) k) (D (Bfs.from_ mv fuel L k), W (Bfs.from_ mv fuel L k)) := by
  intro fuel
  induction fuel with
  | zero =>
    intro L k hv hk hf
    have := inv_small hv
    omega
  | succ fuel ih =>
    intro L k hv hk hf
    rw [Bfs.from_]
    by_cases e : k < L.length
    · rw [if_pos e]
      obtain ⟨h1, h2⟩ := Bfs.inv_some mv hv e 4 (Nat.le_refl _)
      have step := l1_ev d0 L k hv e _ (ih (Bfs.some_ mv L k 4) (k + 1) (Bfs.inv_next mv h1) (by omega) (by omega)) 4 0 (by omega)
      refine Ev.step (fun q => ?_) step
      rw [spec_diSearch.l0, if_pos (by rw [D_length]; omega)]
      rfl
    · rw [if_neg e]
      refine Ev.step (fun q => ?_) (Ev.now _)
      rw [spec_diSearch.l0, if_neg (by rw [D_length]; omega)]

theorem search_ev (d : Die) : Ev (fun q => spec_diSearch.f q d.t d.n d.e d.s d.w d.b) (D (Dice.found d), W (Dice.found d)) :=
  l0_ev d 25 [(d, [])] 0 (Bfs.inv_start mv d) (by simp) (by omega)
theorem found_24 : (Dice.found ⟨1, 2, 3, 5, 4, 6⟩).length = 24 := by decide +kernel
theorem search_calls (w : World) : Calls Tryd.prog 68 #[.agg #[.int .i64 1, .int .i64 2, .int .i64 3, .int .i64 5, .int .i64 4, .int .i64 6]] w fun e w' => ∃ (v0 v1 : Value) (l : List S25), e = .returned (.tuple #[v0, v1]) ∧ l.length = 24 ∧ Kd.R k25 25 w' w.heap.size (fun _ => True) v0 l ∧ Below w.heap.size w w' := by
  obtain ⟨k, hk⟩ := search_ev ⟨1, 2, 3, 5, 4, 6⟩
  have h := hk k (Nat.le_refl k)
  simp only at h
  refine (spec_diSearch.calls k 1 2 3 5 4 6 _ _ w h).mono ?_
  rintro e w' ⟨v0, v1, rfl, hr, _, hb⟩
  exact ⟨v0, v1, _, rfl, (D_length _).trans found_24, hr, hb⟩
end Go.Proofs.YtfcifidjjbknaaaDoor.DiS
