/- Plain laws on words: ShortestRolls, TurnOfWay. Conditions: none but that a text has at most 2^47 bytes. -/
import Derived.Test.YtdlifinfjjbmkaaDoorQWcx
import Derived.Test.YtdlifinfjjbmkaaDoorWords
import Derived.Test.YtdlifinfjjbmkaaDoorShortWords
namespace Go.Proofs.YtdlifinfjjbmkaaDoor.PureWc
open Go.RowKit Go.Proofs.YtdlifinfjjbmkaaDoor.QWc Go.Proofs.YtdlifinfjjbmkaaDoorW.PrintWords Go.Proofs.YtdlifinfjjbmkaaDoorW.PrintLast Go.Proofs.YtdlifinfjjbmkaaDoor.IsDie Go.Proofs.YtdlifinfjjbmkaaDoor.Words
open Go.Proofs.YtdlifinfjjbmkaaDoor.Dice (Die roll rolled plain)
open Go.Proofs.YtdlifinfjjbmkaaDoor.Rolled (text text_size dirs dirs_text dirs_length dirOf text_snoc tup)
set_option linter.unusedVariables false
set_option linter.unusedSimpArgs false

theorem succ_wrap {i : Nat} (h : i < 1000000) : wrap64 ((i : Int) + 1) = ((i + 1 : Nat) : Int) := by
  unfold wrap64
  omega

abbrev mv := Dice.mv
def toS (d : Die) : S32 := ⟨d.t, d.n, d.e, d.s, d.w, d.b⟩
def D (L : Bfs.Nodes Die) : List S32 := L.map fun x => toS x.1
def W (L : Bfs.Nodes Die) : List ByteArray := L.map fun x => text x.2
theorem D_length (L : Bfs.Nodes Die) : (D L).length = L.length := by simp [D]
theorem W_length (L : Bfs.Nodes Die) : (W L).length = L.length := by simp [W]
theorem D_at (L : Bfs.Nodes Die) (j : Nat) (x : Die × List Nat) (h : L[j]? = some x) : rd_T32 (D L) j = toS x.1 := by
  simp [rd_T32, D, h]
theorem W_at (L : Bfs.Nodes Die) (j : Nat) (x : Die × List Nat) (h : L[j]? = some x) : rdOf ByteArray.empty (W L) j = text x.2 := by
  simp [rdOf, W, h]

theorem beqDie (x y : Die) : (x.t == y.t && (x.n == y.n && (x.e == y.e && (x.s == y.s && (x.w == y.w && (x.b == y.b)))))) = decide (x = y) := by
  obtain ⟨x0, x1, x2, x3, x4, x5⟩ := x
  obtain ⟨y0, y1, y2, y3, y4, y5⟩ := y
  rw [Bool.eq_iff_iff]
  simp

theorem beqS (x y : Die) : ((toS x).f0 == y.t && ((toS x).f1 == y.n && ((toS x).f2 == y.e && ((toS x).f3 == y.s && ((toS x).f4 == y.w && ((toS x).f5 == y.b)))))) = decide (x = y) := beqDie x y
theorem roll_eq (d : Die) (i : Nat) (hi : i < 4) : spec_diRoll.f d.t d.n d.e d.s d.w d.b i = some (tup (roll d i)) := by
  rcases i with _ | _ | _ | _ | i
  · simp [spec_diRoll.f, roll]
  · simp [spec_diRoll.f, roll]
  · simp [spec_diRoll.f, roll]
  · simp [spec_diRoll.f, roll]
  · omega

theorem letters_size : (ByteArray.size ⟨#[110, 101, 115, 119]⟩) = 4 := rfl
theorem cat_le (x : List Nat) (i : Nat) (hi : i < 4) (hwl : x.length ≤ 24) : (text x).size + (ByteArray.extract ⟨#[110, 101, 115, 119]⟩ i (i + 1)).size ≤ 30 := by
  rw [text_size, ByteArray.size_extract]
  omega
theorem D_new (L : Bfs.Nodes Die) (d : Die) (u : List Nat) : D L ++ [(⟨d.t, d.n, d.e, d.s, d.w, d.b⟩ : S32)] = D (L ++ [(d, u)]) := by simp [D, toS]
theorem W_new (L : Bfs.Nodes Die) (d : Die) (u : List Nat) (i : Nat) (hi : i < 4) : W L ++ [text u ++ ByteArray.extract ⟨#[110, 101, 115, 119]⟩ i (i + 1)] = W (L ++ [(d, u ++ [i])]) := by simp [W, text_snoc _ _ hi]
theorem l2_new (L : Bfs.Nodes Die) (k i : Nat) (x : Die × List Nat) (d : Die) (hL : L.length ≤ 24) (hx : L[k]? = some x) (hi : i < 4) (hwl : x.2.length ≤ 24) (j : Nat) (hj : L.length ≤ j) (q : Nat) :
    spec_diSearch.l2 (q + 1) (D L) (W L) k i false (D L) (D L).length j d.t d.n d.e d.s d.w d.b = spec_diSearch.l1 q (D (L ++ [(d, x.2 ++ [i])])) (W (L ++ [(d, x.2 ++ [i])])) k ((i + 1 : Nat) : Int) := by
  have hkl : k < L.length := (List.getElem?_eq_some_iff.1 hx).1
  have hD := D_length L
  have hW := W_length L
  have c1 : ¬ ((j : Int) < ((D L).length : Int)) := by omega
  have c2 : (D L).length < 2932031007402 := by omega
  have c3 : (0 : Int) ≤ (k : Int) := by omega
  have c4 : (k : Int) < ((W L).length : Int) := by omega
  have c5 : (0 : Int) ≤ (i : Int) := by omega
  have c6 : (i : Int) ≤ ((i + 1 : Nat) : Int) := by omega
  have c7 : ((i + 1 : Nat) : Int) ≤ ((ByteArray.size ⟨#[110, 101, 115, 119]⟩ : Nat) : Int) := by
    rw [letters_size]
    omega
  have c8 : (text x.2).size + (ByteArray.extract ⟨#[110, 101, 115, 119]⟩ ((i : Int)).toNat (((i + 1 : Nat) : Int)).toNat).size ≤ 9223372036854775807 :=
    Nat.le_trans (cat_le x.2 i hi hwl) (by omega)
  have c9 : (W L).length < 8796093022208 := by omega
  have hdd : spec_diDirs.f = some ⟨#[110, 101, 115, 119]⟩ := rfl
  rw [spec_diSearch.l2, if_neg c1, if_neg (by decide), if_pos c2, if_pos c3, if_pos c4, hdd, Option.bind_some]
  rw [succ_wrap (by omega), if_pos c5, if_pos c6, if_pos c7, W_at L k x hx, if_pos c8, if_pos c9, D_new L d (x.2 ++ [i])]
  rw [show ((i : Int)).toNat = i from rfl, show (((i + 1 : Nat) : Int)).toNat = i + 1 from rfl, W_new L d x.2 i hi]
/-- The look through all dice. -/
theorem l2_ev (L : Bfs.Nodes Die) (k i : Nat) (x : Die × List Nat) (d : Die) (hL : L.length ≤ 24) (hx : L[k]? = some x) (hi : i < 4) (hwl : x.2.length ≤ 24) (r : List S32 × List ByteArray) :
    ∀ (n j : Nat) (fl : Bool), j + n = L.length →
      (if (fl || (L.drop j).any fun y => decide (y.1 = d)) = true then Ev (fun q => spec_diSearch.l1 q (D L) (W L) k ((i + 1 : Nat) : Int)) r
        else Ev (fun q => spec_diSearch.l1 q (D (L ++ [(d, x.2 ++ [i])])) (W (L ++ [(d, x.2 ++ [i])])) k ((i + 1 : Nat) : Int)) r) →
      Ev (fun q => spec_diSearch.l2 q (D L) (W L) k i fl (D L) (D L).length j d.t d.n d.e d.s d.w d.b) r := by
  intro n
  induction n with
  | zero =>
    intro j fl hj h
    have hkl : k < L.length := (List.getElem?_eq_some_iff.1 hx).1
    rw [List.drop_eq_nil_of_le (by omega)] at h
    simp only [List.any_nil, Bool.or_false] at h
    cases fl with
    | true =>
      rw [if_pos rfl] at h
      refine Ev.step (fun q => ?_) h
      rw [spec_diSearch.l2, if_neg (by rw [D_length]; omega), if_pos rfl, succ_wrap (by omega)]
    | false =>
      rw [if_neg (by decide)] at h
      refine Ev.step (fun q => ?_) h
      exact l2_new L k i x d hL hx hi hwl j (by omega) q
  | succ n ih =>
    intro j fl hj h
    have hlt : j < L.length := by omega
    have hy : L[j]? = some L[j] := List.getElem?_eq_getElem hlt
    rw [List.drop_eq_getElem_cons hlt, List.any_cons] at h
    have step := ih (j + 1) (fl || decide (L[j].1 = d)) (by omega) (by rw [Bool.or_assoc]; exact h)
    refine Ev.step (fun q => ?_) step
    rw [spec_diSearch.l2, if_pos (by rw [D_length]; omega), if_pos (by omega), if_pos (by rw [D_length]; omega), D_at L j _ hy]
    cases fl with
    | true =>
      rw [if_pos rfl, succ_wrap (by omega)]
      simp
    | false =>
      rw [if_neg (by decide), succ_wrap (by omega)]
      rw [beqS, Bool.false_or]

theorem inv_small {d : Die} {L : Bfs.Nodes Die} {k i : Nat} (h : Bfs.Inv mv d L k i) : L.length ≤ 24 := by
  have := Bfs.inv_length mv h (Dice.table.map (fun x => Dice.act d x.1)) (fun w s hd hr => Dice.reached d w s hd hr)
  rwa [List.length_map, Dice.table_length] at this
theorem word_small {d : Die} {L : Bfs.Nodes Die} {k i : Nat} (h : Bfs.Inv mv d L k i) : ∀ (j : Nat) (x : Die × List Nat), L[j]? = some x → x.2.length ≤ j := by
  intro j
  induction j using Nat.strongRecOn with
  | _ j ih =>
    intro x hx
    by_cases h0 : j = 0
    · subst h0
      rw [h.root] at hx
      injection hx with hx
      subst hx
      exact Nat.le_refl _
    · obtain ⟨p, e, y, h1, _, h3, _, _, h6⟩ := h.born j (by omega) x hx
      have := ih p h3 y h1
      rw [h6, List.length_append, List.length_singleton]
      omega

theorem l1_ev (d0 : Die) (L : Bfs.Nodes Die) (k : Nat) (hv : Bfs.Inv mv d0 L k 0) (hk : k < L.length) (r : List S32 × List ByteArray)
    (h : Ev (fun q => spec_diSearch.l0 q (D (Bfs.some_ mv L k 4)) (W (Bfs.some_ mv L k 4)) ((k + 1 : Nat) : Int)) r) :
    ∀ (n i : Nat), i + n = 4 → Ev (fun q => spec_diSearch.l1 q (D (Bfs.some_ mv L k i)) (W (Bfs.some_ mv L k i)) k i) r := by
  intro n
  induction n with
  | zero =>
    intro i hi
    obtain rfl : i = 4 := by omega
    refine Ev.step (fun q => ?_) h
    have := inv_small hv
    rw [spec_diSearch.l1, if_neg (by omega), succ_wrap (by omega)]
  | succ n ih =>
    intro i hi
    obtain ⟨hin, hkl⟩ := Bfs.inv_some mv hv hk i (by omega)
    have hs24 := inv_small hin
    have hx : (Bfs.some_ mv L k i)[k]? = some (Bfs.some_ mv L k i)[k] := List.getElem?_eq_getElem hkl
    have hwl := word_small hin k _ hx
    have step := ih (i + 1) (by omega)
    rw [Bfs.some_] at step
    have h2 : Ev (fun q => spec_diSearch.l2 q (D (Bfs.some_ mv L k i)) (W (Bfs.some_ mv L k i)) k i false (D (Bfs.some_ mv L k i)) (D (Bfs.some_ mv L k i)).length 0
        (roll (Bfs.some_ mv L k i)[k].1 i).t (roll (Bfs.some_ mv L k i)[k].1 i).n (roll (Bfs.some_ mv L k i)[k].1 i).e (roll (Bfs.some_ mv L k i)[k].1 i).s (roll (Bfs.some_ mv L k i)[k].1 i).w (roll (Bfs.some_ mv L k i)[k].1 i).b) r := by
      refine l2_ev (Bfs.some_ mv L k i) k i _ (roll (Bfs.some_ mv L k i)[k].1 i) hs24 hx (by omega) (by omega) r (Bfs.some_ mv L k i).length 0 false (by omega) ?_
      simp only [List.drop_zero, Bool.false_or]
      unfold Bfs.one at step
      rw [hx] at step
      simp only [mv, Dice.mv] at step
      cases hh : Bfs.has (Bfs.some_ mv L k i) (roll (Bfs.some_ mv L k i)[k].1 i) with
      | true =>
        rw [if_pos hh] at step
        rw [if_pos (by exact hh)]
        exact step
      | false =>
        rw [if_neg (by rw [hh]; decide)] at step
        rw [if_neg (by intro e; unfold Bfs.has at hh; rw [hh] at e; cases e)]
        exact step
    refine Ev.step (fun q => ?_) h2
    rw [spec_diSearch.l1, if_pos (by omega), if_pos (by omega), if_pos (by rw [D_length]; omega), D_at _ k _ hx]
    simp only [toS]
    rw [roll_eq _ i (by omega)]
    simp only [Option.bind_some, tup]

theorem l0_ev (d0 : Die) : ∀ (fuel : Nat) (L : Bfs.Nodes Die) (k : Nat), Bfs.Inv mv d0 L k 0 → k ≤ L.length → 24 < fuel + k →
    Ev (fun q => spec_diSearch.l0 q (D L) (W L) k) (D (Bfs.from_ mv fuel L k), W (Bfs.from_ mv fuel L k)) := by
  intro fuel
  induction fuel with
  | zero =>
    intro L k hv hk hf
    have := inv_small hv
    omega
  | succ fuel ih =>
    intro L k hv hk hf
    rw [Bfs.from_]
    by_cases e : k < L.length
    · rw [if_pos e]
      obtain ⟨h1, h2⟩ := Bfs.inv_some mv hv e 4 (Nat.le_refl _)
      have step := l1_ev d0 L k hv e _ (ih (Bfs.some_ mv L k 4) (k + 1) (Bfs.inv_next mv h1) (by omega) (by omega)) 4 0 (by omega)
      refine Ev.step (fun q => ?_) step
      rw [spec_diSearch.l0, if_pos (by rw [D_length]; omega)]
      rfl
    · rw [if_neg e]
      refine Ev.step (fun q => ?_) (Ev.now _)
      rw [spec_diSearch.l0, if_neg (by rw [D_length]; omega)]

theorem search_ev (d : Die) : Ev (fun q => spec_diSearch.f q d.t d.n d.e d.s d.w d.b) (D (Dice.found d), W (Dice.found d)) :=
  l0_ev d 25 [(d, [])] 0 (Bfs.inv_start mv d) (by simp) (by omega)

/-- What a search for a word comes to. -/
def ans (o : Option (List Nat)) : ByteArray × Bool :=
  match o with
  | some w => (text w, true)
  | none => (⟨#[]⟩, false)

theorem wl0_ev (e : Die) (L : Bfs.Nodes Die) (hL : L.length ≤ 24) : ∀ (n j : Nat), j + n = L.length →
    Ev (fun q => spec_diWordTo.l0 q (W L) (D L) (D L).length j e.t e.n e.e e.s e.w e.b) (ans (((L.drop j).find? fun x => decide (x.1 = e)).map (·.2))) := by
  intro n
  induction n with
  | zero =>
    intro j hj
    rw [List.drop_eq_nil_of_le (by omega)]
    refine Ev.step (fun q => ?_) (Ev.now _)
    rw [spec_diWordTo.l0, if_neg (by rw [D_length]; omega)]
    rfl
  | succ n ih =>
    intro j hj
    have hlt : j < L.length := by omega
    have hy : L[j]? = some L[j] := List.getElem?_eq_getElem hlt
    rw [List.drop_eq_getElem_cons hlt, List.find?_cons]
    cases hd : decide (L[j].1 = e) with
    | true =>
      refine Ev.step (fun q => ?_) (Ev.now _)
      rw [spec_diWordTo.l0, if_pos (by rw [D_length]; omega), if_pos (by omega), if_pos (by rw [D_length]; omega), D_at L j _ hy, if_pos ((beqS _ _).trans hd), if_pos (by rw [W_length]; omega), W_at L j _ hy]
      rfl
    | false =>
      refine Ev.step (fun q => ?_) (ih (j + 1) (by omega))
      rw [spec_diWordTo.l0, if_pos (by rw [D_length]; omega), if_pos (by omega), if_pos (by rw [D_length]; omega), D_at L j _ hy, if_neg (by rw [beqS, hd]; decide), succ_wrap (by omega)]

theorem wordTo_ev (d e : Die) : Ev (fun q => spec_diWordTo.f q d.t d.n d.e d.s d.w d.b e.t e.n e.e e.s e.w e.b) (ans (Dice.wordTo d e)) := by
  unfold spec_diWordTo.f
  refine Ev.bind (search_ev d) ?_
  exact wl0_ev e (Dice.found d) (Dice.found_length d) (Dice.found d).length 0 (by omega)

/-! ### The program's -/
theorem iroll_eq (d : Die) (c : Int) : impl_Die_roll.f d.t d.n d.e d.s d.w d.b c = some (tup (roll d (dirOf c))) := by
  unfold impl_Die_roll.f dirOf
  by_cases h1 : c = 110
  · simp [h1, roll]
  · by_cases h2 : c = 101
    · simp [h2, roll]
    · by_cases h3 : c = 115
      · simp [h3, roll]
      · simp [h1, h2, h3, roll]
theorem rolled_at (s : ByteArray) (hs : s.size ≤ 100000) : ∀ (n i k : Nat) (d : Die), i + n = s.size → n < k →
    impl_Die_rolled.l0 k s s.size i d.t d.n d.e d.s d.w d.b = some (tup (rolled d ((dirs s).drop i))) := by
  intro n
  induction n with
  | zero =>
    intro i k d hi hk
    obtain ⟨k, rfl⟩ : ∃ m, k = m + 1 := ⟨k - 1, by omega⟩
    rw [impl_Die_rolled.l0, if_neg (by omega), List.drop_eq_nil_of_le (by rw [Rolled.dirs_length]; omega)]
    rfl
  | succ n ih =>
    intro i k d hi hk
    obtain ⟨k, rfl⟩ : ∃ m, k = m + 1 := ⟨k - 1, by omega⟩
    have hlt : i < (dirs s).length := by rw [Rolled.dirs_length]; omega
    rw [impl_Die_rolled.l0, if_pos (by omega), if_pos (by omega), if_pos (by omega), iroll_eq]
    simp only [Option.bind_some]
    rw [succ_wrap (by omega), List.drop_eq_getElem_cons hlt]
    have hc : (dirs s)[i] = dirOf (bt s i) := by
      have hi2 : i < s.size := by omega
      simp [dirs, bt, hi2]
      rfl
    rw [hc]
    exact ih (i + 1) k (roll d (dirOf (bt s i))) (by omega) (by omega)
theorem rolled_ev (s : ByteArray) (hs : s.size ≤ 100000) (d : Die) : Ev (fun k => impl_Die_rolled.f k d.t d.n d.e d.s d.w d.b s) (tup (rolled d (dirs s))) := by
  refine ⟨s.size + 1, fun k hk => ?_⟩
  unfold impl_Die_rolled.f
  exact rolled_at s hs s.size 0 k d (by omega) (by omega)

theorem table_words : ∀ x ∈ Dice.table, x.2.length ≤ 24 ∧ ∀ k ∈ x.2, k < 4 := by decide +kernel

theorem sl0_ev (T : Bfs.Nodes Die) (h24 : T.length ≤ 24) (hT : ∀ x ∈ T, x.2.length ≤ 24 ∧ ∀ k ∈ x.2, k < 4) (d e : Die) : ∀ (n j : Nat), j + n = T.length →
    Ev (fun q => impl_shortest.l0 q (W T) (W T).length j d.t d.n d.e d.s d.w d.b e.t e.n e.e e.s e.w e.b) (ans (((T.drop j).find? fun x => decide (rolled d x.2 = e)).map (·.2))) := by
  intro n
  induction n with
  | zero =>
    intro j hj
    rw [List.drop_eq_nil_of_le (by omega)]
    refine Ev.step (fun q => ?_) (Ev.now _)
    rw [impl_shortest.l0, if_neg (by rw [W_length]; omega)]
    rfl
  | succ n ih =>
    intro j hj
    have hlt : j < T.length := by omega
    have hy : T[j]? = some T[j] := List.getElem?_eq_getElem hlt
    obtain ⟨hwl, hw4⟩ := hT _ (List.getElem_mem hlt)
    have hro := rolled_ev (text T[j].2) (by rw [text_size]; omega) d
    rw [dirs_text _ hw4] at hro
    rw [List.drop_eq_getElem_cons hlt, List.find?_cons]
    have head : ∀ q, impl_shortest.l0 (q + 1) (W T) (W T).length j d.t d.n d.e d.s d.w d.b e.t e.n e.e e.s e.w e.b =
        (impl_Die_rolled.f q d.t d.n d.e d.s d.w d.b (text T[j].2)).bind fun b => if (b.1 == e.t && (b.2.1 == e.n && (b.2.2.1 == e.e && (b.2.2.2.1 == e.s && (b.2.2.2.2.1 == e.w && (b.2.2.2.2.2 == e.b)))))) = true then some (text T[j].2, true)
          else impl_shortest.l0 q (W T) (W T).length ((j + 1 : Nat) : Int) d.t d.n d.e d.s d.w d.b e.t e.n e.e e.s e.w e.b := fun q => by
      rw [impl_shortest.l0, if_pos (by rw [W_length]; omega), if_pos (by omega), if_pos (by rw [W_length]; omega), W_at _ j _ hy, succ_wrap (by omega)]
    cases hd : decide (rolled d T[j].2 = e) with
    | true =>
      refine Ev.step head (Ev.bind hro ?_)
      refine Ev.congr (fun q => ?_) (Ev.now _)
      simp only [tup]
      rw [if_pos ((beqDie _ _).trans hd)]
      rfl
    | false =>
      refine Ev.step head (Ev.bind hro ?_)
      refine Ev.congr (fun q => ?_) (ih (j + 1) (by omega))
      simp only [tup]
      rw [if_neg (by rw [beqDie, hd]; decide)]

theorem shortest_ev (d e : Die) : Ev (fun q => impl_shortest.f q d.t d.n d.e d.s d.w d.b e.t e.n e.e e.s e.w e.b) (ans (Dice.wordTo d e)) := by
  have h := sl0_ev Dice.table (by rw [Dice.table_length]; omega) table_words d e Dice.table.length 0 (by omega)
  rw [List.drop_zero] at h
  have hw : ShortWords.words = W Dice.table := rfl
  rw [← Dice.short_eq]
  unfold impl_shortest.f impl_shortWords.f Dice.short
  rw [hw]
  generalize Dice.table = T at h ⊢
  exact h

theorem diDir_at (s : ByteArray) (k : Nat) : spec_diDir.f (k + 5) s = some (dirIx s) := by
  have e0 : ((⟨#[110, 101, 115, 119]⟩ : ByteArray).extract 0 1).toList = [110] := by rw [Go.Lib.toList_data, ByteArray.data_extract]; rfl
  have e1 : ((⟨#[110, 101, 115, 119]⟩ : ByteArray).extract 1 2).toList = [101] := by rw [Go.Lib.toList_data, ByteArray.data_extract]; rfl
  have e2 : ((⟨#[110, 101, 115, 119]⟩ : ByteArray).extract 2 3).toList = [115] := by rw [Go.Lib.toList_data, ByteArray.data_extract]; rfl
  have e3 : ((⟨#[110, 101, 115, 119]⟩ : ByteArray).extract 3 4).toList = [119] := by rw [Go.Lib.toList_data, ByteArray.data_extract]; rfl
  have z : (((⟨#[110, 101, 115, 119]⟩ : ByteArray).size : Nat) : Int) = 4 := rfl
  have w1 : wrap64 ((0 : Int) + 1) = 1 := by unfold wrap64; omega
  have w2 : wrap64 ((1 : Int) + 1) = 2 := by unfold wrap64; omega
  have w3 : wrap64 ((2 : Int) + 1) = 3 := by unfold wrap64; omega
  have w4 : wrap64 ((3 : Int) + 1) = 4 := by unfold wrap64; omega
  have t0 : Int.toNat 0 = 0 := rfl
  have t1 : Int.toNat 1 = 1 := rfl
  have t2 : Int.toNat 2 = 2 := rfl
  have t3 : Int.toNat 3 = 3 := rfl
  have t4 : Int.toNat 4 = 4 := rfl
  unfold spec_diDir.f dirIx
  rw [spec_diDir.l0, spec_diDirs.f, Option.bind_some, w1, z, t0, t1, e0, if_pos (by omega), if_pos (by omega), if_pos (by omega), if_pos (by omega)]
  by_cases h0 : s.toList = [110]
  · rw [if_pos h0, if_pos h0]
  rw [if_neg h0, if_neg h0, spec_diDir.l0, spec_diDirs.f, Option.bind_some, w2, z, t1, t2, e1, if_pos (by omega), if_pos (by omega), if_pos (by omega), if_pos (by omega)]
  by_cases h1 : s.toList = [101]
  · rw [if_pos h1, if_pos h1]
  rw [if_neg h1, if_neg h1, spec_diDir.l0, spec_diDirs.f, Option.bind_some, w3, z, t2, t3, e2, if_pos (by omega), if_pos (by omega), if_pos (by omega), if_pos (by omega)]
  by_cases h2 : s.toList = [115]
  · rw [if_pos h2, if_pos h2]
  rw [if_neg h2, if_neg h2, spec_diDir.l0, spec_diDirs.f, Option.bind_some, w4, z, t3, t4, e3, if_pos (by omega), if_pos (by omega), if_pos (by omega), if_pos (by omega)]
  by_cases h3 : s.toList = [119]
  · rw [if_pos h3, if_pos h3]
  rw [if_neg h3, if_neg h3, spec_diDir.l0, if_neg (by omega)]

theorem wrap_up {i n : Nat} (h : i < n) (hn : n ≤ 1048576) : wrap64 ((i : Int) + 1) = ((i + 1 : Nat) : Int) := by
  unfold wrap64
  omega
/-- One letter of a text, as the reference reads it. -/
theorem diDir_ch (s : ByteArray) (i : Nat) (h : i < s.data.toList.length) (k : Nat) (hk : 5 ≤ k) :
    spec_diDir.f k (s.extract i (i + 1)) = some (if letters.contains s.data.toList[i] = true then (dirOf s.data.toList[i].toNat : Int) else -1) := by
  obtain ⟨m, rfl⟩ : ∃ m, k = m + 5 := ⟨k - 5, by omega⟩
  rw [diDir_at, extract_one s i h, dirIx_one]
theorem diWord_l0 (s : ByteArray) (hs : s.size ≤ 1048576) : ∀ (n i k : Nat), i + n = s.size → n + 6 < k → spec_diWord.l0 k s i = some (isW (s.data.toList.drop i)) := by
  intro n
  induction n with
  | zero =>
    intro i k hi hk
    obtain ⟨k, rfl⟩ : ∃ m, k = m + 1 := ⟨k - 1, by omega⟩
    rw [spec_diWord.l0, if_neg (by omega), List.drop_eq_nil_of_le (by show s.size ≤ i; omega)]
    rfl
  | succ n ih =>
    intro i k hi hk
    obtain ⟨k, rfl⟩ : ∃ m, k = m + 1 := ⟨k - 1, by omega⟩
    have hl : i < s.data.toList.length := by show i < s.size; omega
    rw [spec_diWord.l0, if_pos (by omega), wrap_up (n := s.size) (by omega) hs, if_pos (by omega), if_pos (by omega), if_pos (by omega), Int.toNat_natCast, Int.toNat_natCast, diDir_ch s i hl k (by omega), Option.bind_some]
    rw [List.drop_eq_getElem_cons hl]
    unfold isW
    rw [List.all_cons]
    by_cases hc : letters.contains s.data.toList[i] = true
    · rw [if_pos hc, if_neg (by omega), ih (i + 1) k (by omega) (by omega), hc]
      rfl
    · rw [if_neg hc, if_pos (by omega)]
      simp only [Bool.not_eq_true] at hc
      rw [hc]
      rfl
theorem diWord_at (s : ByteArray) (hs : s.size ≤ 1048576) (k : Nat) (hk : s.size + 7 < k) : spec_diWord.f k s = some (goodWord s) := by
  unfold spec_diWord.f goodWord
  by_cases h : s.size ≤ 60
  · rw [if_neg (by omega), show ((0 : Int)) = ((0 : Nat) : Int) from rfl, diWord_l0 s hs s.size 0 k (by omega) (by omega), List.drop_zero]
    simp [h]
  · rw [if_pos (by omega)]
    simp [h]
theorem isRolls_eq (s : ByteArray) (hs : s.size ≤ 1048576) : impl_IsRolls.f s = some (goodWord s) := by
  unfold impl_IsRolls.f strings_Trim.f Go.Proofs.YtdlifinfjjbmkaaDoor.Lib.trim goodWord
  by_cases h : s.size ≤ 60
  · rw [if_pos (by omega), if_pos ⟨by omega, by decide⟩, Option.bind_some]
    congr 1
    rw [Go.Lib.toList_data, Bool.eq_iff_iff]
    simp only [beq_iff_eq, decide_eq_true h, Bool.true_and]
    exact trim_nil s.data.toList letters
  · rw [if_neg (by omega)]
    simp [h]

theorem diRoll_eq (d : Die) (k : Nat) (hk : k < 4) : spec_diRoll.f d.t d.n d.e d.s d.w d.b k = some (tup (roll d k)) := by
  unfold spec_diRoll.f
  rcases k with _ | _ | _ | _ | k
  · simp [roll]
  · simp [roll]
  · simp [roll]
  · simp [roll]
  · omega
theorem diRun_l0 (s : ByteArray) (hs : s.size ≤ 1048576) (hw : isW s.data.toList = true) : ∀ (n i k : Nat) (d : Die), i + n = s.size → n + 6 < k →
    spec_diRun.l0 k s i d.t d.n d.e d.s d.w d.b = some (tup (rolled d ((dirs s).drop i))) := by
  intro n
  induction n with
  | zero =>
    intro i k d hi hk
    obtain ⟨k, rfl⟩ : ∃ m, k = m + 1 := ⟨k - 1, by omega⟩
    rw [spec_diRun.l0, if_neg (by omega), List.drop_eq_nil_of_le (by rw [dirs_length]; omega)]
    rfl
  | succ n ih =>
    intro i k d hi hk
    obtain ⟨k, rfl⟩ : ∃ m, k = m + 1 := ⟨k - 1, by omega⟩
    have hl : i < s.data.toList.length := by show i < s.size; omega
    rw [spec_diRun.l0, if_pos (by omega), wrap_up (n := s.size) (by omega) hs, if_pos (by omega), if_pos (by omega), if_pos (by omega), Int.toNat_natCast, Int.toNat_natCast, diDir_ch s i hl k (by omega), Option.bind_some, if_pos (isW_at hw i hl), diRoll_eq d _ (dirOf_lt _), Option.bind_some, dirs_at s i hl]
    exact ih (i + 1) k (roll d (dirOf s.data.toList[i].toNat)) (by omega) (by omega)
theorem diRun_at (s : ByteArray) (hw : goodWord s = true) (d : Die) (k : Nat) (hk : 67 < k) : spec_diRun.f k d.t d.n d.e d.s d.w d.b s = some (tup (rolled d (dirs s))) := by
  obtain ⟨h1, h2⟩ := good_small hw
  unfold spec_diRun.f
  exact diRun_l0 s (by omega) h2 s.size 0 k d (by omega) (by omega)
theorem iRolled_at (s : ByteArray) (hw : goodWord s = true) (d : Die) (k : Nat) (hk : 67 < k) : impl_Die_rolled.f k d.t d.n d.e d.s d.w d.b s = some (tup (rolled d (dirs s))) := by
  obtain ⟨h1, h2⟩ := good_small hw
  unfold impl_Die_rolled.f
  exact rolled_at s (by omega) s.size 0 k d (by omega) (by omega)

/-! ### Closed ways -/
def cnt (c : UInt8) (l : List UInt8) : Int := l.count c
theorem cnt_same (a : UInt8) (l : List UInt8) : cnt a (a :: l) = cnt a l + 1 := by
  unfold cnt
  rw [List.count_cons_self]
  rfl
theorem cnt_other (c a : UInt8) (l : List UInt8) (h : a ≠ c) : cnt c (a :: l) = cnt c l := by
  unfold cnt
  rw [List.count_cons_of_ne h]
theorem both_eq {p q p' q' : Prop} [Decidable p] [Decidable q] [Decidable p'] [Decidable q'] (h : p ↔ p') (k : q ↔ q') : (some (decide p && decide q) : Option Bool) = some (decide p' && decide q') := by
  rw [decide_eq_decide.2 h, decide_eq_decide.2 k]
theorem closed_l0 (s : ByteArray) (hs : s.size ≤ 60) (hw : isW s.data.toList = true) : ∀ (n i k : Nat) (x y : Int), i + n = s.size → n + 6 < k → -i ≤ x → x ≤ i → -i ≤ y → y ≤ i →
    spec_boClosed.l0 k s x y i = some (decide (x + cnt 101 (s.data.toList.drop i) - cnt 119 (s.data.toList.drop i) = 0) && decide (y + cnt 115 (s.data.toList.drop i) - cnt 110 (s.data.toList.drop i) = 0)) := by
  intro n
  induction n with
  | zero =>
    intro i k x y hi hk hx hx2 hy hy2
    obtain ⟨k, rfl⟩ : ∃ m, k = m + 1 := ⟨k - 1, by omega⟩
    rw [spec_boClosed.l0, if_neg (by omega), List.drop_eq_nil_of_le (by show s.size ≤ i; omega)]
    have h0 : ∀ c, cnt c [] = 0 := fun _ => rfl
    simp only [h0, Int.add_zero, Int.sub_zero]
    by_cases h : x = 0
    · rw [if_pos h]
      simp [h]
      rfl
    · rw [if_neg h]
      simp [h]
  | succ n ih =>
    intro i k x y hi hk hx hx2 hy hy2
    obtain ⟨k, rfl⟩ : ∃ m, k = m + 1 := ⟨k - 1, by omega⟩
    have hl : i < s.data.toList.length := by show i < s.size; omega
    have hc := isW_at hw i hl
    rw [spec_boClosed.l0, if_pos (by omega), wrap_up (n := s.size) (by omega) (by omega), if_pos (by omega), if_pos (by omega), if_pos (by omega), Int.toNat_natCast, Int.toNat_natCast, diDir_ch s i hl k (by omega), Option.bind_some, if_pos hc]
    rw [List.drop_eq_getElem_cons hl]
    generalize s.data.toList[i] = c at hc ⊢
    have h : c = 110 ∨ c = 101 ∨ c = 115 ∨ c = 119 := by simpa [letters] using hc
    have w1 : ∀ z : Int, -i ≤ z → z ≤ i → wrap64 (z + 1) = z + 1 := fun z _ _ => by unfold wrap64; omega
    have w2 : ∀ z : Int, -i ≤ z → z ≤ i → wrap64 (z - 1) = z - 1 := fun z _ _ => by unfold wrap64; omega
    have d0 : ((dirOf (110 : UInt8).toNat : Nat) : Int) = 0 := rfl
    have d1 : ((dirOf (101 : UInt8).toNat : Nat) : Int) = 1 := rfl
    have d2 : ((dirOf (115 : UInt8).toNat : Nat) : Int) = 2 := rfl
    have d3 : ((dirOf (119 : UInt8).toNat : Nat) : Int) = 3 := rfl
    rcases h with rfl | rfl | rfl | rfl
    · rw [d0, spec_boNext.f, if_pos rfl, Option.bind_some, w2 y hy hy2, ih (i + 1) k _ _ (by omega) (by omega) (by omega) (by omega) (by omega) (by omega)]
      have q := fun b h => cnt_other b 110 (s.data.toList.drop (i + 1)) h
      rw [q 101 (by decide), q 119 (by decide), q 115 (by decide), cnt_same]
      exact both_eq (by omega) (by omega)
    · rw [d1, spec_boNext.f, if_neg (by decide), if_pos rfl, Option.bind_some, w1 x hx hx2, ih (i + 1) k _ _ (by omega) (by omega) (by omega) (by omega) (by omega) (by omega)]
      have q := fun b h => cnt_other b 101 (s.data.toList.drop (i + 1)) h
      rw [q 119 (by decide), q 115 (by decide), q 110 (by decide), cnt_same]
      exact both_eq (by omega) (by omega)
    · rw [d2, spec_boNext.f, if_neg (by decide), if_neg (by decide), if_pos rfl, Option.bind_some, w1 y hy hy2, ih (i + 1) k _ _ (by omega) (by omega) (by omega) (by omega) (by omega) (by omega)]
      have q := fun b h => cnt_other b 115 (s.data.toList.drop (i + 1)) h
      rw [q 101 (by decide), q 119 (by decide), q 110 (by decide), cnt_same]
      exact both_eq (by omega) (by omega)
    · rw [d3, spec_boNext.f, if_neg (by decide), if_neg (by decide), if_neg (by decide), Option.bind_some, w2 x hx hx2, ih (i + 1) k _ _ (by omega) (by omega) (by omega) (by omega) (by omega) (by omega)]
      have q := fun b h => cnt_other b 119 (s.data.toList.drop (i + 1)) h
      rw [q 101 (by decide), q 115 (by decide), q 110 (by decide), cnt_same]
      exact both_eq (by omega) (by omega)
theorem count_eq (s : ByteArray) (c : UInt8) : strings_Count.f s ⟨#[c]⟩ = some (cnt c s.data.toList) := rfl

theorem closed_both (s : ByteArray) (hg : goodWord s = true) (k : Nat) (hk : 70 < k) : ∃ b, spec_boClosed.f k s = some b ∧ impl_isClosed.f s = some b := by
  obtain ⟨h60, hw⟩ := good_small hg
  have h1 := closed_l0 s h60 hw s.size 0 k 0 0 (by omega) (by omega) (by omega) (by omega) (by omega) (by omega)
  rw [List.drop_zero] at h1
  refine ⟨_, h1, ?_⟩
  rw [impl_isClosed.f]
  simp only [count_eq, Option.bind_some]
  generalize cnt 101 s.data.toList = e
  generalize cnt 119 s.data.toList = w
  generalize cnt 110 s.data.toList = n
  generalize cnt 115 s.data.toList = z
  have hx : decide (0 + e - w = 0) = (e == w) := by
    rw [Bool.eq_iff_iff]
    simp
    omega
  have hy : decide (0 + z - n = 0) = decide (n = z) := decide_eq_decide.2 (by omega)
  rw [hx, hy]
  by_cases hns : n = z
  · simp [hns]
  · simp [hns]

theorem shortestRolls (s : ByteArray) (hb : s.size ≤ 140737488351232) : ∃ k, laws_FnExactShortestRolls.f k s = some true := by
  unfold laws_FnExactShortestRolls.f
  by_cases h : (s.size : Int) > 1048576
  · exact ⟨0, by rw [if_pos h]⟩
  · obtain ⟨K1, h1⟩ := wordTo_ev plain (rolled plain (dirs s))
    obtain ⟨K2, h2⟩ := shortest_ev plain (rolled plain (dirs s))
    have h1 := h1 (K1 + K2 + s.size + 100) (by omega)
    have h2 := h2 (K1 + K2 + s.size + 100) (by omega)
    refine ⟨K1 + K2 + s.size + 100, ?_⟩
    rw [if_neg h, spec_ShortestRolls.f, impl_ShortestRolls.f, diWord_at s (by omega) _ (by omega), isRolls_eq s (by omega)]
    simp only [Option.bind_some]
    cases hg : goodWord s with
    | false => simp
    | true =>
      have h3 := diRun_at s hg plain (K1 + K2 + s.size + 100) (by omega)
      have h4 := iRolled_at s hg plain (K1 + K2 + s.size + 100) (by omega)
      generalize rolled plain (dirs s) = p at h1 h2 h3 h4
      simp only [plain] at h1 h2 h3 h4
      simp only [if_true, spec_diUnit.f, spec_diOf.f, impl_plain.f, Option.bind_some]
      simp [h1, h2, h3, h4, rd, tup]

theorem turnOfWay (s : ByteArray) (hb : s.size ≤ 140737488351232) : ∃ k, laws_FnExactTurnOfWay.f k s = some true := by
  unfold laws_FnExactTurnOfWay.f
  by_cases h : (s.size : Int) > 1048576
  · exact ⟨0, by rw [if_pos h]⟩
  · obtain ⟨K1, h1⟩ := wordTo_ev plain (rolled plain (dirs s))
    obtain ⟨K2, h2⟩ := shortest_ev plain (rolled plain (dirs s))
    have h1 := h1 (K1 + K2 + s.size + 100) (by omega)
    have h2 := h2 (K1 + K2 + s.size + 101) (by omega)
    refine ⟨K1 + K2 + s.size + 101, ?_⟩
    rw [if_neg h, spec_TurnOfWay.f, impl_TurnOfWay.f, diWord_at s (by omega) _ (by omega), isRolls_eq s (by omega)]
    simp only [Option.bind_some]
    cases hg : goodWord s with
    | false => simp [spec_TurnOfWay.j0]
    | true =>
      have h3 := diRun_at s hg plain (K1 + K2 + s.size + 100) (by omega)
      have h4 := iRolled_at s hg plain (K1 + K2 + s.size + 101) (by omega)
      obtain ⟨b, hb1, hb2⟩ := closed_both s hg (K1 + K2 + s.size + 101) (by omega)
      rw [if_pos rfl, if_pos rfl, hb1, hb2, Option.bind_some, Option.bind_some]
      have e : K1 + K2 + s.size + 101 = (K1 + K2 + s.size + 100) + 1 := rfl
      cases b with
      | false =>
        rw [e]
        simp [spec_TurnOfWay.j0]
      | true =>
        rw [impl_ShortestRolls.f, isRolls_eq s (by omega), Option.bind_some, hg]
        generalize rolled plain (dirs s) = p at h1 h2 h3 h4
        simp only [plain] at h1 h2 h3 h4
        simp only [if_true, spec_diUnit.f, spec_diOf.f, impl_plain.f, Option.bind_some, Bool.not_true]
        rw [e, spec_TurnOfWay.j0]
        rw [e] at h2 h4
        simp only [spec_diUnit.f, spec_diOf.f, Option.bind_some, Bool.false_eq_true, if_false]
        simp [h1, h2, h3, h4, rd, tup]
end Go.Proofs.YtdlifinfjjbmkaaDoor.PureWc
