/- Plain laws on IsEvenDie and ParityOfState: six different faces, and the parity of the shortest word. Conditions: none. -/
import Derived.Test.YtdlifinfjjbmkaaQEvnx
import Derived.Test.YtdlifinfjjbmkaaDice
import Derived.Test.YtdlifinfjjbmkaaRolled
import Derived.Test.YtdlifinfjjbmkaaShortWords
import Derived.Test.YtdlifinfjjbmkaaSix
namespace Go.Proofs.Ytdlifinfjjbmkaa.PureEvn
open Go.RowKit Go.Proofs.Ytdlifinfjjbmkaa.QEvn Go.Proofs.YtdlifinfjjbmkaaW.PrintWords Go.Proofs.YtdlifinfjjbmkaaW.PrintLast Go.Proofs.Ytdlifinfjjbmkaa.IsDie
open Go.Proofs.Ytdlifinfjjbmkaa.Six Go.Proofs.Ytdlifinfjjbmkaa.Sorted
open Go.Proofs.Ytdlifinfjjbmkaa.Dice (Die roll rolled)
open Go.Proofs.Ytdlifinfjjbmkaa.Rolled (text text_size dirs dirs_text dirOf text_snoc tup)
set_option linter.unusedVariables false
set_option linter.unusedSimpArgs false

theorem succ_wrap {i : Nat} (h : i < 1000000) : wrap64 ((i : Int) + 1) = ((i + 1 : Nat) : Int) := by
  unfold wrap64
  omega

theorem l1In_eq (n : Int) : spec_l1In.f n 0 9 = some (inB n) := by
  unfold spec_l1In.f inB
  by_cases h : 0 ≤ n
  · rw [if_pos h]
    simp [h]
  · rw [if_neg h]
    simp [h]
theorem all_at (xs : List Int) (hl : xs.length ≤ 1000) : ∀ (d i k : Nat), i + d = xs.length → d < k → spec_l1All.l0 k 0 9 xs xs.length i = some ((xs.drop i).all inB) := by
  intro d
  induction d with
  | zero =>
    intro i k hi hk
    obtain ⟨k, rfl⟩ : ∃ m, k = m + 1 := ⟨k - 1, by omega⟩
    rw [spec_l1All.l0, if_neg (by omega), List.drop_eq_nil_of_le (by omega)]
    rfl
  | succ d ih =>
    intro i k hi hk
    obtain ⟨k, rfl⟩ : ∃ m, k = m + 1 := ⟨k - 1, by omega⟩
    have hlt : i < xs.length := by omega
    rw [spec_l1All.l0, if_pos (by omega), if_pos (by omega), if_pos (by omega), l1In_eq]
    simp only [Option.bind_some]
    rw [List.drop_eq_getElem_cons hlt, List.all_cons]
    have hr : rd xs i = xs[i] := by simp [rd, hlt]
    rw [hr]
    cases inB xs[i] with
    | true =>
      rw [if_pos rfl, succ_wrap (by omega), ih (i + 1) k (by omega) (by omega)]
      simp
    | false => simp
theorem diGood_at (a0 a1 a2 a3 a4 a5 : Int) (k : Nat) (hk : 7 ≤ k) : spec_diGood.f k a0 a1 a2 a3 a4 a5 = some (good a0 a1 a2 a3 a4 a5) := by
  unfold spec_diGood.f spec_diFaces.f spec_l1All.f
  simp only [Option.bind_some]
  have := all_at [a0, a1, a2, a3, a4, a5] (by simp) 6 0 k (by simp) (by omega)
  simp only [Int.natCast_zero, List.drop_zero] at this
  rw [this]
  rfl
theorem diGood_ev (a0 a1 a2 a3 a4 a5 : Int) : Ev (fun k => spec_diGood.f k a0 a1 a2 a3 a4 a5) (good a0 a1 a2 a3 a4 a5) := ⟨7, fun k hk => diGood_at a0 a1 a2 a3 a4 a5 k hk⟩

/-! ### The reference's search -/
abbrev mv := Dice.mv
def toS (d : Die) : S26 := ⟨d.t, d.n, d.e, d.s, d.w, d.b⟩
def D (L : Bfs.Nodes Die) : List S26 := L.map fun x => toS x.1
def W (L : Bfs.Nodes Die) : List ByteArray := L.map fun x => text x.2
theorem D_length (L : Bfs.Nodes Die) : (D L).length = L.length := by simp [D]
theorem W_length (L : Bfs.Nodes Die) : (W L).length = L.length := by simp [W]
theorem D_at (L : Bfs.Nodes Die) (j : Nat) (x : Die × List Nat) (h : L[j]? = some x) : rd_T26 (D L) j = toS x.1 := by
  simp [rd_T26, D, h]
theorem W_at (L : Bfs.Nodes Die) (j : Nat) (x : Die × List Nat) (h : L[j]? = some x) : rdOf ByteArray.empty (W L) j = text x.2 := by
  simp [rdOf, W, h]

theorem beqDie (x y : Die) : (x.t == y.t && (x.n == y.n && (x.e == y.e && (x.s == y.s && (x.w == y.w && (x.b == y.b)))))) = decide (x = y) := by
  obtain ⟨x0, x1, x2, x3, x4, x5⟩ := x
  obtain ⟨y0, y1, y2, y3, y4, y5⟩ := y
  rw [Bool.eq_iff_iff]
  simp

theorem beqS (x y : Die) : ((toS x).f0 == y.t && ((toS x).f1 == y.n && ((toS x).f2 == y.e && ((toS x).f3 == y.s && ((toS x).f4 == y.w && ((toS x).f5 == y.b)))))) = decide (x = y) := beqDie x y
theorem roll_eq (d : Die) (i : Nat) (hi : i < 4) : spec_diRoll.f d.t d.n d.e d.s d.w d.b i = some (tup (roll d i)) := by
  rcases i with _ | _ | _ | _ | i
  · simp [spec_diRoll.f, roll]
  · simp [spec_diRoll.f, roll]
  · simp [spec_diRoll.f, roll]
  · simp [spec_diRoll.f, roll]
  · omega

theorem letters_size : (ByteArray.size ⟨#[110, 101, 115, 119]⟩) = 4 := rfl
theorem cat_le (x : List Nat) (i : Nat) (hi : i < 4) (hwl : x.length ≤ 24) : (text x).size + (ByteArray.extract ⟨#[110, 101, 115, 119]⟩ i (i + 1)).size ≤ 30 := by
  rw [text_size, ByteArray.size_extract]
  omega
theorem D_new (L : Bfs.Nodes Die) (d : Die) (u : List Nat) : D L ++ [(⟨d.t, d.n, d.e, d.s, d.w, d.b⟩ : S26)] = D (L ++ [(d, u)]) := by simp [D, toS]
theorem W_new (L : Bfs.Nodes Die) (d : Die) (u : List Nat) (i : Nat) (hi : i < 4) : W L ++ [text u ++ ByteArray.extract ⟨#[110, 101, 115, 119]⟩ i (i + 1)] = W (L ++ [(d, u ++ [i])]) := by simp [W, text_snoc _ _ hi]
theorem l2_new (L : Bfs.Nodes Die) (k i : Nat) (x : Die × List Nat) (d : Die) (hL : L.length ≤ 24) (hx : L[k]? = some x) (hi : i < 4) (hwl : x.2.length ≤ 24) (j : Nat) (hj : L.length ≤ j) (q : Nat) :
    spec_diSearch.l2 (q + 1) (D L) (W L) k i false (D L) (D L).length j d.t d.n d.e d.s d.w d.b = spec_diSearch.l1 q (D (L ++ [(d, x.2 ++ [i])])) (W (L ++ [(d, x.2 ++ [i])])) k ((i + 1 : Nat) : Int) := by
  have hkl : k < L.length := (List.getElem?_eq_some_iff.1 hx).1
  have hD := D_length L
  have hW := W_length L
  have c1 : ¬ ((j : Int) < ((D L).length : Int)) := by omega
  have c2 : (D L).length < 2932031007402 := by omega
  have c3 : (0 : Int) ≤ (k : Int) := by omega
  have c4 : (k : Int) < ((W L).length : Int) := by omega
  have c5 : (0 : Int) ≤ (i : Int) := by omega
  have c6 : (i : Int) ≤ ((i + 1 : Nat) : Int) := by omega
  have c7 : ((i + 1 : Nat) : Int) ≤ ((ByteArray.size ⟨#[110, 101, 115, 119]⟩ : Nat) : Int) := by
    rw [letters_size]
    omega
  have c8 : (text x.2).size + (ByteArray.extract ⟨#[110, 101, 115, 119]⟩ ((i : Int)).toNat (((i + 1 : Nat) : Int)).toNat).size ≤ 9223372036854775807 :=
    Nat.le_trans (cat_le x.2 i hi hwl) (by omega)
  have c9 : (W L).length < 8796093022208 := by omega
  have hdd : spec_diDirs.f = some ⟨#[110, 101, 115, 119]⟩ := rfl
  rw [spec_diSearch.l2, if_neg c1, if_neg (by decide), if_pos c2, if_pos c3, if_pos c4, hdd, Option.bind_some]
  rw [succ_wrap (by omega), if_pos c5, if_pos c6, if_pos c7, W_at L k x hx, if_pos c8, if_pos c9, D_new L d (x.2 ++ [i])]
  rw [show ((i : Int)).toNat = i from rfl, show (((i + 1 : Nat) : Int)).toNat = i + 1 from rfl, W_new L d x.2 i hi]
/-- The look through all dice. -/
theorem l2_ev (L : Bfs.Nodes Die) (k i : Nat) (x : Die × List Nat) (d : Die) (hL : L.length ≤ 24) (hx : L[k]? = some x) (hi : i < 4) (hwl : x.2.length ≤ 24) (r : List S26 × List ByteArray) :
    ∀ (n j : Nat) (fl : Bool), j + n = L.length →
      (if (fl || (L.drop j).any fun y => decide (y.1 = d)) = true then Ev (fun q => spec_diSearch.l1 q (D L) (W L) k ((i + 1 : Nat) : Int)) r
        else Ev (fun q => spec_diSearch.l1 q (D (L ++ [(d, x.2 ++ [i])])) (W (L ++ [(d, x.2 ++ [i])])) k ((i + 1 : Nat) : Int)) r) →
      Ev (fun q => spec_diSearch.l2 q (D L) (W L) k i fl (D L) (D L).length j d.t d.n d.e d.s d.w d.b) r := by
  intro n
  induction n with
  | zero =>
    intro j fl hj h
    have hkl : k < L.length := (List.getElem?_eq_some_iff.1 hx).1
    rw [List.drop_eq_nil_of_le (by omega)] at h
    simp only [List.any_nil, Bool.or_false] at h
    cases fl with
    | true =>
      rw [if_pos rfl] at h
      refine Ev.step (fun q => ?_) h
      rw [spec_diSearch.l2, if_neg (by rw [D_length]; omega), if_pos rfl, succ_wrap (by omega)]
    | false =>
      rw [if_neg (by decide)] at h
      refine Ev.step (fun q => ?_) h
      exact l2_new L k i x d hL hx hi hwl j (by omega) q
  | succ n ih =>
    intro j fl hj h
    have hlt : j < L.length := by omega
    have hy : L[j]? = some L[j] := List.getElem?_eq_getElem hlt
    rw [List.drop_eq_getElem_cons hlt, List.any_cons] at h
    have step := ih (j + 1) (fl || decide (L[j].1 = d)) (by omega) (by rw [Bool.or_assoc]; exact h)
    refine Ev.step (fun q => ?_) step
    rw [spec_diSearch.l2, if_pos (by rw [D_length]; omega), if_pos (by omega), if_pos (by rw [D_length]; omega), D_at L j _ hy]
    cases fl with
    | true =>
      rw [if_pos rfl, succ_wrap (by omega)]
      simp
    | false =>
      rw [if_neg (by decide), succ_wrap (by omega)]
      rw [beqS, Bool.false_or]

theorem inv_small {d : Die} {L : Bfs.Nodes Die} {k i : Nat} (h : Bfs.Inv mv d L k i) : L.length ≤ 24 := by
  have := Bfs.inv_length mv h (Dice.table.map (fun x => Dice.act d x.1)) (fun w s hd hr => Dice.reached d w s hd hr)
  rwa [List.length_map, Dice.table_length] at this
theorem word_small {d : Die} {L : Bfs.Nodes Die} {k i : Nat} (h : Bfs.Inv mv d L k i) : ∀ (j : Nat) (x : Die × List Nat), L[j]? = some x → x.2.length ≤ j := by
  intro j
  induction j using Nat.strongRecOn with
  | _ j ih =>
    intro x hx
    by_cases h0 : j = 0
    · subst h0
      rw [h.root] at hx
      injection hx with hx
      subst hx
      exact Nat.le_refl _
    · obtain ⟨p, e, y, h1, _, h3, _, _, h6⟩ := h.born j (by omega) x hx
      have := ih p h3 y h1
      rw [h6, List.length_append, List.length_singleton]
      omega

theorem l1_ev (d0 : Die) (L : Bfs.Nodes Die) (k : Nat) (hv : Bfs.Inv mv d0 L k 0) (hk : k < L.length) (r : List S26 × List ByteArray)
    (h : Ev (fun q => spec_diSearch.l0 q (D (Bfs.some_ mv L k 4)) (W (Bfs.some_ mv L k 4)) ((k + 1 : Nat) : Int)) r) :
    ∀ (n i : Nat), i + n = 4 → Ev (fun q => spec_diSearch.l1 q (D (Bfs.some_ mv L k i)) (W (Bfs.some_ mv L k i)) k i) r := by
  intro n
  induction n with
  | zero =>
    intro i hi
    obtain rfl : i = 4 := by omega
    refine Ev.step (fun q => ?_) h
    have := inv_small hv
    rw [spec_diSearch.l1, if_neg (by omega), succ_wrap (by omega)]
  | succ n ih =>
    intro i hi
    obtain ⟨hin, hkl⟩ := Bfs.inv_some mv hv hk i (by omega)
    have hs24 := inv_small hin
    have hx : (Bfs.some_ mv L k i)[k]? = some (Bfs.some_ mv L k i)[k] := List.getElem?_eq_getElem hkl
    have hwl := word_small hin k _ hx
    have step := ih (i + 1) (by omega)
    rw [Bfs.some_] at step
    have h2 : Ev (fun q => spec_diSearch.l2 q (D (Bfs.some_ mv L k i)) (W (Bfs.some_ mv L k i)) k i false (D (Bfs.some_ mv L k i)) (D (Bfs.some_ mv L k i)).length 0
        (roll (Bfs.some_ mv L k i)[k].1 i).t (roll (Bfs.some_ mv L k i)[k].1 i).n (roll (Bfs.some_ mv L k i)[k].1 i).e (roll (Bfs.some_ mv L k i)[k].1 i).s (roll (Bfs.some_ mv L k i)[k].1 i).w (roll (Bfs.some_ mv L k i)[k].1 i).b) r := by
      refine l2_ev (Bfs.some_ mv L k i) k i _ (roll (Bfs.some_ mv L k i)[k].1 i) hs24 hx (by omega) (by omega) r (Bfs.some_ mv L k i).length 0 false (by omega) ?_
      simp only [List.drop_zero, Bool.false_or]
      unfold Bfs.one at step
      rw [hx] at step
      simp only [mv, Dice.mv] at step
      cases hh : Bfs.has (Bfs.some_ mv L k i) (roll (Bfs.some_ mv L k i)[k].1 i) with
      | true =>
        rw [if_pos hh] at step
        rw [if_pos (by exact hh)]
        exact step
      | false =>
        rw [if_neg (by rw [hh]; decide)] at step
        rw [if_neg (by intro e; unfold Bfs.has at hh; rw [hh] at e; cases e)]
        exact step
    refine Ev.step (fun q => ?_) h2
    rw [spec_diSearch.l1, if_pos (by omega), if_pos (by omega), if_pos (by rw [D_length]; omega), D_at _ k _ hx]
    simp only [toS]
    rw [roll_eq _ i (by omega)]
    simp only [Option.bind_some, tup]

theorem l0_ev (d0 : Die) : ∀ (fuel : Nat) (L : Bfs.Nodes Die) (k : Nat), Bfs.Inv mv d0 L k 0 → k ≤ L.length → 24 < fuel + k →
    Ev (fun q => spec_diSearch.l0 q (D L) (W L) k) (D (Bfs.from_ mv fuel L k), W (Bfs.from_ mv fuel L k)) := by
  intro fuel
  induction fuel with
  | zero =>
    intro L k hv hk hf
    have := inv_small hv
    omega
  | succ fuel ih =>
    intro L k hv hk hf
    rw [Bfs.from_]
    by_cases e : k < L.length
    · rw [if_pos e]
      obtain ⟨h1, h2⟩ := Bfs.inv_some mv hv e 4 (Nat.le_refl _)
      have step := l1_ev d0 L k hv e _ (ih (Bfs.some_ mv L k 4) (k + 1) (Bfs.inv_next mv h1) (by omega) (by omega)) 4 0 (by omega)
      refine Ev.step (fun q => ?_) step
      rw [spec_diSearch.l0, if_pos (by rw [D_length]; omega)]
      rfl
    · rw [if_neg e]
      refine Ev.step (fun q => ?_) (Ev.now _)
      rw [spec_diSearch.l0, if_neg (by rw [D_length]; omega)]

theorem search_ev (d : Die) : Ev (fun q => spec_diSearch.f q d.t d.n d.e d.s d.w d.b) (D (Dice.found d), W (Dice.found d)) :=
  l0_ev d 25 [(d, [])] 0 (Bfs.inv_start mv d) (by simp) (by omega)

/-- What a search for a word comes to. -/
def ans (o : Option (List Nat)) : ByteArray × Bool :=
  match o with
  | some w => (text w, true)
  | none => (⟨#[]⟩, false)

theorem wl0_ev (e : Die) (L : Bfs.Nodes Die) (hL : L.length ≤ 24) : ∀ (n j : Nat), j + n = L.length →
    Ev (fun q => spec_diWordTo.l0 q (W L) (D L) (D L).length j e.t e.n e.e e.s e.w e.b) (ans (((L.drop j).find? fun x => decide (x.1 = e)).map (·.2))) := by
  intro n
  induction n with
  | zero =>
    intro j hj
    rw [List.drop_eq_nil_of_le (by omega)]
    refine Ev.step (fun q => ?_) (Ev.now _)
    rw [spec_diWordTo.l0, if_neg (by rw [D_length]; omega)]
    rfl
  | succ n ih =>
    intro j hj
    have hlt : j < L.length := by omega
    have hy : L[j]? = some L[j] := List.getElem?_eq_getElem hlt
    rw [List.drop_eq_getElem_cons hlt, List.find?_cons]
    cases hd : decide (L[j].1 = e) with
    | true =>
      refine Ev.step (fun q => ?_) (Ev.now _)
      rw [spec_diWordTo.l0, if_pos (by rw [D_length]; omega), if_pos (by omega), if_pos (by rw [D_length]; omega), D_at L j _ hy, if_pos ((beqS _ _).trans hd), if_pos (by rw [W_length]; omega), W_at L j _ hy]
      rfl
    | false =>
      refine Ev.step (fun q => ?_) (ih (j + 1) (by omega))
      rw [spec_diWordTo.l0, if_pos (by rw [D_length]; omega), if_pos (by omega), if_pos (by rw [D_length]; omega), D_at L j _ hy, if_neg (by rw [beqS, hd]; decide), succ_wrap (by omega)]

theorem wordTo_ev (d e : Die) : Ev (fun q => spec_diWordTo.f q d.t d.n d.e d.s d.w d.b e.t e.n e.e e.s e.w e.b) (ans (Dice.wordTo d e)) := by
  unfold spec_diWordTo.f
  refine Ev.bind (search_ev d) ?_
  exact wl0_ev e (Dice.found d) (Dice.found_length d) (Dice.found d).length 0 (by omega)

/-! ### The program's -/
theorem iroll_eq (d : Die) (c : Int) : impl_Die_roll.f d.t d.n d.e d.s d.w d.b c = some (tup (roll d (dirOf c))) := by
  unfold impl_Die_roll.f dirOf
  by_cases h1 : c = 110
  · simp [h1, roll]
  · by_cases h2 : c = 101
    · simp [h2, roll]
    · by_cases h3 : c = 115
      · simp [h3, roll]
      · simp [h1, h2, h3, roll]
theorem rolled_at (s : ByteArray) (hs : s.size ≤ 100000) : ∀ (n i k : Nat) (d : Die), i + n = s.size → n < k →
    impl_Die_rolled.l0 k s s.size i d.t d.n d.e d.s d.w d.b = some (tup (rolled d ((dirs s).drop i))) := by
  intro n
  induction n with
  | zero =>
    intro i k d hi hk
    obtain ⟨k, rfl⟩ : ∃ m, k = m + 1 := ⟨k - 1, by omega⟩
    rw [impl_Die_rolled.l0, if_neg (by omega), List.drop_eq_nil_of_le (by rw [Rolled.dirs_length]; omega)]
    rfl
  | succ n ih =>
    intro i k d hi hk
    obtain ⟨k, rfl⟩ : ∃ m, k = m + 1 := ⟨k - 1, by omega⟩
    have hlt : i < (dirs s).length := by rw [Rolled.dirs_length]; omega
    rw [impl_Die_rolled.l0, if_pos (by omega), if_pos (by omega), if_pos (by omega), iroll_eq]
    simp only [Option.bind_some]
    rw [succ_wrap (by omega), List.drop_eq_getElem_cons hlt]
    have hc : (dirs s)[i] = dirOf (bt s i) := by
      have hi2 : i < s.size := by omega
      simp [dirs, bt, hi2]
      rfl
    rw [hc]
    exact ih (i + 1) k (roll d (dirOf (bt s i))) (by omega) (by omega)
theorem rolled_ev (s : ByteArray) (hs : s.size ≤ 100000) (d : Die) : Ev (fun k => impl_Die_rolled.f k d.t d.n d.e d.s d.w d.b s) (tup (rolled d (dirs s))) := by
  refine ⟨s.size + 1, fun k hk => ?_⟩
  unfold impl_Die_rolled.f
  exact rolled_at s hs s.size 0 k d (by omega) (by omega)

theorem table_words : ∀ x ∈ Dice.table, x.2.length ≤ 24 ∧ ∀ k ∈ x.2, k < 4 := by decide +kernel

theorem sl0_ev (T : Bfs.Nodes Die) (h24 : T.length ≤ 24) (hT : ∀ x ∈ T, x.2.length ≤ 24 ∧ ∀ k ∈ x.2, k < 4) (d e : Die) : ∀ (n j : Nat), j + n = T.length →
    Ev (fun q => impl_shortest.l0 q (W T) (W T).length j d.t d.n d.e d.s d.w d.b e.t e.n e.e e.s e.w e.b) (ans (((T.drop j).find? fun x => decide (rolled d x.2 = e)).map (·.2))) := by
  intro n
  induction n with
  | zero =>
    intro j hj
    rw [List.drop_eq_nil_of_le (by omega)]
    refine Ev.step (fun q => ?_) (Ev.now _)
    rw [impl_shortest.l0, if_neg (by rw [W_length]; omega)]
    rfl
  | succ n ih =>
    intro j hj
    have hlt : j < T.length := by omega
    have hy : T[j]? = some T[j] := List.getElem?_eq_getElem hlt
    obtain ⟨hwl, hw4⟩ := hT _ (List.getElem_mem hlt)
    have hro := rolled_ev (text T[j].2) (by rw [text_size]; omega) d
    rw [dirs_text _ hw4] at hro
    rw [List.drop_eq_getElem_cons hlt, List.find?_cons]
    have head : ∀ q, impl_shortest.l0 (q + 1) (W T) (W T).length j d.t d.n d.e d.s d.w d.b e.t e.n e.e e.s e.w e.b =
        (impl_Die_rolled.f q d.t d.n d.e d.s d.w d.b (text T[j].2)).bind fun b => if (b.1 == e.t && (b.2.1 == e.n && (b.2.2.1 == e.e && (b.2.2.2.1 == e.s && (b.2.2.2.2.1 == e.w && (b.2.2.2.2.2 == e.b)))))) = true then some (text T[j].2, true)
          else impl_shortest.l0 q (W T) (W T).length ((j + 1 : Nat) : Int) d.t d.n d.e d.s d.w d.b e.t e.n e.e e.s e.w e.b := fun q => by
      rw [impl_shortest.l0, if_pos (by rw [W_length]; omega), if_pos (by omega), if_pos (by rw [W_length]; omega), W_at _ j _ hy, succ_wrap (by omega)]
    cases hd : decide (rolled d T[j].2 = e) with
    | true =>
      refine Ev.step head (Ev.bind hro ?_)
      refine Ev.congr (fun q => ?_) (Ev.now _)
      simp only [tup]
      rw [if_pos ((beqDie _ _).trans hd)]
      rfl
    | false =>
      refine Ev.step head (Ev.bind hro ?_)
      refine Ev.congr (fun q => ?_) (ih (j + 1) (by omega))
      simp only [tup]
      rw [if_neg (by rw [beqDie, hd]; decide)]

theorem shortest_ev (d e : Die) : Ev (fun q => impl_shortest.f q d.t d.n d.e d.s d.w d.b e.t e.n e.e e.s e.w e.b) (ans (Dice.wordTo d e)) := by
  have h := sl0_ev Dice.table (by rw [Dice.table_length]; omega) table_words d e Dice.table.length 0 (by omega)
  rw [List.drop_zero] at h
  have hw : ShortWords.words = W Dice.table := rfl
  rw [← Dice.short_eq]
  unfold impl_shortest.f impl_shortWords.f Dice.short
  rw [hw]
  generalize Dice.table = T at h ⊢
  exact h

theorem has_at (x : Int) (xs : List Int) (hl : xs.length ≤ 1000) : ∀ (d i k : Nat), i + d = xs.length → d < k → spec_l1Has.l0 k x xs xs.length i = some ((xs.drop i).any (· == x)) := by
  intro d
  induction d with
  | zero =>
    intro i k hi hk
    obtain ⟨k, rfl⟩ : ∃ m, k = m + 1 := ⟨k - 1, by omega⟩
    rw [spec_l1Has.l0, if_neg (by omega), List.drop_eq_nil_of_le (by omega)]
    rfl
  | succ d ih =>
    intro i k hi hk
    obtain ⟨k, rfl⟩ : ∃ m, k = m + 1 := ⟨k - 1, by omega⟩
    have hlt : i < xs.length := by omega
    rw [spec_l1Has.l0, if_pos (by omega), if_pos (by omega), if_pos (by omega)]
    rw [List.drop_eq_getElem_cons hlt, List.any_cons]
    have hr : rd xs i = xs[i] := by simp [rd, hlt]
    rw [hr]
    by_cases h : xs[i] = x
    · rw [if_pos h]
      simp [h]
    · rw [if_neg h, succ_wrap (by omega), ih (i + 1) k (by omega) (by omega)]
      simp [h]
def ask (f : List Int) (i : Nat) : Bool := !(f.take i).any (· == f.getD i 0)
theorem six_at (f : List Int) (hf : f.length = 6) : ∀ (d i k : Nat), i + d = 6 → d + 10 < k → spec_boSix.l0 k f f (f.length : Int) i = some ((List.range' i d).all (ask f)) := by
  intro d
  induction d with
  | zero =>
    intro i k hi hk
    obtain ⟨k, rfl⟩ : ∃ m, k = m + 1 := ⟨k - 1, by omega⟩
    rw [spec_boSix.l0, if_neg (by omega)]
    rfl
  | succ d ih =>
    intro i k hi hk
    obtain ⟨k, rfl⟩ : ∃ m, k = m + 1 := ⟨k - 1, by omega⟩
    have hr : ∀ j : Nat, rd f j = f.getD j 0 := fun j => rfl
    have h1 : spec_l1Has.f k (f.take i) (f.getD i 0) = some ((f.take i).any (· == f.getD i 0)) := by
      have := has_at (f.getD i 0) (f.take i) (by simp; omega) (f.take i).length 0 k (by simp) (by simp; omega)
      rw [List.drop_zero] at this
      exact this
    rw [spec_boSix.l0, if_pos (by omega), if_pos (by omega), if_pos (by omega), if_pos (by omega), hr, Int.toNat_natCast, h1, Option.bind_some, List.range'_succ, List.all_cons]
    cases h3 : (f.take i).any (· == f.getD i 0) with
    | true =>
      rw [if_pos rfl, ask, h3]
      rfl
    | false =>
      rw [if_neg (by decide), succ_wrap (by omega), ih (i + 1) k (by omega) (by omega), ask, h3]
      rfl

def specSix (f : List Int) : Bool := (List.range' 0 6).all (ask f)
theorem nodup_of {f : List Int} (hf : f.length = 6) : specSix f = true ↔ f.Nodup := by
  have e : specSix f = true ↔ ∀ i, i < 6 → ∀ x ∈ f.take i, x ≠ f.getD i 0 := by
    unfold specSix ask
    rw [List.all_eq_true]
    constructor
    · intro h i hi x hx hc
      have := h i (by simp [List.mem_range'_1]; omega)
      simp only [Bool.not_eq_true', List.any_eq_false] at this
      exact this x hx (by simp [hc])
    · intro h i hi
      have hi : i < 6 := by simp [List.mem_range'_1] at hi; omega
      simp only [Bool.not_eq_true', List.any_eq_false]
      intro x hx
      have := h i hi x hx
      simpa using this
  rw [e, List.Nodup, List.pairwise_iff_getElem]
  constructor
  · intro h i j hi hj hij hc
    refine h j (by omega) f[i] (List.mem_take_iff_getElem.2 ⟨i, by omega, rfl⟩) ?_
    rw [hc]
    simp [List.getD, hj]
  · intro h i hi x hx hc
    obtain ⟨j, hj, rfl⟩ := List.mem_take_iff_getElem.1 hx
    refine h j i (by omega) (by omega) (by omega) ?_
    rw [hc]
    simp [List.getD, show i < f.length by omega]

theorem compact_six (s : List Int) (hs : s.length = 6) (hp : s.Pairwise (fun x y => x ≤ y)) : (Lib.compact s).length = 6 ↔ s.Nodup := by
  have e : (Lib.compact s).length = 6 ↔ ∀ j, j < 6 → Lib.keeps s.toArray j = true := by
    unfold Lib.compact Lib.compactUpTo
    rw [hs, List.length_map]
    have := @List.length_filter_eq_length_iff _ (Lib.keeps s.toArray) (List.range 6)
    rw [List.length_range] at this
    rw [this]
    simp [List.mem_range]
  rw [e]
  obtain ⟨b0, b1, b2, b3, b4, b5, rfl⟩ : ∃ b0 b1 b2 b3 b4 b5, s = [b0, b1, b2, b3, b4, b5] := by
    match s, hs with
    | [b0, b1, b2, b3, b4, b5], _ => exact ⟨_, _, _, _, _, _, rfl⟩
  simp at hp
  constructor
  · intro h
    have h1 := h 1 (by omega)
    have h2 := h 2 (by omega)
    have h3 := h 3 (by omega)
    have h4 := h 4 (by omega)
    have h5 := h 5 (by omega)
    simp [Lib.keeps] at h1 h2 h3 h4 h5
    simp
    omega
  · intro h
    simp at h
    intro j hj
    rcases j with _ | _ | _ | _ | _ | _ | j <;> simp [Lib.keeps] <;> omega

theorem six_same (a0 a1 a2 a3 a4 a5 : Int) : specSix [a0, a1, a2, a3, a4, a5] = sixB a0 a1 a2 a3 a4 a5 := by
  have hp := List.mergeSort_perm [a0, a1, a2, a3, a4, a5] (fun x y => decide (x ≤ y))
  have hs : (inOrder [a0, a1, a2, a3, a4, a5]).Pairwise (fun x y => decide (x ≤ y) = true) := List.pairwise_mergeSort (fun a b c => by simp; omega) (fun a b => by simp; omega) _
  rw [Bool.eq_iff_iff, nodup_of rfl, sixB, decide_eq_true_eq, compact_six _ (inOrder_length _) (hs.imp (by simp))]
  exact hp.nodup_iff.symm

theorem six_ok (a0 a1 a2 a3 a4 a5 : Int) (k : Nat) (hk : 17 ≤ k) : spec_boSix.f k a0 a1 a2 a3 a4 a5 = some (sixB a0 a1 a2 a3 a4 a5) := by
  rw [← six_same, spec_boSix.f, spec_diFaces.f, Option.bind_some]
  exact six_at [a0, a1, a2, a3, a4, a5] rfl 6 0 k rfl (by omega)

/-! ### The laws -/
theorem both (a0 a1 a2 a3 a4 a5 b0 b1 b2 b3 b4 b5 : Int) : ∃ (K : Nat) (o : Int) (ok : Bool), (o = 0 ∨ o = 1) ∧ ∀ k, K ≤ k → spec_boOdd.f k a0 a1 a2 a3 a4 a5 b0 b1 b2 b3 b4 b5 = some (o, ok) ∧
    impl_IsEvenDie.f k a0 a1 a2 a3 a4 a5 b0 b1 b2 b3 b4 b5 = some (ok && (o == 0), ok) := by
  obtain ⟨K1, h1⟩ := wordTo_ev ⟨a0, a1, a2, a3, a4, a5⟩ ⟨b0, b1, b2, b3, b4, b5⟩
  obtain ⟨K2, h2⟩ := shortest_ev ⟨a0, a1, a2, a3, a4, a5⟩ ⟨b0, b1, b2, b3, b4, b5⟩
  simp only at h1 h2
  generalize ans (Dice.wordTo ⟨a0, a1, a2, a3, a4, a5⟩ ⟨b0, b1, b2, b3, b4, b5⟩) = r at h1 h2
  obtain ⟨r1, r2⟩ := r
  have hm : ((r1.size : Int) % 2 = 0 ∨ (r1.size : Int) % 2 = 1) := by omega
  by_cases hg : (good a0 a1 a2 a3 a4 a5 && (good b0 b1 b2 b3 b4 b5 && (sixB a0 a1 a2 a3 a4 a5 && sixB b0 b1 b2 b3 b4 b5))) = true
  · simp only [Bool.and_eq_true] at hg
    obtain ⟨g1, g2, g3, g4⟩ := hg
    refine ⟨K1 + K2 + 17, (r1.size : Int) % 2, r2, hm, fun k hk => ?_⟩
    have h1 := h1 k (by omega)
    have h2 := h2 k (by omega)
    constructor
    · simp [spec_boOdd.f, diGood_at _ _ _ _ _ _ k (by omega), six_ok _ _ _ _ _ _ k (by omega), g1, g2, g3, g4, h1]
    · cases r2 with
      | true => simp [impl_IsEvenDie.f, impl_IsDie.f, impl_Die_hasSix.f, g1, g2, g3, g4, h2]
      | false => simp [impl_IsEvenDie.f, impl_IsDie.f, impl_Die_hasSix.f, g1, g2, g3, g4, h2]
  · refine ⟨17, 0, false, .inl rfl, fun k hk => ?_⟩
    simp only [spec_boOdd.f, impl_IsEvenDie.f, impl_IsDie.f, impl_Die_hasSix.f, Option.bind_some, diGood_at _ _ _ _ _ _ k (by omega), six_ok _ _ _ _ _ _ k (by omega)]
    revert hg
    cases good a0 a1 a2 a3 a4 a5 <;> cases good b0 b1 b2 b3 b4 b5 <;> cases sixB a0 a1 a2 a3 a4 a5 <;> cases sixB b0 b1 b2 b3 b4 b5 <;> simp

theorem isEvenDie (a0 a1 a2 a3 a4 a5 b0 b1 b2 b3 b4 b5 : Int) : ∃ k, laws_FnExactIsEvenDie.f k a0 a1 a2 a3 a4 a5 b0 b1 b2 b3 b4 b5 = some true := by
  obtain ⟨K, o, ok, ho, h⟩ := both a0 a1 a2 a3 a4 a5 b0 b1 b2 b3 b4 b5
  obtain ⟨hs, hi⟩ := h K (Nat.le_refl _)
  refine ⟨K, ?_⟩
  simp only [laws_FnExactIsEvenDie.f, laws_toDie.f, spec_IsEvenDie.f, Option.bind_some, hs, hi]
  cases ok <;> simp

end Go.Proofs.Ytdlifinfjjbmkaa.PureEvn
