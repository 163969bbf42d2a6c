/- The plain law of FnDiceRoll: rolls and turns undone. No program in sight. Conditions: none. -/
import Derived.Test.YtfcifidjjbknaaaDoorRollC
namespace Go.Proofs.YtfcifidjjbknaaaDoor.RollL
open Go.RowKit Go.Proofs.YtfcifidjjbknaaaDoorW.PrintWords Go.Proofs.YtfcifidjjbknaaaDoor.IsDie Go.Proofs.YtfcifidjjbknaaaDoor.IsDir Go.Proofs.YtfcifidjjbknaaaDoor.Words Go.Proofs.YtfcifidjjbknaaaDoor.RollC
open Go.Proofs.YtfcifidjjbknaaaDoor.Dice (Die roll rolled plain act table)
open Go.Proofs.YtfcifidjjbknaaaDoor.Dirs (dirs dirs_length dirOf)
open Go.Proofs.YtfcifidjjbknaaaDoor.Turned (turnByte)
set_option linter.unusedVariables false
set_option linter.unusedSimpArgs false

theorem gd_roll (d : Die) (k : Nat) (h : gd d = true) : gd (roll d k) = true := by
  unfold gd good at *
  simp only [List.all_cons, List.all_nil, Bool.and_true, Bool.and_eq_true] at *
  obtain ⟨h0, h1, h2, h3, h4, h5⟩ := h
  match k with
  | 0 => exact ⟨h3, h0, h2, h5, h4, h1⟩
  | 1 => exact ⟨h4, h1, h0, h3, h5, h2⟩
  | 2 => exact ⟨h1, h5, h2, h0, h4, h3⟩
  | k + 3 => exact ⟨h2, h1, h5, h3, h0, h4⟩
theorem gd_rolled : ∀ (w : List Nat) (d : Die), gd d = true → gd (rolled d w) = true
  | [], _, h => h
  | k :: w, d, h => gd_rolled w (roll d k) (gd_roll d k h)
theorem gd_tn : ∀ (n : Nat) (d : Die), gd d = true → gd (tn n d) = true
  | 0, _, h => h
  | n + 1, d, h => gd_tn n _ (by
    unfold gd good at *
    simp only [List.all_cons, List.all_nil, Bool.and_true, Bool.and_eq_true] at *
    obtain ⟨h0, h1, h2, h3, h4, h5⟩ := h
    exact ⟨h0, h4, h1, h2, h3, h5⟩)
/-! ### A word letter by letter -/
theorem letter_dir {s : ByteArray} (hg : goodWord s = true) {i : Nat} (hi : i < s.size) : ∃ c : UInt8, letters.contains c = true ∧ s.extract i (i + 1) = ⟨⟨[c]⟩⟩ ∧ (dirs s).drop i = dirOf c.toNat :: (dirs s).drop (i + 1) := by
  have hl : i < s.data.toList.length := hi
  exact ⟨s.data.toList[i], isW_at (good_small hg).2 i hl, extract_one s i hl, dirs_at s i hl⟩
theorem one_dir {c : UInt8} (h : letters.contains c = true) : isDirB ⟨⟨[c]⟩⟩ = true := by
  have h : c = 110 ∨ c = 101 ∨ c = 115 ∨ c = 119 := by simpa [letters] using h
  rcases h with rfl | rfl | rfl | rfl <;> decide +kernel
theorem step {d x : Die} {s : ByteArray} (hg : goodWord s = true) {i : Nat} (hi : i < s.size) (hx : gd x = true) (h : rolled x ((dirs s).drop i) = rolled d (dirs s)) : rdB x (s.extract i (i + 1)) = true ∧ gd (rdD x (s.extract i (i + 1))) = true ∧ rolled (rdD x (s.extract i (i + 1))) ((dirs s).drop (i + 1)) = rolled d (dirs s) := by
  obtain ⟨c, hc, he, hd⟩ := letter_dir hg hi
  have hb : rdB x (s.extract i (i + 1)) = true := by rw [rdB, hx, he, one_dir hc]; rfl
  have hr : rdD x (s.extract i (i + 1)) = roll x (dirOf c.toNat) := by
    rw [rdD, if_pos hb, he]
    rfl
  refine ⟨hb, by rw [hr]; exact gd_roll x _ hx, ?_⟩
  rw [hr, ← h, hd]
  rfl
/-! ### Back -/
theorem turn_dir (q : Nat) (hq : q = 1 ∨ q = 2) {c : UInt8} (h : letters.contains c = true) : dirOf ((turnByte q c).toNat) = (dirOf c.toNat + q) % 4 ∧ letters.contains (turnByte q c) = true := by
  have h : c = 110 ∨ c = 101 ∨ c = 115 ∨ c = 119 := by simpa [letters] using h
  rcases hq with rfl | rfl <;> rcases h with rfl | rfl | rfl | rfl <;> decide +kernel
theorem isW_turn (q : Nat) (hq : q = 1 ∨ q = 2) : ∀ (l : List UInt8), isW l = true → isW (l.map (turnByte q)) = true ∧ (l.map (turnByte q)).map (fun c => dirOf c.toNat) = l.map (fun c => (dirOf c.toNat + q) % 4)
  | [], _ => ⟨rfl, rfl⟩
  | c :: l, h => by
    unfold isW at h
    rw [List.all_cons, Bool.and_eq_true] at h
    obtain ⟨h1, h2⟩ := isW_turn q hq l h.2
    obtain ⟨h3, h4⟩ := turn_dir q hq h.1
    refine ⟨?_, by rw [List.map_cons, List.map_cons, List.map_cons, h3, h2]⟩
    unfold isW at *
    rw [List.map_cons, List.all_cons, h4, h1]
    rfl
theorem roll_back (d : Die) (k : Nat) (hk : k < 4) : roll (roll d k) ((k + 2) % 4) = d := by
  match k with
  | 0 => rfl
  | 1 => rfl
  | 2 => rfl
  | 3 => rfl
theorem rolled_append (d : Die) (u v : List Nat) : rolled d (u ++ v) = rolled (rolled d u) v := List.foldl_append ..
theorem rolled_back : ∀ (w : List Nat) (d : Die), (∀ k ∈ w, k < 4) → rolled (rolled d w) ((w.map (fun k => (k + 2) % 4)).reverse) = d
  | [], _, _ => rfl
  | k :: w, d, h => by
    rw [List.map_cons, List.reverse_cons, rolled_append]
    have h2 := rolled_back w (roll d k) (fun e he => h e (by simp [he]))
    show roll (rolled (rolled (roll d k) w) _) _ = d
    rw [h2]
    exact roll_back d k (h k (by simp))
abbrev bk (s : ByteArray) : ByteArray := (Back.backSays s).1
theorem back_is {s : ByteArray} (hg : goodWord s = true) : (Back.backSays s).2 = true ∧ goodWord (bk s) = true ∧ dirs (bk s) = ((dirs s).map (fun k => (k + 2) % 4)).reverse ∧ (bk s).size = s.size := by
  obtain ⟨h60, hw⟩ := good_small hg
  obtain ⟨h1, h2⟩ := isW_turn 2 (.inr rfl) _ hw
  unfold bk Back.backSays
  rw [if_pos hg]
  have hsz : (⟨((s.data.toList.map (turnByte 2)).reverse).toArray⟩ : ByteArray).size = s.size := by
    show ((s.data.toList.map (turnByte 2)).reverse).toArray.size = s.data.toList.length
    simp
  refine ⟨rfl, ?_, ?_, hsz⟩
  · unfold goodWord
    rw [hsz, decide_eq_true h60, Bool.true_and]
    show isW ((s.data.toList.map (turnByte 2)).reverse) = true
    unfold isW at *
    rw [List.all_reverse]
    exact h1
  · unfold dirs
    show ((s.data.toList.map (turnByte 2)).reverse).map _ = _
    rw [List.map_reverse, h2, List.map_map]
    rfl
theorem back_home {d : Die} {s : ByteArray} (hd : gd d = true) (hg : goodWord s = true) : rwB (rolled d (dirs s)) (bk s) = true ∧ rwD (rolled d (dirs s)) (bk s) = d := by
  obtain ⟨_, h1, h2, _⟩ := back_is hg
  have hb : rwB (rolled d (dirs s)) (bk s) = true := by rw [rwB, gd_rolled _ _ hd, h1]; rfl
  refine ⟨hb, ?_⟩
  rw [rwD, if_pos hb, h2]
  exact rolled_back _ _ (dirs_small s)
/-! ### Again and again -/
def pn (d : Die) (s : ByteArray) : Nat → Die
  | 0 => d
  | n + 1 => rolled (pn d s n) (dirs s)
theorem gd_pn {d : Die} (s : ByteArray) (hd : gd d = true) : ∀ n, gd (pn d s n) = true
  | 0 => hd
  | n + 1 => gd_rolled _ _ (gd_pn s hd n)
theorem pn_act (d : Die) (s : ByteArray) : ∀ n, pn d s n = act d (Order.it s n)
  | 0 => (Dice.act_plain d).symm
  | n + 1 => by rw [pn, pn_act d s n, Order.it, Dice.rolled_act']
theorem pn_ord (d : Die) (s : ByteArray) : pn d s (Order.ord s) = d := by rw [pn_act, Order.ord_end, Dice.act_plain]
theorem pn_step {d : Die} {s : ByteArray} (hd : gd d = true) (hg : goodWord s = true) (n : Nat) : rwD (pn d s n) s = pn d s (n + 1) := by
  rw [rwD, if_pos (by rw [rwB, gd_pn s hd, hg]; rfl)]
  rfl
/-! ### Turned -/
theorem roll_turn (d : Die) (k : Nat) (hk : k < 4) : roll (tn 1 d) ((k + 1) % 4) = tn 1 (roll d k) := by
  match k with
  | 0 => rfl
  | 1 => rfl
  | 2 => rfl
  | 3 => rfl
theorem rolled_turn : ∀ (w : List Nat) (d : Die), (∀ k ∈ w, k < 4) → rolled (tn 1 d) (w.map (fun k => (k + 1) % 4)) = tn 1 (rolled d w)
  | [], _, _ => rfl
  | k :: w, d, h => by
    show rolled (roll (tn 1 d) ((k + 1) % 4)) _ = tn 1 (rolled (roll d k) w)
    rw [roll_turn d k (h k (by simp))]
    exact rolled_turn w (roll d k) (fun e he => h e (by simp [he]))
theorem turn_word {d : Die} {s : ByteArray} (hd : gd d = true) (hg : goodWord s = true) : (trS s).size = s.size ∧ tdB d 1 = true ∧ rwB (tdD d 1) (trS s) = true ∧ tdB (rolled d (dirs s)) 1 = true ∧ rwD (tdD d 1) (trS s) = tdD (rolled d (dirs s)) 1 := by
  obtain ⟨h60, hw⟩ := good_small hg
  obtain ⟨h1, h2⟩ := isW_turn 1 (.inl rfl) _ hw
  have ht : ∀ x : Die, gd x = true → tdB x 1 = true ∧ tdD x 1 = tn 1 x := fun x hx => by
    have hb : tdB x 1 = true := by rw [tdB, hx]; rfl
    exact ⟨hb, by rw [tdD, if_pos hb]; rfl⟩
  have hsz : (trS s).size = s.size := by
    rw [trS, if_pos hg]
    show (s.data.toList.map (turnByte 1)).toArray.size = s.data.toList.length
    simp
  have hgw : goodWord (trS s) = true := by
    rw [goodWord, hsz, decide_eq_true h60, Bool.true_and, trS, if_pos hg]
    exact h1
  have hds : dirs (trS s) = (dirs s).map (fun k => (k + 1) % 4) := by
    rw [trS, if_pos hg]
    unfold dirs
    show (s.data.toList.map (turnByte 1)).map _ = _
    rw [h2, List.map_map]
    rfl
  have hb : rwB (tdD d 1) (trS s) = true := by rw [rwB, (ht d hd).2, gd_tn 1 d hd, hgw]; rfl
  refine ⟨hsz, (ht d hd).1, hb, (ht _ (gd_rolled _ _ hd)).1, ?_⟩
  rw [rwD, if_pos hb, (ht d hd).2, (ht _ (gd_rolled _ _ hd)).2, hds]
  exact rolled_turn _ _ (dirs_small s)
/-! ### Four rolls, four turns -/
theorem roll4 (d : Die) (k : Nat) (hk : k < 4) : roll (roll (roll (roll d k) k) k) k = d := by
  match k with
  | 0 => rfl
  | 1 => rfl
  | 2 => rfl
  | 3 => rfl
def rn (d : Die) (s : ByteArray) : Nat → Die
  | 0 => d
  | n + 1 => rdD (rn d s n) s
theorem rn_ok {d : Die} {s : ByteArray} (h : rdB d s = true) : (∀ n, rdB (rn d s n) s = true) ∧ rn d s 4 = d := by
  have h2 := h
  rw [rdB, Bool.and_eq_true] at h2
  have hn : ∀ n, gd (rn d s n) = true := fun n => by
    induction n with
    | zero => exact h2.1
    | succ n ih =>
      rw [rn, rdD, if_pos (by rw [rdB, ih, h2.2]; rfl)]
      exact gd_roll _ _ ih
  have hb : ∀ n, rdB (rn d s n) s = true := fun n => by rw [rdB, hn, h2.2]; rfl
  have hs : ∀ n, rn d s (n + 1) = roll (rn d s n) (dirOf (bt s 0)) := fun n => by rw [rn, rdD, if_pos (hb n)]
  refine ⟨hb, ?_⟩
  rw [hs, hs, hs, hs]
  exact roll4 d _ (dirOf_lt _)
theorem tn_back (d : Die) (k : Nat) (hk : k < 4) : tn ((4 - k) % 4) (tn k d) = d := by
  match k with
  | 0 => rfl
  | 1 => rfl
  | 2 => rfl
  | 3 => rfl
theorem turn_table : ∀ k, k < 4 → ∃ x ∈ table, x.1 = tn k plain := by decide +kernel
theorem tn_act (d : Die) (k : Nat) (hk : k < 4) : act d (tn k plain) = tn k d := by
  match k with
  | 0 => rfl
  | 1 => rfl
  | 2 => rfl
  | 3 => rfl
theorem turn_found (d : Die) (k : Nat) (hk : k < 4) : (Dice.wordTo d (tn k d)).isSome = true := by
  rw [← Dice.short_eq]
  obtain ⟨x, hx, he⟩ := turn_table k hk
  unfold Dice.short
  rw [Option.isSome_map, List.find?_isSome]
  refine ⟨x, hx, decide_eq_true ?_⟩
  have h := Dice.table_done.leads x.1 x.2 hx
  rw [Dice.run_mv, Option.some.injEq] at h
  rw [Dice.rolled_act, h, he, tn_act d k hk]
theorem turn_home {f : Die} {k : Int} (h : tdB f k = true) : ∃ m : Int, Int.tmod (wrap64 (4 - k)) 4 = m ∧ tdB (tdD f k) m = true ∧ tdD (tdD f k) m = f ∧ itB f (tdD f k) = true ∧ (Dice.wordTo f (tdD f k)).isSome = true := by
  have h2 := h
  rw [tdB, Bool.and_eq_true, decide_eq_true_eq] at h2
  obtain ⟨hf, k0, k3⟩ := h2
  obtain ⟨n, rfl⟩ := Int.eq_ofNat_of_zero_le k0
  have hn : n < 4 := by omega
  have hd : tdD f (n : Int) = tn n f := by rw [tdD, if_pos h]; rfl
  have hm : Int.tmod (wrap64 (4 - (n : Int))) 4 = (((4 - n) % 4 : Nat) : Int) := by
    rcases (show n = 0 ∨ n = 1 ∨ n = 2 ∨ n = 3 by omega) with rfl | rfl | rfl | rfl <;> decide +kernel
  refine ⟨_, hm, ?_⟩
  rw [hd]
  have hg := gd_tn n f hf
  have hb : tdB (tn n f) (((4 - n) % 4 : Nat) : Int) = true := by
    rw [tdB, hg, Bool.true_and, decide_eq_true_eq]
    omega
  refine ⟨hb, ?_, by rw [itB, hf, hg]; rfl, turn_found f n hn⟩
  rw [tdD, if_pos hb, Int.toNat_natCast]
  exact tn_back f n hn
end Go.Proofs.YtfcifidjjbknaaaDoor.RollL
