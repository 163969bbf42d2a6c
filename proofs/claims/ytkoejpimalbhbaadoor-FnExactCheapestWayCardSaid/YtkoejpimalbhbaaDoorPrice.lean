/- Plain law: least prices in a graph: what comes of making prices less until nothing changes, and of going on from the cheapest one. No program in sight. -/
namespace Go.Proofs.YtkoejpimalbhbaaDoor.Price
set_option linter.unusedVariables false

abbrev P := Int × Int
def lt (p q : P) : Prop := p.1 < q.1 ∨ (p.1 = q.1 ∧ p.2 < q.2)
def le (p q : P) : Prop := p.1 < q.1 ∨ (p.1 = q.1 ∧ p.2 ≤ q.2)
instance (p q : P) : Decidable (lt p q) := inferInstanceAs (Decidable (_ ∨ _))
theorem not_lt {p q : P} : ¬ lt p q ↔ le q p := by unfold lt le; omega
theorem le_refl (p : P) : le p p := by unfold le; omega
theorem le_trans {p q r : P} (h : le p q) (k : le q r) : le p r := by unfold le at *; omega
theorem le_of_lt {p q : P} (h : lt p q) : le p q := by unfold lt at h; unfold le; omega
theorem le_lt {p q r : P} (h : le p q) (k : lt q r) : lt p r := by unfold lt le at *; omega
theorem antisymm {p q : P} (h : le p q) (k : le q p) : p = q := by
 unfold le at h k
 obtain ⟨a, b⟩ := p
 obtain ⟨c, d⟩ := q
 simp only at h k
 have h1 : a = c := by omega
 have h2 : b = d := by omega
 rw [h1, h2]
def edge (top : Nat → Int) (p : P) (j : Nat) : P := (p.1 + top j, p.2 + 1)
theorem edge_le {top : Nat → Int} {p q : P} (j : Nat) (h : le p q) : le (edge top p j) (edge top q j) := by unfold le edge at *; simp only; omega
structure Graph (n : Nat) (nx : Nat → Nat → Option Nat) (top : Nat → Int) : Prop where
 lt : ∀ k d j, k < n → d < 4 → nx k d = some j → j < n
 top : ∀ j, j < n → 0 ≤ top j ∧ top j ≤ 9
 pos : 0 < n
 small : n ≤ 900
inductive Path (nx : Nat → Nat → Option Nat) (top : Nat → Int) : Nat → Nat → P → Prop
 | nil (a : Nat) : Path nx top a a (0, 0)
 | cons (a d b c : Nat) (p : P) : d < 4 → nx a d = some b → Path nx top b c p → Path nx top a c (edge top p b)
def add (p q : P) : P := (p.1 + q.1, p.2 + q.2)
theorem Path.trans {nx : Nat → Nat → Option Nat} {top : Nat → Int} {a b c : Nat} {p q : P} (h : Path nx top a b p) (k : Path nx top b c q) : Path nx top a c (add p q) := by
 induction h with
 | nil a =>
  have : add (0, 0) q = q := by unfold add; simp
  rw [this]
  exact k
 | cons a d b' c' p' hd hn _ ih =>
  have : add (edge top p' b') q = edge top (add p' q) b' := by unfold add edge; simp only [Prod.mk.injEq]; omega
  rw [this]
  exact Path.cons a d b' _ _ hd hn (ih k)
theorem Path.one {nx : Nat → Nat → Option Nat} (top : Nat → Int) {a d b : Nat} (hd : d < 4) (hn : nx a d = some b) : Path nx top a b (edge top (0, 0) b) := Path.cons a d b b _ hd hn (Path.nil b)
theorem add_edge (top : Nat → Int) (p : P) (b : Nat) : add p (edge top (0, 0) b) = edge top p b := by unfold add edge; simp
def put {α : Type} (g : Nat → α) (a : Nat) (v : α) : Nat → α := fun k => if k = a then v else g k
theorem put_self {α : Type} (g : Nat → α) (a : Nat) (v : α) : put g a v a = v := if_pos rfl
theorem put_ne {α : Type} {g : Nat → α} {a k : Nat} {v : α} (h : k ≠ a) : put g a v k = g k := if_neg h
def tot (f : Nat → Nat) : Nat → Nat
 | 0 => 0
 | n + 1 => tot f n + f n
theorem tot_congr {f g : Nat → Nat} : ∀ {n : Nat}, (∀ k, k < n → f k = g k) → tot f n = tot g n
 | 0, _ => rfl
 | n + 1, h => by rw [tot, tot, tot_congr (n := n) (fun k hk => h k (by omega)), h n (by omega)]
theorem tot_put {f g : Nat → Nat} {a : Nat} (hs : ∀ k, k ≠ a → g k = f k) : ∀ {n : Nat}, a < n → tot g n + f a = tot f n + g a
 | 0, h => by omega
 | n + 1, h => by
  unfold tot
  by_cases e : n = a
  ·subst e
   rw [tot_congr (f := g) (g := f) (fun k hk => hs k (by omega))]
   omega
  ·have := tot_put hs (n := n) (by omega)
   rw [hs n e]
   omega
theorem tot_le {f : Nat → Nat} {c : Nat} : ∀ {n : Nat}, (∀ k, k < n → f k ≤ c) → tot f n ≤ n * c
 | 0, _ => by simp [tot]
 | n + 1, h => by
  have h1 := tot_le (f := f) (c := c) (n := n) (fun k hk => h k (by omega))
  have h2 := h n (by omega)
  rw [tot, Nat.succ_mul]
  omega
def dear : Int := 1099511627776
section
variable {n : Nat} {nx : Nat → Nat → Option Nat} {top : Nat → Int} (T : Nat → Bool) (hG : Graph n nx top)
inductive Sim (n : Nat) (nx : Nat → Nat → Option Nat) (top : Nat → Int) (T : Nat → Bool) (g : Nat → P) : List Nat → P → Prop
 | last (k : Nat) : k < n → T k = true → le (g k) (0, 0) → Sim n nx top T g [k] (0, 0)
 | more (a d b : Nat) (l : List Nat) (p : P) : a < n → d < 4 → nx a d = some b → Sim n nx top T g (b :: l) p → le (g a) (edge top p b) → a ∉ b :: l → Sim n nx top T g (a :: b :: l) (edge top p b)
variable {T}
theorem sim_mono {g g' : Nat → P} (h : ∀ k, le (g' k) (g k)) {l : List Nat} {p : P} (hs : Sim n nx top T g l p) : Sim n nx top T g' l p := by
 induction hs with
 | last k hk ht hl => exact .last k hk ht (le_trans (h k) hl)
 | more a d b l p ha hd hn _ hl hm ih => exact .more a d b l p ha hd hn ih (le_trans (h a) hl) hm
theorem nodup_len : ∀ (n : Nat) (l : List Nat), l.Nodup → (∀ x ∈ l, x < n) → l.length ≤ n := by
 intro n
 induction n with
 | zero =>
  intro l _ h
  cases l with
  | nil => simp
  | cons a l => exact absurd (h a (by simp)) (by omega)
 | succ n ih =>
  intro l hn h
  have h1 := ih (l.erase n) (hn.erase n) (fun x hx => by
   have h2 := h x (List.mem_of_mem_erase hx)
   have h3 : x ≠ n := fun e => by subst e; exact (List.Nodup.not_mem_erase hn) hx
   omega)
  have h4 : l.length ≤ (l.erase n).length + 1 := by
   rw [List.length_erase]
   split <;> omega
  omega
include hG
theorem sim_nums {g : Nat → P} {l : List Nat} {p : P} (hs : Sim n nx top T g l p) : p.2 + 1 = (l.length : Int) ∧ l.Nodup ∧ (∀ x ∈ l, x < n) ∧ 0 ≤ p.1 ∧ p.1 ≤ 9 * p.2 ∧ 0 ≤ p.2 := by
 induction hs with
 | last k hk ht hl => exact ⟨by simp, by simp, by simpa using hk, by simp, by simp, by simp⟩
 | more a d b l p ha hd hn _ hl hm ih =>
  obtain ⟨h1, h2, h3, h4, h5, h6⟩ := ih
  have hb : b < n := h3 b (by simp)
  obtain ⟨t0, t9⟩ := hG.top b hb
  refine ⟨?_, List.nodup_cons.2 ⟨hm, h2⟩, ?_, ?_, ?_, ?_⟩
  ·simp only [edge, List.length_cons] at h1 ⊢
   omega
  ·intro x hx
   rcases List.mem_cons.1 hx with rfl | hx
   ·exact ha
   ·exact h3 x hx
  ·simp only [edge]; omega
  ·simp only [edge]; omega
  ·simp only [edge]; omega
theorem sim_small {g : Nat → P} {l : List Nat} {p : P} (hs : Sim n nx top T g l p) : (0 ≤ p.1 ∧ p.1 ≤ 8100) ∧ 0 ≤ p.2 ∧ p.2 < 900 := by
 obtain ⟨h1, h2, h3, h4, h5, h6⟩ := sim_nums hG hs
 have := nodup_len n l h2 h3
 have := hG.small
 omega
theorem sim_le {g : Nat → P} {l : List Nat} {p : P} (hs : Sim n nx top T g l p) : ∀ x ∈ l, le (g x) p := by
 induction hs with
 | last k hk ht hl =>
  intro x hx
  have : x = k := by simpa using hx
  subst this
  exact hl
 | more a d b l p ha hd hn hs hl hm ih =>
  intro x hx
  rcases List.mem_cons.1 hx with rfl | hx
  ·exact hl
  ·refine le_trans (ih x hx) ?_
   have hb := hG.lt a d b ha hd hn
   have := (hG.top b hb).1
   unfold le edge
   simp only
   omega
omit hG in
theorem sim_path {g : Nat → P} {l : List Nat} {p : P} (hs : Sim n nx top T g l p) : ∀ a l', l = a :: l' → ∃ c, c < n ∧ T c = true ∧ Path nx top a c p := by
 induction hs with
 | last k hk ht hl =>
  intro a l' h
  injection h with h1 h2
  subst h1
  exact ⟨k, hk, ht, .nil k⟩
 | more a d b l p ha hd hn hs hl hm ih =>
  intro a' l' h
  injection h with h1 h2
  subst h1
  obtain ⟨c, h1, h2, h3⟩ := ih b l rfl
  exact ⟨c, h1, h2, .cons a d b c p hd hn h3⟩
omit hG in
variable (n nx top T) in
structure Inv (g : Nat → P) : Prop where
 fin : ∀ k, k < n → (g k).1 < dear → ∃ l, Sim n nx top T g (k :: l) (g k)
 inf : ∀ k, k < n → ¬ (g k).1 < dear → g k = (dear, 0)
 tgt : ∀ k, k < n → T k = true → g k = (0, 0)
omit hG in
theorem inv_start : Inv n nx top T (fun k => if T k = true then (0, 0) else (dear, 0)) where
 fin := fun k hk h => by
  by_cases ht : T k = true
  ·simp only [ht, if_true] at h ⊢
   exact ⟨[], .last k hk ht (by simp only [ht, if_true]; exact le_refl _)⟩
  ·simp only [ht] at h
   exact absurd h (by simp)
 inf := fun k hk h => by
  by_cases ht : T k = true
  ·simp only [ht, if_true] at h
   exact absurd (by decide) h
  ·simp only [ht]
   rfl
 tgt := fun k hk h => by simp only [h, if_true]
theorem inv_nums {g : Nat → P} (hI : Inv n nx top T g) {k : Nat} (hk : k < n) : (0 ≤ (g k).1 ∧ (g k).1 ≤ dear) ∧ (0 ≤ (g k).2 ∧ (g k).2 < 900) ∧ ((g k).1 < dear → (g k).1 ≤ 8100) := by
 by_cases h : (g k).1 < dear
 ·obtain ⟨l, hs⟩ := hI.fin k hk h
  have := sim_small hG hs
  unfold dear at h ⊢
  omega
 ·rw [hI.inf k hk h]
  simp only [dear]
  omega
theorem inv_put {g : Nat → P} (hI : Inv n nx top T g) {a d j : Nat} (ha : a < n) (hd : d < 4) (hn : nx a d = some j) (hj : (g j).1 < dear) (hl : lt (edge top (g j) j) (g a)) : Inv n nx top T (put g a (edge top (g j) j)) := by
 have hjn := hG.lt a d j ha hd hn
 obtain ⟨l, hs⟩ := hI.fin j hjn hj
 have hsm := sim_small hG hs
 have htj := hG.top j hjn
 have hna : a ∉ j :: l := fun hm => by
  have h1 := sim_le hG hs a hm
  have h2 : le (g j) (edge top (g j) j) := by unfold le edge; simp only; omega
  have h3 := le_lt (le_trans h1 h2) hl
  unfold lt at h3
  omega
 have hmono : ∀ k, le (put g a (edge top (g j) j) k) (g k) := fun k => by
  by_cases e : k = a
  ·subst e
   rw [put_self]
   exact le_of_lt hl
  ·rw [put_ne e]
   exact le_refl _
 refine ⟨fun k hk h => ?_, fun k hk h => ?_, fun k hk h => ?_⟩
 ·by_cases e : k = a
  ·subst e
   rw [put_self]
   exact ⟨j :: l, .more k d j l (g j) hk hd hn (sim_mono hmono hs) (by rw [put_self]; exact le_refl _) hna⟩
  ·rw [put_ne e] at h ⊢
   obtain ⟨l', hs'⟩ := hI.fin k hk h
   exact ⟨l', sim_mono hmono hs'⟩
 ·by_cases e : k = a
  ·subst e
   rw [put_self] at h
   exfalso
   apply h
   unfold edge dear
   simp only
   omega
  ·rw [put_ne e] at h ⊢
   exact hI.inf k hk h
 ·by_cases e : k = a
  ·subst e
   have := hI.tgt k hk h
   rw [this] at hl
   unfold lt edge at hl
   simp only at hl
   omega
  ·rw [put_ne e]
   exact hI.tgt k hk h
def rank (p : P) : Nat := p.1.toNat * 1000 + p.2.toNat
omit hG in
theorem rank_lt {p q : P} (h : lt p q) (hp : 0 ≤ p.1 ∧ 0 ≤ p.2 ∧ p.2 < 1000) (hq : 0 ≤ q.1 ∧ 0 ≤ q.2) : rank p < rank q := by
 unfold lt at h
 unfold rank
 omega
theorem tot_less {g : Nat → P} (hI : Inv n nx top T g) {a d j : Nat} (ha : a < n) (hd : d < 4) (hn : nx a d = some j) (hj : (g j).1 < dear) (hl : lt (edge top (g j) j) (g a)) :
  tot (fun k => rank (put g a (edge top (g j) j) k)) n < tot (fun k => rank (g k)) n := by
 have hjn := hG.lt a d j ha hd hn
 have n1 := inv_nums hG hI hjn
 have n2 := inv_nums hG hI ha
 have htj := hG.top j hjn
 have hr := rank_lt hl (by unfold edge; simp only; omega) (by omega)
 have := tot_put (f := fun k => rank (g k)) (g := fun k => rank (put g a (edge top (g j) j) k)) (a := a) (fun k hk => by simp only [put_ne hk]) ha
 simp only [put_self] at this
 omega
def Fix (nx : Nat → Nat → Option Nat) (top : Nat → Int) (g : Nat → P) (a d : Nat) : Prop := ∀ j, nx a d = some j → (g j).1 < dear → ¬ lt (edge top (g j) j) (g a)
theorem least {g : Nat → P} (hI : Inv n nx top T g) (hF : ∀ a, a < n → ∀ d, d < 4 → Fix nx top g a d) {a c : Nat} {p : P} (hp : Path nx top a c p) : a < n → T c = true → (g a).1 < dear ∧ le (g a) p := by
 induction hp with
 | nil a =>
  intro ha ht
  rw [hI.tgt a ha ht]
  exact ⟨by decide, le_refl _⟩
 | cons a d b c p hd hn _ ih =>
  intro ha ht
  have hb := hG.lt a d b ha hd hn
  obtain ⟨h1, h2⟩ := ih hb ht
  have h3 := not_lt.1 (hF a ha d hd b hn h1)
  have n1 := (inv_nums hG hI hb).2.2 h1
  have n2 := hG.top b hb
  refine ⟨?_, le_trans h3 (edge_le b h2)⟩
  unfold le edge at h3
  simp only at h3
  unfold dear
  omega
omit hG in
theorem sound {g : Nat → P} (hI : Inv n nx top T g) {a : Nat} (ha : a < n) (h : (g a).1 < dear) : ∃ c, c < n ∧ T c = true ∧ Path nx top a c (g a) := by
 obtain ⟨l, hs⟩ := hI.fin a ha h
 exact sim_path hs a l rfl
end
section
variable {n : Nat} {nx : Nat → Nat → Option Nat} {top : Nat → Int} (hG : Graph n nx top)
def left (dn : Nat → Bool) (n : Nat) : Nat := tot (fun k => if dn k = true then 0 else 1) n
variable (n nx top) in
structure Dij (h : Nat → P) (dn : Nat → Bool) : Prop where
 way : ∀ k, k < n → 0 ≤ (h k).1 → Path nx top 0 k (h k)
 num : ∀ k, k < n → 0 ≤ (h k).1 → 0 ≤ (h k).2 ∧ (h k).1 ≤ 9 * (h k).2 ∧ (h k).2 + (left dn n : Int) ≤ n
 inf : ∀ k, k < n → (h k).1 < 0 → h k = (-1, 0)
 root : 0 ≤ (h 0).1 ∧ le (h 0) (0, 0)
 fin : ∀ k, k < n → dn k = true → 0 ≤ (h k).1
 mono : ∀ a b, a < n → b < n → dn a = true → dn b = false → 0 ≤ (h b).1 → le (h a) (h b)
 tight : ∀ a, a < n → dn a = true → ∀ d, d < 4 → ∀ b, nx a d = some b → 0 ≤ (h b).1 ∧ le (h b) (edge top (h a) b)
variable (n nx top) in
structure Mid (h : Nat → P) (dn : Nat → Bool) (a i : Nat) : Prop where
 an : a < n
 ad : dn a = true
 way : ∀ k, k < n → 0 ≤ (h k).1 → Path nx top 0 k (h k)
 num : ∀ k, k < n → 0 ≤ (h k).1 → 0 ≤ (h k).2 ∧ (h k).1 ≤ 9 * (h k).2 ∧ (h k).2 + (left dn n : Int) ≤ n
 numa : (h a).2 + (left dn n : Int) + 1 ≤ n
 inf : ∀ k, k < n → (h k).1 < 0 → h k = (-1, 0)
 root : 0 ≤ (h 0).1 ∧ le (h 0) (0, 0)
 fin : ∀ k, k < n → dn k = true → 0 ≤ (h k).1
 mono : ∀ x b, x < n → b < n → dn x = true → dn b = false → 0 ≤ (h b).1 → le (h x) (h b)
 last : ∀ x, x < n → dn x = true → le (h x) (h a)
 tight : ∀ x, x < n → dn x = true → ∀ d, d < 4 → (x = a → d < i) → ∀ b, nx x d = some b → 0 ≤ (h b).1 ∧ le (h b) (edge top (h x) b)
theorem left_put {dn : Nat → Bool} {a : Nat} (ha : a < n) (h : dn a = false) : left (put dn a true) n + 1 = left dn n := by
 have := tot_put (f := fun k => if dn k = true then 0 else 1) (g := fun k => if put dn a true k = true then 0 else 1) (a := a) (fun k hk => by simp only [put_ne hk]) ha
 simp only [put_self, h] at this
 unfold left
 simp at this
 omega
theorem dij_pick {h : Nat → P} {dn : Nat → Bool} (hD : Dij n nx top h dn) {a : Nat} (ha : a < n) (hd : dn a = false) (hf : 0 ≤ (h a).1) (hm : ∀ b, b < n → dn b = false → 0 ≤ (h b).1 → le (h a) (h b)) : Mid n nx top h (put dn a true) a 0 where
 an := ha
 ad := put_self _ _ _
 way := hD.way
 num := fun k hk h0 => by
  have := hD.num k hk h0
  have := left_put ha hd
  omega
 numa := by
  have := hD.num a ha hf
  have := left_put ha hd
  omega
 inf := hD.inf
 root := hD.root
 fin := fun k hk h1 => by
  by_cases e : k = a
  ·subst e; exact hf
  ·rw [put_ne e] at h1; exact hD.fin k hk h1
 mono := fun x b hx hb h1 h2 h3 => by
  have hb' : b ≠ a := fun e => by subst e; rw [put_self] at h2; cases h2
  rw [put_ne hb'] at h2
  by_cases e : x = a
  ·subst e; exact hm b hb h2 h3
  ·rw [put_ne e] at h1; exact hD.mono x b hx hb h1 h2 h3
 last := fun x hx h1 => by
  by_cases e : x = a
  ·subst e; exact le_refl _
  ·rw [put_ne e] at h1; exact hD.mono x a hx ha h1 hd hf
 tight := fun x hx h1 d hd4 hi b hn => by
  by_cases e : x = a
  ·exact absurd (hi e) (by omega)
  ·rw [put_ne e] at h1; exact hD.tight x hx h1 d hd4 b hn
theorem mid_dij {h : Nat → P} {dn : Nat → Bool} {a : Nat} (hM : Mid n nx top h dn a 4) : Dij n nx top h dn where
 way := hM.way
 num := hM.num
 inf := hM.inf
 root := hM.root
 fin := hM.fin
 mono := hM.mono
 tight := fun x hx h1 d hd b hn => hM.tight x hx h1 d hd (fun _ => hd) b hn
theorem mid_none {h : Nat → P} {dn : Nat → Bool} {a i : Nat} (hM : Mid n nx top h dn a i) (hn : nx a i = none) : Mid n nx top h dn a (i + 1) := by
 refine { hM with tight := ?_ }
 intro x hx h1 d hd hi b hb
 by_cases e : x = a ∧ d = i
 ·obtain ⟨rfl, rfl⟩ := e
  rw [hn] at hb
  cases hb
 ·exact hM.tight x hx h1 d hd (fun e' => by have := hi e'; have : d ≠ i := fun e'' => e ⟨e', e''⟩; omega) b hb
include hG
theorem mid_keep {h : Nat → P} {dn : Nat → Bool} {a i j : Nat} (hM : Mid n nx top h dn a i) (hi4 : i < 4) (hn : nx a i = some j) (hk : dn j = true ∨ (0 ≤ (h j).1 ∧ ¬ lt (edge top (h a) j) (h j))) : Mid n nx top h dn a (i + 1) := by
 refine { hM with tight := ?_ }
 intro x hx h1 d hd hi b hb
 by_cases e : x = a ∧ d = i
 ·obtain ⟨rfl, rfl⟩ := e
  rw [hn] at hb
  injection hb with hb
  subst hb
  have hj := hG.lt x d j hx hd hn
  rcases hk with hk | ⟨h0, hl⟩
  ·refine ⟨hM.fin j hj hk, le_trans (hM.last j hj hk) ?_⟩
   have := hG.top j hj
   unfold le edge
   simp only
   omega
  ·exact ⟨h0, not_lt.1 hl⟩
 ·exact hM.tight x hx h1 d hd (fun e' => by have := hi e'; have : d ≠ i := fun e'' => e ⟨e', e''⟩; omega) b hb
theorem mid_less {h : Nat → P} {dn : Nat → Bool} {a i j : Nat} (hM : Mid n nx top h dn a i) (hi4 : i < 4) (hn : nx a i = some j) (hk : dn j = false) (hl : (h j).1 < 0 ∨ lt (edge top (h a) j) (h j)) : Mid n nx top (put h j (edge top (h a) j)) dn a (i + 1) := by
 have hj := hG.lt a i j hM.an hi4 hn
 have haj : a ≠ j := fun e => by subst e; rw [hM.ad] at hk; cases hk
 have ha0 := hM.fin a hM.an hM.ad
 have htj := hG.top j hj
 have hna := hM.num a hM.an ha0
 have hnb := hM.numa
 have hle : le (h a) (edge top (h a) j) := by unfold le edge; simp only; omega
 have hdj : ∀ x, dn x = true → x ≠ j := fun x hx e => by subst e; rw [hk] at hx; cases hx
 have h0 : 0 ≤ (edge top (h a) j).1 := by unfold edge; simp only; omega
 refine ⟨hM.an, hM.ad, fun k hk1 h1 => ?_, fun k hk1 h1 => ?_, by rw [put_ne haj]; exact hnb, fun k hk1 h1 => ?_, ?_, fun k hk1 h1 => ?_, fun x b hx hb h1 h2 h3 => ?_, fun x hx h1 => ?_, fun x hx h1 d hd hi b hb => ?_⟩
 ·by_cases e : k = j
  ·subst e
   rw [put_self, ← add_edge top (h a) k]
   exact (hM.way a hM.an ha0).trans (Path.one top hi4 hn)
  ·rw [put_ne e] at h1 ⊢
   exact hM.way k hk1 h1
 ·by_cases e : k = j
  ·subst e
   rw [put_self]
   unfold edge
   simp only
   omega
  ·rw [put_ne e] at h1 ⊢
   exact hM.num k hk1 h1
 ·by_cases e : k = j
  ·subst e
   rw [put_self] at h1
   omega
  ·rw [put_ne e] at h1 ⊢
   exact hM.inf k hk1 h1
 ·by_cases e : 0 = j
  ·subst e
   rw [put_self]
   refine ⟨h0, ?_⟩
   rcases hl with hl | hl
   ·have := hM.root.1
    omega
   ·exact le_trans (le_of_lt hl) hM.root.2
  ·rw [put_ne e]
   exact hM.root
 ·rw [put_ne (hdj k h1)]
  exact hM.fin k hk1 h1
 ·rw [put_ne (hdj x h1)]
  by_cases e : b = j
  ·subst e
   rw [put_self]
   exact le_trans (hM.last x hx h1) hle
  ·rw [put_ne e] at h3 ⊢
   exact hM.mono x b hx hb h1 h2 h3
 ·rw [put_ne (hdj x h1), put_ne haj]
  exact hM.last x hx h1
 ·rw [put_ne (hdj x h1)]
  by_cases e : x = a ∧ d = i
  ·obtain ⟨rfl, rfl⟩ := e
   rw [hn] at hb
   injection hb with hb
   subst hb
   rw [put_self]
   exact ⟨h0, le_refl _⟩
  ·obtain ⟨t1, t2⟩ := hM.tight x hx h1 d hd (fun e' => by have := hi e'; have : d ≠ i := fun e'' => e ⟨e', e''⟩; omega) b hb
   by_cases e' : b = j
   ·subst e'
    rw [put_self]
    refine ⟨h0, ?_⟩
    rcases hl with hl | hl
    ·omega
    ·exact le_trans (le_of_lt hl) t2
   ·rw [put_ne e']
    exact ⟨t1, t2⟩
omit hG in
theorem dij_start (hn : 0 < n) : Dij n nx top (fun k => if k = 0 then (0, 0) else (-1, 0)) (fun _ => false) where
 way := fun k hk h => by
  by_cases e : k = 0
  ·subst e
   simp only [if_true]
   exact .nil 0
  ·simp only [e, if_false] at h
   omega
 num := fun k hk h => by
  by_cases e : k = 0
  ·subst e
   have : left (fun _ => false) n ≤ n * 1 := tot_le (fun k _ => by simp)
   simp only [if_true]
   omega
  ·simp only [e, if_false] at h
   omega
 inf := fun k hk h => by
  by_cases e : k = 0
  ·subst e
   simp only [if_true] at h
   omega
  ·simp only [e, if_false]
 root := by simp [le]
 fin := fun k hk h => by cases h
 mono := fun a b ha hb h => by cases h
 tight := fun a ha h => by cases h
theorem dij_least {h : Nat → P} {dn : Nat → Bool} (hD : Dij n nx top h dn) (hE : ∀ k, k < n → 0 ≤ (h k).1 → dn k = true) {a c : Nat} {p : P} (hp : Path nx top a c p) : a < n → 0 ≤ (h a).1 → 0 ≤ (h c).1 ∧ le (h c) (add (h a) p) := by
 induction hp with
 | nil a =>
  intro _ h0
  refine ⟨h0, ?_⟩
  unfold le add
  simp
 | cons a d b c p hd hn _ ih =>
  intro ha h0
  have hb := hG.lt a d b ha hd hn
  obtain ⟨h1, h2⟩ := hD.tight a ha (hE a ha h0) d hd b hn
  obtain ⟨h3, h4⟩ := ih hb h1
  refine ⟨h3, le_trans h4 ?_⟩
  unfold le add edge at *
  simp only at h2 ⊢
  omega
theorem dij_end {h : Nat → P} {dn : Nat → Bool} (hD : Dij n nx top h dn) (hE : ∀ k, k < n → 0 ≤ (h k).1 → dn k = true) {c : Nat} {p : P} (hp : Path nx top 0 c p) : 0 ≤ (h c).1 ∧ le (h c) p := by
 obtain ⟨h1, h2⟩ := dij_least hG hD hE hp hG.pos hD.root.1
 refine ⟨h1, le_trans h2 ?_⟩
 have := hD.root
 unfold le add at *
 simp only
 simp only at this
 omega
end
def pathB (nx : Nat → Nat → Option Nat) (top : Nat → Int) (k : Nat) : Nat → Nat → Int → Bool
 | 0, a, c => decide (a = k) && decide (c = 0)
 | r + 1, a, c => (List.range 4).any fun d => match nx a d with
  | none => false
  | some b => pathB nx top k r b (c - top b)
theorem pathB_iff {nx : Nat → Nat → Option Nat} {top : Nat → Int} {k : Nat} : ∀ (r a : Nat) (c : Int), pathB nx top k r a c = true ↔ Path nx top a k (c, (r : Int))
 | 0, a, c => by
  unfold pathB
  rw [Bool.and_eq_true, decide_eq_true_eq, decide_eq_true_eq]
  constructor
  ·rintro ⟨rfl, rfl⟩
   exact .nil a
  ·intro h
   generalize hp : (c, ((0 : Nat) : Int)) = p at h
   cases h with
   | nil a => injection hp with h1 h2; exact ⟨rfl, h1⟩
   | cons a d b c' p hd hn hq =>
    exfalso
    unfold edge at hp
    injection hp with h1 h2
    have : ∀ {a c : Nat} {p : P}, Path nx top a c p → 0 ≤ p.2 := fun h => by
     induction h with
     | nil a => exact Int.le_refl _
     | cons a d b c p _ _ _ ih => unfold edge; simp only; omega
    have := this hq
    omega
 | r + 1, a, c => by
  unfold pathB
  rw [List.any_eq_true]
  constructor
  ·rintro ⟨d, hd, h⟩
   cases hn : nx a d with
   | none => rw [hn] at h; cases h
   | some b =>
    rw [hn] at h
    have := (pathB_iff r b (c - top b)).1 h
    have e : (c, ((r + 1 : Nat) : Int)) = edge top (c - top b, (r : Int)) b := by
     unfold edge
     simp only [Prod.mk.injEq]
     omega
    rw [e]
    exact .cons a d b k _ (List.mem_range.1 hd) hn this
  ·intro h
   generalize hp : (c, ((r + 1 : Nat) : Int)) = p at h
   cases h with
   | nil a => injection hp with h1 h2; omega
   | cons a d b c' p hd hn hq =>
    refine ⟨d, List.mem_range.2 hd, ?_⟩
    rw [hn]
    unfold edge at hp
    injection hp with h1 h2
    refine (pathB_iff r b (c - top b)).2 ?_
    have e : p = (c - top b, (r : Int)) := by
     obtain ⟨p1, p2⟩ := p
     simp only [Prod.mk.injEq] at h1 h2 ⊢
     omega
    rw [← e]
    exact hq
def seek (p : Nat → Bool) : Nat → Nat → Option Nat
 | 0, _ => none
 | f + 1, i => if p i = true then some i else seek p f (i + 1)
theorem seek_eq {p : Nat → Bool} {m : Nat} (hm : p m = true) (hl : ∀ j, j < m → p j = false) : ∀ f i, i ≤ m → m < i + f → seek p f i = some m
 | 0, i, h1, h2 => by omega
 | f + 1, i, h1, h2 => by
  unfold seek
  by_cases e : i = m
  ·subst e
   rw [if_pos hm]
  ·rw [if_neg (by rw [hl i (by omega)]; decide)]
   exact seek_eq hm hl f (i + 1) (by omega) (by omega)
theorem seek_none {p : Nat → Bool} (h : ∀ j, p j = false) : ∀ f i, seek p f i = none
 | 0, i => rfl
 | f + 1, i => by
  unfold seek
  rw [if_neg (by rw [h i]; decide)]
  exact seek_none h f (i + 1)
def leastP (nx : Nat → Nat → Option Nat) (top : Nat → Int) (a k : Nat) : Option P :=
 (seek (fun q => pathB nx top k (q % 1000) a ((q / 1000 : Nat) : Int)) 9000000 0).map fun q => (((q / 1000 : Nat) : Int), ((q % 1000 : Nat) : Int))
theorem pathB_congr {nx nx' : Nat → Nat → Option Nat} {top top' : Nat → Int} (hn : ∀ a d, d < 4 → nx a d = nx' a d) (ht : ∀ j, top j = top' j) {k : Nat} : ∀ (r a : Nat) (c : Int), pathB nx top k r a c = pathB nx' top' k r a c
 | 0, a, c => rfl
 | r + 1, a, c => by
  unfold pathB
  rw [Bool.eq_iff_iff, List.any_eq_true, List.any_eq_true]
  constructor
  ·rintro ⟨d, hd, h⟩
   refine ⟨d, hd, ?_⟩
   rw [← hn a d (List.mem_range.1 hd)]
   cases hb : nx a d with
   | none => rw [hb] at h; cases h
   | some b =>
    rw [hb] at h
    simp only at h ⊢
    rw [← ht b, ← pathB_congr hn ht r b]
    exact h
  ·rintro ⟨d, hd, h⟩
   refine ⟨d, hd, ?_⟩
   rw [hn a d (List.mem_range.1 hd)]
   cases hb : nx' a d with
   | none => rw [hb] at h; cases h
   | some b =>
    rw [hb] at h
    simp only at h ⊢
    rw [ht b, pathB_congr hn ht r b]
    exact h
end Go.Proofs.YtkoejpimalbhbaaDoor.Price
