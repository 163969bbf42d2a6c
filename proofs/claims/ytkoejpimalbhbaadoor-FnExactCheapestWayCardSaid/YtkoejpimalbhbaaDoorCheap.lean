/- Plain law: the first cheapest word to one of the nodes asked for, as the program goes it and as the reference goes it. No program in sight. -/
import Derived.Test.YtkoejpimalbhbaaDoorPrice
namespace Go.Proofs.YtkoejpimalbhbaaDoor.Cheap
set_option linter.unusedVariables false
open Price

def sub (p q : P) : P := (p.1 - q.1, p.2 - q.2)
def pathT (nx : Nat → Nat → Option Nat) (top : Nat → Int) (T : Nat → Bool) : Nat → Nat → Int → Bool
 | 0, a, c => T a && decide (c = 0)
 | r + 1, a, c => (List.range 4).any fun d => match nx a d with
  | none => false
  | some b => pathT nx top T r b (c - top b)
theorem pathT_iff {nx : Nat → Nat → Option Nat} {top : Nat → Int} {T : Nat → Bool} : ∀ (r a : Nat) (c : Int), pathT nx top T r a c = true ↔ ∃ k, T k = true ∧ Path nx top a k (c, (r : Int)) := by
 have h : ∀ (r a : Nat) (c : Int), pathT nx top T r a c = true ↔ ∃ k, T k = true ∧ pathB nx top k r a c = true := by
  intro r
  induction r with
  | zero =>
   intro a c
   unfold pathT pathB
   simp only [Bool.and_eq_true, decide_eq_true_eq]
   constructor
   ·rintro ⟨h1, h2⟩
    exact ⟨a, h1, rfl, h2⟩
   ·rintro ⟨k, h1, rfl, h2⟩
    exact ⟨h1, h2⟩
  | succ r ih =>
   intro a c
   unfold pathT pathB
   simp only [List.any_eq_true]
   constructor
   ·rintro ⟨d, hd, h⟩
    cases hn : nx a d with
    | none => rw [hn] at h; cases h
    | some b =>
     rw [hn] at h
     obtain ⟨k, h1, h2⟩ := (ih b _).1 h
     exact ⟨k, h1, d, hd, by rw [hn]; exact h2⟩
   ·rintro ⟨k, h1, d, hd, h⟩
    cases hn : nx a d with
    | none => rw [hn] at h; cases h
    | some b =>
     rw [hn] at h
     exact ⟨d, hd, by rw [hn]; exact (ih b _).2 ⟨k, h1, h⟩⟩
 intro r a c
 rw [h]
 exact ⟨fun ⟨k, h1, h2⟩ => ⟨k, h1, (pathB_iff r a c).1 h2⟩, fun ⟨k, h1, h2⟩ => ⟨k, h1, (pathB_iff r a c).2 h2⟩⟩
theorem seek_sound {p : Nat → Bool} {m : Nat} : ∀ f i, seek p f i = some m → p m = true
 | 0, i, h => by cases h
 | f + 1, i, h => by
  unfold seek at h
  by_cases e : p i = true
  ·rw [if_pos e] at h
   injection h with h
   rw [← h]
   exact e
  ·rw [if_neg e] at h
   exact seek_sound f (i + 1) h
def leastT (nx : Nat → Nat → Option Nat) (top : Nat → Int) (T : Nat → Bool) (a : Nat) : Option P :=
 (seek (fun q => pathT nx top T (q % 1000) a ((q / 1000 : Nat) : Int)) 9000000 0).map fun q => (((q / 1000 : Nat) : Int), ((q % 1000 : Nat) : Int))
section
variable {nx : Nat → Nat → Option Nat} {top : Nat → Int} {T : Nat → Bool}
theorem leastT_eq {a k : Nat} {p : P} (hk : T k = true) (hp : Path nx top a k p) (hm : ∀ k' q, T k' = true → Path nx top a k' q → le p q) (h1 : 0 ≤ p.1 ∧ p.1 < 9000) (h2 : 0 ≤ p.2 ∧ p.2 < 1000) : leastT nx top T a = some p := by
 obtain ⟨p1, p2⟩ := p
 simp only at h1 h2
 obtain ⟨c, rfl⟩ : ∃ c : Nat, p1 = c := ⟨p1.toNat, by omega⟩
 obtain ⟨r, rfl⟩ : ∃ r : Nat, p2 = r := ⟨p2.toNat, by omega⟩
 have hf : seek (fun q => pathT nx top T (q % 1000) a ((q / 1000 : Nat) : Int)) 9000000 0 = some (c * 1000 + r) := by
  refine seek_eq ?_ (fun j hj => ?_) _ _ (Nat.zero_le _) (by omega)
  ·show pathT nx top T ((c * 1000 + r) % 1000) a (((c * 1000 + r) / 1000 : Nat) : Int) = true
   rw [show (c * 1000 + r) % 1000 = r by omega, show (c * 1000 + r) / 1000 = c by omega]
   exact (pathT_iff r a c).2 ⟨k, hk, hp⟩
  ·cases hb : pathT nx top T (j % 1000) a ((j / 1000 : Nat) : Int) with
   | false => rfl
   | true =>
    obtain ⟨k', h3, h4⟩ := (pathT_iff _ _ _).1 hb
    have := hm k' _ h3 h4
    unfold le at this
    simp only at this
    omega
 unfold leastT
 rw [hf, Option.map_some, show (c * 1000 + r) % 1000 = r by omega, show (c * 1000 + r) / 1000 = c by omega]
theorem leastT_none {a : Nat} (h : ∀ k q, T k = true → ¬ Path nx top a k q) : leastT nx top T a = none := by
 unfold leastT
 rw [seek_none (fun q => by
  cases hb : pathT nx top T (q % 1000) a ((q / 1000 : Nat) : Int) with
  | false => rfl
  | true =>
   obtain ⟨k, h1, h2⟩ := (pathT_iff _ _ _).1 hb
   exact absurd h2 (h k _ h1)), Option.map_none]
theorem leastT_sound {a : Nat} {p : P} (h : leastT nx top T a = some p) : ∃ k, T k = true ∧ Path nx top a k p := by
 unfold leastT at h
 rw [Option.map_eq_some_iff] at h
 obtain ⟨q, hq, rfl⟩ := h
 exact (pathT_iff _ _ _).1 (seek_sound _ _ hq)
theorem pathT_congr {nx' : Nat → Nat → Option Nat} {top' : Nat → Int} {T' : Nat → Bool} (hn : ∀ a d, d < 4 → nx a d = nx' a d) (ht : ∀ j, top j = top' j) (hT : ∀ j, T j = T' j) (r a : Nat) (c : Int) : pathT nx top T r a c = pathT nx' top' T' r a c := by
 rw [Bool.eq_iff_iff, pathT_iff, pathT_iff]
 constructor
 ·rintro ⟨k, h1, h2⟩
  exact ⟨k, by rw [← hT]; exact h1, (pathB_iff r a c).1 (by rw [← pathB_congr hn ht]; exact (pathB_iff r a c).2 h2)⟩
 ·rintro ⟨k, h1, h2⟩
  exact ⟨k, by rw [hT]; exact h1, (pathB_iff r a c).1 (by rw [pathB_congr hn ht]; exact (pathB_iff r a c).2 h2)⟩
theorem leastT_congr {nx' : Nat → Nat → Option Nat} {top' : Nat → Int} {T' : Nat → Bool} (hn : ∀ a d, d < 4 → nx a d = nx' a d) (ht : ∀ j, top j = top' j) (hT : ∀ j, T j = T' j) (a : Nat) : leastT nx top T a = leastT nx' top' T' a := by
 unfold leastT
 congr 2
 funext q
 exact pathT_congr hn ht hT _ _ _
end
def letter (d : Nat) : ByteArray := if d = 0 then ⟨#[110]⟩ else if d = 1 then ⟨#[101]⟩ else if d = 2 then ⟨#[115]⟩ else ⟨#[119]⟩
theorem letter_size (d : Nat) : (letter d).size = 1 := by
 unfold letter
 split
 ·rfl
 ·split
  ·rfl
  ·split <;> rfl
def pickF (nx : Nat → Nat → Option Nat) (top : Nat → Int) (T : Nat → Bool) (a : Nat) (c : Int) (f : Nat) : Nat → Nat → Option (Nat × Nat)
 | 0, _ => none
 | k + 1, i => match nx a i with
  | none => pickF nx top T a c f k (i + 1)
  | some b => if leastT nx top T b = some (c - top b, (f : Int)) then some (i, b) else pickF nx top T a c f k (i + 1)
def wayT (nx : Nat → Nat → Option Nat) (top : Nat → Int) (T : Nat → Bool) : Nat → Nat → Int → ByteArray
 | 0, _, _ => ⟨#[]⟩
 | f + 1, a, c => match pickF nx top T a c f 4 0 with
  | none => ⟨#[]⟩
  | some (d, b) => letter d ++ wayT nx top T f b (c - top b)
def cheap (nx : Nat → Nat → Option Nat) (top : Nat → Int) (T : Nat → Bool) : ByteArray × Int × Bool := match leastT nx top T 0 with
 | none => (⟨#[]⟩, 0, false)
 | some p => if 60 < p.2 then (⟨#[]⟩, 0, false) else (wayT nx top T p.2.toNat 0 p.1, p.1, true)
section
variable {nx nx' : Nat → Nat → Option Nat} {top top' : Nat → Int} {T T' : Nat → Bool} (hn : ∀ a d, d < 4 → nx a d = nx' a d) (ht : ∀ j, top j = top' j) (hT : ∀ j, T j = T' j)
include hn ht hT
theorem pickF_congr (a : Nat) (c : Int) (f : Nat) : ∀ k i, k + i ≤ 4 → pickF nx top T a c f k i = pickF nx' top' T' a c f k i
 | 0, i, _ => rfl
 | k + 1, i, h => by
  unfold pickF
  rw [hn a i (by omega), pickF_congr a c f k (i + 1) (by omega)]
  cases nx' a i with
  | none => rfl
  | some b =>
   simp only
   rw [leastT_congr hn ht hT, ht b]
theorem wayT_congr : ∀ (f a : Nat) (c : Int), wayT nx top T f a c = wayT nx' top' T' f a c
 | 0, a, c => rfl
 | f + 1, a, c => by
  unfold wayT
  rw [pickF_congr hn ht hT a c f 4 0 (Nat.le_refl _)]
  cases pickF nx' top' T' a c f 4 0 with
  | none => rfl
  | some q =>
   obtain ⟨d, b⟩ := q
   simp only
   rw [ht b, wayT_congr f b]
theorem cheap_congr : cheap nx top T = cheap nx' top' T' := by
 unfold cheap
 rw [leastT_congr hn ht hT 0]
 cases leastT nx' top' T' 0 with
 | none => rfl
 | some p =>
  simp only
  rw [wayT_congr hn ht hT]
end
section
variable {nx : Nat → Nat → Option Nat} {top : Nat → Int} {T : Nat → Bool}
theorem pick_no {a : Nat} {c : Int} {f k i : Nat} (h : ∀ b, nx a i = some b → leastT nx top T b ≠ some (c - top b, (f : Int))) : pickF nx top T a c f (k + 1) i = pickF nx top T a c f k (i + 1) := by
 conv => lhs; unfold pickF
 cases hb : nx a i with
 | none => rfl
 | some b =>
  simp only
  rw [if_neg (h b hb)]
theorem pick_yes {a b : Nat} {c : Int} {f k i : Nat} (hb : nx a i = some b) (h : leastT nx top T b = some (c - top b, (f : Int))) : pickF nx top T a c f (k + 1) i = some (i, b) := by
 unfold pickF
 rw [hb]
 simp only
 rw [if_pos h]
theorem way_step {a b d f : Nat} {c : Int} (h : pickF nx top T a c f 4 0 = some (d, b)) : wayT nx top T (f + 1) a c = letter d ++ wayT nx top T f b (c - top b) := by
 conv => lhs; unfold wayT
 rw [h]
theorem way_nil (a : Nat) (c : Int) : wayT nx top T 0 a c = ⟨#[]⟩ := rfl
end
theorem path_num {n : Nat} {nx : Nat → Nat → Option Nat} {top : Nat → Int} (hG : Graph n nx top) {a c : Nat} {p : P} (h : Path nx top a c p) : a < n → c < n ∧ 0 ≤ p.1 ∧ 0 ≤ p.2 := by
 induction h with
 | nil a => intro ha; exact ⟨ha, Int.le_refl _, Int.le_refl _⟩
 | cons a d b c p hd hn _ ih =>
  intro ha
  have hb := hG.lt a d b ha hd hn
  obtain ⟨h1, h2, h3⟩ := ih hb
  have := (hG.top b hb).1
  unfold edge
  simp only
  omega
section
variable {n : Nat} {nx : Nat → Nat → Option Nat} {top : Nat → Int} {T : Nat → Bool} (hG : Graph n nx top) {g : Nat → P} (hI : Inv n nx top T g) (hF : ∀ a, a < n → ∀ d, d < 4 → Fix nx top g a d)
include hG hI hF
theorem prog_some {a : Nat} (ha : a < n) (h : (g a).1 < dear) : leastT nx top T a = some (g a) := by
 obtain ⟨c, h6, h7, h8⟩ := sound hI ha h
 obtain ⟨n1, n2, n3⟩ := inv_nums hG hI ha
 have := n3 h
 exact leastT_eq h7 h8 (fun k' q hk' hq => (least hG hI hF hq ha hk').2) (by omega) (by omega)
theorem prog_none {a : Nat} (ha : a < n) (h : ¬ (g a).1 < dear) : leastT nx top T a = none :=
 leastT_none fun k q hk hq => h (least hG hI hF hq ha hk).1
theorem prog_iff {a b : Nat} (ha : a < n) (hb : b < n) (h : (g a).1 < dear) : g b = ((g a).1 - top b, (g a).2 - 1) ↔ leastT nx top T b = some ((g a).1 - top b, (g a).2 - 1) := by
 constructor
 ·intro e
  have n3 := (inv_nums hG hI ha).2.2 h
  have ht := (hG.top b hb).1
  rw [prog_some hG hI hF hb (by rw [e]; unfold dear; simp only; omega), e]
 ·intro e
  by_cases hd : (g b).1 < dear
  ·rw [prog_some hG hI hF hb hd] at e
   injection e
  ·rw [prog_none hG hI hF hb hd] at e
   cases e
theorem prog_goes {a : Nat} (ha : a < n) (h : (g a).1 < dear) (hr : 0 < (g a).2) : ∃ d b, d < 4 ∧ nx a d = some b ∧ g b = ((g a).1 - top b, (g a).2 - 1) := by
 obtain ⟨l, hs⟩ := hI.fin a ha h
 generalize he : g a = p at hs
 cases hs with
 | last k hk ht hl => rw [he] at hr; simp at hr
 | more a d b l p h1 hd hn hs hl hm =>
  have hb := hG.lt a d b h1 hd hn
  have hsl := sim_le hG hs b (List.mem_cons_self ..)
  have hsm := sim_small hG hs
  have hfin : (g b).1 < dear := by
   unfold le at hsl
   unfold dear
   omega
  have h3 := not_lt.1 (hF a h1 d hd b hn hfin)
  rw [he] at h3
  have h4 : le p (g b) := by
   unfold le edge at *
   simp only at h3
   omega
  have h5 := antisymm hsl h4
  refine ⟨d, b, hd, hn, ?_⟩
  rw [h5]
  unfold edge
  obtain ⟨p1, p2⟩ := p
  simp only [Prod.mk.injEq]
  omega
end
variable (n : Nat) (nx : Nat → Nat → Option Nat) (top : Nat → Int) (T : Nat → Bool) in
structure Ref (h : Nat → P) (ps : P) : Prop where
 way : ∀ k, k < n → Path nx top 0 k (h k)
 least : ∀ k, k < n → ∀ q, Path nx top 0 k q → le (h k) q
 small : ∀ k, k < n → 0 ≤ (h k).1 ∧ (h k).1 ≤ 8100 ∧ 0 ≤ (h k).2 ∧ (h k).2 ≤ 900
 best : ∃ b, b < n ∧ T b = true ∧ h b = ps
 min : ∀ k, k < n → T k = true → le ps (h k)
def Track (nx : Nat → Nat → Option Nat) (top : Nat → Int) (T : Nat → Bool) (h : Nat → P) (ps : P) (b : Nat) : Prop := ∃ k q, T k = true ∧ Path nx top b k q ∧ add (h b) q = ps
section
variable {n : Nat} {nx : Nat → Nat → Option Nat} {top : Nat → Int} {T : Nat → Bool} {h : Nat → P} {ps : P} (hG : Graph n nx top) (hR : Ref n nx top T h ps)
include hG hR
theorem ref_ge {b k : Nat} {q : P} (hb : b < n) (hk : T k = true) (hp : Path nx top b k q) : le ps (add (h b) q) := by
 have hkn := (path_num hG hp hb).1
 exact le_trans (hR.min k hkn hk) (hR.least k hkn _ ((hR.way b hb).trans hp))
theorem track_least {b : Nat} (hb : b < n) (ht : Track nx top T h ps b) : leastT nx top T b = some (sub ps (h b)) := by
 obtain ⟨k, q, hk, hp, he⟩ := ht
 obtain ⟨hkn, hq1, hq2⟩ := path_num hG hp hb
 obtain ⟨s1, s2, s3, s4⟩ := hR.small b hb
 obtain ⟨b0, hb0, _, hbe⟩ := hR.best
 obtain ⟨t1, t2, t3, t4⟩ := hR.small b0 hb0
 have hs : sub ps (h b) = q := by
  rw [← he]
  unfold sub add
  obtain ⟨q1, q2⟩ := q
  simp only [Prod.mk.injEq]
  omega
 rw [hs]
 have e1 : (add (h b) q).1 = ps.1 := by rw [he]
 have e2 : (add (h b) q).2 = ps.2 := by rw [he]
 rw [hbe] at t1 t2 t3 t4
 unfold add at e1 e2
 simp only at e1 e2
 refine leastT_eq hk hp (fun k' q' hk' hp' => ?_) (by omega) (by omega)
 have := ref_ge hG hR hb hk' hp'
 rw [← he] at this
 unfold le add at *
 simp only at this
 omega
theorem track_on {a b d : Nat} {q : P} {k : Nat} (ha : a < n) (hd : d < 4) (hn : nx a d = some b) (hk : T k = true) (hp : Path nx top b k q) (he : add (h a) (edge top q b) = ps) : h b = edge top (h a) b ∧ add (h b) q = ps := by
 have hb := hG.lt a d b ha hd hn
 have h1 := hR.least b hb _ (by
  have := (hR.way a ha).trans (Path.one top hd hn)
  rw [add_edge] at this
  exact this)
 have h2 := ref_ge hG hR hb hk hp
 rw [← he] at h2
 have h3 : h b = edge top (h a) b := antisymm h1 (by
  unfold le add edge at *
  simp only at h2 ⊢
  omega)
 refine ⟨h3, ?_⟩
 rw [h3, ← he]
 unfold add edge
 simp only [Prod.mk.injEq]
 omega
variable (n nx top T h ps) in
structure Good (gd : Nat → Bool) : Prop where
 init : ∀ k, k < n → T k = true → h k = ps → gd k = true
 sound : ∀ k, k < n → gd k = true → Track nx top T h ps k
 shut : ∀ a, a < n → ∀ d, d < 4 → ∀ b, nx a d = some b → gd b = true → h b = edge top (h a) b → gd a = true
variable {gd : Nat → Bool} (hg : Good n nx top T h ps gd)
include hg
theorem good_track {b k : Nat} {q : P} (hk : T k = true) (hp : Path nx top b k q) : b < n → add (h b) q = ps → gd b = true := by
 induction hp with
 | nil a =>
  intro ha he
  refine hg.init a ha hk ?_
  rw [← he]
  unfold add
  simp
 | cons a d b c p hd hn hp ih =>
  intro ha he
  obtain ⟨h1, h2⟩ := track_on hG hR ha hd hn hk hp he
  exact hg.shut a ha d hd b hn (ih hk (hG.lt a d b ha hd hn) h2) h1
theorem good_iff {a b d : Nat} (ha : a < n) (hga : gd a = true) (hd : d < 4) (hn : nx a d = some b) : (gd b = true ∧ h b = edge top (h a) b) ↔ leastT nx top T b = some ((sub ps (h a)).1 - top b, (sub ps (h a)).2 - 1) := by
 have hb := hG.lt a d b ha hd hn
 constructor
 ·rintro ⟨h1, h2⟩
  rw [track_least hG hR hb (hg.sound b hb h1), h2]
  unfold sub edge
  simp only [Option.some.injEq, Prod.mk.injEq]
  omega
 ·intro h1
  obtain ⟨k, hk, hp⟩ := leastT_sound h1
  obtain ⟨h2, h3⟩ := track_on hG hR ha hd hn hk hp (by
   unfold add edge sub
   obtain ⟨p1, p2⟩ := ps
   simp only [Prod.mk.injEq]
   omega)
  exact ⟨good_track hG hR hg hk hp hb h3, h2⟩
theorem good_goes {a : Nat} (ha : a < n) (hga : gd a = true) (hr : (h a).2 < ps.2) : ∃ d b, d < 4 ∧ nx a d = some b ∧ gd b = true ∧ h b = edge top (h a) b := by
 obtain ⟨k, q, hk, hp, he⟩ := hg.sound a ha hga
 cases hp with
 | nil a =>
  rw [← he] at hr
  unfold add at hr
  simp at hr
 | cons a d b c p hd hn hp =>
  obtain ⟨h1, h2⟩ := track_on hG hR ha hd hn hk hp he
  exact ⟨d, b, hd, hn, good_track hG hR hg hk hp (hG.lt a d b ha hd hn) h2, h1⟩
end
theorem track_end {nx : Nat → Nat → Option Nat} {top : Nat → Int} {T : Nat → Bool} {h : Nat → P} {ps : P} {k : Nat} (hk : T k = true) (he : h k = ps) : Track nx top T h ps k := ⟨k, (0, 0), hk, .nil k, by rw [← he]; unfold add; simp⟩
theorem track_more {nx : Nat → Nat → Option Nat} {top : Nat → Int} {T : Nat → Bool} {h : Nat → P} {ps : P} {a b d : Nat} (hd : d < 4) (hn : nx a d = some b) (ht : Track nx top T h ps b) (he : h b = edge top (h a) b) : Track nx top T h ps a := by
 obtain ⟨k, q, hk, hp, hq⟩ := ht
 refine ⟨k, _, hk, .cons a d b k q hd hn hp, ?_⟩
 rw [← hq, he]
 unfold add edge
 simp only [Prod.mk.injEq]
 omega
end Go.Proofs.YtkoejpimalbhbaaDoor.Cheap
