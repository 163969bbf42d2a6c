/- The reference's list of nodes in memory: an element's cells, and a store into one of them. Laws of its parts. -/
import Derived.Test.YtkoejpimalbhbaaDoorReachR
namespace Go.Proofs.YtkoejpimalbhbaaDoor.WyR
open Go.RowKit Go.Proofs.YtkoejpimalbhbaaDoorW.PrintWords Go.Proofs.YtkoejpimalbhbaaDoor.QBs Go.Proofs.YtkoejpimalbhbaaDoor.ReachR
open Go.Proofs.YtkoejpimalbhbaaDoor.Reach (St)
set_option linter.unusedVariables false
set_option linter.unusedSimpArgs false

structure Nd where
 s : St
 far : Int
 words : Int
 before : Int
 dir : Int
 n0 : Int
 n1 : Int
 n2 : Int
 n3 : Int
def Nd.next (x : Nd) (i : Nat) (v : Int) : Nd := if i = 0 then { x with n0 := v } else if i = 1 then { x with n1 := v } else if i = 2 then { x with n2 := v } else { x with n3 := v }
abbrev sNd (x : Nd) : S44 := ⟨sSt x.s, x.far, x.words, x.before, x.dir, ⟨x.n0, x.n1, x.n2, x.n3⟩⟩
abbrev kNd := k44
abbrev nd16 (x : Nd) : List Value := [.int .i64 x.s.x, .int .i64 x.s.y, .int .i64 x.s.d.t, .int .i64 x.s.d.n, .int .i64 x.s.d.e, .int .i64 x.s.d.s, .int .i64 x.s.d.w, .int .i64 x.s.d.b, .int .i64 x.far, .int .i64 x.words, .int .i64 x.before, .int .i64 x.dir, .int .i64 x.n0, .int .i64 x.n1, .int .i64 x.n2, .int .i64 x.n3]
theorem nd_words (x : Nd) (v : Int) : nd16 { x with words := v } = (nd16 x).set 9 (.int .i64 v) := rfl
theorem nd_next (x : Nd) (i : Nat) (hi : i < 4) (v : Int) : nd16 (x.next i v) = (nd16 x).set (12 + i) (.int .i64 v) := by
 rcases i with _ | _ | _ | _ | i
 ·rfl
 ·rfl
 ·rfl
 ·rfl
 ·omega
theorem nd_elem {e base b c n : Nat} {ok : Nat → Prop} {w : World} {xs : List Nd} (h : Kd.R kNd e w base ok (.slice (some ⟨b, 0, none⟩) n c) (xs.map sNd)) (k : Nat) (x : Nd) (hx : xs[k]? = some x) :
  (∀ j u, (nd16 x)[j]? = some u → w.cell? ⟨b, k * 16 + j, none⟩ = some u) ∧ ∀ j, w.frozen? ⟨b, k * 16 + j, none⟩ = false := by
 obtain ⟨hk, hv⟩ := List.getElem?_eq_some_iff.1 hx
 have hn := (Kd.R_reads' h).1
 rw [List.length_map] at hn
 obtain ⟨ce, hcl, hM, hcc, hfr⟩ := Kd.R_elem h (sNd x) (k : Int) (by omega) (by omega)
 have hg : (xs.map sNd).getD (k : Int).toNat (sNd x) = sNd x := by
  rw [Int.toNat_natCast, List.getD_eq_getElem?_getD, List.getElem?_map, hx]
  rfl
 rw [hg] at hM
 obtain rfl := k44_openM hM
 exact ⟨hcc, hfr⟩
theorem nd_put {e base b c n : Nat} {ok : Nat → Prop} {w : World} {xs : List Nd} (h : Kd.R kNd e w base ok (.slice (some ⟨b, 0, none⟩) n c) (xs.map sNd)) (k j : Nat) (v : Int) (x x' : Nd) (hx : xs[k]? = some x) (hj : j < 16) (hx' : nd16 x' = (nd16 x).set j (.int .i64 v)) :
  Kd.R kNd e (w.setCell ⟨b, k * 16 + j, none⟩ (.int .i64 v)) base ok (.slice (some ⟨b, 0, none⟩) n c) ((xs.set k x').map sNd) ∧ w.grownBy (w.setCell ⟨b, k * 16 + j, none⟩ (.int .i64 v)) (some b) := by
 obtain ⟨hk, hv⟩ := List.getElem?_eq_some_iff.1 hx
 have hn := (Kd.R_reads' h).1
 rw [List.length_map] at hn
 have hs := Kd.R_seg h (k : Int) (by omega) (by omega) (c := nd16 x) (seg := [.int .i64 v]) (j := j) (okp := fun k => ok k ∧ k ≠ b) (x' := sNd x') rfl (nd_elem h k x hx).1 (show j + 1 ≤ 16 from hj) (by
  have e1 : (nd16 x).take j ++ [.int .i64 v] ++ (nd16 x).drop (j + [(.int .i64 v : Value)].length) = nd16 x' := by
   rw [hx', List.set_eq_take_append_cons_drop, if_pos (show j < (nd16 x).length from hj), List.append_assoc]
   rfl
  rw [e1]
  exact k44_mkM _ _ _ (sNd x')) (fun _ hk => hk)
 rw [List.map_set]
 exact hs
theorem nd_at {e base b c n : Nat} {ok : Nat → Prop} {w : World} {xs : List Nd} (h : Kd.R kNd e w base ok (.slice (some ⟨b, 0, none⟩) n c) (xs.map sNd)) (k j : Nat) (x : Nd) (hx : xs[k]? = some x) (hj : j < 16) :
  (∃ u, w.cell? ⟨b, k * 16 + j, none⟩ = some u) ∧ w.frozen? ⟨b, k * 16 + j, none⟩ = false := by
 obtain ⟨h1, h2⟩ := nd_elem h k x hx
 exact ⟨⟨_, h1 j _ (List.getElem?_eq_getElem (show j < (nd16 x).length from hj))⟩, h2 j⟩
def plc : List Int → Int → Int → Int
 | [], _, _ => -1
 | a :: l, c, j => if a = c then j else plc l c (j + 1)
theorem plc_in : ∀ (l : List Int) (c j : Int), plc l c j = -1 ∨ (j ≤ plc l c j ∧ plc l c j < j + l.length)
 | [], _, _ => .inl rfl
 | a :: l, c, j => by
  unfold plc
  by_cases h : a = c
  ·rw [if_pos h]
   exact .inr ⟨by omega, by simp; omega⟩
  ·rw [if_neg h]
   rcases plc_in l c (j + 1) with h | ⟨h1, h2⟩
   ·exact .inl h
   ·exact .inr ⟨by omega, by simp; omega⟩
def newNd (x : Nd) (u : St) (k i : Nat) : Nd := ⟨u, IntKind.i64.wrap (x.far + 1), 0, (k : Int), (i : Int), 0, 0, 0, 0⟩
def nd0 (s : St) : Nd := ⟨s, 0, 1, -1, 0, 0, 0, 0, 0⟩
def grow (L : List Nd) (p : Int) (y : Nd) : List Nd := if p < 0 then L ++ [y] else L
def atOf (L : List Nd) (p : Int) : Nat := if p < 0 then L.length else p.toNat
def addW (N : List Nd) (k a : Nat) : List Nd := match N[a]?, N[k]? with
 | some y, some z => if y.far = IntKind.i64.wrap (z.far + 1) then N.set a { y with words := IntKind.i64.wrap (y.words + z.words) } else N
 | _, _ => N
def setN (N : List Nd) (k i : Nat) (v : Int) : List Nd := match N[k]? with
 | some z => N.set k (z.next i v)
 | none => N
section
variable (mo : St → Nat → St) (can : St → Nat → Bool) (code : St → Int)
abbrev codes (L : List Nd) : List Int := L.map fun y => code y.s
def stepN (L : List Nd) (k i : Nat) : List Nd := match (setN L k i (-1))[k]? with
 | none => L
 | some x => if can x.s i = true then
   setN (addW (grow (setN L k i (-1)) (plc (codes code (setN L k i (-1))) (code (mo x.s i)) 0) (newNd x (mo x.s i) k i)) k (atOf (setN L k i (-1)) (plc (codes code (setN L k i (-1))) (code (mo x.s i)) 0))) k i (atOf (setN L k i (-1)) (plc (codes code (setN L k i (-1))) (code (mo x.s i)) 0))
  else setN L k i (-1)
def someN (L : List Nd) (k : Nat) : Nat → List Nd
 | 0 => L
 | n + 1 => stepN mo can code (someN L k n) k n
def fromN : Nat → List Nd → Nat → List Nd
 | 0, L, _ => L
 | f + 1, L, k => if k < L.length then fromN f (someN mo can code L k 4) (k + 1) else L
theorem setN_len (N : List Nd) (k i : Nat) (v : Int) : (setN N k i v).length = N.length := by
 unfold setN
 cases N[k]? <;> simp
theorem addW_len (N : List Nd) (k a : Nat) : (addW N k a).length = N.length := by
 unfold addW
 split
 ·split <;> simp
 ·rfl
theorem grow_len (N : List Nd) (p : Int) (y : Nd) : N.length ≤ (grow N p y).length := by
 unfold grow
 split <;> simp
theorem stepN_len (L : List Nd) (k i : Nat) : L.length ≤ (stepN mo can code L k i).length := by
 unfold stepN
 split
 ·exact Nat.le_refl _
 ·split
  ·rw [setN_len, addW_len]
   exact Nat.le_trans (Nat.le_of_eq (setN_len L k i (-1)).symm) (grow_len _ _ _)
  ·rw [setN_len]
   exact Nat.le_refl _
theorem someN_len (L : List Nd) (k : Nat) : ∀ n, L.length ≤ (someN mo can code L k n).length
 | 0 => Nat.le_refl _
 | n + 1 => Nat.le_trans (someN_len L k n) (stepN_len mo can code _ k n)
structure Ivs (Gd : St → Prop) (s0 : St) (Iv : List Nd → Nat → Nat → Prop) : Prop where
 start : Iv [nd0 s0] 0 0
 step : ∀ L k i, Iv L k i → k < L.length → i < 4 → Iv (stepN mo can code L k i) k (i + 1)
 next : ∀ L k, Iv L k 4 → Iv L (k + 1) 0
 small : ∀ L k i, Iv L k i → L.length ≤ 1000
 good : ∀ L k i, Iv L k i → ∀ y ∈ L, Gd y.s
end
theorem Ivs.some {mo : St → Nat → St} {can : St → Nat → Bool} {code : St → Int} {Gd : St → Prop} {s0 : St} {Iv : List Nd → Nat → Nat → Prop} (h : Ivs mo can code Gd s0 Iv) {L : List Nd} {k : Nat} (h0 : Iv L k 0) (hk : k < L.length) : ∀ n, n ≤ 4 → Iv (someN mo can code L k n) k n
 | 0, _ => h0
 | n + 1, hn => h.step _ _ _ (Ivs.some h h0 hk n (by omega)) (Nat.lt_of_lt_of_le hk (someN_len mo can code L k n)) (by omega)
structure RN (w0 wr : World) (G : Nat) (gw gh : Int) (A0 : Option Addr) (nl c0 : Nat) (code : St → Int) (L : List Nd) (v5 v6 : Value) : Prop where
 r5 : Kd.R kNd 44 wr w0.heap.size (fun _ => True) v5 (L.map sNd)
 r6 : Kd.R (Kd.int .i64) 3 wr w0.heap.size (fun _ => True) v6 (codes code L)
 blk : wr.heap[G]? = some (.cells #[.int .i64 gw, .int .i64 gh, .slice A0 nl c0] 73 (0, 0))
 big : w0.heap.size ≤ G
 bel : Below w0.heap.size w0 wr
structure AtN (mo : St → Nat → St) (can : St → Nat → Bool) (code : St → Int) (s0 : St) (Iv : List Nd → Nat → Nat → Prop) (w0 wr : World) (G : Nat) (gw gh : Int) (A0 : Option Addr) (nl c0 : Nat) (L : List Nd) (k : Nat) (v5 v6 : Value) : Prop where
 rn : RN w0 wr G gw gh A0 nl c0 code L v5 v6
 iv : Iv L k 0
 le : k ≤ L.length
 goes : fromN mo can code (1001 - k) L k = fromN mo can code 1001 [nd0 s0] 0
theorem AtN.next {mo : St → Nat → St} {can : St → Nat → Bool} {code : St → Int} {Gd : St → Prop} {s0 : St} {Iv : List Nd → Nat → Nat → Prop} {w0 wr w1 : World} {G : Nat} {gw gh : Int} {A0 : Option Addr} {nl c0 : Nat} {L : List Nd} {k : Nat} {v5 v6 u5 u6 : Value} (h : AtN mo can code s0 Iv w0 wr G gw gh A0 nl c0 L k v5 v6) (hv : Ivs mo can code Gd s0 Iv) (hk : k < L.length)
  (hr : RN w0 w1 G gw gh A0 nl c0 code (someN mo can code L k 4) u5 u6) : AtN mo can code s0 Iv w0 w1 G gw gh A0 nl c0 (someN mo can code L k 4) (k + 1) u5 u6 := by
 have hl := hv.small _ _ _ h.iv
 refine ⟨hr, hv.next _ _ (hv.some h.iv hk 4 (Nat.le_refl _)), ?_, ?_⟩
 ·have := someN_len mo can code L k 4
  omega
 ·have hg := h.goes
  rw [show 1001 - k = (1001 - (k + 1)) + 1 from by omega, fromN, if_pos hk] at hg
  exact hg
theorem AtN.done {mo : St → Nat → St} {can : St → Nat → Bool} {code : St → Int} {Gd : St → Prop} {s0 : St} {Iv : List Nd → Nat → Nat → Prop} {w0 wr : World} {G : Nat} {gw gh : Int} {A0 : Option Addr} {nl c0 : Nat} {L : List Nd} {k : Nat} {v5 v6 : Value} (h : AtN mo can code s0 Iv w0 wr G gw gh A0 nl c0 L k v5 v6) (hv : Ivs mo can code Gd s0 Iv) (hk : L.length ≤ k) : L = fromN mo can code 1001 [nd0 s0] 0 := by
 have hg := h.goes
 have hl := hv.small _ _ _ h.iv
 have := h.le
 rw [show 1001 - k = (1000 - k) + 1 from by omega, fromN, if_neg (by omega)] at hg
 exact hg
end Go.Proofs.YtkoejpimalbhbaaDoor.WyR
