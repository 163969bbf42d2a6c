/- The reference's search: its call, told in plain words. Conditions: none. -/
import Derived.Test.YtkoejpimalbhbaaDoorSearch
import Derived.Test.YtkoejpimalbhbaaDoorWyAll
namespace Go.Proofs.YtkoejpimalbhbaaDoor.Wy
open Go.RowKit Go.Proofs.YtkoejpimalbhbaaDoor.QBs Go.Proofs.YtkoejpimalbhbaaDoorW.PrintWords Go.Proofs.YtkoejpimalbhbaaDoorW.PrintLast Go.Proofs.YtkoejpimalbhbaaDoor.Board Go.Proofs.YtkoejpimalbhbaaDoor.IsDie Go.Proofs.YtkoejpimalbhbaaDoor.BaseR Go.Proofs.YtkoejpimalbhbaaDoor.ReachR Go.Proofs.YtkoejpimalbhbaaDoor.WyR Go.Proofs.YtkoejpimalbhbaaDoor.Search
open Go.Proofs.YtkoejpimalbhbaaDoor.Reach (St)
set_option linter.unusedVariables false
set_option linter.unusedSimpArgs false

theorem place_at (l : List Int) (x : Int) (hl : l.length ≤ 1000) : ∀ (d i k : Nat), i + d = l.length → d < k → spec_wyPlace.l0 k x l l.length i = some (plc (l.drop i) x i) := by
 intro d
 induction d with
 | zero =>
  intro i k hi hk
  obtain ⟨k, rfl⟩ : ∃ m, k = m + 1 := ⟨k - 1, by omega⟩
  rw [spec_wyPlace.l0, if_neg (by omega), List.drop_eq_nil_of_le (by omega)]
  rfl
 | succ d ih =>
  intro i k hi hk
  obtain ⟨k, rfl⟩ : ∃ m, k = m + 1 := ⟨k - 1, by omega⟩
  have hlt : i < l.length := by omega
  rw [spec_wyPlace.l0, if_pos (by omega), if_pos (by omega), if_pos (by omega)]
  rw [List.drop_eq_getElem_cons hlt, plc]
  have hr : rd l i = l[i] := by simp [rd, hlt]
  rw [hr]
  by_cases h : l[i] = x
  ·rw [if_pos h, if_pos h]
  ·rw [if_neg h, if_neg h, succ_wrap (by omega), ih (i + 1) k (by omega) (by omega)]
   rfl
theorem wyPlace_eq (l : List Int) (x : Int) (hl : l.length ≤ 1000) : spec_wyPlace.f 1001 l x = some (plc l x 0) := by
 have := place_at l x hl l.length 0 1001 (by omega) (by omega)
 rw [List.drop_zero] at this
 exact this
theorem code_step (k : Nat) (v a0 a1 a2 a3 a4 a5 b : Int) (i : Nat) (hi : i < 6) (hv : 0 ≤ v ∧ v ≤ 100000000) (hb : rd [a0, a1, a2, a3, a4, a5] (i : Int) = b) (h9 : 0 ≤ b ∧ b ≤ 9) :
  spec_wyCode.l0 (k + 1) v [a0, a1, a2, a3, a4, a5] (([a0, a1, a2, a3, a4, a5] : List Int).length : Int) (i : Int) = spec_wyCode.l0 k (10 * v + b) [a0, a1, a2, a3, a4, a5] (([a0, a1, a2, a3, a4, a5] : List Int).length : Int) ((i + 1 : Nat) : Int) := by
 have hl : (([a0, a1, a2, a3, a4, a5] : List Int).length : Int) = 6 := rfl
 have e : wrap64 (wrap64 (10 * v) + b) = 10 * v + b := by unfold wrap64; omega
 rw [spec_wyCode.l0, hl, if_pos (by omega), if_pos (by omega), if_pos (by omega), hb, e, succ_wrap (by omega)]
theorem wyCode_eq (gw gh : Int) (cs : List Int) (t : St) (hg : IsDie.good t.d.t t.d.n t.d.e t.d.s t.d.w t.d.b = true) (hs : 0 ≤ t.y * gw + t.x ∧ t.y * gw + t.x ≤ 100 ∧ 0 ≤ t.y * gw ∧ t.y * gw ≤ 49) (hx : 0 ≤ t.x ∧ t.x < 7) :
  spec_wyCode.f 7 gw gh cs t.x t.y t.d.t t.d.n t.d.e t.d.s t.d.w t.d.b = some (codeV gw t) := by
 obtain ⟨g1, g2, g3, g4, g5, g6⟩ := good_iff hg
 unfold spec_wyCode.f spec_diFaces.f codeV
 rw [Option.bind_some]
 obtain ⟨P, hP⟩ : ∃ P, P = t.y * gw := ⟨_, rfl⟩
 rw [← hP] at hs ⊢
 have e0 : wrap64 (wrap64 P + t.x) = P + t.x := by unfold wrap64; omega
 rw [e0]
 rw [show (0 : Int) = ((0 : Nat) : Int) from rfl, code_step 6 _ _ _ _ _ _ _ t.d.t 0 (by omega) (by omega) rfl g1, code_step 5 _ _ _ _ _ _ _ t.d.n 1 (by omega) (by omega) rfl g2, code_step 4 _ _ _ _ _ _ _ t.d.e 2 (by omega) (by omega) rfl g3, code_step 3 _ _ _ _ _ _ _ t.d.s 3 (by omega) (by omega) rfl g4, code_step 2 _ _ _ _ _ _ _ t.d.w 4 (by omega) (by omega) rfl g5, code_step 1 _ _ _ _ _ _ _ t.d.b 5 (by omega) (by omega) rfl g6]
 rw [spec_wyCode.l0, if_neg (by simp)]
theorem rollR (gw gh : Int) (cs : List Int) (h : bdB gw gh cs) (t : St) (hx : 0 ≤ t.x ∧ t.x < 7) (hy : 0 ≤ t.y ∧ t.y < 7) (k : Nat) (hk : k < 4) :
  spec_boRoll.f gw gh cs t.x t.y t.d.t t.d.n t.d.e t.d.s t.d.w t.d.b k = some (flat (moS (flR gw gh cs) t k) (canF (flR gw gh cs) t k)) := by
 unfold spec_boRoll.f moS canF moved
 rw [boNext_eq _ _ hx hy k hk, Option.bind_some, (floorR gw gh cs h _ _).1, Option.bind_some, diRoll_eq _ k hk]
 simp only
 cases flR gw gh cs (Reach.next t.x t.y k).1 (Reach.next t.x t.y k).2 <;> rfl
theorem wy_calls (a0_0 a0_1 : Int) (A0_2 : Option Addr) (c0_2 : Nat) (l0_2 : List Int) (t : St) (r : List S44) (w : World) (hr0_2 : Kd.C (Kd.int .u8) w A0_2 l0_2.length l0_2) (hc0_2 : l0_2.length ≤ c0_2) (h : wyF a0_0 a0_1 l0_2 t = some r) :
  Calls Tryd.prog 25 #[.agg #[.int .i64 a0_0, .int .i64 a0_1, .slice A0_2 l0_2.length c0_2], .agg (st8 t)] w fun e w' =>
   ∃ v0_ : Value, e = .returned (v0_) ∧ Kd.R kNd 44 w' w.heap.size (fun _ => True) v0_ r ∧ Below w.heap.size w w' := by
 unfold wyF at h
 by_cases hc : bdB a0_0 a0_1 l0_2 ∧ Gd (flR a0_0 a0_1 l0_2) t
 ·rw [if_pos hc] at h
  obtain rfl := Option.some.inj h
  obtain ⟨hb, hg⟩ := hc
  have hB := boxR hb
  obtain ⟨W, rfl⟩ : ∃ W : Nat, a0_0 = W := ⟨a0_0.toNat, by have := hb.1; omega⟩
  rw [Int.toNat_natCast] at hB
  obtain ⟨Iv, hiv⟩ := nodes_ivs hB hg
  have h7 : ∀ t, Gd (flR W a0_1 l0_2) t → (0 ≤ t.x ∧ t.x < 7) ∧ (0 ≤ t.y ∧ t.y < 7) := fun t ht => by
   obtain ⟨⟨x0, x1⟩, y0, y1⟩ := hB.inn _ _ ht.1
   have := hB.w7
   have := hB.h7
   omega
  refine WyAll.wyAll_walk W a0_1 A0_2 l0_2.length c0_2 t (moS (flR W a0_1 l0_2)) (canF (flR W a0_1 l0_2)) (codeV W) (Gd (flR W a0_1 l0_2)) Iv w hg ?_ ?_ ?_ (fun _ _ hg _ hc => gd_moS hg hc) hiv
  ·intro t i ht hi W1 hW
   obtain ⟨hx, hy⟩ := h7 t ht
   exact spec_boRoll.calls W a0_1 A0_2 c0_2 l0_2 _ _ _ _ _ _ _ _ _ _ _ _ _ _ _ _ _ _ W1 (Kd.C_below hr0_2 hW) hc0_2 (rollR W a0_1 l0_2 hb t hx hy i hi)
  ·intro t ht W1 hW
   exact spec_wyCode.calls 7 W a0_1 A0_2 c0_2 l0_2 _ _ _ _ _ _ _ _ _ W1 (Kd.C_below hr0_2 hW) hc0_2 (wyCode_eq W a0_1 l0_2 t ht.2 (code_small hB ht) (h7 t ht).1)
  ·intro A c l x W1 hC hc hl
   exact (spec_wyPlace.calls 1001 A c l x _ W1 hC hc (wyPlace_eq l x hl)).mono fun e w' ⟨he, hd⟩ => ⟨he, hd.below⟩
 ·rw [if_neg hc] at h
  cases h
end Go.Proofs.YtkoejpimalbhbaaDoor.Wy
