/- A function whose deferred calls are builtin ones ('defer delete(m, k)'), entered: what its body leaves, then each deferred call, the last one first. Conditions: it does not panic. -/
import Derived.Defers
import Derived.Test.YtolopkjpodnmkaaDoorWOne
namespace Go.Proofs.YtolopkjpodnmkaaDoor.DeferB
open Go

def LeavesB (P : Program) (fn : Func) (tmps : Array Value) (R : Ending → World → Prop) : List Deferred → World → Prop
  | [], w => ∃ v, (results fn tmps).run P w = .ok v w ∧ R (.returned v) w
  | d :: ds, w => ∃ b ts t c v w', d.target = .builtin b ts t c ∧ (invoke d.target d.args).run P w = .ok (.value v) w' ∧ LeavesB P fn tmps R ds w'
section
variable {P : Program}
theorem step_one {fr : Frame} {cs : List Frame} {w w' : World} {d : Deferred} {ds : List Deferred} {b : Builtin} {ts : Array TypeId} {t : TypeId} {c : Array Bool} {v : Value}
    (hm : fr.mode = .returning) (hd : fr.defers = d :: ds) (ht : d.target = .builtin b ts t c) (hi : (invoke d.target d.args).run P w = .ok (.value v) w') :
    step P (lone fr cs w) = .next (lone { fr with defers := ds } cs w') := by
  obtain ⟨tg, a⟩ := d
  simp only at ht hi
  subst ht
  refine step_lone_go ?_
  simp [stepG, unwind, callDeferred, hm, hd, hi]
theorem leaves_all {fn : Func} {tmps : Array Value} {R : Ending → World → Prop} : ∀ (ds : List Deferred) (w : World) (fr : Frame) (cs : List Frame), fr.mode = .returning → fr.defers = ds → fr.tmps = tmps → P.funcs[fr.fn]? = some fn → fr.kind = .normal →
    LeavesB P fn tmps R ds w → ∃ v w' fr', R (.returned v) w' ∧ Comes P (lone fr cs w) (lone fr' cs w') (.returned v) ∧ fr'.fn = fr.fn ∧ fr'.leaving P w' (.returned v)
  | [], w, fr, cs, hu, hd, ht, hf, hk, h => by
    obtain ⟨v, hr, hR⟩ := h
    exact ⟨v, w, fr, hR, Steps.refl P _, rfl, hu, hd, hk, fn, hf, ht ▸ hr⟩
  | d :: ds, w, fr, cs, hu, hd, ht, hf, hk, h => by
    obtain ⟨b, ts, t, c, v, w', htar, hinv, hl⟩ := h
    have h1 := step_one (cs := cs) hu hd htar hinv
    obtain ⟨v', w'', fr', hR, hs, hfn, hl'⟩ := leaves_all ds w' { fr with defers := ds } cs hu rfl ht hf hk hl
    exact ⟨v', w'', fr', hR, Comes.of_steps (.one h1) hs, hfn, hl'⟩
def bodyPostB (P : Program) (fn : Func) (R : Ending → World → Prop) : Exit → Act → World → Prop
  | .normal, a, w | .ret, a, w => LeavesB P fn a.tmps R a.defers w
  | .outgrown, _, w => R .outgrown w
  | _, _, _ => False
theorem calls_of_wp_B {f : FuncId} {fn : Func} {c : Code} {args : Array Value} {w : World} {R : Ending → World → Prop} (hf : P.funcs[f]? = some fn) (hb : fn.body = some c)
    (h : c.wp P (bodyPostB P fn R) { tmps := args ++ Array.replicate (fn.ntmps - args.size) undef, defers := [] } w) : Calls P f args w R := by
  intro cs
  let b : Frame := { (default : Frame) with fn := f, kind := .normal }
  have henter : Frame.enter P f args .normal = b.at { tmps := args ++ Array.replicate (fn.ntmps - args.size) undef, defers := [] } [.code c] := by
    simp [Frame.enter, Frame.at, hf, hb, b]
  obtain ⟨e, a', w', hq, harr⟩ := h b [] cs
  rw [← henter] at harr
  cases e with
  | normal =>
    obtain ⟨v, w'', fr', hR, hs, hfn, hl⟩ := leaves_all a'.defers w' { b.at a' [] with mode := .returning } cs rfl rfl rfl hf rfl hq
    exact ⟨_, w'', fr', hR, Comes.of_steps (Steps.trans harr (.one step_end)) hs, hfn, hl⟩
  | ret =>
    obtain ⟨todo, hs0⟩ := harr
    obtain ⟨v, w'', fr', hR, hs, hfn, hl⟩ := leaves_all a'.defers w' { b.at a' todo with mode := .returning } cs rfl rfl rfl hf rfl hq
    exact ⟨_, w'', fr', hR, Comes.of_steps hs0 hs, hfn, hl⟩
  | panic chain => exact hq.elim
  | exit id => exact hq.elim
  | goto l => exact hq.elim
  | outgrown => exact ⟨.outgrown, w', b, hq, harr.resolve_left (by simp [b]), rfl, trivial⟩
end
end Go.Proofs.YtolopkjpodnmkaaDoor.DeferB
