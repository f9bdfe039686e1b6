/-
  A range over a function, the body never left early: the statement, and one round.
-/
import Derived.Test.YtpllcjggjjapoaaBase
import Derived.RangeFuncNested
import Derived.RangeFuncLeaves
import Derived.RangeFuncCalls
import Derived.Shelf.Abstract
import Derived.OwnWalkIn
import Derived.TacticsInMore
import Derived.LoopNIn
import Derived.LoopIn
namespace Go.Proofs.Ytpllcjggjjapoaa
open Go.RowKit Go.Shelf

/-- The loop's record. -/
def rcd (fn : FuncId) (tmps : Array Value) (ps : Array Tmp) (assign body : Code) (D : Nat) (st : LoopState) : Loop := { state := st, pending := none, fn, tmps, params := ps, assign, body, defers := D }

theorem wpIn_rf {P : Program} {n : Nat} {g : Operand} {ps : Array Tmp} {assign body : Code} {Q : Exit → Act → World → Prop} {a : Act} {w : World} {gf : FuncId} {lb : Array Value} (hg : a.eval g = .func (.func gf) #[] lb) (eg : ∀ args w, (callFunc gf args).run P w = .ok (.enter gf args) w)
    (h : ∀ fn, CallsIn Fence.wide (n - 1) P gf (#[.func (.yield (w.heap.size + 1)) #[] #[]] ++ lb) ((w.alloc (.deferred (some []))).alloc (.loop (rcd fn a.tmps ps assign body w.heap.size .ready))) fun e W =>
      (∃ v, e = .returned v) ∧ W.heap[w.heap.size + 1]? = some (.loop (rcd fn a.tmps ps assign body w.heap.size .ready)) ∧ Q .normal { a with defers := { target := .collected w.heap.size, args := #[] } :: a.defers } (W.putObj (w.heap.size + 1) (.loop (rcd fn a.tmps ps assign body w.heap.size .exhausted)))) :
    (Code.rangeFunc g ps assign body).wpIn Fence.wide n P Q a w := by
  refine wpIn_rangeFunc fun fn _ => ?_
  refine ⟨w.heap.size + 1, [{ target := .collected w.heap.size, args := #[] }], (w.alloc (.deferred (some []))).alloc (.loop (rcd fn a.tmps ps assign body w.heap.size .ready)), { target := .fn (.func gf) lb, args := #[.func (.yield (w.heap.size + 1)) #[] #[]] }, (w.alloc (.deferred (some []))).alloc (.loop (rcd fn a.tmps ps assign body w.heap.size .ready)), gf, _, _, run_enterLoop_outer fn a.tmps ps assign body, ?_, fun _ _ => trivial, ?_, ?_, (h fn).mono ?_⟩
  · simp only [resolve, hg]
    simp [go_sem]
  · simp [invoke, go_sem, eg]
  · intro h; cases h
  · rintro e W ⟨⟨v, rfl⟩, hl, hq⟩
    exact ⟨none, _, run_endLoop (P := P) hl (by simp [rcd]), hq⟩

theorem yield_round {P : Program} {m l : Nat} {W : World} {fn : FuncId} {tmps : Array Value} {ps : Array Tmp} {assign body : Code} {D : Nat} {rc : LoopState → Loop} (hrc : rcd fn tmps ps assign body D = rc) (hl : W.heap[l]? = some (.loop (rc .ready))) (args : Array Value) (hs : args.size = ps.size) (R : Ending → World → Prop)
    (h : assign.wpIn (Fence.wide.inRound l) m P (Exit.then (fun a1 W1 => W1.heap[l]? = some (.loop (rc .ready)) ∧ body.wpIn (Fence.wide.inRound l) m P
      (fun e _ W2 => e = .normal ∧ W2.heap[l]? = some (.loop (rc .busy)) ∧ R (.returned (.bool true)) (W2.putObj l (.loop (rc .ready)))) a1 (W1.putObj l (.loop (rc .busy)))) (fun _ _ _ => False))
      { tmps := (ps.zip args).foldl (fun t (p, v) => t.setIfInBounds p v) tmps, defers := [] } W) : YieldAt Fence.wide m P l args W R := by
  subst hrc
  refine ⟨fn, _, assign, body, run_yield (P := P) hl hs, roundIn_of_wpIn trivial (wpIn_mono h ?_)⟩
  intro e a1 W1 h1
  cases e with
  | normal =>
    obtain ⟨h2, h3⟩ := h1
    refine ⟨_, run_beginRound (P := P) h2 rfl, wpIn_mono h3 ?_⟩
    rintro e a2 W2 ⟨rfl, h4, h5⟩
    exact ⟨_, _, run_endRound (P := P) none h4, h5⟩
  | _ => exact h1
end Go.Proofs.Ytpllcjggjjapoaa
