/-
  Results that lie in memory, a row beside a number.
-/
import Derived.Test.YtpllcjggjjapoaaMid
namespace Go.Proofs.Ytpllcjggjjapoaa
open Go.RowKit

theorem results_row_tmp {P : Program} {fn : Func} {p t : Tmp} {ty : TypeId} (h : fn.results = #[.cell p ty, .tmp t]) (tmps : Array Value) (w : World) (g : Nat) (T : TypeId) (cs : Array Value) (d : TypeDesc)
    (hp : tmps.getD p undef = .pointer (some ⟨g, 0, none⟩)) (hg : At w g T cs)
    (hu : P.underlying ty = some d) (hd : (match d with | .struct _ | .array _ _ => true | _ => false) = true) (hi : (P.info? ty).map (·.size) = some cs.size) :
    (results fn tmps).run P w = .ok (.tuple #[.agg cs, tmps.getD t undef]) w := by
  have hp' : tmps[p]?.getD undef = .pointer (some ⟨g, 0, none⟩) := by simpa using hp
  simp [results, h, hp', asAddr, run_loadVar_row w g T ty cs (0, 0) d hg hu hd hi]
theorem results_row_tmp2 {P : Program} {fn : Func} {p t u : Tmp} {ty : TypeId} (h : fn.results = #[.cell p ty, .tmp t, .tmp u]) (tmps : Array Value) (w : World) (g : Nat) (T : TypeId) (cs : Array Value) (d : TypeDesc)
    (hp : tmps.getD p undef = .pointer (some ⟨g, 0, none⟩)) (hg : At w g T cs)
    (hu : P.underlying ty = some d) (hd : (match d with | .struct _ | .array _ _ => true | _ => false) = true) (hi : (P.info? ty).map (·.size) = some cs.size) :
    (results fn tmps).run P w = .ok (.tuple #[.agg cs, tmps.getD t undef, tmps.getD u undef]) w := by
  have hp' : tmps[p]?.getD undef = .pointer (some ⟨g, 0, none⟩) := by simpa using hp
  simp [results, h, hp', asAddr, run_loadVar_row w g T ty cs (0, 0) d hg hu hd hi]
/-- A whole block is written over. -/
theorem At.all {w : World} {g : Nat} {t : TypeId} {cs vs : List Value} (h : At w g t cs.toArray) (hl : vs.length = cs.length) : At (w.setCells g 0 vs) g t vs.toArray := by
  have := At.setCells vs 0 h (by omega)
  rwa [show spl cs 0 vs = vs by simp [spl, hl]] at this
theorem At.keep {w : World} {g : Nat} {t : TypeId} {cs : Array Value} (h : At w g t cs) {b : Nat} (hb : g ≠ b) (o : Nat) (vs : List Value) : At (w.setCells b o vs) g t cs := At.setCells_far h hb vs o h
theorem one_ints (k : IntKind) (zs : List Int) : ∀ v ∈ zs.map (Value.int k), v.oneCell' = true := by
  intro v hv
  obtain ⟨z, _, rfl⟩ := List.mem_map.1 hv
  rfl
end Go.Proofs.Ytpllcjggjjapoaa
