/-
  Edges and names as arguments.
-/
import Derived.Test.YtpllcjggjjapoaaGrB
import Derived.Test.YtpllcjggjjapoaaOpen2
namespace Go.Proofs.Ytpllcjggjjapoaa
open Go.RowKit Go.ChangeShapes Go.WideShapes Go.ChangeAt Go.Deep

theorem flat_nm : flat Try.prog 4 24 = some (List.replicate 3 (some .i64)) := by kernel_rfl
theorem flat_ed : flat Try.prog 5 32 = some (List.replicate 6 (some .i64)) := by kernel_rfl
theorem wf_in {z : Int} (h : (Lit.int .i64 z).wf = true) : inI z := by
  unfold Lit.wf at h
  rw [Bool.and_eq_true, decide_eq_true_eq, decide_eq_true_eq] at h
  exact h
theorem six_of {l : List Int} (h : l.length = 6) : ∃ a b c d e f, l = [a, b, c, d, e, f] := by
  match l, h with
  | [a, b, c, d, e, f], _ => exact ⟨a, b, c, d, e, f, rfl⟩
theorem fits_ed : ∀ (xs : List (List Value)), (∀ c ∈ xs, Fit (List.replicate 6 (some .i64)) c) → ∃ l : List Ed, l.length = xs.length ∧ xs.flatten = rowsOf Edcs l ∧ ∀ e ∈ l, e.1.ok ∧ e.2.ok
  | [], _ => ⟨[], rfl, rfl, fun x hx => by cases hx⟩
  | c :: xs, h => by
    obtain ⟨l, h1, h2, h3⟩ := fits_ed xs fun c hc => h c (by simp [hc])
    obtain ⟨zs, h4, rfl, hw⟩ := fit_kind (h c (by simp))
    obtain ⟨z0, z1, z2, z3, z4, z5, rfl⟩ := six_of h4
    refine ⟨(⟨z0, z1, z2⟩, ⟨z3, z4, z5⟩) :: l, by simp [h1], by rw [List.flatten_cons, h2, rows_cons]; rfl, fun e he => ?_⟩
    rcases List.mem_cons.1 he with rfl | he
    · exact ⟨⟨wf_in (hw z0 (by simp)), wf_in (hw z1 (by simp)), wf_in (hw z2 (by simp))⟩, ⟨wf_in (hw z3 (by simp)), wf_in (hw z4 (by simp)), wf_in (hw z5 (by simp))⟩⟩
    · exact h3 e he
section
variable {H : Type} {enc : TypeId × Value → H} {w : World} {base : Nat} {spare : Nat → Bool} {held : Bool}
theorem open_nm {r : Go.Reach} {b0 : Nat} {v : Value} {d : DataW H} {p : List MemPlace} (hv : Value.okWide Try.prog w r b0 24 v) (h : DataW.Trod enc Try.prog w base spare held 24 v d p) : ∃ x : Nm, v = x.v ∧ x.ok := by
  obtain ⟨cs, rfl, hf⟩ := open_flat_struct (m := 4) (ks := List.replicate 3 (some .i64)) Try.underlying24 (by kernel_rfl) hv h
  obtain ⟨zs, h1, rfl, hw⟩ := fit_kind hf
  obtain ⟨s, i, t, rfl⟩ := three_of h1
  exact ⟨⟨s, i, t⟩, rfl, wf_in (hw s (by simp)), wf_in (hw i (by simp)), wf_in (hw t (by simp))⟩
theorem open_edges {a : Option Addr} {len cap : Nat} {d : DataW H} {p : List MemPlace} (h : DataW.Trod enc Try.prog w base spare held 22 (.slice a len cap) d p) :
    ∃ l : List Ed, l.length = len ∧ Rd w a (rowsOf Edcs l) ∧ (∀ e ∈ l, e.1.ok ∧ e.2.ok) ∧ (a = none → len = 0 ∧ cap = 0) ∧ len ≤ cap ∧ cap ≤ maxLen := by
  obtain ⟨xs, hl, hf, hr, h1, h2, h3⟩ := open_flat_slice Try.underlying22 flat_ed (by kernel_rfl) (by decide) h
  obtain ⟨l, h4, h5, h6⟩ := fits_ed xs hf
  rw [h5] at hr
  exact ⟨l, h4.trans hl, hr, h6, h1, h2, h3⟩
end
end Go.Proofs.Ytpllcjggjjapoaa
