/-
  Names as arguments.
-/
import Derived.Test.YtilmihmjohjplaaNmC
import Derived.Test.YtilmihmjohjplaaOpen2
namespace Go.Proofs.Ytilmihmjohjplaa
open Go.RowKit Go.ChangeShapes Go.WideShapes Go.ChangeAt Go.Deep
theorem flat_name : flat Try.prog 4 23 = some (List.replicate 3 (some .i64)) := by kernel_rfl
theorem fits_nm : ∀ (xs : List (List Value)), (∀ c ∈ xs, Fit (List.replicate 3 (some .i64)) c) → ∃ l : List Nm, l.length = xs.length ∧ xs.flatten = nms l
  | [], _ => ⟨[], rfl, rfl⟩
  | c :: xs, h => by
    obtain ⟨l, h1, h2⟩ := fits_nm xs fun c hc => h c (by simp [hc])
    obtain ⟨zs, h3, rfl, _⟩ := fit_kind (h c (by simp))
    obtain ⟨s, i, t, rfl⟩ := three_of h3
    exact ⟨⟨s, i, t⟩ :: l, by simp [h1], by rw [List.flatten_cons, h2, nms_cons]; rfl⟩
section
variable {H : Type} {enc : TypeId × Value → H} {w : World} {base : Nat} {spare : Nat → Bool} {held : Bool}
theorem open_name {r : Reach} {b0 : Nat} {v : Value} {d : DataW H} {p : List MemPlace} (hv : Value.okWide Try.prog w r b0 23 v) (h : DataW.Trod enc Try.prog w base spare held 23 v d p) : ∃ x : Nm, v = x.v := by
  obtain ⟨cs, rfl, hf⟩ := open_flat_struct (m := 4) (ks := List.replicate 3 (some .i64)) Try.underlying23 (by kernel_rfl) hv h
  obtain ⟨zs, h1, rfl, _⟩ := fit_kind hf
  obtain ⟨s, i, t, rfl⟩ := three_of h1
  exact ⟨⟨s, i, t⟩, rfl⟩
theorem open_names {a : Option Addr} {len cap : Nat} {d : DataW H} {p : List MemPlace} (h : DataW.Trod enc Try.prog w base spare held 24 (.slice a len cap) d p) : ∃ l : List Nm, l.length = len ∧ Rd w a (nms l) ∧ len ≤ cap := by
  obtain ⟨xs, hl, hf, hr, h1, h2, h3⟩ := open_flat_slice Try.underlying24 flat_name (by kernel_rfl) (by decide) h
  obtain ⟨l, h4, h5⟩ := fits_nm xs hf
  rw [h5] at hr
  exact ⟨l, h4.trans hl, hr, h2⟩
end
end Go.Proofs.Ytilmihmjohjplaa
