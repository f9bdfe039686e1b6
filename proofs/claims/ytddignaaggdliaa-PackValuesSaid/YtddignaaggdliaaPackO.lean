/-
  The arguments of the laws of pack, opened.
-/
import Derived.Test.YtddignaaggdliaaPackBack
import Derived.Test.YtddignaaggdliaaOpen
namespace Go.Proofs.Ytddignaaggdliaa
open Go.RowKit Go.ChangeShapes Go.WideShapes Go.ChangeAt Go.Deep
theorem fit_pair : ∀ (c : List Value), Fit [some .i64, some .i64] c → ∃ n m : Int, c = [.int .i64 n, .int .i64 m] := by
  intro c h
  cases c with
  | nil => exact h.elim
  | cons v c =>
    obtain ⟨⟨n, hn, _⟩, h2⟩ := h
    cases c with
    | nil => exact h2.elim
    | cons u c =>
      obtain ⟨⟨m, hm, _⟩, h3⟩ := h2
      cases c with
      | nil => exact ⟨n, m, by rw [hn, hm]⟩
      | cons _ _ => exact h3.elim
theorem fits_pairs (xs : List (List Value)) : (∀ c ∈ xs, Fit [some .i64, some .i64] c) → ∃ ps : List (Int × Int), ps.length = xs.length ∧ xs.flatten = prs ps := by
  induction xs with
  | nil => exact fun _ => ⟨[], rfl, rfl⟩
  | cons c xs ih =>
    intro h
    obtain ⟨ps, hl, he⟩ := ih fun c hc => h c (by simp [hc])
    obtain ⟨n, m, hc⟩ := fit_pair c (h c (by simp))
    refine ⟨(n, m) :: ps, by simp [hl], ?_⟩
    rw [List.flatten_cons, he, hc]
    rfl
theorem flat_pair : flat Try.prog 3 43 = some [some .i64, some .i64] := by kernel_rfl
theorem flat_value : flat Try.prog 3 36 = some (List.replicate 8 (some .u8)) := by kernel_rfl
section
variable {H : Type} {enc : TypeId × Value → H} {w : World} {base : Nat} {spare : Nat → Bool} {held : Bool}
theorem open_pairs {a : Option Addr} {len cap : Nat} {d : DataW H} {p : List MemPlace} (h : DataW.Trod enc Try.prog w base spare held 42 (.slice a len cap) d p) : ∃ ps : List (Int × Int), ps.length = len ∧ Rd w a (prs ps) := by
  obtain ⟨xs, hl, hf, hr, _⟩ := open_flat_slice Try.underlying42 flat_pair (by kernel_rfl) (by decide) h
  obtain ⟨ps, h1, h2⟩ := fits_pairs xs hf
  rw [h2] at hr
  exact ⟨ps, h1.trans hl, hr⟩
theorem open_values {a : Option Addr} {len cap : Nat} {d : DataW H} {p : List MemPlace} (h : DataW.Trod enc Try.prog w base spare held 32 (.slice a len cap) d p) : ∃ V : List Nat, V.length = len * 8 ∧ Rd w a (bys V) ∧ (∀ x ∈ V, x < 256) ∧ len ≤ cap := by
  obtain ⟨xs, hl, hf, hr, _, hc, _⟩ := open_flat_slice Try.underlying32 flat_value (by kernel_rfl) (by decide) h
  obtain ⟨V, h1, h2, h3⟩ := fits_u8 8 xs hf
  rw [h2] at hr
  exact ⟨V, by rw [h1, hl], hr, h3, hc⟩
end
end Go.Proofs.Ytddignaaggdliaa
