/-
  Writes as arguments.
-/
import Derived.Test.YtpjcekhpkipddaaOvM
import Derived.Test.YtpjcekhpkipddaaOpen
namespace Go.Proofs.Ytpjcekhpkipddaa
open Go.RowKit Go.ChangeShapes Go.WideShapes Go.ChangeAt Go.Deep

theorem flat_write : flat Try.prog 4 26 = some (some .i64 :: List.replicate 8 (some .u8)) := by kernel_rfl
theorem fit_wr {c : List Value} (h : Fit (some .i64 :: List.replicate 8 (some .u8)) c) : ∃ x : Wr, c = wrc x ∧ x.2.length = 8 := by
  cases c with
  | nil => exact h.elim
  | cons v vs =>
    obtain ⟨⟨n, rfl, _⟩, h2⟩ := h
    obtain ⟨l, hl, rfl, _⟩ := fit_u8 8 vs h2
    exact ⟨(n, l), rfl, hl⟩
theorem fits_wr : ∀ (xs : List (List Value)), (∀ c ∈ xs, Fit (some .i64 :: List.replicate 8 (some .u8)) c) → ∃ l : List Wr, l.length = xs.length ∧ xs.flatten = wrs l ∧ W8 l
  | [], _ => ⟨[], rfl, rfl, fun x hx => by cases hx⟩
  | c :: xs, h => by
    obtain ⟨l, h1, h2, h3⟩ := fits_wr xs fun c hc => h c (by simp [hc])
    obtain ⟨x, h4, h5⟩ := fit_wr (h c (by simp))
    refine ⟨x :: l, by simp [h1], by rw [List.flatten_cons, h2, h4, wrs_cons], ?_⟩
    intro y hy
    rcases List.mem_cons.1 hy with rfl | hy
    · exact h5
    · exact h3 y hy

theorem okWide_array {P : Program} {w : World} {r : Reach} {base n : Nat} {t e : TypeId} {v : Value} (ht : P.underlying t = some (.array n e)) (h : Value.okWide P w r base t v) : ∃ cs, v = .agg cs ∧ cs.size = P.cellsOf t := by
  simp only [Value.okWide, ht] at h
  obtain ⟨cs, h1, h2, _⟩ := h
  exact ⟨cs, h1, h2⟩
section
variable {H : Type} {enc : TypeId × Value → H} {w : World} {base : Nat} {spare : Nat → Bool} {held : Bool}
theorem open_writes {a : Option Addr} {len cap : Nat} {d : DataW H} {p : List MemPlace} (h : DataW.Trod enc Try.prog w base spare held 22 (.slice a len cap) d p) : ∃ l : List Wr, l.length = len ∧ Rd w a (wrs l) ∧ W8 l ∧ (a = none → len = 0 ∧ cap = 0) ∧ len ≤ cap ∧ cap ≤ maxLen := by
  obtain ⟨xs, hl, hf, hr, h1, h2, h3⟩ := open_flat_slice Try.underlying22 flat_write (by kernel_rfl) (by decide) h
  obtain ⟨l, h4, h5, h6⟩ := fits_wr xs hf
  rw [h5] at hr
  exact ⟨l, h4.trans hl, hr, h6, h1, h2, h3⟩
theorem open_write {r : Reach} {b0 : Nat} {v : Value} {d : DataW H} {p : List MemPlace} (hv : Value.okWide Try.prog w r b0 26 v) (h : DataW.Trod enc Try.prog w base spare held 26 v d p) :
    ∃ (q : Int) (x0 x1 x2 x3 x4 x5 x6 x7 : Nat), v = .agg #[.int .i64 q, .int .u8 x0, .int .u8 x1, .int .u8 x2, .int .u8 x3, .int .u8 x4, .int .u8 x5, .int .u8 x6, .int .u8 x7] := by
  obtain ⟨cs, rfl, _⟩ := okWide_struct Try.underlying26 hv
  obtain ⟨fuel, hf⟩ := h
  obtain ⟨⟨q, l⟩, h1, h2⟩ := fit_wr (flat_fits _ _ _ _ _ _ flat_write hf)
  obtain ⟨x0, x1, x2, x3, x4, x5, x6, x7, rfl⟩ := eight_of h2
  refine ⟨q, x0, x1, x2, x3, x4, x5, x6, x7, ?_⟩
  cases cs
  simp only [Value.cells] at h1
  rw [h1]
  rfl
theorem flat_home : flat Try.prog 4 36 = some (List.replicate 256 (some .u8)) := by kernel_rfl
theorem open_home {r : Reach} {b0 : Nat} {v : Value} {d : DataW H} {p : List MemPlace} (hv : Value.okWide Try.prog w r b0 36 v) (h : DataW.Trod enc Try.prog w base spare held 36 v d p) :
    ∃ L : List Nat, v = .agg (bys L).toArray ∧ L.length = 256 := by
  obtain ⟨cs, rfl, _⟩ := okWide_array Try.underlying36 hv
  obtain ⟨fuel, hf⟩ := h
  obtain ⟨L, h1, h2, _⟩ := fit_u8 256 _ (flat_fits _ _ _ _ _ _ flat_home hf)
  refine ⟨L, ?_, h1⟩
  cases cs
  simp only [Value.cells] at h2
  rw [h2]
end
end Go.Proofs.Ytpjcekhpkipddaa
