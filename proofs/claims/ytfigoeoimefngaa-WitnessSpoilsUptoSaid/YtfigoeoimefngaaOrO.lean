/-
  Histories and names as arguments.
-/
import Derived.Test.YtfigoeoimefngaaSnA
import Derived.Test.YtfigoeoimefngaaZa
namespace Go.Proofs.Ytfigoeoimefngaa
open Go.RowKit Go.ChangeShapes Go.WideShapes Go.ChangeAt Go.Deep

def ksSn : List (Option IntKind) := [some .i8, some .i64, some .i64, some .i64, some .i64, some .u8, some .u8, some .u8, some .u8, some .u8, some .u8, some .u8, some .u8, some .i64]
theorem flat_seen : flat Try.prog 5 36 = some ksSn := by kernel_rfl
theorem flat_nm : flat Try.prog 4 29 = some (List.replicate 3 (some .i64)) := by kernel_rfl
theorem wf_in {z : Int} (h : (Lit.int .i64 z).wf = true) : inI z := by
  unfold Lit.wf at h
  rw [Bool.and_eq_true, decide_eq_true_eq, decide_eq_true_eq] at h
  exact h
theorem fit_cons {k : IntKind} {ks : List (Option IntKind)} : ∀ {c : List Value}, Fit (some k :: ks) c → ∃ z vs, c = .int k z :: vs ∧ (Lit.int k z).wf = true ∧ Fit ks vs
  | [], h => h.elim
  | v :: vs, ⟨⟨z, hz, hw⟩, h⟩ => ⟨z, vs, by rw [hz], hw, h⟩
theorem fit_end : ∀ {c : List Value}, Fit [] c → c = []
  | [], _ => rfl
  | _ :: _, h => h.elim
theorem fit_seen {c : List Value} (h : Fit ksSn c) : ∃ x : Sn, c = x.cs ∧ x.n.ok := by
  unfold ksSn at h
  obtain ⟨a0, c0, e0, w0, h⟩ := fit_cons h
  obtain ⟨a1, c1, e1, w1, h⟩ := fit_cons h
  obtain ⟨a2, c2, e2, w2, h⟩ := fit_cons h
  obtain ⟨a3, c3, e3, w3, h⟩ := fit_cons h
  obtain ⟨a4, c4, e4, w4, h⟩ := fit_cons h
  obtain ⟨a5, c5, e5, w5, h⟩ := fit_cons h
  obtain ⟨a6, c6, e6, w6, h⟩ := fit_cons h
  obtain ⟨a7, c7, e7, w7, h⟩ := fit_cons h
  obtain ⟨a8, c8, e8, w8, h⟩ := fit_cons h
  obtain ⟨a9, c9, e9, w9, h⟩ := fit_cons h
  obtain ⟨a10, c10, e10, w10, h⟩ := fit_cons h
  obtain ⟨a11, c11, e11, w11, h⟩ := fit_cons h
  obtain ⟨a12, c12, e12, w12, h⟩ := fit_cons h
  obtain ⟨a13, c13, e13, w13, h⟩ := fit_cons h
  have e14 := fit_end h
  subst e14
  subst e13
  subst e12
  subst e11
  subst e10
  subst e9
  subst e8
  subst e7
  subst e6
  subst e5
  subst e4
  subst e3
  subst e2
  subst e1
  subst e0
  exact ⟨⟨a0, ⟨a1, a2, a3⟩, a4, a5, a6, a7, a8, a9, a10, a11, a12, a13⟩, rfl, wf_in w1, wf_in w2, wf_in w3⟩
theorem fits_seen : ∀ (xs : List (List Value)), (∀ c ∈ xs, Fit ksSn c) → ∃ l : List Sn, l.length = xs.length ∧ xs.flatten = rowsOf Sn.cs l ∧ (∀ x ∈ l, x.n.ok) ∧ ∀ x ∈ l, Fit ksSn x.cs
  | [], _ => ⟨[], rfl, rfl, (fun x hx => by cases hx), (fun x hx => by cases hx)⟩
  | c :: xs, h => by
    obtain ⟨l, h1, h2, h3, h4⟩ := fits_seen xs fun c hc => h c (by simp [hc])
    have hf := h c (by simp)
    obtain ⟨x, rfl, hx⟩ := fit_seen hf
    refine ⟨x :: l, by simp [h1], by rw [List.flatten_cons, h2, rows_cons], fun y hy => ?_, fun y hy => ?_⟩
    · rcases List.mem_cons.1 hy with rfl | hy
      · exact hx
      · exact h3 y hy
    · rcases List.mem_cons.1 hy with rfl | hy
      · exact hf
      · exact h4 y hy
section
variable {H : Type} {enc : TypeId × Value → H} {w : World} {base : Nat} {spare : Nat → Bool} {held : Bool}
set_option maxRecDepth 100000 in
theorem open_nm {r : Reach} {b0 : Nat} {v : Value} {d : DataW H} {p : List MemPlace} (hv : Value.okWide Try.prog w r b0 29 v) (h : DataW.Trod enc Try.prog w base spare held 29 v d p) : ∃ x : Nm, v = x.v ∧ x.ok := by
  obtain ⟨cs, rfl, hf⟩ := open_flat_struct (m := 4) (ks := List.replicate 3 (some .i64)) Try.underlying29 (by kernel_rfl) hv h
  obtain ⟨zs, h1, rfl, hw⟩ := fit_kind hf
  obtain ⟨s, i, t, rfl⟩ := three_of h1
  exact ⟨⟨s, i, t⟩, rfl, wf_in (hw s (by simp)), wf_in (hw i (by simp)), wf_in (hw t (by simp))⟩
theorem open_seens {a : Option Addr} {len cap : Nat} {d : DataW H} {p : List MemPlace} (h : DataW.Trod enc Try.prog w base spare held 22 (.slice a len cap) d p) :
    ∃ l : List Sn, l.length = len ∧ Rd w a (rowsOf Sn.cs l) ∧ (∀ x ∈ l, x.n.ok) ∧ (∀ x ∈ l, Fit ksSn x.cs) ∧ (a = none → len = 0 ∧ cap = 0) ∧ len ≤ cap ∧ cap ≤ maxLen := by
  obtain ⟨xs, hl, hf, hr, h1, h2, h3⟩ := open_flat_slice Try.underlying22 flat_seen (by kernel_rfl) (by decide) h
  obtain ⟨l, h4, h5, h6, h7⟩ := fits_seen xs hf
  rw [h5] at hr
  exact ⟨l, h4.trans hl, hr, h6, h7, h1, h2, h3⟩
end
end Go.Proofs.Ytfigoeoimefngaa
