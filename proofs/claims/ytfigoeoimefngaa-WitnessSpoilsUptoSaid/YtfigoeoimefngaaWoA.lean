/-
  Histories as arguments of witness's laws.
-/
import Derived.Test.YtfigoeoimefngaaWiB
import Derived.Test.YtfigoeoimefngaaOrO
namespace Go.Proofs.Ytfigoeoimefngaa
open Go.RowKit Go.ChangeShapes Go.WideShapes Go.ChangeAt Go.Deep

theorem wf_inB {z : Int} (h : (Lit.int .u8 z).wf = true) : inB z := by
  unfold Lit.wf at h
  rw [Bool.and_eq_true, decide_eq_true_eq, decide_eq_true_eq] at h
  exact h
theorem fit_hd {k : IntKind} {ks : List (Option IntKind)} {z : Int} {vs : List Value} (h : Fit (some k :: ks) (.int k z :: vs)) : (Lit.int k z).wf = true ∧ Fit ks vs := by
  obtain ⟨⟨y, hy, hw⟩, h⟩ := h
  injection hy with _ hy
  subst hy
  exact ⟨hw, h⟩
theorem fit_wk {x : Sn} (h : Fit ksSn x.cs) : x.wk.ok := by
  unfold ksSn Sn.cs at h
  obtain ⟨_, h⟩ := fit_hd h
  obtain ⟨_, h⟩ := fit_hd h
  obtain ⟨_, h⟩ := fit_hd h
  obtain ⟨_, h⟩ := fit_hd h
  obtain ⟨w0, h⟩ := fit_hd h
  obtain ⟨w1, h⟩ := fit_hd h
  obtain ⟨w2, h⟩ := fit_hd h
  obtain ⟨w3, h⟩ := fit_hd h
  obtain ⟨w4, h⟩ := fit_hd h
  obtain ⟨w5, h⟩ := fit_hd h
  obtain ⟨w6, h⟩ := fit_hd h
  obtain ⟨w7, h⟩ := fit_hd h
  obtain ⟨w8, h⟩ := fit_hd h
  exact ⟨wf_in w0, wf_inB w1, wf_inB w2, wf_inB w3, wf_inB w4, wf_inB w5, wf_inB w6, wf_inB w7, wf_inB w8⟩
theorem seen_ok {l : List Sn} (h1 : ∀ x ∈ l, x.n.ok) (h2 : ∀ x ∈ l, Fit ksSn x.cs) : ∀ x ∈ l, x.n.ok ∧ x.wk.ok := fun x hx => ⟨h1 x hx, fit_wk (h2 x hx)⟩
end Go.Proofs.Ytfigoeoimefngaa
