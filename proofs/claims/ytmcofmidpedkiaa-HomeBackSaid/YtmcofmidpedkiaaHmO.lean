/-
  Superblocks and blocks as arguments.
-/
import Derived.Test.YtmcofmidpedkiaaHmD
import Derived.Test.YtmcofmidpedkiaaOpen2
namespace Go.Proofs.Ytmcofmidpedkiaa
open Go.RowKit Go.ChangeShapes Go.WideShapes Go.ChangeAt Go.Deep
theorem thirteen_of {l : List Int} (h : l.length = 13) : ∃ n t u i b o0 o1 o2 o3 o4 o5 o6 o7 : Int, l = [n, t, u, i, b, o0, o1, o2, o3, o4, o5, o6, o7] := by
  match l, h with
  | [n, t, u, i, b, o0, o1, o2, o3, o4, o5, o6, o7], _ => exact ⟨n, t, u, i, b, o0, o1, o2, o3, o4, o5, o6, o7, rfl⟩
section
variable {H : Type} {enc : TypeId × Value → H} {w : World} {base : Nat} {spare : Nat → Bool} {held : Bool}
theorem open_sup {r : Reach} {b0 : Nat} {v : Value} {d : DataW H} {p : List MemPlace} (hv : Value.okWide Try.prog w r b0 39 v) (h : DataW.Trod enc Try.prog w base spare held 39 v d p) : ∃ n t u i b o0 o1 o2 o3 o4 o5 o6 o7 : Int, v = supv n t u i b o0 o1 o2 o3 o4 o5 o6 o7 ∧ ∀ z ∈ [n, t, u, i, b, o0, o1, o2, o3, o4, o5, o6, o7], (Lit.int .i64 z).wf = true := by
  obtain ⟨cs, rfl, hf⟩ := open_flat_struct (m := 4) (ks := List.replicate 13 (some .i64)) Try.underlying39 (by kernel_rfl) hv h
  obtain ⟨zs, h1, rfl, hw⟩ := fit_kind hf
  obtain ⟨n, t, u, i, b, o0, o1, o2, o3, o4, o5, o6, o7, rfl⟩ := thirteen_of h1
  exact ⟨n, t, u, i, b, o0, o1, o2, o3, o4, o5, o6, o7, rfl, hw⟩
theorem open_vals {a : Option Addr} {len cap : Nat} {d : DataW H} {p : List MemPlace} (h : DataW.Trod enc Try.prog w base spare held 22 (.slice a len cap) d p) :
    ∃ l : List Nat, l.length = len * 8 ∧ Rd w a (bys l) ∧ (∀ x ∈ l, x < 256) ∧ (a = none → len = 0 ∧ cap = 0) ∧ len ≤ cap ∧ cap ≤ maxLen := by
  obtain ⟨xs, h1, h2, h3, h4, h5, h6⟩ := open_flat_slice (m := 3) (ks := List.replicate 8 (some .u8)) Try.underlying22 (by kernel_rfl) (by kernel_rfl) (by simp) h
  obtain ⟨l, hl, he, hb⟩ := fits_u8 8 xs h2
  rw [he] at h3
  exact ⟨l, by rw [hl, h1], h3, hb, h4, h5, h6⟩
end
end Go.Proofs.Ytmcofmidpedkiaa
