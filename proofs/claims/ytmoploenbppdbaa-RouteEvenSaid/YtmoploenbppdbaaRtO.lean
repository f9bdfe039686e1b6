/-
  Maps and changes as arguments.
-/
import Derived.Test.YtmoploenbppdbaaRtA
import Derived.Test.YtmoploenbppdbaaOpen2
namespace Go.Proofs.Ytmoploenbppdbaa
open Go.RowKit Go.ChangeShapes Go.WideShapes Go.ChangeAt Go.Deep
section
variable {H : Type} {enc : TypeId × Value → H} {w : World} {base : Nat} {spare : Nat → Bool} {held : Bool}
theorem open_map8 {r : Reach} {b0 : Nat} {v : Value} {d : DataW H} {p : List MemPlace} (hv : Value.okWide Try.prog w r b0 22 v) (h : DataW.Trod enc Try.prog w base spare held 22 v d p) : ∃ o0 o1 o2 o3 o4 o5 o6 o7 : Int, v = .agg #[.int .i64 o0, .int .i64 o1, .int .i64 o2, .int .i64 o3, .int .i64 o4, .int .i64 o5, .int .i64 o6, .int .i64 o7] := by
  obtain ⟨cs, rfl, hf⟩ := open_flat_array (m := 4) (ks := List.replicate 8 (some .i64)) Try.underlying22 (by kernel_rfl) hv h
  obtain ⟨zs, h1, rfl, _⟩ := fit_kind hf
  obtain ⟨o0, o1, o2, o3, o4, o5, o6, o7, rfl⟩ := eightI_of h1
  exact ⟨o0, o1, o2, o3, o4, o5, o6, o7, rfl⟩
theorem open_change {r : Reach} {b0 : Nat} {v : Value} {d : DataW H} {p : List MemPlace} (hv : Value.okWide Try.prog w r b0 25 v) (h : DataW.Trod enc Try.prog w base spare held 25 v d p) : ∃ s t : Int, v = .agg #[.int .i64 s, .int .i64 t] := by
  obtain ⟨cs, rfl, hf⟩ := open_flat_struct (m := 4) (ks := List.replicate 2 (some .i64)) Try.underlying25 (by kernel_rfl) hv h
  obtain ⟨zs, h1, rfl, _⟩ := fit_kind hf
  obtain ⟨s, t, rfl⟩ := two_of h1
  exact ⟨s, t, rfl⟩
end
end Go.Proofs.Ytmoploenbppdbaa
