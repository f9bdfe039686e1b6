/-
  Maps and changes as arguments.
-/
import Derived.Test.YtimafdiljcglfaaStB
import Derived.Test.YtimafdiljcglfaaOpen2
namespace Go.Proofs.Ytimafdiljcglfaa
open Go.RowKit Go.ChangeShapes Go.WideShapes Go.ChangeAt Go.Deep
section
variable {H : Type} {enc : TypeId × Value → H} {w : World} {base : Nat} {spare : Nat → Bool} {held : Bool}
theorem open_map9 {r : Reach} {b0 : Nat} {v : Value} {d : DataW H} {p : List MemPlace} (hv : Value.okWide Try.prog w r b0 24 v) (h : DataW.Trod enc Try.prog w base spare held 24 v d p) : ∃ n o0 o1 o2 o3 o4 o5 o6 o7 : Int, v = mpv n o0 o1 o2 o3 o4 o5 o6 o7 := by
  obtain ⟨cs, rfl, hf⟩ := open_flat_struct (m := 4) (ks := List.replicate 9 (some .i64)) Try.underlying24 (by kernel_rfl) hv h
  obtain ⟨zs, h1, rfl, _⟩ := fit_kind hf
  obtain ⟨n, o0, o1, o2, o3, o4, o5, o6, o7, rfl⟩ := nine_of h1
  exact ⟨n, o0, o1, o2, o3, o4, o5, o6, o7, rfl⟩
theorem open_change {r : Reach} {b0 : Nat} {v : Value} {d : DataW H} {p : List MemPlace} (hv : Value.okWide Try.prog w r b0 26 v) (h : DataW.Trod enc Try.prog w base spare held 26 v d p) : ∃ s t : Int, v = .agg #[.int .i64 s, .int .i64 t] := by
  obtain ⟨cs, rfl, hf⟩ := open_flat_struct (m := 4) (ks := List.replicate 2 (some .i64)) Try.underlying26 (by kernel_rfl) hv h
  obtain ⟨zs, h1, rfl, _⟩ := fit_kind hf
  obtain ⟨s, t, rfl⟩ := two_of h1
  exact ⟨s, t, rfl⟩
end
end Go.Proofs.Ytimafdiljcglfaa
