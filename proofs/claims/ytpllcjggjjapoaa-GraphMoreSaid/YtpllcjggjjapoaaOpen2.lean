/-
  Flat structs and arrays as arguments by value, over any program.
-/
import Derived.Test.YtpllcjggjjapoaaOpen
namespace Go.Proofs.Ytpllcjggjjapoaa
open Go.RowKit Go.ChangeShapes Go.WideShapes Go.ChangeAt Go.Deep

theorem okWide_array {P : Program} {w : World} {r : Reach} {base n : Nat} {t e : TypeId} {v : Value} (ht : P.underlying t = some (.array n e)) (h : Value.okWide P w r base t v) : ∃ cs, v = .agg cs ∧ cs.size = P.cellsOf t := by
  simp only [Value.okWide, ht] at h
  obtain ⟨cs, h1, h2, _⟩ := h
  exact ⟨cs, h1, h2⟩
section
variable {H : Type} {enc : TypeId × Value → H} {P : Program} {w : World} {base : Nat} {spare : Nat → Bool} {held : Bool}
theorem open_flat_struct {r : Reach} {b0 m : Nat} {t : TypeId} {fs : Array Field} {ks : List (Option IntKind)} {v : Value} {d : DataW H} {p : List MemPlace} (ht : P.underlying t = some (.struct fs)) (hk : flat P m t = some ks) (hv : Value.okWide P w r b0 t v) (h : DataW.Trod enc P w base spare held t v d p) :
    ∃ cs : List Value, v = .agg cs.toArray ∧ Fit ks cs := by
  obtain ⟨cs, rfl, _⟩ := okWide_struct ht hv
  obtain ⟨fuel, hf⟩ := h
  exact ⟨cs.toList, by simp, flat_fits _ _ _ _ _ _ hk hf⟩
theorem open_flat_array {r : Reach} {b0 m n : Nat} {t e : TypeId} {ks : List (Option IntKind)} {v : Value} {d : DataW H} {p : List MemPlace} (ht : P.underlying t = some (.array n e)) (hk : flat P m t = some ks) (hv : Value.okWide P w r b0 t v) (h : DataW.Trod enc P w base spare held t v d p) :
    ∃ cs : List Value, v = .agg cs.toArray ∧ Fit ks cs := by
  obtain ⟨cs, rfl, _⟩ := okWide_array ht hv
  obtain ⟨fuel, hf⟩ := h
  exact ⟨cs.toList, by simp, flat_fits _ _ _ _ _ _ hk hf⟩
end
theorem fit_kind {k : IntKind} : ∀ {n : Nat} {cs : List Value}, Fit (List.replicate n (some k)) cs → ∃ zs : List Int, zs.length = n ∧ cs = zs.map (Value.int k) ∧ ∀ z ∈ zs, (Lit.int k z).wf = true
  | 0, [], _ => ⟨[], rfl, rfl, by simp⟩
  | 0, _ :: _, h => h.elim
  | n + 1, [], h => by rw [List.replicate_succ] at h; exact h.elim
  | n + 1, v :: vs, h => by
    rw [List.replicate_succ] at h
    obtain ⟨⟨z, rfl, hz⟩, h2⟩ := h
    obtain ⟨zs, h3, h4, h5⟩ := fit_kind h2
    refine ⟨z :: zs, by simp [h3], by simp [h4], ?_⟩
    intro y hy
    rcases List.mem_cons.1 hy with rfl | hy
    · exact hz
    · exact h5 y hy
theorem two_of {l : List Int} (h : l.length = 2) : ∃ a b, l = [a, b] := by
  match l, h with
  | [a, b], _ => exact ⟨a, b, rfl⟩
theorem three_of {l : List Int} (h : l.length = 3) : ∃ a b c, l = [a, b, c] := by
  match l, h with
  | [a, b, c], _ => exact ⟨a, b, c, rfl⟩
theorem eightI_of {l : List Int} (h : l.length = 8) : ∃ a b c d e f g i, l = [a, b, c, d, e, f, g, i] := by
  match l, h with
  | [a, b, c, d, e, f, g, i], _ => exact ⟨a, b, c, d, e, f, g, i, rfl⟩
theorem nine_of {l : List Int} (h : l.length = 9) : ∃ v a b c d e f g i, l = [v, a, b, c, d, e, f, g, i] := by
  match l, h with
  | [v, a, b, c, d, e, f, g, i], _ => exact ⟨v, a, b, c, d, e, f, g, i, rfl⟩
end Go.Proofs.Ytpllcjggjjapoaa
