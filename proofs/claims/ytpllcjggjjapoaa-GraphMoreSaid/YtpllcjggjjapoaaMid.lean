/-
  A row of cells loaded out of, and stored into, a block that is known whole.
-/
import Derived.Test.YtpllcjggjjapoaaBase
import Derived.Deep.MidRow
namespace Go.Proofs.Ytpllcjggjjapoaa
open Go.RowKit

/-- The list with vs from place o on. -/
def spl {α : Type} (xs : List α) (o : Nat) (vs : List α) : List α := xs.take o ++ vs ++ xs.drop (o + vs.length)
section
variable {α β : Type}
theorem spl_length (xs : List α) (o : Nat) (vs : List α) (h : o + vs.length ≤ xs.length) : (spl xs o vs).length = xs.length := by simp [spl]; omega
theorem spl_map (f : α → β) (xs : List α) (o : Nat) (vs : List α) : (spl xs o vs).map f = spl (xs.map f) o (vs.map f) := by simp [spl, List.map_take, List.map_drop]
theorem spl_get (xs : List α) (o : Nat) (vs : List α) (h : o + vs.length ≤ xs.length) (i : Nat) : (spl xs o vs)[i]? = if i < o then xs[i]? else if i < o + vs.length then vs[i - o]? else xs[i]? := by
  unfold spl
  by_cases h1 : i < o
  · rw [if_pos h1, List.append_assoc, List.getElem?_append_left (by simp; omega), List.getElem?_take_of_lt h1]
  · rw [if_neg h1]
    by_cases h2 : i < o + vs.length
    · rw [if_pos h2, List.getElem?_append_left (by simp; omega), List.getElem?_append_right (by simp; omega)]
      simp [Nat.min_eq_left (show o ≤ xs.length by omega)]
    · rw [if_neg h2, List.getElem?_append_right (by simp; omega), List.getElem?_drop]
      congr 1
      simp
      omega
end
theorem bys_spl (H : List Nat) (o : Nat) (v : List Nat) : bys (spl H o v) = spl (bys H) o (bys v) := spl_map _ _ _ _

section
variable {w : World} {g : Nat} {t : TypeId}
theorem At.setCells : ∀ (vs : List Value) {w : World} {cs : List Value} (o : Nat), At w g t cs.toArray → o + vs.length ≤ cs.length → At (w.setCells g o vs) g t (spl cs o vs).toArray
  | [], w, cs, o, h, _ => by simpa [World.setCells, spl] using h
  | v :: vs, w, cs, o, h, hl => by
    simp only [List.length_cons] at hl
    have h1 := h.set o v
    rw [List.setIfInBounds_toArray] at h1
    have h2 := At.setCells vs (o + 1) h1 (by simp; omega)
    rw [World.setCells]
    have e : spl (cs.set o v) (o + 1) vs = spl cs o (v :: vs) := by
      apply List.ext_getElem?
      intro i
      rw [spl_get _ _ _ (by simp; omega), spl_get _ _ _ (by simp; omega)]
      simp only [List.length_cons, List.getElem?_set]
      by_cases h3 : i < o
      · rw [if_pos (by omega), if_pos h3, if_neg (by omega)]
      · rw [if_neg h3]
        by_cases h4 : i = o
        · subst h4
          rw [if_pos (by omega), if_pos rfl, if_pos (by omega), if_pos (by omega)]
          simp
        · rw [if_neg (by omega)]
          by_cases h5 : i < o + 1 + vs.length
          · rw [if_pos h5, if_pos (by omega), show i - o = (i - (o + 1)) + 1 by omega]
            simp
          · rw [if_neg h5, if_neg (by omega), if_neg (by omega)]
    rw [← e]
    exact h2
theorem At.setCells_far {w : World} {cs : Array Value} (h : At w g t cs) {b : Nat} (hb : g ≠ b) : ∀ (vs : List Value) {w : World} (o : Nat), At w g t cs → At (w.setCells b o vs) g t cs
  | [], _, _, h => h
  | v :: vs, w, o, h' => by rw [World.setCells]; exact At.setCells_far h hb vs (o + 1) (h'.far hb v)
theorem At.there {cs : Array Value} (h : At w g t cs) (o n : Nat) (hn : o + n ≤ cs.size) : w.there g o n := fun j hj => by
  rw [h.cell, h.frozen]
  simp
  omega
theorem At.range {cs : List Value} (h : At w g t cs.toArray) (o n : Nat) : w.rangeAt g o ((cs.drop o).take n) := fun j v hv => by
  rw [h.cell]
  rw [List.getElem?_take] at hv
  split at hv
  · simpa using hv
  · cases hv
theorem Grows.setCells {a : World} {b : Nat} (hb : a.heap.size ≤ b) : ∀ (vs : List Value) {w : World} (o : Nat), Grows a w → Grows a (w.setCells b o vs)
  | [], _, _, h => h
  | v :: vs, w, o, h => by rw [World.setCells]; exact Grows.setCells hb vs (o + 1) (h.setCell hb v)
theorem size_setCells (b : Nat) : ∀ (vs : List Value) {w : World} (o : Nat), (w.setCells b o vs).heap.size = w.heap.size
  | [], _, _ => rfl
  | v :: vs, w, o => by rw [World.setCells, size_setCells b vs]; simp
end
end Go.Proofs.Ytpllcjggjjapoaa
