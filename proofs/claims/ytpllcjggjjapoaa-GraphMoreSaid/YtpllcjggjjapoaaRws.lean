/-
  Rows of like things, laid one behind the other.
-/
import Derived.Test.YtpllcjggjjapoaaMid
namespace Go.Proofs.Ytpllcjggjjapoaa
open Go.RowKit

/-- The cells of the things of a list, each by f. -/
def rowsOf {α : Type} (f : α → List Value) (l : List α) : List Value := l.flatMap f
section
variable {α : Type} {f : α → List Value} {c : Nat}
theorem rows_nil : rowsOf f [] = [] := rfl
theorem rows_cons (x : α) (l : List α) : rowsOf f (x :: l) = f x ++ rowsOf f l := by simp [rowsOf]
theorem rows_append (a b : List α) : rowsOf f (a ++ b) = rowsOf f a ++ rowsOf f b := by simp [rowsOf]
theorem rows_one (x : α) : rowsOf f [x] = f x := by simp [rowsOf]
theorem rows_length (hc : ∀ x, (f x).length = c) (l : List α) : (rowsOf f l).length = l.length * c := by
  induction l with
  | nil => simp [rowsOf]
  | cons x xs ih => rw [rows_cons, List.length_append, ih, hc, List.length_cons, Nat.add_mul, Nat.one_mul, Nat.add_comm]
theorem rows_drop (hc : ∀ x, (f x).length = c) (l : List α) (k : Nat) (hk : k ≤ l.length) : rowsOf f (l.drop k) = (rowsOf f l).drop (k * c) := by
  have h2 : rowsOf f l = rowsOf f (l.take k) ++ rowsOf f (l.drop k) := by rw [← rows_append, List.take_append_drop]
  have h3 : (rowsOf f (l.take k)).length = k * c := by rw [rows_length hc, List.length_take, Nat.min_eq_left hk]
  rw [h2]
  exact (List.drop_left' h3).symm
theorem rows_take (hc : ∀ x, (f x).length = c) (l : List α) (k : Nat) (hk : k ≤ l.length) : rowsOf f (l.take k) = (rowsOf f l).take (k * c) := by
  have h2 : rowsOf f l = rowsOf f (l.take k) ++ rowsOf f (l.drop k) := by rw [← rows_append, List.take_append_drop]
  have h3 : (rowsOf f (l.take k)).length = k * c := by rw [rows_length hc, List.length_take, Nat.min_eq_left hk]
  rw [h2]
  exact (List.take_left' h3).symm
theorem rows_get (hc : ∀ x, (f x).length = c) (l : List α) (k j : Nat) (hk : k < l.length) (hj : j < c) : (rowsOf f l)[k * c + j]? = (f l[k])[j]? := by
  rw [← List.getElem?_drop, ← rows_drop hc l k (by omega), List.drop_eq_getElem_cons hk, rows_cons, List.getElem?_append_left (by rw [hc]; exact hj)]
theorem rows_all {p : Value → Prop} (h : ∀ x, ∀ u ∈ f x, p u) (l : List α) : ∀ u ∈ rowsOf f l, p u := by
  intro u hu
  obtain ⟨x, _, h2⟩ := List.mem_flatMap.1 hu
  exact h x u h2
theorem rows_lt (hc : ∀ x, (f x).length = c) (l : List α) (k j : Nat) (hk : k < l.length) (hj : j < c) : k * c + j < (rowsOf f l).length := by
  rw [rows_length hc]
  have h1 := Nat.mul_le_mul_right c hk
  rw [Nat.succ_mul] at h1
  omega
theorem rows_cell (hc : ∀ x, (f x).length = c) (h0 : 0 < c) {w : World} {a : Option Addr} {l : List α} (h : Rd w a (rowsOf f l)) {k : Nat} (hk : k < l.length) :
    ∃ (g off : Nat), a = some ⟨g, off, none⟩ ∧ g < w.heap.size ∧ ∀ j v, (f l[k])[j]? = some v → w.cell? ⟨g, off + k * c + j, none⟩ = some v := by
  have hl := rows_lt (c := c) hc l k 0 hk h0
  obtain ⟨g, off, rfl, hg, hcl⟩ := h.at (by omega)
  refine ⟨g, off, rfl, hg, fun j v hv => ?_⟩
  have hj : j < c := by
    rcases Nat.lt_or_ge j c with h | h
    · exact h
    · rw [List.getElem?_eq_none (by rw [hc]; exact h)] at hv; cases hv
  have := hcl (k * c + j) (rows_lt hc l k j hk hj)
  rw [show off + k * c + j = off + (k * c + j) by omega, this, ← hv, ← rows_get hc l k j hk hj]
  exact (List.getElem?_eq_getElem _).symm
/-- As rows_cell, by a name for the thing. -/
theorem rows_cell_at (hc : ∀ x, (f x).length = c) (h0 : 0 < c) {w : World} {g off : Nat} {l : List α} (h : Rd w (some ⟨g, off, none⟩) (rowsOf f l)) {k : Nat} {x : α} (hk : l[k]? = some x) :
    g < w.heap.size ∧ w.rangeAt g (off + k * c) (f x) := by
  have hlt : k < l.length := by
    rcases Nat.lt_or_ge k l.length with h | h
    · exact h
    · rw [List.getElem?_eq_none h] at hk; cases hk
  obtain ⟨g', off', he, hg, hcl⟩ := rows_cell hc h0 h hlt
  injection he with he
  injection he with e1 e2
  subst e1
  subst e2
  rw [List.getElem?_eq_getElem hlt] at hk
  injection hk with hk
  rw [hk] at hcl
  exact ⟨hg, fun j v hv => hcl j v hv⟩
end
end Go.Proofs.Ytpllcjggjjapoaa
