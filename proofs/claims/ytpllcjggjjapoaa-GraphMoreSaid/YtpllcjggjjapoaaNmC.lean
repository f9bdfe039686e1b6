/-
  Lists of names; age.Waits, age.Oldest.
-/
import Derived.Test.YtpllcjggjjapoaaNmB
import Derived.Test.YtpllcjggjjapoaaRes
namespace Go.Proofs.Ytpllcjggjjapoaa
open Go.RowKit

def nms (l : List Nm) : List Value := l.flatMap Nm.cs
theorem nms_cons (x : Nm) (xs : List Nm) : nms (x :: xs) = x.cs ++ nms xs := by rw [nms, List.flatMap_cons]; rfl
theorem nms_append (a b : List Nm) : nms (a ++ b) = nms a ++ nms b := by simp [nms]
theorem nms_length (l : List Nm) : (nms l).length = l.length * 3 := by
  induction l with
  | nil => rfl
  | cons x xs ih => rw [nms_cons, List.length_append, ih, List.length_cons]; simp [Nm.cs]; omega
theorem nms_drop (l : List Nm) (k : Nat) (hk : k ≤ l.length) : nms (l.drop k) = (nms l).drop (k * 3) := by
  have h2 : nms l = nms (l.take k) ++ nms (l.drop k) := by rw [← nms_append, List.take_append_drop]
  rw [h2, List.drop_left']
  rw [nms_length, List.length_take, Nat.min_eq_left hk]
theorem nms_take (l : List Nm) (k : Nat) (hk : k ≤ l.length) : nms (l.take k) = (nms l).take (k * 3) := by
  have h2 : nms l = nms (l.take k) ++ nms (l.drop k) := by rw [← nms_append, List.take_append_drop]
  rw [h2, List.take_left']
  rw [nms_length, List.length_take, Nat.min_eq_left hk]
theorem nms_get (l : List Nm) (k j : Nat) (hk : k < l.length) (hj : j < 3) : (nms l)[k * 3 + j]? = (l[k].cs)[j]? := by
  rw [← List.getElem?_drop, ← nms_drop l k (by omega), List.drop_eq_getElem_cons hk, nms_cons, List.getElem?_append_left]
  simpa [Nm.cs] using hj
theorem nms_one (l : List Nm) : ∀ u ∈ nms l, u.oneCell' = true := by
  intro u hu
  obtain ⟨x, _, hx⟩ := List.mem_flatMap.1 hu
  simp only [Nm.cs, List.mem_cons, List.not_mem_nil, or_false] at hx
  rcases hx with rfl | rfl | rfl <;> rfl
/-- The three cells of name k. -/
theorem cells3 {w : World} {a : Option Addr} {l : List Nm} (h : Rd w a (nms l)) {k : Nat} (hk : k < l.length) :
    ∃ (g off : Nat), a = some ⟨g, off, none⟩ ∧ g < w.heap.size ∧ w.cell? ⟨g, off + k * 3, none⟩ = some (.int .i64 l[k].s) ∧ w.cell? ⟨g, off + k * 3 + 1, none⟩ = some (.int .i64 l[k].i) ∧ w.cell? ⟨g, off + k * 3 + 2, none⟩ = some (.int .i64 l[k].t) := by
  have hl := nms_length l
  obtain ⟨g, off, rfl, hg, hc⟩ := h.at (by omega)
  have cell : ∀ j v, j < 3 → (l[k].cs)[j]? = some v → w.cell? ⟨g, off + k * 3 + j, none⟩ = some v := by
    intro j v hj hv
    have := hc (k * 3 + j) (by omega)
    rw [show off + k * 3 + j = off + (k * 3 + j) by omega, this, ← hv, ← nms_get l k j hk hj]
    exact (List.getElem?_eq_getElem _).symm
  exact ⟨g, off, rfl, hg, cell 0 _ (by omega) rfl, cell 1 _ (by omega) rfl, cell 2 _ (by omega) rfl⟩

end Go.Proofs.Ytpllcjggjjapoaa
