/-
  Owned rows: an empty one that was built; a post for a slice that is handed back.
-/
import Derived.Test.YtpllcjggjjapoaaApp
namespace Go.Proofs.Ytpllcjggjjapoaa
open Go.RowKit

theorem own_empty (w : World) (e : TypeId) (size : Nat) : (w.alloc (.cells #[] e)).ownsRow w.heap.size e size (.slice (some ⟨w.heap.size, 0, none⟩) 0 0) 0 [] :=
  ⟨by simp, .inr ⟨w.heap.size, 0, #[], rfl, Nat.le_refl _, heap_alloc_new w _, Nat.le_refl _, Nat.zero_le _, by simp, by simp⟩⟩
/-- The call hands back a new slice that reads as xs. -/
def RetNew (w : World) (t : TypeId) (size n : Nat) (xs : List Value) (e : Ending) (w' : World) : Prop := ∃ v, e = .returned v ∧ New w t size n xs v w'
end Go.Proofs.Ytpllcjggjjapoaa
