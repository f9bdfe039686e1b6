/-
  Floats of small whole numbers: how they compare, what they are as integers.
-/
import Derived.Test.YtimafdiljcglfaaBase
namespace Go.Proofs.Ytimafdiljcglfaa
open Go.RowKit

theorem fl_order32 : ∀ a < 32, ∀ b < 32, FloatKind.f64.format.order (floatOfInt .f64 ((a : Nat) : Int)) (floatOfInt .f64 ((b : Nat) : Int)) = some (compare a b) := by decide +kernel
theorem fl_int32 : ∀ a < 32, floatToIntVal .f64 (floatOfInt .f64 ((a : Nat) : Int)) .i64 = some ((a : Nat) : Int) := by decide +kernel
theorem fl_zero : floatOfInt .f64 0 = 0 := by decide +kernel
theorem fl_eq32 {a b : Nat} (ha : a < 32) (hb : b < 32) : (FloatKind.f64.format.order (floatOfInt .f64 (a : Int)) (floatOfInt .f64 (b : Int)) == some .eq) = (a == b) := by
  rw [fl_order32 a ha b hb, Bool.eq_iff_iff]
  simp
theorem fl_eq0 {a : Nat} (ha : a < 32) : (FloatKind.f64.format.order (floatOfInt .f64 (a : Int)) 0 == some .eq) = (a == 0) := by
  have := fl_eq32 ha (show 0 < 32 by omega)
  rwa [show ((0 : Nat) : Int) = 0 from rfl, fl_zero] at this
end Go.Proofs.Ytimafdiljcglfaa
