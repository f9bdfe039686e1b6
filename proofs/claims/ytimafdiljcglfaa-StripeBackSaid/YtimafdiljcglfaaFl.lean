/-
  Floats of small whole numbers: how they compare, what they are as integers.
-/
import Derived.Test.YtimafdiljcglfaaBase
import Derived.Laws.ComplexArith
namespace Go.Proofs.Ytimafdiljcglfaa
open Go.RowKit

theorem fl_order32 : ∀ a < 32, ∀ b < 32, FloatKind.f64.format.order (floatOfInt .f64 ((a : Nat) : Int)) (floatOfInt .f64 ((b : Nat) : Int)) = some (compare a b) := by decide +kernel
theorem fl_int32 : ∀ a < 32, floatToIntVal .f64 (floatOfInt .f64 ((a : Nat) : Int)) .i64 = some ((a : Nat) : Int) := by decide +kernel
theorem fl_zero : floatOfInt .f64 0 = 0 := by decide +kernel
theorem fl_eq32 {a b : Nat} (ha : a < 32) (hb : b < 32) : (FloatKind.f64.format.order (floatOfInt .f64 (a : Int)) (floatOfInt .f64 (b : Int)) == some .eq) = (a == b) := by
  rw [fl_order32 a ha b hb, Bool.eq_iff_iff]
  simp
theorem fl_eq0 {a : Nat} (ha : a < 32) : (FloatKind.f64.format.order (floatOfInt .f64 (a : Int)) 0 == some .eq) = (a == 0) := by
  have := fl_eq32 ha (show 0 < 32 by omega)
  rwa [show ((0 : Nat) : Int) = 0 from rfl, fl_zero] at this

theorem fl_sum : ∀ a < 32, ∀ c < 32, cSumBits .add .f64 (floatOfInt .f64 ((a : Nat) : Int)) (floatOfInt .f64 ((c : Nat) : Int)) 0 4607182418800017408 = some (floatOfInt .f64 ((a : Nat) : Int), floatOfInt .f64 ((c + 1 : Nat) : Int)) := by decide +kernel
theorem fl_sub : ∀ a < 32, ∀ c < 32, c ≤ a → floatBits .sub .f64 (floatOfInt .f64 ((a : Nat) : Int)) (floatOfInt .f64 ((c : Nat) : Int)) = some (floatOfInt .f64 ((a - c : Nat) : Int)) := by decide +kernel
theorem fl_one : floatOfInt .f64 1 = 4607182418800017408 := by decide +kernel
theorem fl_lt {a b : Nat} (ha : a < 32) (hb : b < 32) : (FloatKind.f64.format.order (floatOfInt .f64 (a : Int)) (floatOfInt .f64 (b : Int)) == some .lt) = decide (a < b) := by
  rw [fl_order32 a ha b hb, Bool.eq_iff_iff]
  simp [Nat.compare_eq_lt]
theorem fl_gt {a b : Nat} (ha : a < 32) (hb : b < 32) : (FloatKind.f64.format.order (floatOfInt .f64 (a : Int)) (floatOfInt .f64 (b : Int)) == some .gt) = decide (b < a) := by
  rw [fl_order32 a ha b hb, Bool.eq_iff_iff]
  simp [Nat.compare_eq_gt]
theorem fl_gt0 {a : Nat} (ha : a < 32) : (FloatKind.f64.format.order (floatOfInt .f64 (a : Int)) 0 == some .gt) = decide (0 < a) := by
  have := fl_gt ha (show 0 < 32 by omega)
  rwa [show ((0 : Nat) : Int) = 0 from rfl, fl_zero] at this
theorem fl_gt1 {a : Nat} (ha : a < 32) : (FloatKind.f64.format.order (floatOfInt .f64 (a : Int)) 4607182418800017408 == some .gt) = decide (1 < a) := by
  have := fl_gt ha (show 1 < 32 by omega)
  rwa [show ((1 : Nat) : Int) = 1 from rfl, fl_one] at this
end Go.Proofs.Ytimafdiljcglfaa
