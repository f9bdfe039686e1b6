/-
  Bits of natural numbers at int.
-/
import Derived.Test.YtmoploenbppdbaaBase
namespace Go.Proofs.Ytmoploenbppdbaa
open Go.RowKit

theorem ofInt_64 (a : Nat) (ha : a < 9223372036854775808) : (BitVec.ofInt 64 (a : Int)).toNat = a := by
  rw [BitVec.ofInt_natCast, BitVec.toNat_ofNat]; exact Nat.mod_eq_of_lt (by omega)
theorem or_64 (a b : Nat) (ha : a < 9223372036854775808) (hb : b < 9223372036854775808) : bits .or .i64 (a : Int) (b : Int) = ((a ||| b : Nat) : Int) := by
  have hx : a ||| b < 2 ^ 63 := Nat.or_lt_two_pow (by omega) (by omega)
  show IntKind.i64.wrap ((BitVec.ofInt 64 (a : Int) ||| BitVec.ofInt 64 (b : Int)).toNat : Int) = _
  rw [BitVec.toNat_or, ofInt_64 a ha, ofInt_64 b hb, IntKind.wrap_i64]
  omega
theorem and_64 (a b : Nat) (ha : a < 9223372036854775808) (hb : b < 9223372036854775808) : bits .and .i64 (a : Int) (b : Int) = ((a &&& b : Nat) : Int) := by
  have hx : a &&& b < 2 ^ 63 := Nat.and_lt_two_pow _ (by omega)
  show IntKind.i64.wrap ((BitVec.ofInt 64 (a : Int) &&& BitVec.ofInt 64 (b : Int)).toNat : Int) = _
  rw [BitVec.toNat_and, ofInt_64 a ha, ofInt_64 b hb, IntKind.wrap_i64]
  omega
/-- What does not overlap: '|' adds. -/
theorem or_add (a b k : Nat) (ha : a < 2 ^ k) : a ||| 2 ^ k * b = a + 2 ^ k * b := by
  rw [Nat.or_comm, Nat.add_comm]
  exact (Nat.two_pow_add_eq_or_of_lt ha b).symm

theorem pow64 (k : Nat) (hk : k < 62) : wrap64 ((2 : Int) ^ k) = ((2 ^ k : Nat) : Int) := by
  have hp : (2 : Nat) ^ k ≤ 2 ^ 62 := Nat.pow_le_pow_right (by omega) (by omega)
  have h0 : ((2 ^ k : Nat) : Int) = (2 : Int) ^ k := by simp
  rw [← h0]
  generalize (2 : Nat) ^ k = p at hp
  exact IntWalk.wrap64_in _ ⟨by omega, by omega⟩
/-- One bit more, above all others. -/
theorem or_bit (B k : Nat) (hB : B < 2 ^ k) (hk : k < 62) : bits .or .i64 (B : Int) (wrap64 ((2 : Int) ^ k)) = ((B + 2 ^ k : Nat) : Int) := by
  have hp : (2 : Nat) ^ k ≤ 2 ^ 62 := Nat.pow_le_pow_right (by omega) (by omega)
  rw [pow64 k hk, or_64 B (2 ^ k) (by omega) (by omega)]
  have := or_add B 1 k hB
  rw [Nat.mul_one] at this
  rw [this]
/-- Bit k of a number, as the walk spells it. -/
theorem and_bit (B k : Nat) (hB : B < 9223372036854775808) : bits .and .i64 ((B : Int) / 2 ^ k) 1 = ((B / 2 ^ k % 2 : Nat) : Int) := by
  have h1 : (B : Int) / 2 ^ k = ((B / 2 ^ k : Nat) : Int) := by simp
  rw [h1]
  have h2 := and_64 (B / 2 ^ k) 1 (Nat.lt_of_le_of_lt (Nat.div_le_self _ _) hB) (by omega)
  rw [Nat.and_one_is_mod] at h2
  exact h2
theorem and_one (B : Nat) (hB : B < 9223372036854775808) : bits .and .i64 (B : Int) 1 = ((B % 2 : Nat) : Int) := by
  have h2 := and_64 B 1 hB (by omega)
  rw [Nat.and_one_is_mod] at h2
  exact h2
end Go.Proofs.Ytmoploenbppdbaa
