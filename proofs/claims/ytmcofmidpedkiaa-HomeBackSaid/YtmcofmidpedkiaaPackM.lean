/-
  The plain mathematics of package pack: numbers of w bytes.
-/
import Derived.Test.YtmcofmidpedkiaaApp
import Derived.Laws.BitsAllLaws
namespace Go.Proofs.Ytmcofmidpedkiaa
open Go.RowKit

/-- Is n a number of w bytes? -/
def fitsB (n w : Int) : Bool := decide (1 ≤ w ∧ w ≤ 6 ∧ 0 ≤ n ∧ n < 2 ^ (8 * w.toNat))
theorem fitsB_iff (n w : Int) : fitsB n w = true ↔ 1 ≤ w ∧ w ≤ 6 ∧ 0 ≤ n ∧ n < 2 ^ (8 * w.toNat) := by simp [fitsB]

/-- A number's bytes, the lowest first. -/
def digits (n w : Nat) : List Nat := (List.range w).map fun i => n / 2 ^ (8 * i) % 256
theorem digits_length (n w : Nat) : (digits n w).length = w := by simp [digits]
theorem digits_lt (n w : Nat) : ∀ x ∈ digits n w, x < 256 := by
  intro x hx
  obtain ⟨i, _, rfl⟩ := List.mem_map.1 hx
  omega
theorem digits_at (n w i : Nat) (h : i < w) : (digits n w)[i]? = some (n / 2 ^ (8 * i) % 256) := by simp [digits, h]
theorem digits_succ (n w : Nat) : digits n (w + 1) = digits n w ++ [n / 2 ^ (8 * w) % 256] := by simp [digits, List.range_succ]

/-- The number that some bytes are. -/
def num : List Nat → Nat
  | [] => 0
  | b :: l => b + 256 * num l
theorem num_append (a b : List Nat) : num (a ++ b) = num a + 2 ^ (8 * a.length) * num b := by
  induction a with
  | nil => simp [num]
  | cons x a ih =>
    simp only [List.cons_append, num, ih, List.length_cons, Nat.mul_add, Nat.pow_add]
    rw [show 256 * (2 ^ (8 * a.length) * num b) = 2 ^ (8 * a.length) * 2 ^ (8 * 1) * num b by rw [show (256 : Nat) = 2 ^ (8 * 1) by decide]; ac_rfl]
    omega
theorem num_lt (l : List Nat) (h : ∀ x ∈ l, x < 256) : num l < 2 ^ (8 * l.length) := by
  induction l with
  | nil => simp [num]
  | cons x l ih =>
    have h1 := ih fun y hy => h y (by simp [hy])
    have h2 := h x (by simp)
    rw [List.length_cons, Nat.mul_add, Nat.pow_add]
    simp only [num]
    omega
theorem num_digits (n w : Nat) : num (digits n w) = n % 2 ^ (8 * w) := by
  induction w with
  | zero => simp [digits, num, Nat.mod_one]
  | succ w ih =>
    rw [digits_succ, num_append, ih, digits_length]
    simp only [num, Nat.mul_zero, Nat.add_zero]
    rw [Nat.mul_add, Nat.pow_add, Nat.mod_mul]

theorem ofInt_64 (a : Nat) (ha : a < 9223372036854775808) : (BitVec.ofInt 64 (a : Int)).toNat = a := by
  rw [BitVec.ofInt_natCast, BitVec.toNat_ofNat]; exact Nat.mod_eq_of_lt (by omega)
theorem or_64 (a b : Nat) (ha : a < 9223372036854775808) (hb : b < 9223372036854775808) : bits .or .i64 (a : Int) (b : Int) = ((a ||| b : Nat) : Int) := by
  have hx : a ||| b < 2 ^ 63 := Nat.or_lt_two_pow (by omega) (by omega)
  show IntKind.i64.wrap ((BitVec.ofInt 64 (a : Int) ||| BitVec.ofInt 64 (b : Int)).toNat : Int) = _
  rw [BitVec.toNat_or, ofInt_64 a ha, ofInt_64 b hb, IntKind.wrap_i64]
  omega
theorem and_64 (a b : Nat) (ha : a < 9223372036854775808) (hb : b < 9223372036854775808) : bits .and .i64 (a : Int) (b : Int) = ((a &&& b : Nat) : Int) := by
  have hx : a &&& b < 2 ^ 63 := Nat.and_lt_two_pow _ (by omega)
  show IntKind.i64.wrap ((BitVec.ofInt 64 (a : Int) &&& BitVec.ofInt 64 (b : Int)).toNat : Int) = _
  rw [BitVec.toNat_and, ofInt_64 a ha, ofInt_64 b hb, IntKind.wrap_i64]
  omega
/-- What does not overlap: '|' adds. -/
theorem or_add (a b k : Nat) (ha : a < 2 ^ k) : a ||| 2 ^ k * b = a + 2 ^ k * b := by
  rw [Nat.or_comm, Nat.add_comm]
  exact (Nat.two_pow_add_eq_or_of_lt ha b).symm

theorem take_snoc {α : Type} (l : List α) (k : Nat) (h : k < l.length) : l.take (k + 1) = l.take k ++ [l[k]] := List.take_succ_eq_append_getElem h

end Go.Proofs.Ytmcofmidpedkiaa
