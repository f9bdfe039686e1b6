/-
  The plain mathematics of the sums: the remainder's step, that it is linear and loses nothing, the table of half bytes, pieces, and what a changed run of bits does.
-/
import Derived.Test.YtmcofmidpedkiaaRows
namespace Go.Proofs.Ytmcofmidpedkiaa.Crc

/-- One step of the remainder. -/
def stp (r : Nat) : Nat := if r % 2 = 1 then (r / 2) ^^^ 3988292384 else r / 2
def half (i : Nat) : Nat := stp (stp (stp (stp i)))
/-- A half byte taken in. -/
def nib (r : Nat) : Nat := half (r % 16) ^^^ r / 16
/-- A byte taken in. -/
def byt (r b : Nat) : Nat := nib (nib (r ^^^ b))
def run (r : Nat) (l : List Nat) : Nat := l.foldl byt r
def inv (r : Nat) : Nat := 4294967295 - r
def sum (l : List Nat) : Nat := inv (run 4294967295 l)
def join (s : Nat) (l : List Nat) : Nat := inv (run (inv s) l)

theorem lt_stp {r : Nat} (h : r < 4294967296) : stp r < 4294967296 := by
  unfold stp
  split
  · have := Nat.xor_lt_two_pow (x := r / 2) (y := 3988292384) (n := 32) (by omega) (by omega)
    omega
  · omega
theorem lt_half {r : Nat} (h : r < 4294967296) : half r < 4294967296 := lt_stp (lt_stp (lt_stp (lt_stp h)))
theorem lt_nib {r : Nat} (h : r < 4294967296) : nib r < 4294967296 := by
  have h1 := lt_half (r := r % 16) (by omega)
  have := Nat.xor_lt_two_pow (x := half (r % 16)) (y := r / 16) (n := 32) (by omega) (by omega)
  unfold nib
  omega
theorem lt_xor {a b : Nat} (h : a < 4294967296) (k : b < 4294967296) : a ^^^ b < 4294967296 := by
  have := Nat.xor_lt_two_pow (x := a) (y := b) (n := 32) (by omega) (by omega)
  omega
theorem lt_byt {r b : Nat} (h : r < 4294967296) (k : b < 256) : byt r b < 4294967296 := lt_nib (lt_nib (lt_xor h (by omega)))
theorem lt_run (l : List Nat) : ∀ {r : Nat}, r < 4294967296 → (∀ b ∈ l, b < 256) → run r l < 4294967296 := by
  induction l with
  | nil => intro r h _; exact h
  | cons b l ih =>
    intro r h k
    exact ih (lt_byt h (k b (by simp))) fun x hx => k x (by simp [hx])
theorem run_append (r : Nat) (a b : List Nat) : run r (a ++ b) = run (run r a) b := by simp [run]
theorem inv_inv {r : Nat} (h : r < 4294967296) : inv (inv r) = r := by unfold inv; omega
theorem lt_inv (r : Nat) : inv r < 4294967296 := by unfold inv; omega
theorem join_append (s : Nat) (a b : List Nat) (_ : s < 4294967296) (ha : ∀ x ∈ a, x < 256) : join (join s a) b = join s (a ++ b) := by
  unfold join
  rw [inv_inv (lt_run a (lt_inv s) ha), run_append]
theorem sum_eq_join (l : List Nat) : sum l = join 0 l := rfl
theorem sum_nil : sum [] = 0 := by decide
theorem sum_digits : sum [49, 50, 51, 52, 53, 54, 55, 56, 57] = 3421780262 := by decide +kernel

theorem stp_xor (a b : Nat) : stp (a ^^^ b) = stp a ^^^ stp b := by
  unfold stp
  have h1 := @Nat.xor_mod_two_eq_one a b
  have h2 : (a ^^^ b) / 2 = a / 2 ^^^ b / 2 := Nat.xor_div_two
  rw [h2]
  by_cases ha : a % 2 = 1 <;> by_cases hb : b % 2 = 1
  · rw [if_neg (by rw [h1]; simp [ha, hb]), if_pos ha, if_pos hb]
    rw [show a / 2 ^^^ 3988292384 ^^^ (b / 2 ^^^ 3988292384) = a / 2 ^^^ b / 2 ^^^ (3988292384 ^^^ 3988292384) by ac_rfl, Nat.xor_self, Nat.xor_zero]
  · rw [if_pos (h1.2 (by simp [ha, hb])), if_pos ha, if_neg hb]
    ac_rfl
  · rw [if_pos (h1.2 (by simp [ha, hb])), if_neg ha, if_pos hb]
    ac_rfl
  · rw [if_neg (by rw [h1]; simp [ha, hb]), if_neg ha, if_neg hb]

theorem stp_two (x : Nat) : stp (2 * x) = x := by
  unfold stp
  rw [if_neg (by omega)]
  omega
theorem stp_ne {x : Nat} (h : x < 4294967296) (h0 : x ≠ 0) : stp x ≠ 0 := by
  unfold stp
  split
  · intro e
    have : x / 2 = 3988292384 := by
      have h1 : (x / 2 ^^^ 3988292384) ^^^ 3988292384 = 0 ^^^ 3988292384 := by rw [e]
      rw [Nat.xor_assoc, Nat.xor_self, Nat.xor_zero, Nat.zero_xor] at h1
      exact h1
    omega
  · omega

/-- Steps one behind the other. -/
def st : Nat → Nat → Nat
  | 0, r => r
  | n + 1, r => st n (stp r)
theorem st_add (m n r : Nat) : st (m + n) r = st n (st m r) := by
  induction m generalizing r with
  | zero => simp [st]
  | succ m ih => rw [show m + 1 + n = (m + n) + 1 by omega]; simp [st, ih]
theorem st_xor (n a b : Nat) : st n (a ^^^ b) = st n a ^^^ st n b := by
  induction n generalizing a b with
  | zero => rfl
  | succ n ih => simp [st, stp_xor, ih]
theorem st_pow (n x : Nat) : st n (2 ^ n * x) = x := by
  induction n with
  | zero => simp [st]
  | succ n ih =>
    rw [st, show 2 ^ (n + 1) * x = 2 * (2 ^ n * x) by rw [Nat.pow_succ]; ac_rfl, stp_two, ih]
theorem st_ne (n : Nat) : ∀ {x : Nat}, x < 4294967296 → x ≠ 0 → st n x ≠ 0 := by
  induction n with
  | zero => intro x _ h; exact h
  | succ n ih => intro x h h0; exact ih (lt_stp h) (stp_ne h h0)
theorem lt_st (n : Nat) : ∀ {x : Nat}, x < 4294967296 → st n x < 4294967296 := by
  induction n with
  | zero => intro x h; exact h
  | succ n ih => intro x h; exact ih (lt_stp h)
theorem st_succ (n r : Nat) : st (n + 1) r = stp (st n r) := by
  rw [st_add]; rfl
theorem half_st (r : Nat) : half r = st 4 r := rfl

theorem split_xor (n r : Nat) : r % 2 ^ n ^^^ 2 ^ n * (r / 2 ^ n) = r := by
  apply Nat.eq_of_testBit_eq
  intro i
  rw [Nat.testBit_xor, Nat.testBit_mod_two_pow, Nat.testBit_two_pow_mul, Nat.testBit_div_two_pow]
  by_cases h : i < n
  · simp [h, Nat.not_le.2 h]
  · have h' : n ≤ i := by omega
    simp [h, h', Nat.sub_add_cancel h']
theorem nib_st (r : Nat) : nib r = st 4 r := by
  have h := split_xor 4 r
  rw [show (2 : Nat) ^ 4 = 16 by decide] at h
  have h2 := st_pow 4 (r / 16)
  rw [show (2 : Nat) ^ 4 = 16 by decide] at h2
  conv => rhs; rw [← h, st_xor, h2]
  rfl
theorem byt_st (r b : Nat) : byt r b = st 8 (r ^^^ b) := by
  unfold byt
  rw [nib_st, nib_st, ← st_add]

/-- The bytes as one number, the first the lowest. -/
def big : List Nat → Nat
  | [] => 0
  | b :: l => b ^^^ 2 ^ 8 * big l
theorem run_st (l : List Nat) : ∀ r, run r l = st (8 * l.length) (r ^^^ big l) := by
  induction l with
  | nil => intro r; simp [run, big, st]
  | cons b l ih =>
    intro r
    have h1 : run r (b :: l) = run (byt r b) l := rfl
    rw [h1, ih, byt_st, List.length_cons, show 8 * (l.length + 1) = 8 + 8 * l.length by omega, st_add]
    congr 1
    rw [big, ← Nat.xor_assoc, st_xor 8 (r ^^^ b), st_pow]

theorem mul_pow_xor (n a b : Nat) : 2 ^ n * (a ^^^ b) = 2 ^ n * a ^^^ 2 ^ n * b := by
  have h := @Nat.shiftLeft_xor_distrib n a b
  simp only [Nat.shiftLeft_eq] at h
  rw [Nat.mul_comm, h, Nat.mul_comm a, Nat.mul_comm b]

/-- A bit turned in a byte. -/
theorem big_set : ∀ (l : List Nat) (q j : Nat) (hq : q < l.length), big (l.set q (l[q] ^^^ 2 ^ j)) = big l ^^^ 2 ^ (8 * q + j)
  | [], _, _, hq => by simp at hq
  | b :: l, 0, j, _ => by
    simp only [List.set_cons_zero, List.getElem_cons_zero, big, Nat.mul_zero, Nat.zero_add]
    ac_rfl
  | b :: l, q + 1, j, hq => by
    simp only [List.set_cons_succ, List.getElem_cons_succ, big]
    rw [big_set l q j (by simpa using hq), mul_pow_xor, show 2 ^ (8 * (q + 1) + j) = 2 ^ 8 * 2 ^ (8 * q + j) by rw [← Nat.pow_add]; congr 1; omega]
    ac_rfl

/-- The four bytes of a number. -/
def le4 (x : Nat) : List Nat := [x % 256, x / 256 % 256, x / 65536 % 256, x / 16777216 % 256]
theorem split_add (n a b : Nat) (h : a < 2 ^ n) : a ^^^ 2 ^ n * b = a + 2 ^ n * b := by
  have h1 := split_xor n (a + 2 ^ n * b)
  rw [Nat.add_mul_mod_self_left, Nat.mod_eq_of_lt h, Nat.add_mul_div_left _ _ (Nat.two_pow_pos n), Nat.div_eq_of_lt h, Nat.zero_add] at h1
  exact h1
theorem big_le4 {x : Nat} (h : x < 4294967296) : big (le4 x) = x := by
  simp only [le4, big, Nat.mul_zero, Nat.xor_zero]
  rw [split_add 8 _ _ (by omega), split_add 8 _ _ (by omega), split_add 8 _ _ (by omega)]
  omega
theorem xor_inv {r : Nat} (h : r < 4294967296) : r ^^^ inv r = 4294967295 := by
  apply Nat.eq_of_testBit_eq
  intro i
  have h1 : inv r = 2 ^ 32 - (r + 1) := by unfold inv; omega
  rw [Nat.testBit_xor, h1, Nat.testBit_two_pow_sub_succ (by omega), show 4294967295 = 2 ^ 32 - 1 by decide, Nat.testBit_two_pow_sub_one]
  by_cases hi : i < 32
  · simp [hi]
  · have : r.testBit i = false := Nat.testBit_lt_two_pow (Nat.lt_of_lt_of_le (by omega : r < 2 ^ 32) (Nat.pow_le_pow_right (by omega) (by omega)))
    simp [hi, this]
theorem run_sealed (body : List Nat) (hb : ∀ x ∈ body, x < 256) : run 4294967295 (body ++ le4 (sum body)) = st 32 4294967295 := by
  have hr := lt_run body (r := 4294967295) (by omega) hb
  rw [run_append, run_st (le4 (sum body)), big_le4 (x := sum body) (lt_inv _)]
  unfold sum
  rw [xor_inv hr]
  rfl

/-- What is changed within 32 bits of one another is told: two rows of one length that differ so are not both sealed. -/
theorem told {s s' : List Nat} {bits at_ : Nat} (hl : s'.length = s.length) (hd : big s' = big s ^^^ 2 ^ at_ * bits) (hb : bits < 4294967296) (h0 : bits ≠ 0) (hat : at_ ≤ 8 * s.length) : run 4294967295 s' ≠ run 4294967295 s := by
  intro e
  rw [run_st, run_st, hl, hd, ← Nat.xor_assoc, st_xor] at e
  have h1 : st (8 * s.length) (2 ^ at_ * bits) = 0 := by
    have h2 := congrArg (fun x => st (8 * s.length) (4294967295 ^^^ big s) ^^^ x) e
    simp only [← Nat.xor_assoc, Nat.xor_self, Nat.zero_xor] at h2
    exact h2
  rw [show 8 * s.length = at_ + (8 * s.length - at_) by omega, st_add, st_pow] at h1
  exact st_ne _ hb h0 h1

end Go.Proofs.Ytmcofmidpedkiaa.Crc
