/-
  The walks of package sums: the table of half bytes, a run of bytes, Sum, Join.
-/
import Derived.Test.YtmcofmidpedkiaaBase
import Derived.Test.YtmcofmidpedkiaaCrc
import Derived.Laws.BitsAllLaws
namespace Go.Proofs.Ytmcofmidpedkiaa
open Go.RowKit

theorem and_one (r : Nat) (hr : r < 4294967296) : bits .and .u32 (r : Int) 1 = ((r % 2 : Nat) : Int) := by
  have := u32_and_nat r 1 hr (by omega)
  rw [Nat.and_one_is_mod] at this
  exact this
theorem and_15 (r : Nat) (hr : r < 4294967296) : bits .and .u32 (r : Int) 15 = ((r % 16 : Nat) : Int) := by
  have := u32_and_nat r 15 hr (by omega)
  rw [show (15 : Nat) = 2 ^ 4 - 1 by decide, Nat.and_two_pow_sub_one_eq_mod] at this
  exact this

set_option maxHeartbeats 400000 in
theorem step_any (r : Nat) (hr : r < 4294967296) (w : World) : Calls Try.prog 47 #[.int .u32 r] w fun e w' => e = .returned (.int .u32 (Crc.stp r : Nat)) ∧ w = w' := by
  have ha := and_one r hr
  by_cases h : r % 2 = 1
  · have ht : (((r % 2 : Nat) : Int) == 1) = true := by simp; omega
    have HS : Hid ((Crc.stp r : Int) = bits .xor .u32 ((r / 2 : Nat) : Int) 3988292384) := by
      have := u32_xor_nat (r / 2) 3988292384 (by omega) (by omega)
      unfold Crc.stp
      rw [if_pos h]
      exact this.symm
    clear h
    go_enter Try.func47, Try.ntmps47
    go_wp2
    go_ret
    exact ⟨ret_int HS.out.symm, rfl⟩
  · have ht : (((r % 2 : Nat) : Int) == 1) = false := by simp; omega
    have HS : Hid ((Crc.stp r : Int) = ((r / 2 : Nat) : Int)) := by
      unfold Crc.stp
      rw [if_neg h]; rfl
    clear h
    go_enter Try.func47, Try.ntmps47
    go_wp2
    go_ret
    exact ⟨ret_int HS.out.symm, rfl⟩

/-- The table, its first i entries made. -/
def ent (i j : Nat) : Value := .int .u32 ((if j < i then Crc.half j else 0 : Nat) : Int)
def tbl (i : Nat) : Array Value := #[ent i 0, ent i 1, ent i 2, ent i 3, ent i 4, ent i 5, ent i 6, ent i 7, ent i 8, ent i 9, ent i 10, ent i 11, ent i 12, ent i 13, ent i 14, ent i 15]
theorem tbl_size (i : Nat) : (tbl i).size = 16 := rfl
theorem tbl_at (i j : Nat) (hj : j < 16) : (tbl i)[j]? = some (ent i j) := by
  match j, hj with
  | 0, _ => rfl
  | 1, _ => rfl
  | 2, _ => rfl
  | 3, _ => rfl
  | 4, _ => rfl
  | 5, _ => rfl
  | 6, _ => rfl
  | 7, _ => rfl
  | 8, _ => rfl
  | 9, _ => rfl
  | 10, _ => rfl
  | 11, _ => rfl
  | 12, _ => rfl
  | 13, _ => rfl
  | 14, _ => rfl
  | 15, _ => rfl
  | n + 16, h => exact absurd h (by omega)
theorem tbl_full (j : Nat) (hj : j < 16) : (tbl 16)[j]? = some (.int .u32 (Crc.half j : Nat)) := by
  rw [tbl_at _ _ hj]
  simp [ent, hj]
theorem tbl_succ (i : Nat) (hi : i < 16) : (tbl i).setIfInBounds i (.int .u32 (Crc.half i : Nat)) = tbl (i + 1) := by
  apply Array.ext_getElem?
  intro j
  by_cases hj : j < 16
  · rw [tbl_at _ _ hj, Array.getElem?_setIfInBounds, tbl_size, tbl_at _ _ hj]
    by_cases hij : i = j
    · subst hij; simp [hi, ent]
    · have : (j < i + 1) ↔ (j < i) := by omega
      simp [hij, this, ent]
  · rw [Array.getElem?_eq_none (by simp [tbl_size]; omega), Array.getElem?_eq_none (by simp [tbl_size]; omega)]
def cellsZ : Array Value := #[.int .u32 0, .int .u32 0, .int .u32 0, .int .u32 0, .int .u32 0, .int .u32 0, .int .u32 0, .int .u32 0, .int .u32 0, .int .u32 0, .int .u32 0, .int .u32 0, .int .u32 0, .int .u32 0, .int .u32 0, .int .u32 0]
theorem tbl_zero : cellsZ = tbl 0 := rfl
theorem tbl_lit : tbl 16 = #[.int .u32 0, .int .u32 498536548, .int .u32 997073096, .int .u32 651767980, .int .u32 1994146192, .int .u32 1802195444, .int .u32 1303535960, .int .u32 1342533948, .int .u32 3988292384, .int .u32 4027552580, .int .u32 3604390888, .int .u32 3412177804, .int .u32 2607071920, .int .u32 2262029012, .int .u32 2685067896, .int .u32 3183342108] := by kernel_rfl

set_option maxHeartbeats 1000000 in
theorem halves_any (w : World) : Calls Try.prog 46 #[] w fun e w' => e = .returned (.agg (tbl 16)) ∧ (w.alloc (.cells (tbl 16) 97)).alloc (.cells (tbl 16) 97) = w' := by
  rw [tbl_lit]
  go_enter Try.func46, Try.ntmps46
  go_wp2_with fail
  go_loopg [5] 16 (fun g t wr => ∃ i : Nat, i + g = 16 ∧ t = .int .i64 i ∧ wr = (w.alloc (.cells cellsZ 97)).alloc (.cells (tbl i) 97))
  case atStart => exact ⟨0, rfl, rfl, rfl⟩
  case round =>
    obtain ⟨i, hi, rfl, rfl⟩ := hrel
    by_cases hlt : i < 16
    · have hlt' : (i : Int) < 16 := by omega
      have hi0 : (0 : Int) ≤ (i : Int) := by omega
      have hti := tbl_at i i hlt
      have Hts := Lib.hid (tbl_succ i hlt)
      go_wp2_with fail
      obtain ⟨gk', hgk⟩ : ∃ gk' : Nat, gk' = gk := ⟨_, rfl⟩
      subst hgk
      go_loopg [4, 10] 4 (fun g r c wr => ∃ k : Nat, k + g = 4 ∧ c = .int .i64 k ∧ wr = (w.alloc (.cells cellsZ 97)).alloc (.cells (tbl i) 97) ∧ r = .int .u32 (Crc.st k i : Nat))
      case atStart => exact ⟨0, rfl, rfl, rfl, rfl⟩
      case round =>
        obtain ⟨k, hk, rfl, rfl, rfl⟩ := hrel
        have hst : Crc.st k i < 4294967296 := Crc.lt_st k (by omega)
        by_cases hk4 : k < 4
        · have hk4' : (k : Int) < 4 := by omega
          have hk0 : (0 : Int) ≤ (k : Int) := by omega
          have HK := Lib.hid (Crc.st_succ k i)
          go_wp2_with fail
          refine (step_any _ hst _).mono ?_
          rintro e w' ⟨rfl, rfl⟩
          go_wp2_with fail
          go_roundg (gk - 1)
          case measure => omega
          case rel => exact ⟨k + 1, by omega, by go_num, rfl, by rw [HK.out]⟩
        · obtain rfl : k = 4 := by omega
          go_wp2_with fail
          go_roundg (gk' - 1)
          case measure => omega
          case rel => exact ⟨i + 1, by omega, by go_num, by rw [← Hts.out]; rfl⟩
    · obtain rfl : i = 16 := by omega
      rw [tbl_lit, cellsZ]
      go_wp2_with fail
      refine bodyPost_ret (v := .agg #[.int .u32 0, .int .u32 498536548, .int .u32 997073096, .int .u32 651767980, .int .u32 1994146192, .int .u32 1802195444, .int .u32 1303535960, .int .u32 1342533948, .int .u32 3988292384, .int .u32 4027552580, .int .u32 3604390888, .int .u32 3412177804, .int .u32 2607071920, .int .u32 2262029012, .int .u32 2685067896, .int .u32 3183342108]) (by simp [results, Try.results46, go_sem]) rfl ⟨rfl, rfl⟩

end Go.Proofs.Ytmcofmidpedkiaa
