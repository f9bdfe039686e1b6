/-
  The contracts of package stamp's functions, as cells and values.
-/
import Derived.Test.YtobmnhdhmekffaaRows
import Derived.WalkKit
import Derived.WalkSpells
import Derived.WalkLawsBesides
import Derived.Lib.Hide
import Derived.RegionTactic
import Derived.ChangeAlike
namespace Go.Proofs.Ytobmnhdhmekffaa
open Go.RowKit

/-- Whatever was there is as it was; new blocks may have come. -/
def Grows (w w' : World) : Prop := Below w.heap.size w w'
theorem Grows.refl (w : World) : Grows w w := Below.refl _ _
theorem Grows.alloc {w w' : World} (h : Grows w w') (o : Obj) : Grows w (w'.alloc o) := Below.alloc h h.size o
theorem Grows.drew {w w' : World} (h : Grows w w') : Grows w w'.drew := Below.drew h
theorem Grows.trans {a b c : World} (h : Grows a b) (k : Grows b c) : Grows a c := Below.trans h (Below.mono k h.size)
theorem Grows.setCell {w w' : World} (h : Grows w w') {p : Addr} (hp : w.heap.size ≤ p.block) (u : Value) : Grows w (w'.setCell p u) := Below.setCell h hp u
theorem Grows.cell {w w' : World} (h : Grows w w') (b o : Nat) (hb : b < w.heap.size) : w'.cell? ⟨b, o, none⟩ = w.cell? ⟨b, o, none⟩ := Below.cell h (p := ⟨b, o, none⟩) hb
theorem Grows.frozen {w w' : World} (h : Grows w w') (b o : Nat) (hb : b < w.heap.size) : w'.frozen? ⟨b, o, none⟩ = w.frozen? ⟨b, o, none⟩ := Below.frozen h (p := ⟨b, o, none⟩) hb
theorem Grows.rules {w w' : World} (h : Grows w w') : (∀ b o, b < w.heap.size → w'.cell? ⟨b, o, none⟩ = w.cell? ⟨b, o, none⟩) ∧ (∀ b o, b < w.heap.size → w'.frozen? ⟨b, o, none⟩ = w.frozen? ⟨b, o, none⟩) := ⟨h.cell, h.frozen⟩
theorem Grows.size {w w' : World} (h : Grows w w') : w.heap.size ≤ w'.heap.size := Below.size h

theorem ret_int {k : IntKind} {a b : Int} (h : a = b) : Ending.returned (.int k a) = .returned (.int k b) := by rw [h]

set_option maxHeartbeats 400000 in
theorem least_any (a b : Int) (w : World) : Calls Try.prog 11 #[.int .i64 a, .int .i64 b] w fun e w' => e = .returned (.int .i64 (min a b)) ∧ w = w' := by
  by_cases h : b < a
  · go_enter Try.func11, Try.ntmps11
    go_wp2
    go_ret
    exact ⟨ret_int (by omega), rfl⟩
  · go_enter Try.func11, Try.ntmps11
    go_wp2
    go_ret
    exact ⟨ret_int (by omega), rfl⟩

set_option maxHeartbeats 400000 in
theorem most_any (a b : Int) (w : World) : Calls Try.prog 13 #[.int .i64 a, .int .i64 b] w fun e w' => e = .returned (.int .i64 (max a b)) ∧ w = w' := by
  by_cases h : a < b
  · go_enter Try.func13, Try.ntmps13
    go_wp2
    go_ret
    exact ⟨ret_int (by omega), rfl⟩
  · go_enter Try.func13, Try.ntmps13
    go_wp2
    go_ret
    exact ⟨ret_int (by omega), rfl⟩

theorem cell_set_same (w : World) (a : Addr) (v : Value) (h : (w.cell? a).isSome = true) : (w.setCell a v).cell? a = some v := by
  cases e : w.cell? a with
  | none => simp [e] at h
  | some u => exact World.cell?_setCell_same w a v e
theorem cell_set_other (w : World) (a b : Addr) (v : Value) (h : ¬ a = b) : (w.setCell a v).cell? b = w.cell? b := World.cell?_setCell_other w a b v h

def withB (n : Int) : Bool := decide (1 ≤ n ∧ n ≤ 1048577)

set_option maxHeartbeats 400000 in
theorem within_any (n : Int) (w : World) : Calls Try.prog 12 #[.int .i64 n] w fun e w' => e = .returned (.bool (withB n)) ∧ w = w' := by
  go_enter Try.func12, Try.ntmps12
  go_wp2_with fail
  refine (least_any _ _ _).mono ?_
  rintro e w' ⟨rfl, rfl⟩
  go_wp2_with fail
  refine (most_any _ _ _).mono ?_
  rintro e w' ⟨rfl, rfl⟩
  go_wp2_with fail
  go_ret
  refine ⟨?_, rfl⟩
  unfold withB
  by_cases h : 1 ≤ n ∧ n ≤ 1048577
  · have e : max (1 : Int) (min n 1048577) = n := by omega
    simp [h, e]
  · have e : max (1 : Int) (min n 1048577) ≠ n := by omega
    simp [h, e]

def mayB (n b : Int) : Bool := withB n && withB b && decide (n ≤ b)

set_option maxHeartbeats 400000 in
theorem may_any (n b : Int) (w : World) : Calls Try.prog 10 #[.agg #[.int .i64 n, .int .i64 b]] w fun e w' => e = .returned (.bool (mayB n b)) ∧ w.alloc (.cells #[.int .i64 n, .int .i64 b] 23) = w' := by
  go_enter Try.func10, Try.ntmps10
  go_wp2_with (go_at_call 12; refine (within_any _ _).mono ?_; rintro e w' ⟨rfl, rfl⟩)
  all_goals
    go_ret
    refine ⟨?_, rfl⟩
    simp_all [mayB]

def leftF (n b : Int) : Int := if mayB n b then 1048577 - n else 0
theorem leftF_yes {n b : Int} (h : mayB n b = true) : leftF n b = 1048577 - n := by simp [leftF, h]
theorem leftF_no {n b : Int} (h : mayB n b = false) : leftF n b = 0 := by simp [leftF, h]
theorem may_bounds {n b : Int} (h : mayB n b = true) : 1 ≤ n ∧ n ≤ 1048577 ∧ 1 ≤ b ∧ b ≤ 1048577 ∧ n ≤ b := by simp [mayB, withB] at h; omega

set_option maxHeartbeats 400000 in
theorem left_any (n b : Int) (w : World) : Calls Try.prog 7 #[.agg #[.int .i64 n, .int .i64 b]] w fun e w' => e = .returned (.int .i64 (leftF n b)) ∧ (w.alloc (.cells #[.int .i64 n, .int .i64 b] 23)).alloc (.cells #[.int .i64 n, .int .i64 b] 23) = w' := by
  by_cases hm : mayB n b = true
  · obtain ⟨hn1, hn2, _⟩ := may_bounds hm
    go_enter Try.func7, Try.ntmps7
    go_wp2_with fail
    refine (may_any _ _ _).mono ?_
    rintro e w' ⟨rfl, rfl⟩
    go_wp2_with fail
    go_ret
    exact ⟨ret_int (leftF_yes hm).symm, rfl⟩
  · have hm' : mayB n b = false := by simpa using hm
    clear hm
    go_enter Try.func7, Try.ntmps7
    go_wp2_with fail
    refine (may_any _ _ _).mono ?_
    rintro e w' ⟨rfl, rfl⟩
    go_wp2_with fail
    go_ret
    exact ⟨ret_int (leftF_no hm').symm, rfl⟩

theorem left_grows (n b : Int) (w : World) : Calls Try.prog 7 #[.agg #[.int .i64 n, .int .i64 b]] w fun e w' => e = .returned (.int .i64 (leftF n b)) ∧ Grows w w' :=
  (left_any n b w).mono fun _ _ ⟨he, hw⟩ => ⟨he, hw ▸ ((Grows.refl _).alloc _).alloc _⟩

/-- What stamp.Next answers, as plain data: the stamp, the clock, whether a batch is to be kept, the error. -/
def nextV (s n b : Int) (k : Bool) (e : Int) : Value := .tuple #[.int .i64 s, .agg #[.int .i64 n, .int .i64 b], .bool k, .int .i64 e]

set_option maxHeartbeats 400000 in
theorem next_no (n b : Int) (w : World) (hm : mayB n b = false) : Calls Try.prog 5 #[.agg #[.int .i64 n, .int .i64 b]] w fun e w' => e = .returned (nextV 0 0 0 false 2) ∧ Grows w w' := by
  go_enter Try.func5, Try.ntmps5
  go_wp2_with fail
  go_step3
  go_wp2_with fail
  refine (may_any _ _ _).mono ?_
  rintro e w' ⟨rfl, rfl⟩
  go_wp2_with fail
  rw [Exit.noGoto_ret]
  refine bodyPost_ret (v := nextV 0 0 0 false 2) (by simp [nextV, results, Try.results5, go_sem]) rfl ⟨rfl, ?_⟩
  repeat (first | exact Grows.refl _ | refine Grows.alloc ?_ _ | refine Grows.setCell ?_ (by simp) _ | refine Grows.drew ?_)

set_option maxHeartbeats 400000 in
theorem next_last (n b : Int) (w : World) (hm : mayB n b = true) (hn : (n == 1048577) = true) : Calls Try.prog 5 #[.agg #[.int .i64 n, .int .i64 b]] w fun e w' => e = .returned (nextV 0 0 0 false 190) ∧ Grows w w' := by
  go_enter Try.func5, Try.ntmps5
  go_wp2_with fail
  go_step3
  go_wp2_with fail
  refine (may_any _ _ _).mono ?_
  rintro e w' ⟨rfl, rfl⟩
  go_wp2_with fail
  go_step3
  go_wp2_with fail
  rw [Exit.noGoto_ret]
  refine bodyPost_ret (v := nextV 0 0 0 false 190) (by simp [nextV, results, Try.results5, go_sem]) rfl ⟨rfl, ?_⟩
  repeat (first | exact Grows.refl _ | refine Grows.alloc ?_ _ | refine Grows.setCell ?_ (by simp) _ | refine Grows.drew ?_)

set_option maxHeartbeats 400000 in
theorem next_keep (n b : Int) (w : World) (hm : mayB n b = true) (hn : (n == 1048577) = false) (hnb : b ≤ n) : Calls Try.prog 5 #[.agg #[.int .i64 n, .int .i64 b]] w fun e w' => e = .returned (nextV 0 n b true 0) ∧ Grows w w' := by
  go_enter Try.func5, Try.ntmps5
  go_wp2_with fail
  go_step3
  go_wp2_with fail
  refine (may_any _ _ _).mono ?_
  rintro e w' ⟨rfl, rfl⟩
  go_wp2_with fail
  go_step3
  go_wp2_with fail
  go_region
  go_wp2_with fail
  rw [Exit.noGoto_ret]
  refine bodyPost_ret (v := nextV 0 n b true 0) (by simp [nextV, results, Try.results5, go_sem]) rfl ⟨rfl, ?_⟩
  repeat (first | exact Grows.refl _ | refine Grows.alloc ?_ _ | refine Grows.setCell ?_ (by simp) _ | refine Grows.drew ?_)

set_option maxHeartbeats 400000 in
theorem next_yes (n b : Int) (w : World) (hm : mayB n b = true) (hn : (n == 1048577) = false) (hnb : n < b) : Calls Try.prog 5 #[.agg #[.int .i64 n, .int .i64 b]] w fun e w' => e = .returned (nextV n (n + 1) b false 0) ∧ Grows w w' := by
  obtain ⟨hn1, hn2, hb1, hb2, hnb0⟩ := may_bounds hm
  go_enter Try.func5, Try.ntmps5
  go_wp2_with fail
  go_step3
  go_wp2_with fail
  refine (may_any _ _ _).mono ?_
  rintro e w' ⟨rfl, rfl⟩
  go_wp2_with fail
  go_step3
  go_wp2_with fail
  go_region
  go_wp2_with fail
  rw [Exit.noGoto_ret]
  refine bodyPost_ret (v := nextV n (n + 1) b false 0) (by simp [nextV, results, Try.results5, go_sem]) rfl ⟨rfl, ?_⟩
  repeat (first | exact Grows.refl _ | refine Grows.alloc ?_ _ | refine Grows.setCell ?_ (by simp) _ | refine Grows.drew ?_)

/-- What New and Kept answer. -/
def clockV (n b e : Int) : Value := .tuple #[.agg #[.int .i64 n, .int .i64 b], .int .i64 e]

set_option maxHeartbeats 400000 in
theorem new_yes (n : Int) (w : World) (hm : mayB n n = true) : Calls Try.prog 8 #[.int .i64 n] w fun e w' => e = .returned (clockV n n 0) ∧ Grows w w' := by
  go_enter Try.func8, Try.ntmps8
  go_wp2_with fail
  refine (may_any _ _ _).mono ?_
  rintro e w' ⟨rfl, rfl⟩
  go_wp2_with fail
  refine bodyPost_ret (v := clockV n n 0) (by simp [clockV, results, Try.results8, go_sem]) rfl ⟨rfl, ?_⟩
  repeat (first | exact Grows.refl _ | refine Grows.alloc ?_ _ | refine Grows.setCell ?_ (by simp) _ | refine Grows.drew ?_)

set_option maxHeartbeats 400000 in
theorem new_no (n : Int) (w : World) (hm : mayB n n = false) : Calls Try.prog 8 #[.int .i64 n] w fun e w' => e = .returned (clockV 0 0 2) ∧ Grows w w' := by
  go_enter Try.func8, Try.ntmps8
  go_wp2_with fail
  refine (may_any _ _ _).mono ?_
  rintro e w' ⟨rfl, rfl⟩
  go_wp2_with fail
  refine bodyPost_ret (v := clockV 0 0 2) (by simp [clockV, results, Try.results8, go_sem]) rfl ⟨rfl, ?_⟩
  repeat (first | exact Grows.refl _ | refine Grows.alloc ?_ _ | refine Grows.setCell ?_ (by simp) _ | refine Grows.drew ?_)

set_option maxHeartbeats 400000 in
theorem kept_yes (n b m : Int) (w : World) (hm : mayB n b = true) (hk : (m == min (b + 16) 1048577) = true) : Calls Try.prog 9 #[.agg #[.int .i64 n, .int .i64 b], .int .i64 m] w fun e w' => e = .returned (clockV n m 0) ∧ Grows w w' := by
  obtain ⟨hn1, hn2, hb1, hb2, hnb0⟩ := may_bounds hm
  have hk' : (m != min (b + 16) 1048577) = false := by simpa using hk
  clear hk
  go_enter Try.func9, Try.ntmps9
  go_wp2_with fail
  refine (may_any _ _ _).mono ?_
  rintro e w' ⟨rfl, rfl⟩
  go_wp2_with fail
  refine (least_any _ _ _).mono ?_
  rintro e w' ⟨rfl, rfl⟩
  go_wp2_with fail
  refine bodyPost_ret (v := clockV n m 0) (by simp [clockV, results, Try.results9, go_sem]) rfl ⟨rfl, ?_⟩
  repeat (first | exact Grows.refl _ | refine Grows.alloc ?_ _ | refine Grows.setCell ?_ (by simp) _ | refine Grows.drew ?_)

set_option maxHeartbeats 400000 in
theorem wakes_any (w : World) : Calls Try.prog 6 #[] w fun e w' => e = .returned (.bool true) ∧ Grows w w' := by
  go_enter Try.func6, Try.ntmps6
  go_wp2_with fail
  refine (next_keep 1 1 _ (by decide) (by decide) (by decide)).mono ?_
  rintro e w1 ⟨rfl, hb1⟩
  simp only [nextV]
  go_wp2_with fail
  refine (next_yes 1 17 _ (by decide) (by decide) (by decide)).mono ?_
  rintro e w2 ⟨rfl, hb2⟩
  simp only [nextV]
  go_wp2_with fail
  go_ret
  refine ⟨rfl, ?_⟩
  exact (hb1.trans (((Grows.refl _).alloc _).trans hb2)).alloc _

end Go.Proofs.Ytobmnhdhmekffaa
