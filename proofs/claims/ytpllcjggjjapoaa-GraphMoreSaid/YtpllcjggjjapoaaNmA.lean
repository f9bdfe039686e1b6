/-
  Names, their order: record.Less, cashboxref07.Less, age.Older.
-/
import Derived.Test.YtpllcjggjjapoaaBase
import Derived.Deep.RegionHeld3
namespace Go.Proofs.Ytpllcjggjjapoaa
open Go.RowKit

structure Nm where
  s : Int
  i : Int
  t : Int
deriving DecidableEq
def Nm.v (a : Nm) : Value := .agg #[.int .i64 a.s, .int .i64 a.i, .int .i64 a.t]
def Nm.cs (a : Nm) : List Value := [.int .i64 a.s, .int .i64 a.i, .int .i64 a.t]
def lessN (a b : Nm) : Bool := if a.s ≠ b.s then decide (a.s < b.s) else if a.i ≠ b.i then decide (a.i < b.i) else decide (a.t < b.t)
def cmpI (a b : Int) : Int := if a < b then -1 else if b < a then 1 else 0

theorem isNaN_any (n : Int) (w : World) : Calls Try.prog 24 #[.int .i64 n] w fun e w' => e = .returned (.bool false) ∧ w = w' := by
  go_enter Try.func24, Try.ntmps24
  go_wp2
  go_ret
  exact ⟨rfl, rfl⟩
theorem compare_any (a b : Int) (w : World) : Calls Try.prog 23 #[.int .i64 a, .int .i64 b] w fun e w' => e = .returned (.int .i64 (cmpI a b)) ∧ w = w' := by
  by_cases h1 : a < b
  · rw [show cmpI a b = -1 by simp [cmpI, h1]]
    go_enter Try.func23, Try.ntmps23
    go_wp2_with (first | (go_at_call 24; refine (isNaN_any _ _).mono ?_; rintro e w1 ⟨rfl, rfl⟩))
    go_ret
    exact ⟨rfl, rfl⟩
  · by_cases h2 : b < a
    · rw [show cmpI a b = 1 by simp [cmpI, h1, h2]]
      go_enter Try.func23, Try.ntmps23
      go_wp2_with (first | (go_at_call 24; refine (isNaN_any _ _).mono ?_; rintro e w1 ⟨rfl, rfl⟩))
      go_ret
      exact ⟨rfl, rfl⟩
    · rw [show cmpI a b = 0 by simp [cmpI, h1, h2]]
      go_enter Try.func23, Try.ntmps23
      go_wp2_with (first | (go_at_call 24; refine (isNaN_any _ _).mono ?_; rintro e w1 ⟨rfl, rfl⟩))
      go_ret
      exact ⟨rfl, rfl⟩

def orI (x y z : Int) : Int := if x ≠ 0 then x else if y ≠ 0 then y else z
set_option maxHeartbeats 1000000 in
theorem or_any (x y z : Int) (g : Nat) (t : TypeId) (w : World) (h : At w g t #[.int .i64 x, .int .i64 y, .int .i64 z]) : Calls Try.prog 22 #[.slice (some ⟨g, 0, none⟩) 3 3] w fun e w' => e = .returned (.int .i64 (orI x y z)) ∧ w = w' := by
  have c0 : w.cell? ⟨g, 0, none⟩ = some (.int .i64 x) := h.cell 0
  have c1 : w.cell? ⟨g, 1, none⟩ = some (.int .i64 y) := h.cell 1
  have c2 : w.cell? ⟨g, 2, none⟩ = some (.int .i64 z) := h.cell 2
  clear h
  by_cases h0 : x = 0
  · by_cases h1 : y = 0
    · have e0 : (x != 0) = false := by simpa using h0
      have e1 : (y != 0) = false := by simpa using h1
      have HO : Hid (orI x y z = z) := by show _ = _; simp [orI, h0, h1]
      by_cases h2 : z = 0
      · have e2 : (z != 0) = false := by simpa using h2
        have HZ := Lib.hid h2
        clear h0 h1 h2
        go_enter Try.func22, Try.ntmps22
        go_wp2_with fail
        refine wp_loop_rounds 4 ?_
        rw [rounds_succ]
        go_wp2_with fail
        rw [rounds_succ]
        go_wp2_with fail
        rw [rounds_succ]
        go_wp2_with fail
        rw [rounds_succ]
        go_wp2_with fail
        go_ret
        exact ⟨by rw [HO.out, HZ.out]; rfl, rfl⟩
      · have e2 : (z != 0) = true := by simpa using h2
        clear h0 h1 h2
        go_enter Try.func22, Try.ntmps22
        go_wp2_with fail
        refine wp_loop_rounds 3 ?_
        rw [rounds_succ]
        go_wp2_with fail
        rw [rounds_succ]
        go_wp2_with fail
        rw [rounds_succ]
        go_wp2_with fail
        go_ret
        exact ⟨by rw [HO.out]; rfl, rfl⟩
    · have e0 : (x != 0) = false := by simpa using h0
      have e1 : (y != 0) = true := by simpa using h1
      have HO : Hid (orI x y z = y) := by show _ = _; simp [orI, h0, h1]
      clear h0 h1
      go_enter Try.func22, Try.ntmps22
      go_wp2_with fail
      refine wp_loop_rounds 2 ?_
      rw [rounds_succ]
      go_wp2_with fail
      rw [rounds_succ]
      go_wp2_with fail
      go_ret
      exact ⟨by rw [HO.out]; rfl, rfl⟩
  · have e0 : (x != 0) = true := by simpa using h0
    have HO : Hid (orI x y z = x) := by show _ = _; simp [orI, h0]
    clear h0
    go_enter Try.func22, Try.ntmps22
    go_wp2_with fail
    refine wp_loop_rounds 1 ?_
    rw [rounds_succ]
    go_wp2_with fail
    go_ret
    exact ⟨by rw [HO.out]; rfl, rfl⟩
end Go.Proofs.Ytpllcjggjjapoaa
