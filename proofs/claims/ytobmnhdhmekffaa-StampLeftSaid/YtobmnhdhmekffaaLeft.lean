/-
  StampLeft returns true for every clock.
-/
import Derived.Test.YtobmnhdhmekffaaWalksA
import Derived.Deep.RegionHeld3
import Derived.IntWalk
namespace Go.Proofs.Ytobmnhdhmekffaa
open Go.RowKit

set_option maxHeartbeats 400000 in
theorem lawLeft_no (n b : Int) (w : World) (hm : mayB n b = false) : Calls Try.prog 3 #[.agg #[.int .i64 n, .int .i64 b]] w fun e w' => e = .returned (.bool true) ∧ Grows w w' := by
  have hl := leftF_no hm
  go_enter Try.func3, Try.ntmps3
  go_wp2_with fail
  refine (next_no _ _ _ hm).mono ?_
  rintro e w1 ⟨rfl, hb1⟩
  simp only [nextV]
  have hc1 := fun o => hb1.cell w.heap.size o (by simp)
  have hz1 : w.heap.size < w1.heap.size := by have := hb1.size; simp at this; omega
  have hB1 : Grows w w1 := ((Grows.refl _).alloc _).trans hb1
  go_wp2_with fail
  refine (left_any _ _ _).mono ?_
  rintro e w2 ⟨rfl, rfl⟩
  go_wp2_with fail
  refine (wakes_any _).mono ?_
  rintro e w3 ⟨rfl, hb3⟩
  go_wp2_with fail
  go_ret
  refine ⟨rfl, Grows.trans ?_ hb3⟩
  repeat (first | exact hB1 | refine Grows.alloc ?_ _)

set_option maxHeartbeats 400000 in
theorem lawLeft_last (n b : Int) (w : World) (hm : mayB n b = true) (hn : (n == 1048577) = true) : Calls Try.prog 3 #[.agg #[.int .i64 n, .int .i64 b]] w fun e w' => e = .returned (.bool true) ∧ Grows w w' := by
  have hl : leftF n b = 0 := by rw [leftF_yes hm]; simp at hn; omega
  go_enter Try.func3, Try.ntmps3
  go_wp2_with fail
  refine (next_last _ _ _ hm hn).mono ?_
  rintro e w1 ⟨rfl, hb1⟩
  simp only [nextV]
  have hc1 := fun o => hb1.cell w.heap.size o (by simp)
  have hz1 : w.heap.size < w1.heap.size := by have := hb1.size; simp at this; omega
  have hB1 : Grows w w1 := ((Grows.refl _).alloc _).trans hb1
  go_wp2_with fail
  refine (left_any _ _ _).mono ?_
  rintro e w2 ⟨rfl, rfl⟩
  go_wp2_with fail
  refine (wakes_any _).mono ?_
  rintro e w3 ⟨rfl, hb3⟩
  go_wp2_with fail
  go_ret
  refine ⟨rfl, Grows.trans ?_ hb3⟩
  repeat (first | exact hB1 | refine Grows.alloc ?_ _)

set_option maxHeartbeats 400000 in
theorem lawLeft_keep (n b : Int) (w : World) (hm : mayB n b = true) (hn : (n == 1048577) = false) (hnb : b ≤ n) : Calls Try.prog 3 #[.agg #[.int .i64 n, .int .i64 b]] w fun e w' => e = .returned (.bool true) ∧ Grows w w' := by
  go_enter Try.func3, Try.ntmps3
  go_wp2_with fail
  refine (next_keep _ _ _ hm hn hnb).mono ?_
  rintro e w1 ⟨rfl, hb1⟩
  simp only [nextV]
  have hc1 := fun o => hb1.cell w.heap.size o (by simp)
  have hz1 : w.heap.size < w1.heap.size := by have := hb1.size; simp at this; omega
  have hB1 : Grows w w1 := ((Grows.refl _).alloc _).trans hb1
  go_wp2_with fail
  refine (wakes_any _).mono ?_
  rintro e w3 ⟨rfl, hb3⟩
  go_wp2_with fail
  go_ret
  refine ⟨rfl, Grows.trans ?_ hb3⟩
  repeat (first | exact hB1 | refine Grows.alloc ?_ _)

set_option maxHeartbeats 400000 in
theorem lawLeft_yes (n b : Int) (w : World) (hm : mayB n b = true) (hn : (n == 1048577) = false) (hnb : n < b) : Calls Try.prog 3 #[.agg #[.int .i64 n, .int .i64 b]] w fun e w' => e = .returned (.bool true) ∧ Grows w w' := by
  have hmn : mayB (n + 1) b = true := by have := may_bounds hm; simp at hn; simp [mayB, withB]; omega
  have hq : (leftF (n + 1) b == leftF n b - 1) = true := by rw [leftF_yes hm, leftF_yes hmn]; simp; omega
  have hl0 : 0 ≤ leftF n b ∧ leftF n b ≤ 1048577 := by rw [leftF_yes hm]; have := may_bounds hm; omega
  obtain ⟨hl1, hl2⟩ := hl0
  clear hmn
  have hwr : IntKind.i64.wrap (leftF n b - 1) = leftF n b - 1 := IntWalk.i64_in _ (by omega)
  go_enter Try.func3, Try.ntmps3
  go_wp2_with fail
  refine (next_yes _ _ _ hm hn hnb).mono ?_
  rintro e w1 ⟨rfl, hb1⟩
  simp only [nextV]
  have hc1 := fun o => hb1.cell w.heap.size o (by simp)
  have hz1 : w.heap.size < w1.heap.size := by have := hb1.size; simp at this; omega
  have hB1 : Grows w w1 := ((Grows.refl _).alloc _).trans hb1
  go_wp2_with fail
  go_region_held3 (fun w' => w'.cell? ⟨w.heap.size, 0, none⟩ = some (.int .i64 n) ∧ w'.cell? ⟨w.heap.size, 1, none⟩ = some (.int .i64 b) ∧ w'.cell? ⟨w1.heap.size, 0, none⟩ = some (.int .i64 (n + 1)) ∧ w'.cell? ⟨w1.heap.size, 1, none⟩ = some (.int .i64 b) ∧ w1.heap.size < w'.heap.size)
    (first | go_keep | (go_split_ands; have hs2 := hb2.size; refine ⟨(hb2.cell _ _ (by omega)).trans (by assumption), (hb2.cell _ _ (by omega)).trans (by assumption), (hb2.cell _ _ (by omega)).trans (by assumption), (hb2.cell _ _ (by omega)).trans (by assumption), by omega⟩))
    (first | (go_at_call 7; refine (left_grows _ _ _).mono ?_; rintro e w2 ⟨rfl, hb2⟩) | (go_at_call 6; refine (wakes_any _).mono ?_; rintro e w2 ⟨rfl, hb2⟩))
  go_wp2_with fail
  go_ret
  refine ⟨rfl, ?_⟩
  repeat (first | exact (hB1.alloc _).drew | refine Grows.trans ?_ (by assumption))

theorem lawLeft (n b : Int) (w : World) : Calls Try.prog 3 #[.agg #[.int .i64 n, .int .i64 b]] w fun e w' => e = .returned (.bool true) ∧ Grows w w' := by
  cases hm : mayB n b with
  | false => exact lawLeft_no n b w hm
  | true =>
    cases hn : (n == 1048577) with
    | true => exact lawLeft_last n b w hm hn
    | false =>
      by_cases hnb : n < b
      · exact lawLeft_yes n b w hm hn hnb
      · exact lawLeft_keep n b w hm hn (by omega)

end Go.Proofs.Ytobmnhdhmekffaa
