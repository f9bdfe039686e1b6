/-
  StampOnce returns true for every bound and every list of steps: stamps rise and none is given out twice.
-/
import Derived.Test.YtobmnhdhmekffaaWalksA
import Derived.Deep.RegionHeld3
import Derived.Deep.LoopGhost
import Derived.IntWalk
namespace Go.Proofs.Ytobmnhdhmekffaa
open Go.RowKit

/-- A slice whose elements are one cell each: empty, or it leads to a row of cells. -/
def Row1 (w : World) (a : Option Addr) (len : Nat) (V : Nat → Value) : Prop :=
  len = 0 ∨ ∃ b off, a = some ⟨b, off, none⟩ ∧ b < w.heap.size ∧ ∀ i, i < len → w.cell? ⟨b, off + i, none⟩ = some (V i)

/-- What holds at every round's head: the clock s in block B, that it may be, that the last stamp is below its next, that kept is its bound. -/
structure OnceRel (w wr : World) (B : Nat) (next bnd last : Int) : Prop where
  grows : Grows w wr
  hB : w.heap.size ≤ B
  lt : B < wr.heap.size
  c0 : wr.cell? ⟨B, 0, none⟩ = some (.int .i64 next)
  c1 : wr.cell? ⟨B, 1, none⟩ = some (.int .i64 bnd)
  f0 : wr.frozen? ⟨B, 0, none⟩ = false
  f1 : wr.frozen? ⟨B, 1, none⟩ = false
  may : mayB next bnd = true
  last0 : 0 ≤ last
  last1 : last < next

set_option maxRecDepth 100000 in
set_option maxHeartbeats 400000 in
theorem once_long (a : Option Addr) (len cap : Nat) (bound : Int) (w : World) (hl : 200 < (len : Int)) : Calls Try.prog 4 #[.int .i64 bound, .slice a len cap] w fun e w' => e = .returned (.bool true) ∧ Grows w w' := by
  go_enter Try.func4, Try.ntmps4
  go_wp2_with fail
  refine (wakes_any _).mono ?_
  rintro e w1 ⟨rfl, hb1⟩
  go_wp2_with fail
  go_ret
  exact ⟨rfl, hb1⟩

set_option maxRecDepth 100000 in
set_option maxHeartbeats 1000000 in
theorem once_no (a : Option Addr) (len cap : Nat) (bound : Int) (w : World) (hl : (len : Int) ≤ 200) (hm : mayB bound bound = false) : Calls Try.prog 4 #[.int .i64 bound, .slice a len cap] w fun e w' => e = .returned (.bool true) ∧ Grows w w' := by
  go_enter Try.func4, Try.ntmps4
  go_wp2_with fail
  refine (new_no _ _ hm).mono ?_
  rintro e w1 ⟨rfl, hb1⟩
  simp only [clockV]
  go_wp2_with fail
  go_loopg [6, 7, 8, 9] 1 (fun k e kp la i wr => wr = w1.alloc (.cells #[.int .i64 0, .int .i64 0] 23) ∧ e = .int .i64 2 ∧ i = .int .i64 0 ∧ k = 1)
  case atStart => exact ⟨rfl, rfl, rfl, rfl⟩
  case round =>
    obtain ⟨rfl, rfl, rfl, rfl⟩ := hrel
    go_wp2_with fail
    all_goals
      refine (wakes_any _).mono ?_
      rintro e w2 ⟨rfl, hb2⟩
      go_wp2_with fail
      go_ret
      exact ⟨rfl, (hb1.alloc _).trans hb2⟩

set_option maxRecDepth 100000 in
set_option maxHeartbeats 2000000 in
theorem once_yes (a : Option Addr) (len cap : Nat) (bound : Int) (w : World) (hl : (len : Int) ≤ 200) (V : Nat → Bool) (hrow : Row1 w a len fun i => .bool (V i)) (hm : mayB bound bound = true) : Calls Try.prog 4 #[.int .i64 bound, .slice a len cap] w fun e w' => e = .returned (.bool true) ∧ Grows w w' := by
  have Hrow := Lib.hid hrow
  clear hrow
  go_enter Try.func4, Try.ntmps4
  go_wp2_with fail
  refine (new_yes _ _ hm).mono ?_
  rintro e w1 ⟨rfl, hb1⟩
  simp only [clockV]
  go_wp2_with fail
  go_loopg [6, 7, 8, 9] len (fun g e kp la i wr => ∃ (k : Nat) (next bnd last : Int), e = .int .i64 0 ∧ kp = .int .i64 bnd ∧ la = .int .i64 last ∧ i = .int .i64 k ∧ k + g = len ∧ OnceRel w wr w1.heap.size next bnd last)
  case atStart =>
    refine ⟨0, bound, bound, 0, rfl, rfl, rfl, rfl, by omega, ?_⟩
    exact ⟨hb1.alloc _, hb1.size, by simp, by simp, by simp, by simp, by simp, hm, by omega, by have := may_bounds hm; omega⟩
  case round =>
    obtain ⟨k, next, bnd, last, rfl, rfl, rfl, rfl, hk, R⟩ := hrel
    by_cases hlt : k < len
    · obtain ⟨b, off, rfl, hbw, hcell⟩ : ∃ b off, a = some ⟨b, off, none⟩ ∧ b < w.heap.size ∧ ∀ i, i < len → w.cell? ⟨b, off + i, none⟩ = some (.bool (V i)) := by
        rcases Hrow.out with h | h
        · omega
        · exact h
      have hck : wr.cell? ⟨b, off + k, none⟩ = some (.bool (V k)) := (R.grows.cell _ _ hbw).trans (hcell k hlt)
      have hlt' : (k : Int) < (len : Int) := by omega
      have hk0 : (0 : Int) ≤ (k : Int) := by omega
      clear hcell Hrow
      obtain ⟨hg, hB, hBl, hc0, hc1, hf0, hf1, hmay, hl0, hl1⟩ := R
      cases hv : V k with
      | true =>
        rw [hv] at hck
        have hmb : mayB bnd bnd = true := by have := may_bounds hmay; simp [mayB, withB]; omega
        go_wp2_with fail
        refine (new_yes _ _ hmb).mono ?_
        rintro e w2 ⟨rfl, hb2⟩
        simp only [clockV]
        have gc0 := (hb2.cell w1.heap.size 0 hBl).trans hc0
        have gc1 := (hb2.cell w1.heap.size 1 hBl).trans hc1
        have gf0 := (hb2.frozen w1.heap.size 0 hBl).trans hf0
        have gf1 := (hb2.frozen w1.heap.size 1 hBl).trans hf1
        clear hc0 hc1 hf0 hf1 hck
        have hBl2 := Nat.lt_of_lt_of_le hBl hb2.size
        go_wp2_with fail
        go_roundg (gk - 1)
        case measure => omega
        case rel =>
          refine ⟨k + 1, bnd, bnd, last, rfl, rfl, rfl, by go_num, by omega, ?_⟩
          have hs2 := (hg.trans hb2)
          exact ⟨(hs2.setCell (p := ⟨w1.heap.size, 0, none⟩) hB _).setCell (p := ⟨w1.heap.size, 1, none⟩) hB _, hB, by simpa using hBl2, by simp [go_sem, gc0], by simp [go_sem, gc1], by simp [gf0], by simp [gf1], hmb, hl0, by have := may_bounds hmay; omega⟩
      | false =>
        rw [hv] at hck
        cases hn : (next == 1048577) with
        | true =>
          have hleft : leftF next bnd = 0 := by rw [leftF_yes hmay]; simp at hn; omega
          go_wp2_with fail
          refine (next_last _ _ _ hmay hn).mono ?_
          rintro e w2 ⟨rfl, hb2⟩
          simp only [nextV]
          have gc0 := (hb2.cell w1.heap.size 0 hBl).trans hc0
          have gc1 := (hb2.cell w1.heap.size 1 hBl).trans hc1
          have gf0 := (hb2.frozen w1.heap.size 0 hBl).trans hf0
          have gf1 := (hb2.frozen w1.heap.size 1 hBl).trans hf1
          have hBl2 := Nat.lt_of_lt_of_le hBl hb2.size
          go_wp2_with fail
          refine (left_any _ _ _).mono ?_
          rintro e w3 ⟨rfl, rfl⟩
          go_wp2_with fail
          refine (wakes_any _).mono ?_
          rintro e w4 ⟨rfl, hb4⟩
          go_wp2_with fail
          go_ret
          exact ⟨rfl, (((((hg.trans hb2).alloc _).alloc _).alloc _).trans hb4)⟩
        | false =>
          obtain ⟨hn1, hn2, hb1', hb2', hnb0⟩ := may_bounds hmay
          by_cases hnb : next < bnd
          · have hnm : mayB (next + 1) bnd = true := by simp at hn; simp [mayB, withB]; omega
            go_wp2_with fail
            refine (next_yes _ _ _ hmay hn hnb).mono ?_
            rintro e w2 ⟨rfl, hb2⟩
            simp only [nextV]
            have gc0 := (hb2.cell w1.heap.size 0 hBl).trans hc0
            have gc1 := (hb2.cell w1.heap.size 1 hBl).trans hc1
            have gf0 := (hb2.frozen w1.heap.size 0 hBl).trans hf0
            have gf1 := (hb2.frozen w1.heap.size 1 hBl).trans hf1
            have hBl2 := Nat.lt_of_lt_of_le hBl hb2.size
            clear hc0 hc1 hf0 hf1 hck
            go_wp2_with fail
            refine (may_any _ _ _).mono ?_
            rintro e w3 ⟨rfl, rfl⟩
            go_wp2_with fail
            go_roundg (gk - 1)
            case measure => omega
            case rel =>
              refine ⟨k + 1, next + 1, bnd, next, rfl, rfl, rfl, by go_num, by omega, ?_⟩
              have hs2 := hg.trans hb2
              refine ⟨?_, hB, by simp; omega, by simp [go_sem, gc0, hBl2], by simp [go_sem, gc1, hBl2], by simp [go_sem, gf0, hBl2], by simp [go_sem, gf1, hBl2], hnm, by omega, by omega⟩
              repeat (first | exact hs2 | refine Grows.alloc ?_ _ | refine Grows.setCell ?_ hB _)
          · have hbn : bnd ≤ next := by omega
            have hcase : bnd + 16 ≤ 1048577 ∨ 1048577 < bnd + 16 := by omega
            have hbb : bnd < 1048577 := by simp at hn; omega
            rcases hcase with hmn | hmn
            all_goals
              go_wp2_with fail
              refine (next_keep _ _ _ hmay hn hbn).mono ?_
              rintro e w2 ⟨rfl, hb2⟩
              simp only [nextV]
              have gc0 := (hb2.cell w1.heap.size 0 hBl).trans hc0
              have gc1 := (hb2.cell w1.heap.size 1 hBl).trans hc1
              have gf0 := (hb2.frozen w1.heap.size 0 hBl).trans hf0
              have gf1 := (hb2.frozen w1.heap.size 1 hBl).trans hf1
              have hBl2 := Nat.lt_of_lt_of_le hBl hb2.size
              clear hc0 hc1 hf0 hf1 hck
              go_wp2_with fail
              refine (kept_yes _ _ _ _ hmay (by simp; omega)).mono ?_
              rintro e w3 ⟨rfl, hb3⟩
              simp only [clockV]
              have hs3 := hb3.size
              simp only [World.size_alloc] at hs3
              have hs3' : w1.heap.size < w3.heap.size := by omega
              have hs3'' : w2.heap.size < w3.heap.size := by omega
              obtain ⟨rc3, rf3⟩ := hb3.rules
              go_wp2_with fail
              refine (next_yes _ _ _ (by simp [mayB, withB]; omega) hn (by omega)).mono ?_
              rintro e w4 ⟨rfl, hb4⟩
              simp only [nextV]
              have hs4 := hb4.size
              simp only [World.size_setCell] at hs4
              have hs4' : w1.heap.size < w4.heap.size := by omega
              have hs4'' : w2.heap.size < w4.heap.size := by omega
              obtain ⟨rc4, rf4⟩ := hb4.rules
              have sc0 : w4.cell? ⟨w1.heap.size, 0, none⟩ = some (.int .i64 next) := by simp (maxDischargeDepth := 9) [go_sem, *]
              have sc1 : w4.cell? ⟨w1.heap.size, 1, none⟩ = some (.int .i64 bnd) := by simp (maxDischargeDepth := 9) [go_sem, *]
              have sf0 : w4.frozen? ⟨w1.heap.size, 0, none⟩ = false := by simp (maxDischargeDepth := 9) [go_sem, *]
              have sf1 : w4.frozen? ⟨w1.heap.size, 1, none⟩ = false := by simp (maxDischargeDepth := 9) [go_sem, *]
              have tc0 : (w4.cell? ⟨w2.heap.size, 0, none⟩).isSome = true := by simp (maxDischargeDepth := 9) [go_sem, *]
              have tc1 : (w4.cell? ⟨w2.heap.size, 1, none⟩).isSome = true := by simp (maxDischargeDepth := 9) [go_sem, *]
              have tf0 : w4.frozen? ⟨w2.heap.size, 0, none⟩ = false := by simp (maxDischargeDepth := 9) [go_sem, *]
              have tf1 : w4.frozen? ⟨w2.heap.size, 1, none⟩ = false := by simp (maxDischargeDepth := 9) [go_sem, *]
              obtain ⟨x0, tc0'⟩ := Option.isSome_iff_exists.1 tc0
              obtain ⟨x1, tc1'⟩ := Option.isSome_iff_exists.1 tc1
              clear rc3 rf3 rc4 rf4 gc0 gc1 gf0 gf1 tc0 tc1
              have hs2 : Grows w w4 := by
                refine Grows.trans ?_ hb4
                have h3 := ((hg.trans hb2).alloc (.cells #[.int .i64 next, .int .i64 bnd] 23)).trans hb3
                repeat (first | exact h3 | refine Grows.setCell ?_ (by simp only []; have := hb2.size; omega) _)
              have hnmA : bnd + 16 ≤ 1048577 → mayB (next + 1) (bnd + 16) = true := fun _ => by simp [mayB, withB]; omega
              have hnmB : mayB (next + 1) 1048577 = true := by simp [mayB, withB]; omega
              go_wp2_with fail
              refine (may_any _ _ _).mono ?_
              rintro e w5 ⟨rfl, rfl⟩
              go_wp2_with fail
              go_roundg (gk - 1)
              case measure => omega
              case rel =>
                refine ⟨k + 1, next + 1, _, next, rfl, rfl, rfl, by go_num, by omega, ?_⟩
                refine ⟨?_, hB, by simp; omega, by simp [go_sem, *], by simp [go_sem, *], by simp [go_sem, *], by simp [go_sem, *], by first | exact hnmB | exact hnmA hmn, by omega, by omega⟩
                repeat (first | exact hs2 | refine Grows.alloc ?_ _ | refine Grows.setCell ?_ (by simp only []; have := hb2.size; have := hg.size; omega) _)
    · have hge : ¬ (k : Int) < (len : Int) := by omega
      go_wp2_with fail
      refine (wakes_any _).mono ?_
      rintro e w2 ⟨rfl, hb2⟩
      go_wp2_with fail
      go_ret
      exact ⟨rfl, R.grows.trans hb2⟩

end Go.Proofs.Ytobmnhdhmekffaa
