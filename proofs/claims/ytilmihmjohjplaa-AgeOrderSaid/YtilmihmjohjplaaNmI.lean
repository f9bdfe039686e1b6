/-
  The law's helpers: great, name, wakes.
-/
import Derived.Test.YtilmihmjohjplaaNmH
namespace Go.Proofs.Ytilmihmjohjplaa
open Go.RowKit

theorem great_any (a : Option Addr) (n cap : Nat) (w : World) : Calls Try.prog 4 #[.slice a n cap] w fun e w' => e = .returned (.bool (decide ((n : Int) > 200))) ∧ w = w' := by
  go_enter Try.func4, Try.ntmps4
  go_wp2_with fail
  go_ret
  exact ⟨rfl, rfl⟩

theorem name_any (n : Int) (w : World) : Calls Try.prog 11 #[.int .i64 n] w fun e w' => e = .returned (Nm.v ⟨n, 1, 1⟩) ∧ Grows w w' := by
  have hz := zname
  have A0 := Lib.hid (At.new w 23 #[.int .i64 0, .int .i64 0, .int .i64 0])
  have G0 := (Grows.refl w).alloc (.cells #[.int .i64 0, .int .i64 0, .int .i64 0] 23)
  go_enter Try.func11, Try.ntmps11
  go_wp2_with (with_reducible refine wpList_store_mid (op := ⟨none, .store 23 (.tmp 2) (.tmp 4), _, _, _, none⟩) rfl 23 (.tmp 2) (.tmp 4) rfl (w.heap.size) (0) #[.int .i64 n, .int .i64 1, .int .i64 1] ?s1a ?s1b ?s1c ?s1d ?s1e ?_)
  case s1a => rfl
  case s1b => rfl
  case s1c => exact A0.out.there 0 3 (by simp)
  case s1d => kernel_rfl
  case s1e => exact one3 _ _ _
  refine bodyPost_ret (results_cell_row Try.results11 _ _ w.heap.size 23 _ (0, 0) _ rfl (At.all (vs := [.int .i64 n, .int .i64 1, .int .i64 1]) (cs := [.int .i64 0, .int .i64 0, .int .i64 0]) A0.out rfl) Try.underlying23 rfl (by kernel_rfl)) rfl ⟨rfl, Grows.setCells (Nat.le_refl _) _ _ G0⟩

abbrev n3 : Nm := ⟨3, 1, 1⟩
abbrev n5 : Nm := ⟨5, 1, 1⟩
abbrev n7 : Nm := ⟨7, 1, 1⟩
theorem old357 : oldestN n5 [n3, n7] = n3 := by decide
theorem rd2 (w : World) (x y : Nm) : Rd (w.alloc (.cells #[.int .i64 x.s, .int .i64 x.i, .int .i64 x.t, .int .i64 y.s, .int .i64 y.i, .int .i64 y.t] 23)) (some ⟨w.heap.size, 0, none⟩) (nms [x, y]) := rd_new w #[.int .i64 x.s, .int .i64 x.i, .int .i64 x.t, .int .i64 y.s, .int .i64 y.i, .int .i64 y.t] 23 (0, 0)
theorem rd3 (w : World) (x y z : Nm) : Rd (w.alloc (.cells #[.int .i64 x.s, .int .i64 x.i, .int .i64 x.t, .int .i64 y.s, .int .i64 y.i, .int .i64 y.t, .int .i64 z.s, .int .i64 z.i, .int .i64 z.t] 23)) (some ⟨w.heap.size, 0, none⟩) (nms [x, y, z]) := rd_new w #[.int .i64 x.s, .int .i64 x.i, .int .i64 x.t, .int .i64 y.s, .int .i64 y.i, .int .i64 y.t, .int .i64 z.s, .int .i64 z.i, .int .i64 z.t] 23 (0, 0)

set_option maxHeartbeats 1000000 in
theorem wakes_any (w : World) : Calls Try.prog 5 #[] w fun e w' => e = .returned (.bool true) ∧ Grows w w' := by
  have g0 := Grows.refl w
  have hz := zname
  go_enter Try.func5, Try.ntmps5
  go_wp2_with fail
  refine (name_any _ _).mono ?_
  rintro e w1 ⟨rfl, h1⟩
  have g1 := g0.trans h1
  clear h1
  unfold Nm.v
  go_wp2_with fail
  refine (name_any _ _).mono ?_
  rintro e w2 ⟨rfl, h2⟩
  have g2 := g1.trans h2
  clear h2
  unfold Nm.v
  go_wp2_with fail
  refine (name_any _ _).mono ?_
  rintro e w3 ⟨rfl, h3⟩
  have g3 := g2.trans h3
  clear h3
  unfold Nm.v
  go_wp2_with fail
  refine (oldest_some n5 [n3, n7] 2 rfl _ 3 _ (rd3 w3 n5 n3 n7) (by omega) (by omega)).mono ?_
  rintro e w4 ⟨rfl, h4⟩
  rw [old357]
  have g4 := (g3.alloc _).trans h4
  clear h4
  have A0 := Lib.hid (At.new w4 23 #[.int .i64 0, .int .i64 0, .int .i64 0])
  unfold Nm.v
  go_wp2_with (with_reducible refine wpList_store_mid (op := ⟨none, .store 23 (.tmp 1) (.tmp 9), _, _, _, none⟩) rfl 23 (.tmp 1) (.tmp 9) rfl (w4.heap.size) (0) #[.int .i64 3, .int .i64 1, .int .i64 1] ?s2a ?s2b ?s2c ?s2d ?s2e ?_)
  case s2a => rfl
  case s2b => rfl
  case s2c => exact A0.out.there 0 3 (by simp)
  case s2d => kernel_rfl
  case s2e => exact one3 _ _ _
  have A1 := Lib.hid (At.all (vs := [.int .i64 3, .int .i64 1, .int .i64 1]) (cs := [.int .i64 0, .int .i64 0, .int .i64 0]) A0.out rfl)
  have g5 : Grows w ((w4.alloc (.cells #[.int .i64 0, .int .i64 0, .int .i64 0] 23)).setCells w4.heap.size 0 [.int .i64 3, .int .i64 1, .int .i64 1]) := Grows.setCells g4.size _ _ (g4.alloc _)
  refine (name_any _ _).mono ?_
  rintro e w6 ⟨rfl, h6⟩
  have g6 := g5.trans h6
  have A6 := Lib.hid (A1.out.grows h6)
  clear h6 A0 A1
  unfold Nm.v
  go_wp2_with fail
  refine (name_any _ _).mono ?_
  rintro e w7 ⟨rfl, h7⟩
  have g7 := g6.trans h7
  have A7 := Lib.hid (A6.out.grows h7)
  clear h7 A6
  unfold Nm.v
  go_wp2_with fail
  refine (name_any _ _).mono ?_
  rintro e w8 ⟨rfl, h8⟩
  have g8 := g7.trans h8
  have A8 := Lib.hid (A7.out.grows h8)
  clear h8 A7
  unfold Nm.v
  go_wp2_with fail
  refine (waits_any n3 [n5, n7] 2 rfl _ 2 _ (rd2 w8 n5 n7) (by omega)).mono ?_
  rintro e w9 ⟨rfl, h9⟩
  have g9 := (g8.alloc _).trans h9
  have A9 := Lib.hid ((A8.out.alloc _).grows h9)
  clear h9 A8
  rw [show ([n5, n7].all fun m => decide (n3.s < m.s)) = true by decide]
  go_wp2_with fail
  refine (name_any _ _).mono ?_
  rintro e w10 ⟨rfl, h10⟩
  have g10 := g9.trans h10
  have A10 := Lib.hid (A9.out.grows h10)
  clear h10 A9
  unfold Nm.v
  go_wp2_with fail
  refine (name_any _ _).mono ?_
  rintro e w11 ⟨rfl, h11⟩
  have g11 := g10.trans h11
  have A11 := Lib.hid (A10.out.grows h11)
  clear h11 A10
  unfold Nm.v
  go_wp2_with fail
  refine (name_any _ _).mono ?_
  rintro e w12 ⟨rfl, h12⟩
  have g12 := g11.trans h12
  have A12 := Lib.hid (A11.out.grows h12)
  clear h12 A11
  unfold Nm.v
  go_wp2_with fail
  refine (waits_any n5 [n3, n7] 2 rfl _ 2 _ (rd2 w12 n3 n7) (by omega)).mono ?_
  rintro e w13 ⟨rfl, h13⟩
  have g13 := (g12.alloc _).trans h13
  have A13 := Lib.hid ((A12.out.alloc _).grows h13)
  clear h13 A12
  rw [show ([n3, n7].all fun m => decide (n5.s < m.s)) = false by decide]
  have cx := A13.out.cell
  go_wp2_with fail
  go_ret
  exact ⟨rfl, g13⟩
end Go.Proofs.Ytilmihmjohjplaa
