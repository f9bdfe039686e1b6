/-
  The law's own comparison of two rows of blocks.
-/
import Derived.Test.YtddignaaggdliaaPackV
import Derived.Test.YtddignaaggdliaaEq
import Derived.Deep.QuietTactic
import Derived.BigQuiet
namespace Go.Proofs.Ytddignaaggdliaa
open Go.RowKit

theorem eq8 (W : World) (x0 x1 x2 x3 x4 x5 x6 x7 y0 y1 y2 y3 y4 y5 y6 y7 : Int) : (Op.equalIn 10000 36 (.agg #[.int .u8 x0, .int .u8 x1, .int .u8 x2, .int .u8 x3, .int .u8 x4, .int .u8 x5, .int .u8 x6, .int .u8 x7]) (.agg #[.int .u8 y0, .int .u8 y1, .int .u8 y2, .int .u8 y3, .int .u8 y4, .int .u8 y5, .int .u8 y6, .int .u8 y7])).run Try.prog W = .ok ([x0, x1, x2, x3, x4, x5, x6, x7] == [y0, y1, y2, y3, y4, y5, y6, y7]) W :=
  run_eq_ints W 9998 36 5 8 .u8 [x0, x1, x2, x3, x4, x5, x6, x7] [y0, y1, y2, y3, y4, y5, y6, y7] Try.underlying36 Try.underlying5 (by kernel_rfl) (by kernel_rfl) rfl rfl

/-- The eight cells of element k of a row of blocks. -/
theorem cells8 {w : World} {b off : Nat} {L : List Nat} {m k : Nat} (hL : L.length = m * 8) (hc : ∀ i (hi : i < (bys L).length), w.cell? ⟨b, off + i, none⟩ = some (bys L)[i]) (hk : k < m) :
    ∀ j, j < 8 → w.cell? ⟨b, off + k * 8 + j, none⟩ = some (.int .u8 (L.getD (k * 8 + j) 0 : Nat)) := by
  intro j hj
  have h := hc (k * 8 + j) (by rw [bys_length]; omega)
  rw [bys_at L _ (by omega)] at h
  rw [show off + k * 8 + j = off + (k * 8 + j) by omega, h]
  simp [List.getD, List.getElem?_eq_getElem (show k * 8 + j < L.length by omega)]

set_option maxHeartbeats 1000000 in
theorem values_same (L : List Nat) (m : Nat) (hL : L.length = m * 8) (a b : Option Addr) (cap cap2 : Nat) (w : World) (ha : Rd w a (bys L)) (hb : Rd w b (bys L)) (hm : m ≤ 100000) :
    Calls Try.prog 20 #[.slice a m cap, .slice b m cap2] w fun e w' => e = .returned (.bool true) ∧ Grows w w' := by
  have Ha := Lib.hid ha
  have Hb := Lib.hid hb
  have HL := Lib.hid hL
  clear ha hb hL
  go_enter Try.func20, Try.ntmps20
  go_wp2_with fail
  go_loopg [5] m (fun gh t wr => ∃ k : Nat, k + gh = m ∧ t = .int .i64 k ∧ Grows w wr)
  case atStart => exact ⟨0, by omega, rfl, Grows.refl _⟩
  case round =>
    obtain ⟨k, hk, rfl, hg⟩ := hrel
    by_cases hlt : k < m
    · obtain ⟨b1, o1, rfl, _, h1⟩ := (Ha.out.grows hg).at (by rw [bys_length]; have := HL.out; omega)
      obtain ⟨b2, o2, rfl, _, h2⟩ := (Hb.out.grows hg).at (by rw [bys_length]; have := HL.out; omega)
      have c := cells8 HL.out h1 hlt
      have d := cells8 HL.out h2 hlt
      have c0 := c 0 (by omega)
      have c1 := c 1 (by omega)
      have c2 := c 2 (by omega)
      have c3 := c 3 (by omega)
      have c4 := c 4 (by omega)
      have c5 := c 5 (by omega)
      have c6 := c 6 (by omega)
      have c7 := c 7 (by omega)
      have d0 := d 0 (by omega)
      have d1 := d 1 (by omega)
      have d2 := d 2 (by omega)
      have d3 := d 3 (by omega)
      have d4 := d 4 (by omega)
      have d5 := d 5 (by omega)
      have d6 := d 6 (by omega)
      have d7 := d 7 (by omega)
      clear c d h1 h2
      rw [Nat.add_zero] at c0 d0
      generalize L.getD (k * 8 + 0) 0 = x0 at *
      generalize L.getD (k * 8 + 1) 0 = x1 at *
      generalize L.getD (k * 8 + 2) 0 = x2 at *
      generalize L.getD (k * 8 + 3) 0 = x3 at *
      generalize L.getD (k * 8 + 4) 0 = x4 at *
      generalize L.getD (k * 8 + 5) 0 = x5 at *
      generalize L.getD (k * 8 + 6) 0 = x6 at *
      generalize L.getD (k * 8 + 7) 0 = x7 at *
      have hlt' : (k : Int) < (m : Int) := by omega
      have hk0 : (0 : Int) ≤ (k : Int) := by omega
      have he := eq8
      go_wp2_with fail
      go_quiet (fail)
      go_wp2_with fail
      go_roundg (gk - 1)
      case measure => omega
      case rel => exact ⟨k + 1, by omega, by go_num, hg.drewN _⟩
    · obtain rfl : k = m := by omega
      go_wp2_with fail
      go_ret
      exact ⟨rfl, hg⟩

end Go.Proofs.Ytddignaaggdliaa
