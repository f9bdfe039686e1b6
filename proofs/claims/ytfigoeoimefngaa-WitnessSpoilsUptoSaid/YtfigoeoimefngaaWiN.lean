/-
  The law's wakes.
-/
import Derived.Test.YtfigoeoimefngaaWiM
namespace Go.Proofs.Ytfigoeoimefngaa
open Go.RowKit Go.Maps Go.Shelf

theorem wrong_one1 (a : Option Addr) (w : World) (hr : Rd w a (rowsOf Sn.cs (oneL 1))) :
    Calls Try.prog 10 #[.slice a 8 8] w fun e w' => ∃ b c, e = .returned (.tuple #[.slice b 0 c, .int .i64 0]) ∧ Grows w w' := by
  refine (wrong_one 1 (by omega) (by omega) may_one1 a w hr).mono ?_
  rintro e w' ⟨hg, b, c, rfl, _⟩
  exact ⟨b, c, by rw [wr_one1]; rfl, hg⟩
theorem wrong_one0 (a : Option Addr) (w : World) (hr : Rd w a (rowsOf Sn.cs (oneL 0))) :
    Calls Try.prog 10 #[.slice a 8 8] w fun e w' => ∃ g off c, e = .returned (.tuple #[.slice (some ⟨g, off, none⟩) 1 c, .int .i64 0]) ∧ Grows w w' ∧ w'.cell? ⟨g, off, none⟩ = some (.int .i64 5) ∧ w'.cell? ⟨g, off + 21, none⟩ = some (.int .i64 1) ∧ w'.cell? ⟨g, off + 27, none⟩ = some (.int .i8 0) := by
  refine (wrong_one 0 (by omega) (by omega) may_one0 a w hr).mono ?_
  rintro e w' ⟨hg, b, c, rfl, h⟩
  rw [wr_one0] at h ⊢
  obtain ⟨g, off, rfl, _, hc⟩ := h.at (show 0 < 28 by omega)
  exact ⟨g, off, c, rfl, hg, hc 0 (show 0 < 28 by omega), hc 21 (show 21 < 28 by omega), hc 27 (show 27 < 28 by omega)⟩
theorem wrong_one7 (a : Option Addr) (w : World) (hr : Rd w a (rowsOf Sn.cs (oneL 7))) :
    Calls Try.prog 10 #[.slice a 8 8] w fun e w' => ∃ g off c, e = .returned (.tuple #[.slice (some ⟨g, off, none⟩) 1 c, .int .i64 0]) ∧ Grows w w' ∧ w'.cell? ⟨g, off + 27, none⟩ = some (.int .i8 4) := by
  refine (wrong_one 7 (by omega) (by omega) may_one7 a w hr).mono ?_
  rintro e w' ⟨hg, b, c, rfl, h⟩
  rw [wr_one7] at h ⊢
  obtain ⟨g, off, rfl, _, hc⟩ := h.at (show 0 < 28 by omega)
  exact ⟨g, off, c, rfl, hg, hc 27 (show 27 < 28 by omega)⟩
set_option maxRecDepth 100000 in
set_option maxHeartbeats 4000000 in
theorem wakes_any (w : World) : Calls Try.prog 9 #[] w fun e w' => e = .returned (.bool true) ∧ Grows w w' := by
  go_enter Try.func9, Try.ntmps9
  go_wp2_with fail
  refine (one_any 0 w).mono ?_
  rintro e w1 ⟨a1, rfl, h1, hg⟩
  have HR := Lib.hid h1
  have HG1 := Lib.hid hg
  clear h1 hg
  go_wp2_with fail
  refine (wrong_one0 _ _ HR.out).mono ?_
  rintro e w2 ⟨g2, o2, c2, rfl, hg, k0, k1, k2⟩
  have HG2 := Lib.hid (HG1.out.trans hg)
  have HK0 := Lib.hid k0
  have HK1 := Lib.hid k1
  have HK2 := Lib.hid k2
  clear hg k0 k1 k2 HR HG1
  go_wp2_with fail
  refine (one_any 1 w2).mono ?_
  rintro e w3 ⟨a3, rfl, h1, hg⟩
  have HR := Lib.hid h1
  have HG3 := Lib.hid hg
  clear h1 hg
  go_wp2_with fail
  refine (wrong_one1 _ _ HR.out).mono ?_
  rintro e w4 ⟨b4, c4, rfl, hg⟩
  have HG4 := Lib.hid (HG3.out.trans hg)
  clear hg HR HG3
  go_wp2_with fail
  refine (one_any 7 w4).mono ?_
  rintro e w5 ⟨a5, rfl, h1, hg⟩
  have HR := Lib.hid h1
  have HG5 := Lib.hid (HG4.out.trans hg)
  clear h1 hg HG4
  go_wp2_with fail
  refine (wrong_one7 _ _ HR.out).mono ?_
  rintro e w6 ⟨g6, o6, c6, rfl, hg, k4⟩
  have HG6 := Lib.hid (HG5.out.trans hg)
  have k0 := (HG6.out.cell _ _ (World.block_lt_of_cell? _ _ HK0.out)).trans HK0.out
  have k1 := (HG6.out.cell _ _ (World.block_lt_of_cell? _ _ HK1.out)).trans HK1.out
  have k2 := (HG6.out.cell _ _ (World.block_lt_of_cell? _ _ HK2.out)).trans HK2.out
  clear hg HR HG5
  go_wp2_with fail
  go_ret
  exact ⟨rfl, HG2.out.trans HG6.out⟩
end Go.Proofs.Ytfigoeoimefngaa
