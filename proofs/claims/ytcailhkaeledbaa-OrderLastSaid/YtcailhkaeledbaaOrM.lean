/-
  The law's wakes.
-/
import Derived.Test.YtcailhkaeledbaaOrJ
import Derived.Test.YtcailhkaeledbaaOrK
import Derived.Test.YtcailhkaeledbaaOrL
namespace Go.Proofs.Ytcailhkaeledbaa
open Go.RowKit Go.Maps

abbrev sq (k n : Int) : Sn := ⟨k, ⟨n, 1, 1⟩, 0, 0, 0, 0, 0, 0, 0, 0, 0, 0⟩
def L6 : List Sn := [sq 0 1, sq 0 2, sq 3 2, sq 3 1, sq 5 1, sq 5 2]
theorem may6 : mayB L6 = true := by decide +kernel
theorem may5 : mayB (L6.drop 1) = false := by decide +kernel
theorem dec6 : decL L6 = [⟨2, 1, 1⟩, ⟨1, 1, 1⟩] := by decide +kernel
theorem ok6 : ∀ x ∈ L6, x.n.ok := by
  intro x hx
  simp only [L6, List.mem_cons, List.not_mem_nil, or_false] at hx
  rcases hx with rfl | rfl | rfl | rfl | rfl | rfl <;> (unfold Nm.ok inI; simp)
theorem two_at {w : World} {a : Option Addr} {x y : Nm} (h : Rd w a (rowsOf Nm.cs [x, y])) : ∃ g off, a = some ⟨g, off, none⟩ ∧ w.cell? ⟨g, off, none⟩ = some (.int .i64 x.s) ∧ w.cell? ⟨g, off + 3, none⟩ = some (.int .i64 y.s) := by
  obtain ⟨g, off, rfl, _, hc⟩ := h.at (show 0 < 6 by omega)
  exact ⟨g, off, rfl, hc 0 (show 0 < 6 by omega), hc 3 (show 3 < 6 by omega)⟩
theorem order6 (w : World) (a : Option Addr) (hr : Rd w a (rowsOf Sn.cs L6)) : Calls Try.prog 9 #[.slice a 6 6] w fun e w' => ∃ g off c, e = .returned (.tuple #[.slice (some ⟨g, off, none⟩) 2 c, .int .i64 0]) ∧ w'.cell? ⟨g, off, none⟩ = some (.int .i64 2) ∧ w'.cell? ⟨g, off + 3, none⟩ = some (.int .i64 1) ∧ 2 ≤ c ∧ Grows w w' := by
  refine (order_yes L6 6 rfl (by omega) ok6 a 6 w hr may6).mono ?_
  rintro e w' ⟨a', c', rfl, h1, h2, h3⟩
  rw [dec6] at h1 h2 ⊢
  obtain ⟨g, off, rfl, h4, h5⟩ := two_at h1
  exact ⟨g, off, c', rfl, h4, h5, h2, h3⟩
theorem mayA6 (w : World) (a : Option Addr) (hr : Rd w a (rowsOf Sn.cs L6)) : Calls Try.prog 6 #[.slice a 6 6] w fun e w' => e = .returned (.bool true) ∧ Grows w w' := by
  have := may_any L6 6 rfl (by omega) ok6 a 6 w hr
  rwa [may6] at this
theorem mayA5 (w : World) (a : Option Addr) (hr : Rd w a (rowsOf Sn.cs (L6.drop 1))) : Calls Try.prog 6 #[.slice a 5 5] w fun e w' => e = .returned (.bool false) ∧ Grows w w' := by
  have := may_any (L6.drop 1) 5 rfl (by omega) (fun x hx => ok6 x (List.mem_of_mem_drop hx)) a 5 w hr
  rwa [may5] at this
theorem rd6 (w : World) : Rd (w.alloc (.cells (rowsOf Sn.cs L6).toArray 37)) (some ⟨w.heap.size, 0, none⟩) (rowsOf Sn.cs L6) := rd_new w (rowsOf Sn.cs L6).toArray 37 (0, 0)
theorem rd5 {w : World} {g : Nat} (h : Rd w (some ⟨g, 0, none⟩) (rowsOf Sn.cs L6)) : Rd w (some ⟨g, 14, none⟩) (rowsOf Sn.cs (L6.drop 1)) := by
  rw [rows_drop Sn.cs_len L6 1 (by decide)]
  have hl : (rowsOf Sn.cs L6).length = 84 := rfl
  rcases h with h | ⟨b, off, e, hb, hc⟩
  · rw [h] at hl; cases hl
  · injection e with e
    injection e with e1 e2
    subst e1
    subst e2
    refine .inr ⟨_, 14, rfl, hb, fun i v hv => ?_⟩
    rw [List.getElem?_drop] at hv
    have := hc _ v hv
    rwa [Nat.zero_add] at this
set_option maxHeartbeats 2000000 in
theorem wakes_any (w : World) : Calls Try.prog 7 #[] w fun e w' => e = .returned (.bool true) ∧ Grows w w' := by
  have g0 := Grows.refl w
  go_enter Try.func7, Try.ntmps7
  go_wp2_with fail
  refine (lstep_any _ _ _).mono ?_
  rintro e w1 ⟨rfl, h1⟩
  have g1 := g0.trans h1
  clear h1
  unfold Sn.cs
  go_wp2_with fail
  refine (lstep_any _ _ _).mono ?_
  rintro e w2 ⟨rfl, h2⟩
  have g2 := g1.trans h2
  clear h2
  unfold Sn.cs
  go_wp2_with fail
  refine (lstep_any _ _ _).mono ?_
  rintro e w3 ⟨rfl, h3⟩
  have g3 := g2.trans h3
  clear h3
  unfold Sn.cs
  go_wp2_with fail
  refine (lstep_any _ _ _).mono ?_
  rintro e w4 ⟨rfl, h4⟩
  have g4 := g3.trans h4
  clear h4
  unfold Sn.cs
  go_wp2_with fail
  refine (lstep_any _ _ _).mono ?_
  rintro e w5 ⟨rfl, h5⟩
  have g5 := g4.trans h5
  clear h5
  unfold Sn.cs
  go_wp2_with fail
  refine (lstep_any _ _ _).mono ?_
  rintro e w6 ⟨rfl, h6⟩
  have g6 := g5.trans h6
  clear h6
  unfold Sn.cs
  go_wp2_with fail
  have HR7 := Lib.hid (rd6 w6)
  have HG7 := Lib.hid (g6.alloc (.cells (rowsOf Sn.cs L6).toArray 37))
  clear g0 g1 g2 g3 g4 g5 g6
  refine (order6 _ _ HR7.out).mono ?_
  rintro e w8 ⟨g, off, c, rfl, c0, c1, hc, hg⟩
  have HR8 := Lib.hid (HR7.out.grows hg)
  have HG8 := Lib.hid (HG7.out.trans hg)
  clear hg HR7 HG7
  generalize w6.heap.size = g6 at *
  go_wp2_with fail
  refine (mayA6 _ _ HR8.out).mono ?_
  rintro e w9 ⟨rfl, hg⟩
  have HR9 := Lib.hid (HR8.out.grows hg)
  have HG9 := Lib.hid (HG8.out.trans hg)
  clear hg HR8 HG8 c0 c1
  go_wp2_with fail
  refine (mayA5 _ _ (rd5 HR9.out)).mono ?_
  rintro e w10 ⟨rfl, hg⟩
  have HG10 := Lib.hid (HG9.out.trans hg)
  clear hg HR9 HG9
  go_wp2_with fail
  go_ret
  exact ⟨rfl, HG10.out⟩
end Go.Proofs.Ytcailhkaeledbaa
