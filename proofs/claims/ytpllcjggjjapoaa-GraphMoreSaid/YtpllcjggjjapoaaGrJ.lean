/-
  The law's wakes.
-/
import Derived.Test.YtpllcjggjjapoaaGrI
namespace Go.Proofs.Ytpllcjggjjapoaa
open Go.RowKit Go.Maps

abbrev m1 : Nm := ⟨1, 1, 1⟩
abbrev m2 : Nm := ⟨2, 1, 1⟩
abbrev m3 : Nm := ⟨3, 1, 1⟩
def Ea : List Ed := [(m1, m2), (m2, m3), (m1, m3)]
def Eb : List Ed := [(m1, m2), (m2, m1)]
theorem oks_a : ∀ e ∈ Ea, e.1.ok ∧ e.2.ok := by
  intro e he
  simp only [Ea, List.mem_cons, List.not_mem_nil, or_false] at he
  rcases he with rfl | rfl | rfl <;> (unfold Nm.ok inI; simp)
theorem oks_b : ∀ e ∈ Eb, e.1.ok ∧ e.2.ok := by
  intro e he
  simp only [Eb, List.mem_cons, List.not_mem_nil, or_false] at he
  rcases he with rfl | rfl <;> (unfold Nm.ok inI; simp)
theorem dpv_a : dpv Ea = 2 := by
  refine dpv_eq (v := 2) (.inr ⟨2, rfl, ⟨m1, .cons (b := m2) (by simp [Ea]) (.cons (b := m3) (by simp [Ea]) (.nil _))⟩, fun n k p => ?_⟩)
  have hd : ∀ x k, Path Ea x k → (k : Int) ≤ 3 - x.s ∨ k = 0 := by
    intro x k p
    induction p with
    | nil a => exact .inr rfl
    | cons h1 _ ih =>
      simp only [Ea, List.mem_cons, List.not_mem_nil, or_false, Prod.mk.injEq] at h1
      left
      rcases h1 with ⟨rfl, rfl⟩ | ⟨rfl, rfl⟩ | ⟨rfl, rfl⟩ <;> (simp at ih ⊢; omega)
  cases p with
  | nil => omega
  | cons h1 p =>
    have h2 := hd _ _ (Path.cons h1 p)
    simp only [Ea, List.mem_cons, List.not_mem_nil, or_false, Prod.mk.injEq] at h1
    rcases h1 with ⟨rfl, rfl⟩ | ⟨rfl, rfl⟩ | ⟨rfl, rfl⟩ <;> (simp at h2; omega)
theorem dpv_b : dpv Eb = -1 := dpv_eq (.inl ⟨rfl, m1, .step (b := m2) (by simp [Eb]) (.one (by simp [Eb]))⟩)
theorem yng_a : yng Ea = true := by decide
theorem yng_b : yng Eb = false := by decide
theorem rd_a (w : World) : Rd (w.alloc (.cells (rowsOf Edcs Ea).toArray 32)) (some ⟨w.heap.size, 0, none⟩) (rowsOf Edcs Ea) := rd_new w (rowsOf Edcs Ea).toArray 32 (0, 0)
theorem rd_b (w : World) : Rd (w.alloc (.cells (rowsOf Edcs Eb).toArray 32)) (some ⟨w.heap.size, 0, none⟩) (rowsOf Edcs Eb) := rd_new w (rowsOf Edcs Eb).toArray 32 (0, 0)
theorem cA (a : Option Addr) (c : Nat) (W : World) (h : Rd W a (rowsOf Edcs Ea)) : Calls Try.prog 5 #[.slice a 3 c] W fun e w' => e = .returned (.bool false) ∧ Grows W w' := by
  refine (Circle_any Ea 3 rfl (by omega) oks_a a c W h).mono ?_
  rintro e w' ⟨rfl, _, h⟩
  exact ⟨by rw [dpv_a]; rfl, h⟩
theorem dA (a : Option Addr) (c : Nat) (W : World) (h : Rd W a (rowsOf Edcs Ea)) : Calls Try.prog 7 #[.slice a 3 c] W fun e w' => e = .returned (.int .i64 2) ∧ Grows W w' := by
  refine (Deep_any Ea 3 rfl (by omega) oks_a a c W h).mono ?_
  rintro e w' ⟨rfl, _, h⟩
  exact ⟨by rw [dpv_a], h⟩
theorem yA (a : Option Addr) (c : Nat) (W : World) (h : Rd W a (rowsOf Edcs Ea)) : Calls Try.prog 6 #[.slice a 3 c] W fun e w' => e = .returned (.bool true) ∧ Grows W w' := by
  refine (Young_any Ea 3 rfl (by omega) a c W h).mono ?_
  rintro e w' ⟨rfl, h⟩
  exact ⟨by rw [yng_a], h⟩
theorem cB (a : Option Addr) (c : Nat) (W : World) (h : Rd W a (rowsOf Edcs Eb)) : Calls Try.prog 5 #[.slice a 2 c] W fun e w' => e = .returned (.bool true) ∧ Grows W w' := by
  refine (Circle_any Eb 2 rfl (by omega) oks_b a c W h).mono ?_
  rintro e w' ⟨rfl, _, h⟩
  exact ⟨by rw [dpv_b]; rfl, h⟩
theorem dB (a : Option Addr) (c : Nat) (W : World) (h : Rd W a (rowsOf Edcs Eb)) : Calls Try.prog 7 #[.slice a 2 c] W fun e w' => e = .returned (.int .i64 (-1)) ∧ Grows W w' := by
  refine (Deep_any Eb 2 rfl (by omega) oks_b a c W h).mono ?_
  rintro e w' ⟨rfl, _, h⟩
  exact ⟨by rw [dpv_b], h⟩
theorem yB (a : Option Addr) (c : Nat) (W : World) (h : Rd W a (rowsOf Edcs Eb)) : Calls Try.prog 6 #[.slice a 2 c] W fun e w' => e = .returned (.bool false) ∧ Grows W w' := by
  refine (Young_any Eb 2 rfl (by omega) a c W h).mono ?_
  rintro e w' ⟨rfl, h⟩
  exact ⟨by rw [yng_b], h⟩
set_option maxHeartbeats 4000000 in
theorem wakes_any (w : World) : Calls Try.prog 4 #[] w fun e w' => e = .returned (.bool true) ∧ Grows w w' := by
  have HG0 := Lib.hid (Grows.refl w)
  go_enter Try.func4, Try.ntmps4
  go_wp2_with fail
  refine (edge_any _ _ _).mono ?_
  rintro e w1 ⟨rfl, h1⟩
  have HG1 := Lib.hid (HG0.out.trans h1)
  clear h1
  go_wp2_with fail
  refine (edge_any _ _ _).mono ?_
  rintro e w2 ⟨rfl, h1⟩
  have HG2 := Lib.hid (HG1.out.trans h1)
  clear h1
  go_wp2_with fail
  refine (edge_any _ _ _).mono ?_
  rintro e w3 ⟨rfl, h1⟩
  have HG3 := Lib.hid (HG2.out.trans h1)
  clear h1
  go_wp2_with fail
  have HRA := Lib.hid (rd_a w3)
  have HG3a := Lib.hid (HG3.out.alloc (.cells (rowsOf Edcs Ea).toArray 32))
  obtain ⟨w3a, hw3a⟩ : ∃ W, w3.alloc (.cells (rowsOf Edcs Ea).toArray 32) = W := ⟨_, rfl⟩
  rw [hw3a] at HRA HG3a
  change Calls _ _ _ (w3.alloc (.cells (rowsOf Edcs Ea).toArray 32)) _
  rw [hw3a]
  generalize w3.heap.size = ga at *
  clear hw3a
  refine (edge_any _ _ _).mono ?_
  rintro e w4 ⟨rfl, h1⟩
  have HG4 := Lib.hid (HG3a.out.trans h1)
  have HRA4 := Lib.hid (HRA.out.grows h1)
  clear h1
  go_wp2_with fail
  refine (edge_any _ _ _).mono ?_
  rintro e w5 ⟨rfl, h1⟩
  have HG5 := Lib.hid (HG4.out.trans h1)
  have HRA5 := Lib.hid (HRA4.out.grows h1)
  clear h1
  go_wp2_with fail
  have HB := Lib.hid (rd_b w5)
  have HG := Lib.hid (HG5.out.alloc (.cells (rowsOf Edcs Eb).toArray 32))
  have HA := Lib.hid (HRA5.out.grows ((Grows.refl w5).alloc (.cells (rowsOf Edcs Eb).toArray 32)))
  obtain ⟨w5a, hw5a⟩ : ∃ W, w5.alloc (.cells (rowsOf Edcs Eb).toArray 32) = W := ⟨_, rfl⟩
  rw [hw5a] at HB HG HA
  change Calls _ _ _ (w5.alloc (.cells (rowsOf Edcs Eb).toArray 32)) _
  rw [hw5a]
  generalize w5.heap.size = gb at *
  clear hw5a
  refine (cA _ _ _ HA.out).mono ?_
  rintro e wn ⟨rfl, hgn⟩
  have HQ := Lib.hid (HG.out.trans hgn)
  have HA2 := Lib.hid (HA.out.grows hgn)
  have HB2 := Lib.hid (HB.out.grows hgn)
  clear hgn HG HA HB
  have HG := HQ
  have HA := HA2
  have HB := HB2
  clear HQ HA2 HB2
  go_wp2_with fail
  refine (dA _ _ _ HA.out).mono ?_
  rintro e wn ⟨rfl, hgn⟩
  have HQ := Lib.hid (HG.out.trans hgn)
  have HA2 := Lib.hid (HA.out.grows hgn)
  have HB2 := Lib.hid (HB.out.grows hgn)
  clear hgn HG HA HB
  have HG := HQ
  have HA := HA2
  have HB := HB2
  clear HQ HA2 HB2
  go_wp2_with fail
  refine (cB _ _ _ HB.out).mono ?_
  rintro e wn ⟨rfl, hgn⟩
  have HQ := Lib.hid (HG.out.trans hgn)
  have HA2 := Lib.hid (HA.out.grows hgn)
  have HB2 := Lib.hid (HB.out.grows hgn)
  clear hgn HG HA HB
  have HG := HQ
  have HA := HA2
  have HB := HB2
  clear HQ HA2 HB2
  go_wp2_with fail
  refine (dB _ _ _ HB.out).mono ?_
  rintro e wn ⟨rfl, hgn⟩
  have HQ := Lib.hid (HG.out.trans hgn)
  have HA2 := Lib.hid (HA.out.grows hgn)
  have HB2 := Lib.hid (HB.out.grows hgn)
  clear hgn HG HA HB
  have HG := HQ
  have HA := HA2
  have HB := HB2
  clear HQ HA2 HB2
  go_wp2_with fail
  refine (yA _ _ _ HA.out).mono ?_
  rintro e wn ⟨rfl, hgn⟩
  have HQ := Lib.hid (HG.out.trans hgn)
  have HA2 := Lib.hid (HA.out.grows hgn)
  have HB2 := Lib.hid (HB.out.grows hgn)
  clear hgn HG HA HB
  have HG := HQ
  have HA := HA2
  have HB := HB2
  clear HQ HA2 HB2
  go_wp2_with fail
  refine (yB _ _ _ HB.out).mono ?_
  rintro e wn ⟨rfl, hgn⟩
  have HQ := Lib.hid (HG.out.trans hgn)
  have HA2 := Lib.hid (HA.out.grows hgn)
  have HB2 := Lib.hid (HB.out.grows hgn)
  clear hgn HG HA HB
  have HG := HQ
  have HA := HA2
  have HB := HB2
  clear HQ HA2 HB2
  go_wp2_with fail
  go_ret
  exact ⟨rfl, HG.out⟩
end Go.Proofs.Ytpllcjggjjapoaa
