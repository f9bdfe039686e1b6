/-
  record.Less, cashboxref07.Less, age.Older.
-/
import Derived.Test.YtpllcjggjjapoaaNmA
namespace Go.Proofs.Ytpllcjggjjapoaa
open Go.RowKit

theorem less_or (a b : Nm) : decide (orI (cmpI a.s b.s) (cmpI a.i b.i) (cmpI a.t b.t) < 0) = lessN a b := by
  have key : ∀ x y : Int, (x < y ∧ cmpI x y = -1) ∨ (x = y ∧ cmpI x y = 0) ∨ (y < x ∧ cmpI x y = 1) := by
    intro x y
    unfold cmpI
    by_cases h1 : x < y
    · exact .inl ⟨h1, by simp [h1]⟩
    · by_cases h2 : y < x
      · exact .inr (.inr ⟨h2, by simp [h1, h2]⟩)
      · exact .inr (.inl ⟨by omega, by simp [h1, h2]⟩)
  have hself : ∀ x : Int, cmpI x x = 0 := fun x => by simp [cmpI]
  rcases key a.s b.s with ⟨h, e⟩ | ⟨h, _⟩ | ⟨h, e⟩
  · simp [orI, lessN, e, h, Int.ne_of_lt h]
  · rcases key a.i b.i with ⟨h', e'⟩ | ⟨h', _⟩ | ⟨h', e'⟩
    · simp [orI, lessN, hself, h, e', h', Int.ne_of_lt h']
    · rcases key a.t b.t with ⟨h2, e2⟩ | ⟨h2, _⟩ | ⟨h2, e2⟩
      · simp [orI, lessN, hself, h, h', e2, h2]
      · simp [orI, lessN, hself, h, h', h2]
      · simp [orI, lessN, hself, h, h', e2]; omega
    · simp [orI, lessN, hself, h, e', Int.ne_of_gt h']; omega
  · simp [orI, lessN, e, Int.ne_of_gt h]; omega
set_option maxHeartbeats 4000000 in
theorem less_any (a b : Nm) (w : World) : Calls Try.prog 21 #[a.v, b.v] w fun e w' => e = .returned (.bool (lessN a b)) ∧ Grows w w' := by
  have HL := Lib.hid (less_or a b)
  obtain ⟨s, i, t⟩ := a
  obtain ⟨s', i', t'⟩ := b
  unfold Nm.v
  simp only at HL ⊢
  have M0 := ((At.new w 24 #[.int .i64 s, .int .i64 i, .int .i64 t]).alloc (.cells #[.int .i64 s', .int .i64 i', .int .i64 t'] 24))
  have N0 := At.new (w.alloc (.cells #[.int .i64 s, .int .i64 i, .int .i64 t] 24)) 24 #[.int .i64 s', .int .i64 i', .int .i64 t']
  simp only [World.size_alloc] at N0
  have HM := Lib.hid M0
  have HN := Lib.hid N0
  clear M0 N0
  go_enter Try.func21, Try.ntmps21
  go_wp2_with fail
  have AT := At.new ((w.alloc (.cells #[.int .i64 s, .int .i64 i, .int .i64 t] 24)).alloc (.cells #[.int .i64 s', .int .i64 i', .int .i64 t'] 24)) 3 #[.int .i64 (cmpI s s'), .int .i64 (cmpI i i'), .int .i64 (cmpI t t')]
  simp only [World.size_alloc] at AT
  have HAT := Lib.hid AT.drew
  clear AT
  go_region_held3 (fun W => W.cell? ⟨w.heap.size, 0, none⟩ = some (.int .i64 s) ∧ W.cell? ⟨w.heap.size, 1, none⟩ = some (.int .i64 i) ∧ W.cell? ⟨w.heap.size, 2, none⟩ = some (.int .i64 t) ∧ W.cell? ⟨w.heap.size + 1, 0, none⟩ = some (.int .i64 s') ∧ W.cell? ⟨w.heap.size + 1, 1, none⟩ = some (.int .i64 i') ∧ W.cell? ⟨w.heap.size + 1, 2, none⟩ = some (.int .i64 t')) (go_keep) (first | (go_at_call 23; refine (compare_any _ _ _).mono ?_; rintro e w1 ⟨rfl, rfl⟩) | (go_at_call 22; refine (or_any _ _ _ _ _ _ HAT.out).mono ?_; rintro e w1 ⟨rfl, rfl⟩))
  all_goals
    go_wp2_with fail
    go_ret
    refine ⟨?_, ((((Grows.refl _).alloc _).alloc _).alloc _).drew⟩
    rw [← HL.out]
    rfl
theorem older_any (a b : Nm) (w : World) : Calls Try.prog 12 #[a.v, b.v] w fun e w' => e = .returned (.bool (decide (a.s < b.s))) ∧ Grows w w' := by
  unfold Nm.v
  go_enter Try.func12, Try.ntmps12
  go_wp2_with fail
  go_ret
  exact ⟨rfl, ((Grows.refl _).alloc _).alloc _⟩
end Go.Proofs.Ytpllcjggjjapoaa
