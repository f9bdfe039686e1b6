/-
  Plain: the reference's May asks the same of each step.
-/
import Derived.Test.YtfigoeoimefngaaWjA
import Derived.Test.YtfigoeoimefngaaZb
namespace Go.Proofs.Ytfigoeoimefngaa
open Go.RowKit

theorem nxt_b (z : Int) (x : Sn) (t : Tk) : (nxt z x t).b = (t.b || x.k == 0) := by
  unfold nxt
  by_cases h0 : x.k = 0
  · simp [h0]
  · by_cases h3 : x.k = 3
    · simp [h3]
    · by_cases h4 : x.k = 4
      · simp [h4]
      · by_cases h5 : x.k = 5 <;> simp [h0, h3, h4, h5]
theorem nxt_a (z : Int) (x : Sn) (t : Tk) : (nxt z x t).a = (t.a || x.k == 4) := by
  unfold nxt
  by_cases h0 : x.k = 0
  · simp [h0]
  · by_cases h3 : x.k = 3
    · simp [h3]
    · by_cases h4 : x.k = 4
      · simp [h4]
      · by_cases h5 : x.k = 5 <;> simp [h0, h3, h4, h5]
theorem any_snoc {α : Type} (p : α → Bool) (l : List α) (x : α) : (l ++ [x]).any p = (l.any p || p x) := by simp
theorem tk_flags (l : List Sn) (n : Nm) : (tk l n).b = l.any (fstB 0 n) ∧ (tk l n).c = l.any (fstB 3 n) ∧ (tk l n).a = l.any (fstB 4 n) ∧ (tk l n).d = l.any (fstB 5 n) := by
  refine snoc_ind (P := fun l => (tk l n).b = l.any (fstB 0 n) ∧ (tk l n).c = l.any (fstB 3 n) ∧ (tk l n).a = l.any (fstB 4 n) ∧ (tk l n).d = l.any (fstB 5 n)) ⟨rfl, rfl, rfl, rfl⟩ ?_ l
  rintro l x ⟨h1, h2, h3, h4⟩
  rw [tk_snoc, any_snoc, any_snoc, any_snoc, any_snoc]
  by_cases e : x.n = n
  · rw [if_pos e, nxt_b, nxt_c, nxt_a, nxt_d, h1, h2, h3, h4]
    have hk : ∀ z : Int, (x.k == z) = decide (x.k = z) := fun z => by by_cases hz : x.k = z <;> simp [hz]
    simp [fstB, e, hk]
  · rw [if_neg e, h1, h2, h3, h4]
    simp [fstB, e]
theorem fst_lt {k : Int} {m : Nm} {L : List Sn} (i : Nat) : (0 ≤ fstI k m L ∧ fstI k m L < (i : Int)) ↔ (L.take i).any (fstB k m) = true := by
  unfold fstI
  by_cases h : L.any (fstB k m) = true
  · rw [if_pos h]
    constructor
    · rintro ⟨_, h2⟩
      have h3 : L.findIdx (fstB k m) < i := by omega
      obtain ⟨y, hy, hp⟩ := List.any_eq_true.1 h
      have h4 : L.findIdx (fstB k m) < L.length := List.findIdx_lt_length_of_exists ⟨y, hy, hp⟩
      exact List.any_eq_true.2 ⟨_, List.mem_take_iff_getElem.2 ⟨L.findIdx (fstB k m), by omega, rfl⟩, List.findIdx_getElem (w := h4)⟩
    · intro h1
      obtain ⟨y, hy, hp⟩ := List.any_eq_true.1 h1
      obtain ⟨j, hj, rfl⟩ := List.mem_take_iff_getElem.1 hy
      have : L.findIdx (fstB k m) ≤ j := by
        rcases Nat.lt_or_ge j (L.findIdx (fstB k m)) with h5 | h5
        · have := List.not_of_lt_findIdx h5
          rw [hp] at this
          cases this
        · exact h5
      omega
  · rw [if_neg h]
    constructor
    · rintro ⟨h1, _⟩; omega
    · intro h1
      obtain ⟨y, hy, hp⟩ := List.any_eq_true.1 h1
      exact absurd (List.any_eq_true.2 ⟨y, List.mem_of_mem_take hy, hp⟩) h
theorem fst_lt1 {k : Int} {m : Nm} {L : List Sn} {i : Nat} {x : Sn} (hx : L[i]? = some x) : (0 ≤ fstI k m L ∧ fstI k m L ≤ (i : Int)) ↔ ((L.take i).any (fstB k m) || fstB k m x) = true := by
  have := fst_lt (k := k) (m := m) (L := L) (i + 1)
  rw [List.take_add_one, hx, Option.toList_some, any_snoc] at this
  rw [← this]
  omega
theorem may_ref {L : List Sn} {i : Nat} {x : Sn} (hx : L[i]? = some x) : okAt L i = true ↔ 0 ≤ x.k ∧ x.k ≤ 5 ∧ namedB x.n = true ∧ ¬ fstI 0 x.n L < 0 ∧ ¬ (i : Int) < fstI 0 x.n L ∧ (x.k ≠ 1 → x.k ≠ 2 → fstI x.k x.n L = (i : Int)) ∧
    (x.k = 1 ∨ x.k = 2 → 0 ≤ x.b ∧ x.b < 32 ∧ ¬ (0 ≤ fstI 3 x.n L ∧ fstI 3 x.n L < (i : Int))) ∧ (x.k = 4 → x.e = 0 → 0 ≤ fstI 3 x.n L ∧ fstI 3 x.n L ≤ (i : Int)) ∧ (x.k = 5 → 0 ≤ fstI 3 x.n L ∧ fstI 3 x.n L ≤ (i : Int)) := by
  have e1 : okAt L i = (namedB x.n && okS x (tk (L.take i) x.n)) := by unfold okAt; rw [hx]
  obtain ⟨f0, f3, f4, f5⟩ := tk_flags (L.take i) x.n
  have g0 := fst_lt1 (k := 0) (m := x.n) hx
  have g3 := fst_lt1 (k := 3) (m := x.n) hx
  have l3 := fst_lt (k := 3) (m := x.n) (L := L) i
  have hb : (¬ fstI 0 x.n L < 0 ∧ ¬ (i : Int) < fstI 0 x.n L) ↔ ((L.take i).any (fstB 0 x.n) || fstB 0 x.n x) = true := by rw [← g0]; omega
  have ho : fstI x.k x.n L = (i : Int) ↔ (L.take i).any (fstB x.k x.n) = false := by
    have a1 := fst_lt1 (k := x.k) (m := x.n) hx
    have a2 := fst_lt (k := x.k) (m := x.n) (L := L) i
    have a3 : ((L.take i).any (fstB x.k x.n) || fstB x.k x.n x) = true := by simp [fstB]
    have a4 := a1.2 a3
    rw [← Bool.not_eq_true, ← a2]
    omega
  rw [← and_assoc (a := ¬ fstI 0 x.n L < 0), hb, g3, l3, ho, e1, Bool.and_eq_true]
  unfold okS rwB
  rw [f0, f3, f4, f5]
  have hf0 : fstB 0 x.n x = decide (x.k = 0) := by simp [fstB]
  have hf3 : fstB 3 x.n x = decide (x.k = 3) := by simp [fstB]
  rw [hf0, hf3]
  generalize fstI 0 x.n L = A at *
  by_cases k0 : x.k = 0
  · simp [k0]
    try grind
  · by_cases k1 : x.k = 1
    · simp [k1]
      try grind
    · by_cases k2 : x.k = 2
      · simp [k2]
        try grind
      · by_cases k3 : x.k = 3
        · simp [k3]
          try grind
        · by_cases k4 : x.k = 4
          · simp [k4]
            try grind
          · by_cases k5 : x.k = 5
            · simp [k5]
              try grind
            · simp [k0, k1, k2, k3, k4, k5]
              intro a b
              omega
theorem may_false {L : List Sn} {i : Nat} (hi : i < L.length) (h : okAt L i = false) : mayB L = false := by
  unfold mayB
  rw [← Bool.not_eq_true, List.all_eq_true]
  intro hc
  have := hc i (List.mem_range.2 hi)
  rw [h] at this
  cases this
theorem may_true {L : List Sn} (h : ∀ i, i < L.length → okAt L i = true) : mayB L = true := by
  unfold mayB
  rw [List.all_eq_true]
  exact fun i hi => h i (List.mem_range.1 hi)
end Go.Proofs.Ytfigoeoimefngaa
