/-
  The order of names, plainly; merging.
-/
import Derived.Test.YtpllcjggjjapoaaNmC
namespace Go.Proofs.Ytpllcjggjjapoaa

theorem lessN_iff (a b : Nm) : lessN a b = true ↔ a.s < b.s ∨ (a.s = b.s ∧ (a.i < b.i ∨ (a.i = b.i ∧ a.t < b.t))) := by
  unfold lessN
  by_cases h1 : a.s = b.s
  · by_cases h2 : a.i = b.i
    · simp [h1, h2]
    · simp [h1, h2]
  · simp [h1]
theorem lessN_false (a b : Nm) : lessN a b = false ↔ ¬ (a.s < b.s ∨ (a.s = b.s ∧ (a.i < b.i ∨ (a.i = b.i ∧ a.t < b.t)))) := by
  rw [← lessN_iff, Bool.not_eq_true]
def leN (a b : Nm) : Prop := lessN b a = false
theorem leN_of_less {a b : Nm} (h : lessN a b = true) : leN a b := by
  rw [leN, lessN_false]; rw [lessN_iff] at h; omega
theorem leN_trans {a b c : Nm} (h : leN a b) (k : leN b c) : leN a c := by
  rw [leN, lessN_false] at *; omega
theorem leN_refl (a : Nm) : leN a a := by rw [leN, lessN_false]; omega
theorem leN_antisymm {a b : Nm} (h : leN a b) (k : leN b a) : a = b := by
  rw [leN, lessN_false] at *
  cases a; cases b
  simp only [Nm.mk.injEq] at *
  omega
theorem less_of_le_ne {a b : Nm} (h : leN a b) (k : a ≠ b) : lessN a b = true := by
  cases hl : lessN a b with
  | true => rfl
  | false => exact absurd (leN_antisymm h hl) k
def SortN (l : List Nm) : Prop := l.Pairwise leN

structure MrgI (l out A B : List Nm) : Prop where
  perm : (out ++ A ++ B).Perm l
  so : SortN out
  sa : SortN A
  sb : SortN B
  oa : ∀ x ∈ out, ∀ y ∈ A, leN x y
  ob : ∀ x ∈ out, ∀ y ∈ B, leN x y
theorem mrg_start {l A B : List Nm} (h : (A ++ B).Perm l) (ha : SortN A) (hb : SortN B) : MrgI l [] A B :=
  ⟨by simpa using h, List.Pairwise.nil, ha, hb, by simp, by simp⟩
theorem sort_snoc {out : List Nm} {x : Nm} (h : SortN out) (hx : ∀ y ∈ out, leN y x) : SortN (out ++ [x]) :=
  List.pairwise_append.2 ⟨h, by simp, by simpa using hx⟩
theorem mrg_b {l out A B : List Nm} {a b : Nm} (h : MrgI l out (a :: A) (b :: B)) (hl : lessN b a = true) : MrgI l (out ++ [b]) (a :: A) B := by
  have hba := leN_of_less hl
  have ha := List.pairwise_cons.1 h.sa
  have hb := List.pairwise_cons.1 h.sb
  refine ⟨?_, sort_snoc h.so fun y hy => h.ob y hy b (by simp), h.sa, hb.2, ?_, ?_⟩
  · refine List.Perm.trans ?_ h.perm
    rw [List.append_assoc, List.append_assoc, List.append_assoc]
    apply List.Perm.append_left
    show ([b] ++ (a :: A ++ B)).Perm (a :: A ++ b :: B)
    exact (List.perm_middle (l₁ := a :: A) (a := b) (l₂ := B)).symm
  · intro x hx y hy
    rcases List.mem_append.1 hx with hx | hx
    · exact h.oa x hx y hy
    · simp at hx
      subst hx
      rcases List.mem_cons.1 hy with rfl | hy
      · exact hba
      · exact leN_trans hba (ha.1 y hy)
  · intro x hx y hy
    rcases List.mem_append.1 hx with hx | hx
    · exact h.ob x hx y (by simp [hy])
    · simp at hx
      subst hx
      exact hb.1 y hy
theorem mrg_a {l out A B : List Nm} {a b : Nm} (h : MrgI l out (a :: A) (b :: B)) (hl : lessN b a = false) : MrgI l (out ++ [a]) A (b :: B) := by
  have hab : leN a b := hl
  have ha := List.pairwise_cons.1 h.sa
  have hb := List.pairwise_cons.1 h.sb
  refine ⟨?_, sort_snoc h.so fun y hy => h.oa y hy a (by simp), ha.2, h.sb, ?_, ?_⟩
  · refine List.Perm.trans ?_ h.perm
    simp
  · intro x hx y hy
    rcases List.mem_append.1 hx with hx | hx
    · exact h.oa x hx y (by simp [hy])
    · simp at hx
      subst hx
      exact ha.1 y hy
  · intro x hx y hy
    rcases List.mem_append.1 hx with hx | hx
    · exact h.ob x hx y hy
    · simp at hx
      subst hx
      rcases List.mem_cons.1 hy with rfl | hy
      · exact hab
      · exact leN_trans hab (hb.1 y hy)
theorem mrg_end {l out A B : List Nm} (h : MrgI l out A B) (he : A = [] ∨ B = []) : SortN (out ++ A ++ B) := by
  rcases he with rfl | rfl
  · rw [List.append_nil]
    exact List.pairwise_append.2 ⟨h.so, h.sb, h.ob⟩
  · rw [List.append_nil]
    exact List.pairwise_append.2 ⟨h.so, h.sa, h.oa⟩
end Go.Proofs.Ytpllcjggjjapoaa
