/-
  Plain facts on the oldest, and on a list that rises.
-/
import Derived.Test.YtilmihmjohjplaaNmI
namespace Go.Proofs.Ytilmihmjohjplaa
open Go.RowKit

theorem least_le (a b : Nm) : leN (least a b) a ∧ leN (least a b) b := by
  unfold least
  cases h : lessN b a
  · exact ⟨leN_refl _, h⟩
  · exact ⟨leN_of_less h, leN_refl _⟩
theorem oldest_le : ∀ (l : List Nm) (x : Nm), leN (oldestN x l) x ∧ ∀ y ∈ l, leN (oldestN x l) y
  | [], x => ⟨leN_refl _, by simp⟩
  | z :: l, x => by
    have h := oldest_le l (least x z)
    have k := least_le x z
    refine ⟨leN_trans h.1 k.1, fun y hy => ?_⟩
    rcases List.mem_cons.1 hy with rfl | hy
    · exact leN_trans h.1 k.2
    · exact h.2 y hy
theorem le_s {a b : Nm} (h : leN a b) : a.s ≤ b.s := by
  rw [leN, lessN_false] at h
  omega
/-- The oldest of a list, or the zero name. -/
def oldL : List Nm → Nm
  | [] => ⟨0, 0, 0⟩
  | x :: l => oldestN x l
theorem oldL_le {l : List Nm} {y : Nm} (hy : y ∈ l) : (oldL l).s ≤ y.s := by
  cases l with
  | nil => cases hy
  | cons x l =>
    rcases List.mem_cons.1 hy with rfl | hy
    · exact le_s (oldest_le l y).1
    · exact le_s ((oldest_le l x).2 y hy)
/-- Those of the list so far that bear another stamp. -/
def oth (o : Int) (l : List Nm) : List Nm := l.filter fun m => decide (m.s ≠ o)
theorem oth_all {l : List Nm} (k : Nat) : ((oth (oldL l).s (l.take k)).all fun m => decide ((oldL l).s < m.s)) = true := by
  rw [List.all_eq_true]
  intro m hm
  have h := List.mem_filter.1 hm
  have h1 := oldL_le (List.mem_of_mem_take h.1)
  have h2 : m.s ≠ (oldL l).s := by simpa using h.2
  simp only [decide_eq_true_eq]
  omega
theorem oth_len (o : Int) (l : List Nm) : (oth o l).length ≤ l.length := List.length_filter_le _ _
theorem oth_take (o : Int) (l : List Nm) (k : Nat) (hk : k < l.length) : oth o (l.take (k + 1)) = oth o (l.take k) ++ if l[k].s ≠ o then [l[k]] else [] := by
  rw [List.take_succ_eq_append_getElem hk, oth, List.filter_append]
  congr 1
  by_cases h : l[k].s = o <;> simp [h]
theorem strict_step {l : List Nm} (h : Strict l) (k : Nat) (hk : k + 1 < l.length) : lessN l[k] l[k + 1] = true := List.pairwise_iff_getElem.1 h k (k + 1) (by omega) hk (by omega)
def cnt (x : Nm) (l : List Nm) : Nat := (l.filter fun y => decide (y = x)).length
theorem cnt_take (x : Nm) (l : List Nm) (k : Nat) (hk : k < l.length) : cnt x (l.take (k + 1)) = cnt x (l.take k) + if l[k] = x then 1 else 0 := by
  rw [List.take_succ_eq_append_getElem hk, cnt, List.filter_append, List.length_append]
  congr 1
  by_cases h : l[k] = x <;> simp [h]
theorem cnt_le (x : Nm) (l : List Nm) : cnt x l ≤ l.length := List.length_filter_le _ _
theorem cnt_none {x : Nm} {l : List Nm} (h : x ∉ l) : cnt x l = 0 := by
  rw [cnt, List.length_eq_zero_iff, List.filter_eq_nil_iff]
  intro y hy
  simp only [decide_eq_true_eq]
  rintro rfl
  exact h hy
theorem cnt_one {x : Nm} : ∀ {l : List Nm}, Strict l → x ∈ l → cnt x l = 1
  | y :: l, h, hx => by
    have hp := List.pairwise_cons.1 h
    rcases List.mem_cons.1 hx with rfl | hx
    · have : x ∉ l := fun hm => by
        have h1 := hp.1 x hm
        have h2 := leN_refl x
        rw [leN, h1] at h2
        cases h2
      have h0 := cnt_none this
      rw [cnt] at h0 ⊢
      rw [List.filter_cons_of_pos (by simp), List.length_cons, h0]
    · have hne : y ≠ x := by
        rintro rfl
        have h1 := hp.1 y hx
        have h2 := leN_refl y
        rw [leN, h1] at h2
        cases h2
      have := cnt_one hp.2 hx
      rw [cnt] at this ⊢
      rw [List.filter_cons_of_neg (by simpa using hne), this]

set_option maxHeartbeats 1000000 in
theorem oldest_any (l : List Nm) (n : Nat) (hn : l.length = n) (a : Option Addr) (cap : Nat) (w : World) (hrd : Rd w a (nms l)) (hcap : n ≤ cap) (hl : n ≤ 1000000) :
    Calls Try.prog 8 #[.slice a n cap] w fun e w' => e = .returned (.tuple #[(oldL l).v, .bool (decide ((n : Int) > 0))]) ∧ Grows w w' := by
  cases l with
  | nil =>
    obtain rfl : n = 0 := by simpa using hn.symm
    exact oldest_none cap a w
  | cons x l =>
    obtain ⟨m, rfl⟩ : ∃ m, n = m + 1 := ⟨l.length, by simpa using hn.symm⟩
    have h := oldest_some x l m (by simpa using hn) a cap w hrd hcap (by omega)
    rw [show decide (((m + 1 : Nat) : Int) > 0) = true by simp]
    exact h
end Go.Proofs.Ytilmihmjohjplaa
