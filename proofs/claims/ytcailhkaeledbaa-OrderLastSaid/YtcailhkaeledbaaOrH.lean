/-
  Plain: of a history that may be, the commits' places; the names that were decided.
-/
import Derived.Test.YtcailhkaeledbaaOrD
namespace Go.Proofs.Ytcailhkaeledbaa
open Go.RowKit

theorem okAt_append (l : List Sn) (x : Sn) (i : Nat) (h : i < l.length) : okAt (l ++ [x]) i = okAt l i := by
  unfold okAt
  rw [List.getElem?_append_left h, List.take_append_of_le_length (by omega)]
theorem mayB_snoc (l : List Sn) (x : Sn) : mayB (l ++ [x]) = (mayB l && (namedB x.n && okS x (tk l x.n))) := by
  unfold mayB
  rw [List.length_append, List.length_singleton, List.range_succ, List.all_append]
  congr 1
  · rw [Bool.eq_iff_iff, List.all_eq_true, List.all_eq_true]
    constructor
    · intro h i hi
      rw [← okAt_append l x i (List.mem_range.1 hi)]
      exact h i hi
    · intro h i hi
      rw [okAt_append l x i (List.mem_range.1 hi)]
      exact h i hi
  · simp [okAt]
theorem snoc_ind {P : List Sn → Prop} (h0 : P []) (h1 : ∀ l x, P l → P (l ++ [x])) (l : List Sn) : P l := by
  have : ∀ n (l : List Sn), l.length = n → P l := by
    intro n
    induction n with
    | zero => intro l h; rw [List.eq_nil_of_length_eq_zero h]; exact h0
    | succ n ih =>
      intro l h
      have hne : l ≠ [] := by rintro rfl; simp at h
      rw [← List.dropLast_concat_getLast hne]
      exact h1 _ _ (ih _ (by simp; omega))
  exact this _ l rfl
theorem nxt_c (z : Int) (x : Sn) (t : Tk) : (nxt z x t).c = (t.c || x.k == 3) := by
  unfold nxt
  by_cases h0 : x.k = 0
  · simp [h0]
  · by_cases h3 : x.k = 3
    · simp [h3]
    · by_cases h4 : x.k = 4
      · simp [h4]
      · by_cases h5 : x.k = 5 <;> simp [h0, h3, h4, h5]
theorem nxt_p (z : Int) (x : Sn) (t : Tk) : (nxt z x t).p = if x.k = 3 then z else t.p := by
  unfold nxt
  by_cases h0 : x.k = 0
  · simp [h0]
  · by_cases h3 : x.k = 3
    · simp [h3]
    · by_cases h4 : x.k = 4
      · simp [h4]
      · by_cases h5 : x.k = 5 <;> simp [h0, h3, h4, h5]
theorem nxt_d (z : Int) (x : Sn) (t : Tk) : (nxt z x t).d = (t.d || x.k == 5) := by
  unfold nxt
  by_cases h0 : x.k = 0
  · simp [h0]
  · by_cases h3 : x.k = 3
    · simp [h3]
    · by_cases h4 : x.k = 4
      · simp [h4]
      · by_cases h5 : x.k = 5 <;> simp [h0, h3, h4, h5]
theorem ok3 {x : Sn} {t : Tk} (h : okS x t = true) (hk : x.k = 3) : t.c = false ∧ t.b = true := by
  simp [okS, hk, rwB] at h
  exact ⟨h.2, h.1⟩
theorem ok5 {x : Sn} {t : Tk} (h : okS x t = true) (hk : x.k = 5) : t.c = true ∧ t.d = false := by
  simp [okS, hk, rwB] at h
  exact ⟨h.2.2, h.2.1⟩
/-- The commits of a history that may be. -/
structure Com (l : List Sn) : Prop where
  put : ∀ (i : Nat) (x : Sn), l[i]? = some x → x.k = 3 → (tk l x.n).c = true ∧ (tk l x.n).p = (i : Int)
  got : ∀ n, (tk l n).c = true → ∃ (i : Nat) (x : Sn), l[i]? = some x ∧ x.k = 3 ∧ x.n = n ∧ (tk l n).p = (i : Int)
  dec : ∀ n, (tk l n).d = true → (tk l n).c = true
theorem com_at (l : List Sn) : mayB l = true → Com l := by
  refine snoc_ind (P := fun l => mayB l = true → Com l) ?_ ?_ l
  · intro _
    refine ⟨fun i x h => by simp at h, fun n h => by simp [tk, tkA, Tk.zero] at h, fun n h => by simp [tk, tkA, Tk.zero] at h⟩
  · intro l x ih h
    rw [mayB_snoc, Bool.and_eq_true, Bool.and_eq_true] at h
    obtain ⟨h1, h2, h3⟩ := ih h.1
    have hok := h.2.2
    refine ⟨fun i y hy hk => ?_, fun n hn => ?_, fun n hn => ?_⟩
    · by_cases hi : i < l.length
      · rw [List.getElem?_append_left hi] at hy
        obtain ⟨q1, q2⟩ := h1 i y hy hk
        rw [tk_snoc]
        by_cases e : x.n = y.n
        · rw [if_pos e, nxt_c, nxt_p, q1]
          refine ⟨by simp, ?_⟩
          by_cases h3 : x.k = 3
          · have := (ok3 hok h3).1
            rw [e, q1] at this
            cases this
          · rw [if_neg h3, q2]
        · rw [if_neg e]; exact ⟨q1, q2⟩
      · have hl : i = l.length := by
          have := (List.getElem?_eq_some_iff.1 hy).1
          simp at this
          omega
        subst hl
        rw [List.getElem?_append_right (Nat.le_refl _), Nat.sub_self] at hy
        simp at hy
        subst hy
        rw [tk_snoc, if_pos rfl, nxt_c, nxt_p, if_pos hk]
        exact ⟨by simp [hk], rfl⟩
    · rw [tk_snoc] at hn ⊢
      by_cases e : x.n = n
      · rw [if_pos e] at hn ⊢
        rw [nxt_c] at hn
        by_cases h3 : x.k = 3
        · exact ⟨l.length, x, by simp, h3, e, by rw [nxt_p, if_pos h3]⟩
        · simp [h3] at hn
          obtain ⟨i, y, a1, a2, a3, a4⟩ := h2 n hn
          exact ⟨i, y, by rw [List.getElem?_append_left (List.getElem?_eq_some_iff.1 a1).1]; exact a1, a2, a3, by rw [nxt_p, if_neg h3]; exact a4⟩
      · rw [if_neg e] at hn ⊢
        obtain ⟨i, y, a1, a2, a3, a4⟩ := h2 n hn
        exact ⟨i, y, by rw [List.getElem?_append_left (List.getElem?_eq_some_iff.1 a1).1]; exact a1, a2, a3, a4⟩
    · rw [tk_snoc] at hn ⊢
      by_cases e : x.n = n
      · rw [if_pos e] at hn ⊢
        rw [nxt_d] at hn
        rw [nxt_c]
        by_cases h5 : x.k = 5
        · have := (ok5 hok h5).1
          rw [e] at this
          simp [this]
        · simp [h5] at hn
          simp [h3 n hn]
      · rw [if_neg e] at hn ⊢
        exact h3 n hn

/-- The names that were decided, by the place of their Commit. -/
def decL (l : List Sn) : List Nm := (l.filter fun x => x.k == 3 && (tk l x.n).d).map Sn.n
theorem mem_decL {l : List Sn} (h : Com l) (n : Nm) : n ∈ decL l ↔ (tk l n).d = true := by
  unfold decL
  rw [List.mem_map]
  constructor
  · rintro ⟨x, hx, rfl⟩
    have := (List.mem_filter.1 hx).2
    simp at this
    exact this.2
  · intro hd
    obtain ⟨i, x, a1, a2, rfl, _⟩ := h.got n (h.dec n hd)
    exact ⟨x, List.mem_filter.2 ⟨List.mem_of_getElem? a1, by simp [a2, hd]⟩, rfl⟩
theorem decL_rises {l : List Sn} (h : Com l) : (decL l).Pairwise fun a b => (tk l a).p < (tk l b).p := by
  unfold decL
  rw [List.pairwise_map]
  have key : ∀ (l' : List Sn) (o : Nat), (∀ i x, l'[i]? = some x → l[o + i]? = some x) → (l'.filter fun x => x.k == 3 && (tk l x.n).d).Pairwise fun a b => (tk l a.n).p < (tk l b.n).p := by
    intro l'
    induction l' with
    | nil => intro _ _; simp
    | cons x l' ih =>
      intro o ho
      have ih' := ih (o + 1) (fun i y hy => by have := ho (i + 1) y (by simpa using hy); rwa [show o + 1 + i = o + (i + 1) by omega])
      rw [List.filter_cons]
      split
      · rename_i hx
        simp at hx
        refine List.pairwise_cons.2 ⟨fun y hy => ?_, ih'⟩
        obtain ⟨hy1, hy2⟩ := List.mem_filter.1 hy
        simp at hy2
        obtain ⟨i, hi⟩ := List.getElem?_of_mem hy1
        have e1 := (h.put o x (by simpa using ho 0 x (by simp)) hx.1).2
        have e2 := (h.put (o + (i + 1)) y (ho (i + 1) y (by simpa using hi)) hy2.1).2
        rw [e1, e2]
        omega
      · exact ih'
  exact key l 0 (fun i x hx => by rwa [Nat.zero_add])
/-- Two lists with the same members that rise by p are one. -/
theorem rise_unique {p : Nm → Int} : ∀ {a b : List Nm}, a.Pairwise (fun x y => p x < p y) → b.Pairwise (fun x y => p x < p y) → (∀ n, n ∈ a ↔ n ∈ b) → a = b
  | [], [], _, _, _ => rfl
  | [], y :: b, _, _, h => by have := (h y).2 (by simp); cases this
  | x :: a, [], _, _, h => by have := (h x).1 (by simp); cases this
  | x :: a, y :: b, ha, hb, h => by
    obtain ⟨ha1, ha2⟩ := List.pairwise_cons.1 ha
    obtain ⟨hb1, hb2⟩ := List.pairwise_cons.1 hb
    have e : x = y := by
      have h1 := (h x).1 (by simp)
      have h2 := (h y).2 (by simp)
      rcases List.mem_cons.1 h1 with e | h1
      · exact e
      · rcases List.mem_cons.1 h2 with e | h2
        · exact e.symm
        · have := ha1 y h2
          have := hb1 x h1
          omega
    subst e
    have : a = b := rise_unique ha2 hb2 fun n => by
      constructor
      · intro hn
        rcases List.mem_cons.1 ((h n).1 (by simp [hn])) with e | hn'
        · subst e; have := ha1 n hn; omega
        · exact hn'
      · intro hn
        rcases List.mem_cons.1 ((h n).2 (by simp [hn])) with e | hn'
        · subst e; have := hb1 n hn; omega
        · exact hn'
    rw [this]
end Go.Proofs.Ytcailhkaeledbaa
