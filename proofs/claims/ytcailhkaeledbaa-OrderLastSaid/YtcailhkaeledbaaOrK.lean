/-
  Plain: the heads of a history; names matched in order.
-/
import Derived.Test.YtcailhkaeledbaaOrH
namespace Go.Proofs.Ytcailhkaeledbaa
open Go.RowKit

theorem mayB_take {l : List Sn} (h : mayB l = true) (k : Nat) : mayB (l.take k) = true := by
  unfold mayB at *
  rw [List.all_eq_true] at *
  intro i hi
  have hi' := List.mem_range.1 hi
  rw [List.length_take] at hi'
  have h1 := h i (List.mem_range.2 (by omega))
  unfold okAt at *
  rw [List.getElem?_take_of_lt (by omega), List.take_take, show min i k = i by omega]
  exact h1
theorem tkA_d (n : Nm) : ∀ (l : List Sn) (i : Nat) (t : Tk), t.d = true → (tkA n i l t).d = true
  | [], _, _, h => h
  | x :: l, i, t, h => by
    rw [tkA]
    refine tkA_d n l _ _ ?_
    split
    · rw [nxt_d, h]; rfl
    · exact h
theorem tkA_append (n : Nm) : ∀ (l l' : List Sn) (i : Nat) (t : Tk), tkA n i (l ++ l') t = tkA n (i + l.length) l' (tkA n i l t)
  | [], _, _, _ => by simp [tkA]
  | x :: l, l', i, t => by
    rw [List.cons_append, tkA, tkA_append n l l', tkA, List.length_cons, show i + 1 + l.length = i + (l.length + 1) by omega]
theorem tk_d_take {l : List Sn} {k : Nat} {n : Nm} (h : (tk (l.take k) n).d = true) : (tk l n).d = true := by
  have e : l = l.take k ++ l.drop k := (List.take_append_drop k l).symm
  rw [e]
  unfold tk at *
  rw [tkA_append]
  exact tkA_d n _ _ _ h
theorem filter_sub {α : Type} (p q : α → Bool) : ∀ l : List α, (∀ x ∈ l, p x = true → q x = true) → (l.filter p).Sublist (l.filter q)
  | [], _ => List.Sublist.refl _
  | x :: l, h => by
    have ih := filter_sub p q l fun y hy => h y (by simp [hy])
    rw [List.filter_cons, List.filter_cons]
    by_cases hp : p x = true
    · rw [if_pos hp, if_pos (h x (by simp) hp)]; exact ih.cons_cons _
    · rw [if_neg hp]
      split
      · exact ih.cons _
      · exact ih
theorem decL_take (l : List Sn) (k : Nat) : (decL (l.take k)).Sublist (decL l) := by
  unfold decL
  refine List.Sublist.map _ (List.Sublist.trans ?_ (List.Sublist.filter _ (List.take_sublist k l)))
  refine filter_sub _ _ _ fun x _ hx => ?_
  rw [Bool.and_eq_true] at hx ⊢
  exact ⟨hx.1, tk_d_take hx.2⟩
/-- How far a is matched by b's first ones, from at on. -/
def mat (a : List Nm) : List Nm → Nat → Nat
  | [], at_ => at_
  | x :: b, at_ => mat a b (if a[at_]? = some x then at_ + 1 else at_)
theorem mat_snoc (a : List Nm) (x : Nm) : ∀ (b : List Nm) (i : Nat), mat a (b ++ [x]) i = if a[mat a b i]? = some x then mat a b i + 1 else mat a b i
  | [], _ => rfl
  | y :: b, i => by rw [List.cons_append, mat, mat_snoc a x b, mat]
theorem mat_le (a : List Nm) : ∀ (b : List Nm) (i : Nat), i ≤ a.length → mat a b i ≤ a.length
  | [], _, h => h
  | x :: b, i, h => by
    rw [mat]
    refine mat_le a b _ ?_
    split
    · rename_i h1
      exact (List.getElem?_eq_some_iff.1 h1).1
    · exact h
theorem mat_full (a : List Nm) : ∀ (b : List Nm) (i : Nat), i ≤ a.length → (a.drop i).Sublist b → mat a b i = a.length
  | [], i, h, hs => by
    have := List.drop_eq_nil_iff.1 (List.sublist_nil.1 hs)
    rw [mat]; omega
  | x :: b, i, h, hs => by
    rw [mat]
    by_cases hi : i < a.length
    · rw [List.drop_eq_getElem_cons hi] at hs
      by_cases he : a[i]? = some x
      · rw [if_pos he]
        refine mat_full a b _ hi ?_
        rw [List.getElem?_eq_getElem hi] at he
        injection he with he
        cases hs with
        | cons _ h2 => exact (List.sublist_cons_self _ _).trans h2
        | cons_cons _ h2 => exact h2
      · rw [if_neg he]
        refine mat_full a b _ h ?_
        rw [List.drop_eq_getElem_cons hi]
        rw [List.getElem?_eq_getElem hi] at he
        cases hs with
        | cons _ h2 => exact h2
        | cons_cons _ h2 => exact absurd rfl he
    · have hn : a[i]? ≠ some x := by rw [List.getElem?_eq_none (by omega)]; simp
      rw [if_neg hn]
      refine mat_full a b _ h ?_
      rw [List.drop_eq_nil_iff.2 (by omega)]
      exact List.nil_sublist _
end Go.Proofs.Ytcailhkaeledbaa
