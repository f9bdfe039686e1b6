/-
  home: First, GetSuper.
-/
import Derived.Test.YtmcofmidpedkiaaHmC
namespace Go.Proofs.Ytmcofmidpedkiaa
open Go.RowKit Go.Maps

def ints (l : List Int) : List Value := l.map (Value.int .i64)
def supv (n t u i b o0 o1 o2 o3 o4 o5 o6 o7 : Int) : Value := .agg #[.int .i64 n, .int .i64 t, .int .i64 u, .int .i64 i, .int .i64 b, .int .i64 o0, .int .i64 o1, .int .i64 o2, .int .i64 o3, .int .i64 o4, .int .i64 o5, .int .i64 o6, .int .i64 o7]
theorem zsup (W : World) : (zeroValue 39).run Try.prog W = .ok (supv 0 0 0 0 0 0 0 0 0 0 0 0 0) W := by kernel_rfl
theorem one13 (n t u i b o0 o1 o2 o3 o4 o5 o6 o7 : Int) : (#[.int .i64 n, .int .i64 t, .int .i64 u, .int .i64 i, .int .i64 b, .int .i64 o0, .int .i64 o1, .int .i64 o2, .int .i64 o3, .int .i64 o4, .int .i64 o5, .int .i64 o6, .int .i64 o7] : Array Value).all (·.oneCell') = true := all_oneCell_toArray (one_ints .i64 [n, t, u, i, b, o0, o1, o2, o3, o4, o5, o6, o7])

theorem greater_any (n t u i b o0 o1 o2 o3 o4 o5 o6 o7 n' t' u' i' b' p0 p1 p2 p3 p4 p5 p6 p7 : Int) (w : World) : Calls Try.prog 29 #[supv n t u i b o0 o1 o2 o3 o4 o5 o6 o7, supv n' t' u' i' b' p0 p1 p2 p3 p4 p5 p6 p7] w fun e w' => e = .returned (.bool (decide (n' < n))) ∧ Grows w w' := by
  unfold supv
  go_enter Try.func29, Try.ntmps29
  go_wp2_with fail
  go_ret
  exact ⟨rfl, ((Grows.refl _).alloc _).alloc _⟩
theorem first_any (w : World) : Calls Try.prog 16 #[] w fun e w' => e = .returned (supv 0 1 0 0 1 0 0 0 0 0 0 0 0) ∧ Grows w w' := by
  have hz := zsup
  unfold supv at *
  go_enter Try.func16, Try.ntmps16
  go_wp2_with (with_reducible refine wpList_store_mid (op := ⟨none, .store 39 (.tmp 0) (.tmp 1), _, _, _, none⟩) rfl 39 (.tmp 0) (.tmp 1) rfl (w.heap.size) (0) #[.int .i64 0, .int .i64 1, .int .i64 0, .int .i64 0, .int .i64 1, .int .i64 0, .int .i64 0, .int .i64 0, .int .i64 0, .int .i64 0, .int .i64 0, .int .i64 0, .int .i64 0] ?s1a ?s1b ?s1c ?s1d ?s1e ?_)
  case s1a => rfl
  case s1b => rfl
  case s1c => exact (At.new w _ _).there 0 13 (by simp)
  case s1d => kernel_rfl
  case s1e => exact one13 _ _ _ _ _ _ _ _ _ _ _ _ _
  exact bodyPost_ret (results_cell_row Try.results16 _ _ w.heap.size 39 _ (0, 0) _ rfl (At.all (vs := ints [0, 1, 0, 0, 1, 0, 0, 0, 0, 0, 0, 0, 0]) (cs := ints [0, 0, 0, 0, 0, 0, 0, 0, 0, 0, 0, 0, 0]) (At.new w _ _) rfl) Try.underlying39 rfl (by kernel_rfl)) rfl ⟨rfl, Grows.setCells (Nat.le_refl _) _ _ ((Grows.refl _).alloc _)⟩

/-- What read answers. -/
def RdPost (w : World) (o : Option (List Int)) (e : Ending) (w' : World) : Prop := ∃ n t u i b o0 o1 o2 o3 o4 o5 o6 o7 : Int, ∃ ok : Bool, e = .returned (.tuple #[supv n t u i b o0 o1 o2 o3 o4 o5 o6 o7, .bool ok]) ∧ Grows w w' ∧ ok = o.isSome ∧ ∀ L, o = some L → [n, t, u, i, b, o0, o1, o2, o3, o4, o5, o6, o7] = L
/-- How many of the first sectors are all 0s. -/
def emptyN (z : Nat → Bool) : Nat → Nat
  | 0 => 0
  | k + 1 => emptyN z k + if z k then 1 else 0
theorem emptyN_le (z : Nat → Bool) : ∀ k, emptyN z k ≤ k
  | 0 => Nat.le_refl _
  | k + 1 => by have := emptyN_le z k; unfold emptyN; split <;> omega
/-- The best superblock of the first sectors. -/
def bst (z : Nat → Bool) (o : Nat → Option (List Int)) : Nat → Option (List Int)
  | 0 => none
  | k + 1 => if z k then bst z o k else match o k with
    | none => bst z o k
    | some L => match bst z o k with
      | none => some L
      | some M => if M.getD 0 0 < L.getD 0 0 then some L else some M
/-- What GetSuper answers. -/
def GsPost (w : World) (z : Nat → Bool) (o : Nat → Option (List Int)) (e : Ending) (w' : World) : Prop :=
  ∃ n t u i b o0 o1 o2 o3 o4 o5 o6 o7 : Int, ∃ er : Int, e = .returned (.tuple #[supv n t u i b o0 o1 o2 o3 o4 o5 o6 o7, .int .i64 er]) ∧ Grows w w' ∧
    ((∃ L, bst z o 2 = some L ∧ er = 0 ∧ [n, t, u, i, b, o0, o1, o2, o3, o4, o5, o6, o7] = L) ∨ (bst z o 2 = none ∧ emptyN z 2 = 2 ∧ er = 0 ∧ [n, t, u, i, b, o0, o1, o2, o3, o4, o5, o6, o7] = [0, 1, 0, 0, 1, 0, 0, 0, 0, 0, 0, 0, 0]) ∨ (bst z o 2 = none ∧ emptyN z 2 ≠ 2 ∧ er = 40))
theorem gs_nil (w : World) : Calls Try.prog 13 #[.pointer none] w fun e w' => e = .returned (.tuple #[supv 0 0 0 0 0 0 0 0 0 0 0 0 0, .int .i64 1]) ∧ Grows w w' := by
  have hz := zsup
  unfold supv at *
  have A0 := At.new w 39 #[.int .i64 0, .int .i64 0, .int .i64 0, .int .i64 0, .int .i64 0, .int .i64 0, .int .i64 0, .int .i64 0, .int .i64 0, .int .i64 0, .int .i64 0, .int .i64 0, .int .i64 0]
  have HA0 := Lib.hid A0
  clear A0
  go_enter Try.func13, Try.ntmps13
  go_wp2_with (with_reducible refine wpList_store_mid (op := ⟨none, .store 39 (.tmp 2) (.tmp 15), _, _, _, none⟩) rfl 39 (.tmp 2) (.tmp 15) rfl (w.heap.size) (0) #[.int .i64 0, .int .i64 0, .int .i64 0, .int .i64 0, .int .i64 0, .int .i64 0, .int .i64 0, .int .i64 0, .int .i64 0, .int .i64 0, .int .i64 0, .int .i64 0, .int .i64 0] ?s2a ?s2b ?s2c ?s2d ?s2e ?_)
  case s2a => rfl
  case s2b => rfl
  case s2c => exact HA0.out.there 0 13 (by simp)
  case s2d => kernel_rfl
  case s2e => exact one13 _ _ _ _ _ _ _ _ _ _ _ _ _
  exact bodyPost_ret (results_row_tmp Try.results13 _ _ w.heap.size 39 _ _ rfl (At.all (vs := ints [0, 0, 0, 0, 0, 0, 0, 0, 0, 0, 0, 0, 0]) (cs := ints [0, 0, 0, 0, 0, 0, 0, 0, 0, 0, 0, 0, 0]) HA0.out rfl) Try.underlying39 rfl (by kernel_rfl)) rfl ⟨rfl, Grows.setCells (Nat.le_refl _) _ _ ((Grows.refl _).alloc _)⟩
end Go.Proofs.Ytmcofmidpedkiaa
