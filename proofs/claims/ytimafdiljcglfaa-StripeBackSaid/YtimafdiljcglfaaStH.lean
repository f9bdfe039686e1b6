/-
  StripeBack: plain facts.
-/
import Derived.Test.YtimafdiljcglfaaStG
namespace Go.Proofs.Ytimafdiljcglfaa
open Go.RowKit

/-- How many of the first k blocks stand at shard s. -/
def cn (M : List Int) (s : Int) : Nat → Nat
  | 0 => 0
  | k + 1 => cn M s k + if M.getD (k / 4) 0 = s then 1 else 0
theorem cn_le (M : List Int) (s : Int) : ∀ k, cn M s k ≤ k
  | 0 => Nat.le_refl _
  | k + 1 => by have := cn_le M s k; unfold cn; split <;> omega
theorem cn_form (M : List Int) (s : Int) (h8 : M.length = 8) : ∀ k, k ≤ 32 → cn M s k = 4 * (M.take (k / 4)).count s + (k % 4) * (if M.getD (k / 4) 0 = s then 1 else 0)
  | 0, _ => by simp [cn]
  | k + 1, hk => by
    have ih := cn_form M s h8 k (by omega)
    rw [cn, ih]
    by_cases hr : k % 4 = 3
    · have hq : (k + 1) / 4 = k / 4 + 1 := by omega
      have hr2 : (k + 1) % 4 = 0 := by omega
      rw [hq, hr2, count_take_succ (by omega), hr]
      split <;> omega
    · have hq : (k + 1) / 4 = k / 4 := by omega
      have hr2 : (k + 1) % 4 = k % 4 + 1 := by omega
      rw [hq, hr2]
      split <;> omega
theorem slot_cn (M : List Int) (h8 : M.length = 8) (k : Nat) (hk : k < 32) : slotOf M k = cn M (M.getD (k / 4) 0) k := by
  rw [cn_form M _ h8 k (by omega), slotOf]
  simp
  omega
/-- What was seen, behind k blocks; how many. -/
def snB (M : List Int) (k i : Nat) : Bool := decide (1 ≤ i / 32) && decide (i % 32 < cn M ((i / 32 : Nat) : Int) k)
def sn (M : List Int) (k : Nat) : Array Value := ((List.range 160).map fun i => Value.bool (snB M k i)).toArray
def mnI (M : List Int) (k s : Nat) : Int := if s = 0 then 0 else ((cn M (s : Int) k : Nat) : Int)
def mn (M : List Int) (k : Nat) : Array Value := ((List.range 5).map fun s => Value.int .i64 (mnI M k s)).toArray
theorem sn_at (M : List Int) (k i : Nat) (h : i < 160) : (sn M k)[i]? = some (.bool (snB M k i)) := by simp [sn, h]
theorem mn_at (M : List Int) (k s : Nat) (h : s < 5) : (mn M k)[s]? = some (.int .i64 (mnI M k s)) := by simp [mn, h]
theorem sn_size (M : List Int) (k : Nat) : (sn M k).size = 160 := by simp [sn]
theorem mn_size (M : List Int) (k : Nat) : (mn M k).size = 5 := by simp [mn]
theorem sn_zero (M : List Int) : sn M 0 = (List.replicate 160 (Value.bool false)).toArray := by
  apply congrArg List.toArray
  apply List.ext_getElem?
  intro i
  by_cases h : i < 160
  · rw [List.getElem?_map, List.getElem?_range h, List.getElem?_replicate, if_pos h]
    simp [snB, cn]
  · rw [List.getElem?_eq_none (by simp; omega), List.getElem?_eq_none (by simp; omega)]
theorem mn_zero (M : List Int) : mn M 0 = #[.int .i64 0, .int .i64 0, .int .i64 0, .int .i64 0, .int .i64 0] := rfl
theorem sn_skip (M : List Int) (k : Nat) (h : M.getD (k / 4) 0 = 0) : sn M (k + 1) = sn M k := by
  apply congrArg List.toArray
  apply List.map_congr_left
  intro i _
  simp only [snB]
  by_cases h1 : 1 ≤ i / 32
  · rw [cn, if_neg (by omega), Nat.add_zero]
  · simp [h1]
theorem mn_skip (M : List Int) (k : Nat) (h : M.getD (k / 4) 0 = 0) : mn M (k + 1) = mn M k := by
  apply congrArg List.toArray
  apply List.map_congr_left
  intro s _
  simp only [mnI]
  by_cases h1 : s = 0
  · rw [if_pos h1, if_pos h1]
  · rw [if_neg h1, if_neg h1, cn, if_neg (by omega), Nat.add_zero]
theorem sn_set (M : List Int) (k s : Nat) (h : M.getD (k / 4) 0 = (s : Int)) (h1 : 1 ≤ s) (h4 : s ≤ 4) (hk : k < 32) : (sn M k).setIfInBounds (s * 32 + cn M s k) (.bool true) = sn M (k + 1) := by
  have hle := cn_le M s k
  apply Array.ext_getElem?
  intro i
  rw [Array.getElem?_setIfInBounds, sn_size]
  by_cases hi : i < 160
  · rw [sn_at M _ i hi, sn_at M _ i hi]
    by_cases he : s * 32 + cn M s k = i
    · rw [if_pos he, if_pos (by omega)]
      have e1 : i / 32 = s := by omega
      have e2 : i % 32 = cn M s k := by omega
      simp only [snB, e1, e2, cn, h]
      simp
      omega
    · rw [if_neg he]
      simp only [snB, cn, h]
      by_cases e1 : i / 32 = s
      · rw [e1, if_pos rfl]
        have e2 : i % 32 ≠ cn M s k := by omega
        rw [show decide (i % 32 < cn M (s : Int) k + 1) = decide (i % 32 < cn M (s : Int) k) by rw [decide_eq_decide]; omega]
      · rw [if_neg (by omega), Nat.add_zero]
  · rw [Array.getElem?_eq_none (by rw [sn_size]; omega), Array.getElem?_eq_none (by rw [sn_size]; omega), if_neg (by omega)]
theorem mn_set (M : List Int) (k s : Nat) (h : M.getD (k / 4) 0 = (s : Int)) (h1 : 1 ≤ s) (h4 : s ≤ 4) : (mn M k).setIfInBounds s (.int .i64 (((cn M s k : Nat) : Int) + 1)) = mn M (k + 1) := by
  apply Array.ext_getElem?
  intro i
  rw [Array.getElem?_setIfInBounds, mn_size]
  by_cases hi : i < 5
  · rw [mn_at M _ i hi, mn_at M _ i hi]
    by_cases he : s = i
    · subst he
      rw [if_pos rfl, if_pos hi]
      simp only [mnI, cn, h, if_true, if_neg (show ¬ s = 0 by omega)]
      rw [Int.natCast_add]
      rfl
    · rw [if_neg he]
      by_cases h0 : i = 0
      · simp [mnI, h0]
      · simp only [mnI, cn, h, if_neg h0]
        rw [if_neg (by omega), Nat.add_zero]
  · rw [Array.getElem?_eq_none (by rw [mn_size]; omega), Array.getElem?_eq_none (by rw [mn_size]; omega), if_neg (by omega)]
theorem z160 (M : List Int) (W : World) : (zeroValue 36).run Try.prog W = .ok (.agg (sn M 0)) W := by rw [sn_zero]; kernel_rfl
theorem z5 (M : List Int) (W : World) : (zeroValue 37).run Try.prog W = .ok (.agg (mn M 0)) W := by rw [mn_zero]; kernel_rfl
theorem eqm_self (W : World) (v o0 o1 o2 o3 o4 o5 o6 o7 : Int) : (Op.equalIn 10000 24 (.agg #[.int .i64 v, .int .i64 o0, .int .i64 o1, .int .i64 o2, .int .i64 o3, .int .i64 o4, .int .i64 o5, .int .i64 o6, .int .i64 o7]) (.agg #[.int .i64 v, .int .i64 o0, .int .i64 o1, .int .i64 o2, .int .i64 o3, .int .i64 o4, .int .i64 o5, .int .i64 o6, .int .i64 o7])).run Try.prog W = .ok true W := by
  have hk : OfKinds (List.replicate 9 (some .i64)) [.int .i64 v, .int .i64 o0, .int .i64 o1, .int .i64 o2, .int .i64 o3, .int .i64 o4, .int .i64 o5, .int .i64 o6, .int .i64 o7] := ⟨⟨_, rfl⟩, ⟨_, rfl⟩, ⟨_, rfl⟩, ⟨_, rfl⟩, ⟨_, rfl⟩, ⟨_, rfl⟩, ⟨_, rfl⟩, ⟨_, rfl⟩, ⟨_, rfl⟩, trivial⟩
  have := eq_flat_agg (P := Try.prog) W 3 24 (List.replicate 9 (some .i64)) (by kernel_rfl) (by omega) (fun _ => rfl) _ _ hk hk
  rw [(cellsEq_iff hk hk).2 rfl] at this
  exact this
theorem dfs_any_succ (A B : List Int) (k : Nat) : (dfs A B (k + 1)).any (fun i => B.getD i 0 == 0) = ((dfs A B k).any (fun i => B.getD i 0 == 0) || (decide (A.getD k 0 ≠ B.getD k 0) && (B.getD k 0 == 0))) := by
  rw [dfs_succ, List.any_append]
  by_cases h : A.getD k 0 ≠ B.getD k 0
  · rw [if_pos h, decide_eq_true h]; simp
  · rw [if_neg h, decide_eq_false h]; simp
end Go.Proofs.Ytimafdiljcglfaa
