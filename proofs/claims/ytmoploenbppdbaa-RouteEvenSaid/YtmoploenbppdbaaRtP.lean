/-
  Moves make a map even, plainly: over how many stripes each shard has.
-/
import Derived.Test.YtmoploenbppdbaaRtG
namespace Go.Proofs.Ytmoploenbppdbaa

def fC (c : List Nat) (i : Nat) : Nat := c.getD (i - 1) 0
def moveC (c : List Nat) (a b : Nat) : List Nat := (c.set (a - 1) (c.getD (a - 1) 0 - 1)).set (b - 1) ((c.set (a - 1) (c.getD (a - 1) 0 - 1)).getD (b - 1) 0 + 1)
def stepC (c : List Nat) (n : Nat) : Option (List Nat) := if (srcF (fC c) n).2 then some (moveC c (srcF (fC c) n).1 (poor (fC c) n).1) else none
def termC (n : Nat) : Nat → List Nat → Bool
  | 0, c => (stepC c n).isNone
  | k + 1, c => match stepC c n with | none => true | some c' => termC n k c'
def mostK (f : Nat → Nat) (n : Nat) : Nat → Nat
  | 0 => 0
  | k + 1 => if k + 1 ≤ n then max (mostK f n k) (f (k + 1)) else mostK f n k
def leastK (f : Nat → Nat) (n : Nat) : Nat → Nat
  | 0 => 8
  | k + 1 => if k + 1 ≤ n then min (leastK f n k) (f (k + 1)) else leastK f n k
def evenC (c : List Nat) (n : Nat) : Bool := decide (mostK (fC c) n 4 ≤ leastK (fC c) n 4 + 1) && [1, 2, 3, 4].all fun i => decide (i ≤ n) || fC c i == 0
def allC : List (List Nat) := (List.range 9).flatMap fun a => (List.range (9 - a)).flatMap fun b => (List.range (9 - a - b)).map fun d => [a, b, d, 8 - a - b - d]
theorem all_term : (allC.all fun c => [1, 2, 3, 4].all fun n => termC n 8 c && ((stepC c n).isSome || evenC c n)) = true := by decide +kernel
theorem mem_allC {a b c d : Nat} (h : a + b + c + d = 8) : [a, b, c, d] ∈ allC := by
  simp only [allC, List.mem_flatMap, List.mem_map, List.mem_range]
  exact ⟨a, by omega, b, by omega, c, by omega, by simp; omega⟩
theorem term8 {a b c d n : Nat} (h : a + b + c + d = 8) (h1 : 1 ≤ n) (h4 : n ≤ 4) : termC n 8 [a, b, c, d] = true ∧ (stepC [a, b, c, d] n = none → evenC [a, b, c, d] n = true) := by
  have h5 := List.all_eq_true.1 all_term _ (mem_allC h)
  have hn : n ∈ [1, 2, 3, 4] := by simp; omega
  have h6 := List.all_eq_true.1 h5 n hn
  rw [Bool.and_eq_true, Bool.or_eq_true] at h6
  refine ⟨h6.1, fun hs => ?_⟩
  rw [hs] at h6
  simpa using h6.2

def vec (M : List Int) : List Nat := [cnt M 1, cnt M 2, cnt M 3, cnt M 4]
theorem fC_vec (M : List Int) (i : Nat) (h1 : 1 ≤ i) (h4 : i ≤ 4) : fC (vec M) i = cnt M i := by
  have h5 : i = 1 ∨ i = 2 ∨ i = 3 ∨ i = 4 := by omega
  rcases h5 with rfl | rfl | rfl | rfl <;> rfl
theorem cnt_cons (s : Int) (M : List Int) (i : Nat) : cnt (s :: M) i = cnt M i + if s = (i : Int) then 1 else 0 := by
  unfold cnt
  rw [List.count_cons]
  by_cases h : s = (i : Int) <;> simp [h]
theorem vec_sum : ∀ (M : List Int), okR M = true → cnt M 1 + cnt M 2 + cnt M 3 + cnt M 4 = M.length
  | [], _ => rfl
  | s :: M, h => by
    simp only [okR, List.all_cons, Bool.and_eq_true] at h
    have hs := isS_bd h.1
    have ih := vec_sum M h.2
    rw [cnt_cons, cnt_cons, cnt_cons, cnt_cons, List.length_cons, ← ih]
    have h5 : s = 1 ∨ s = 2 ∨ s = 3 ∨ s = 4 := by omega
    rcases h5 with rfl | rfl | rfl | rfl <;> simp <;> omega
theorem find_same {p q : Nat → Bool} : ∀ {l : List Nat}, (∀ i ∈ l, p i = q i) → l.find? p = l.find? q
  | [], _ => rfl
  | x :: xs, h => by
    rw [List.find?_cons, List.find?_cons, h x (by simp), find_same fun i hi => h i (by simp [hi])]
section
variable {f g : Nat → Nat} {n : Nat} (h1 : 1 ≤ n) (h4 : n ≤ 4) (hfg : ∀ i, 1 ≤ i → i ≤ 4 → f i = g i)
include h1 h4 hfg
theorem row_congr : rowOf f n = rowOf g n := by
  unfold rowOf
  apply List.map_congr_left
  intro i hi
  rw [List.mem_range'_1] at hi
  rw [hfg i (by omega) (by omega)]
theorem full_congr : full f n = full g n := by rw [full, full, row_congr h1 h4 hfg, hfg 1 (by omega) (by omega)]
theorem poor_congr : poor f n = poor g n := by rw [poor, poor, row_congr h1 h4 hfg, hfg 1 (by omega) (by omega)]
theorem over_congr : over f n = over g n := by
  unfold over
  apply find_same
  intro i hi
  rw [List.mem_range'_1] at hi
  rw [hfg i (by omega) (by omega)]
theorem src_congr : srcF f n = srcF g n := by rw [srcF, srcF, over_congr h1 h4 hfg, full_congr h1 h4 hfg, poor_congr h1 h4 hfg]
end
theorem most_congr {f g : Nat → Nat} (n : Nat) (hfg : ∀ i, 1 ≤ i → i ≤ 4 → f i = g i) : ∀ k, k ≤ 4 → mostK f n k = mostK g n k ∧ leastK f n k = leastK g n k
  | 0, _ => ⟨rfl, rfl⟩
  | k + 1, h => by
    obtain ⟨h1, h2⟩ := most_congr n hfg k (by omega)
    rw [mostK, mostK, leastK, leastK, h1, h2, hfg (k + 1) (by omega) (by omega)]
    exact ⟨rfl, rfl⟩
/-- Whence a stripe goes: a shard that has one, another than that to which it goes. -/
theorem src_ok {f : Nat → Nat} {n : Nat} (h1 : 1 ≤ n) (h4 : n ≤ 4) (h : (srcF f n).2 = true) : 1 ≤ (srcF f n).1 ∧ (srcF f n).1 ≤ 4 ∧ 0 < f (srcF f n).1 ∧ (srcF f n).1 ≠ (poor f n).1 := by
  have bp := best_is ltB f n h1
  have bf := best_is gtB f n h1
  have hp : (poor f n).1 ≤ n ∧ (poor f n).2 = f (poor f n).1 := ⟨bp.2.1, bp.2.2⟩
  have hf : 1 ≤ (full f n).1 ∧ (full f n).1 ≤ n ∧ (full f n).2 = f (full f n).1 := bf
  unfold srcF at h ⊢
  cases ho : over f n with
  | some i =>
    have hi := List.find?_some ho
    have hm := List.mem_of_find?_eq_some ho
    rw [List.mem_range'_1] at hm
    simp at hi
    exact ⟨by show 1 ≤ i; omega, by show i ≤ 4; omega, hi, by show i ≠ _; omega⟩
  | none =>
    rw [ho] at h
    simp at h
    refine ⟨hf.1, by show (full f n).1 ≤ 4; omega, by show 0 < f (full f n).1; omega, ?_⟩
    show (full f n).1 ≠ (poor f n).1
    intro he
    rw [he, ← hp.2] at hf
    omega
theorem lastIx_is (M : List Int) (x : Int) : ∀ k, (∃ j, j < k ∧ M.getD j 0 = x) → lastIx M x k < k ∧ M.getD (lastIx M x k) 0 = x
  | 0, ⟨j, hj, _⟩ => by omega
  | k + 1, ⟨j, hj, hx⟩ => by
    rw [lastIx]
    by_cases h : M.getD k 0 = x
    · rw [if_pos h]; exact ⟨by omega, h⟩
    · rw [if_neg h]
      have := lastIx_is M x k ⟨j, by rcases Nat.lt_or_ge j k with h' | h'; exact h'; have : j = k := by omega
                                     subst this; exact absurd hx h, hx⟩
      exact ⟨by omega, this.2⟩
theorem cnt_mem {M : List Int} {i : Nat} (h : 0 < cnt M i) : ∃ j, j < M.length ∧ M.getD j 0 = (i : Int) := by
  have hm : (i : Int) ∈ M := List.count_pos_iff.1 h
  obtain ⟨j, hj, he⟩ := List.getElem_of_mem hm
  exact ⟨j, hj, by simp [List.getElem?_eq_getElem hj, he]⟩
theorem cnt_set {M : List Int} {j : Nat} (hj : j < M.length) (t : Int) (i : Nat) : cnt (M.set j t) i = cnt M i - (if M.getD j 0 = (i : Int) then 1 else 0) + (if t = (i : Int) then 1 else 0) := by
  unfold cnt
  rw [List.count_set hj]
  simp [List.getElem?_eq_getElem hj]
/-- A move, seen in the counts. -/
theorem next_step {M : List Int} {n j t : Nat} (h8 : M.length = 8) (hR : okR M = true) (h1 : 1 ≤ n) (h4 : n ≤ 4) (h : nextR M n = some (j, t)) :
    j < 8 ∧ 1 ≤ t ∧ t ≤ n ∧ M.getD j 0 ≠ (t : Int) ∧ stepC (vec M) n = some (vec (M.set j (t : Int))) := by
  have hS : isS (n : Int) = true := by simp [isS]; omega
  have hfg : ∀ i, 1 ≤ i → i ≤ 4 → cnt M i = fC (vec M) i := fun i a b => (fC_vec M i a b).symm
  have hn : nextR M n = if (srcF (cnt M) n).2 then some (lastIx M (srcF (cnt M) n).1 8, (poor (cnt M) n).1) else none := by simp [nextR, hR, hS]
  rw [hn] at h
  cases hs : (srcF (cnt M) n).2 with
  | false => rw [hs] at h; simp at h
  | true =>
    rw [hs] at h
    simp only [if_true, Option.some.injEq, Prod.mk.injEq] at h
    obtain ⟨hj, ht⟩ := h
    obtain ⟨a1, a4, apos, ane⟩ := src_ok h1 h4 hs
    have hl := lastIx_is M ((srcF (cnt M) n).1 : Nat) 8 (by obtain ⟨q, hq, hq2⟩ := cnt_mem apos; exact ⟨q, by omega, hq2⟩)
    have bp : 1 ≤ (poor (cnt M) n).1 ∧ (poor (cnt M) n).1 ≤ n ∧ _ := best_is ltB (cnt M) n h1
    rw [hj] at hl
    rw [ht] at bp ane
    refine ⟨hl.1, bp.1, bp.2.1, by rw [hl.2]; omega, ?_⟩
    unfold stepC
    rw [← src_congr h1 h4 hfg, ← poor_congr h1 h4 hfg, hs, ht]
    simp only [if_true, Option.some.injEq]
    have hc := fun i => cnt_set (M := M) (j := j) (by omega) (t : Int) i
    rw [hl.2] at hc
    generalize (srcF (cnt M) n).1 = a at *
    have ha : a = 1 ∨ a = 2 ∨ a = 3 ∨ a = 4 := by omega
    have hb : t = 1 ∨ t = 2 ∨ t = 3 ∨ t = 4 := by omega
    unfold vec
    rw [hc, hc, hc, hc]
    rcases ha with rfl | rfl | rfl | rfl <;> rcases hb with rfl | rfl | rfl | rfl <;> first | exact absurd rfl ane | simp [moveC]
theorem next_none {M : List Int} {n : Nat} (hR : okR M = true) (h1 : 1 ≤ n) (h4 : n ≤ 4) (h : nextR M n = none) : stepC (vec M) n = none := by
  have hS : isS (n : Int) = true := by simp [isS]; omega
  have hfg : ∀ i, 1 ≤ i → i ≤ 4 → cnt M i = fC (vec M) i := fun i a b => (fC_vec M i a b).symm
  have hn : nextR M n = if (srcF (cnt M) n).2 then some (lastIx M (srcF (cnt M) n).1 8, (poor (cnt M) n).1) else none := by simp [nextR, hR, hS]
  rw [hn] at h
  unfold stepC
  rw [← src_congr h1 h4 hfg]
  cases hs : (srcF (cnt M) n).2 with
  | false => rfl
  | true => rw [hs] at h; simp at h
theorem even_of {M : List Int} {n : Nat} (h8 : M.length = 8) (hR : okR M = true) (h1 : 1 ≤ n) (h4 : n ≤ 4) (h : nextR M n = none) :
    mostK (cnt M) n 4 ≤ leastK (cnt M) n 4 + 1 ∧ ∀ i, 1 ≤ i → i ≤ 4 → n < i → cnt M i = 0 := by
  have hv := vec_sum M hR
  have := (term8 (n := n) (by rw [hv, h8] : cnt M 1 + cnt M 2 + cnt M 3 + cnt M 4 = 8) h1 h4).2 (next_none hR h1 h4 h)
  have hfg : ∀ i, 1 ≤ i → i ≤ 4 → cnt M i = fC (vec M) i := fun i a b => (fC_vec M i a b).symm
  have he : evenC (vec M) n = true := this
  simp only [evenC, Bool.and_eq_true, decide_eq_true_eq, List.all_eq_true] at he
  have hm := most_congr n hfg 4 (by omega)
  refine ⟨by rw [hm.1, hm.2]; exact he.1, fun i a b hi => ?_⟩
  have := he.2 i (by simp; omega)
  rw [hfg i a b]
  simp only [Bool.or_eq_true, decide_eq_true_eq, beq_iff_eq] at this
  rcases this with h' | h'
  · omega
  · exact h'
theorem term_start {M : List Int} {n : Nat} (h8 : M.length = 8) (hR : okR M = true) (h1 : 1 ≤ n) (h4 : n ≤ 4) : termC n 8 (vec M) = true :=
  (term8 (by rw [vec_sum M hR, h8] : cnt M 1 + cnt M 2 + cnt M 3 + cnt M 4 = 8) h1 h4).1
theorem term_step {n k : Nat} {c c' : List Nat} (h : termC n k c = true) (hs : stepC c n = some c') : ∃ k', k = k' + 1 ∧ termC n k' c' = true := by
  cases k with
  | zero => simp [termC, hs] at h
  | succ k => exact ⟨k, rfl, by simpa [termC, hs] using h⟩
end Go.Proofs.Ytmoploenbppdbaa
