/-
  Overlays as lists of writes: what Put, Get make of them, and that puts of other blocks may be swapped.
-/
import Derived.Test.YtpjcekhpkipddaaBase
namespace Go.Proofs.Ytpjcekhpkipddaa

abbrev Wr := Int × List Nat
def wrc (x : Wr) : List Value := .int .i64 x.1 :: bys x.2
def wrs (l : List Wr) : List Value := l.flatMap wrc
def W8 (l : List Wr) : Prop := ∀ x ∈ l, x.2.length = 8
def goesUp : Int → List Wr → Bool
  | _, [] => true
  | last, x :: xs => decide (last < x.1) && (decide (x.1 < 32) && goesUp x.1 xs)
def writtenB (l : List Wr) : Bool := decide (l.length ≤ 8) && goesUp (-1) l
def plc : List Wr → Int → Nat
  | [], _ => 0
  | x :: xs, k => if x.1 < k then plc xs k + 1 else 0
def phas : List Wr → Int → Bool
  | [], _ => false
  | x :: xs, k => if x.1 < k then phas xs k else x.1 == k
def ins (w : Wr) : List Wr → List Wr
  | [] => [w]
  | x :: xs => if x.1 < w.1 then x :: ins w xs else if x.1 = w.1 then w :: xs else w :: x :: xs
def isB (k : Int) : Bool := decide (0 ≤ k) && decide (k < 32)
def putE (l : List Wr) (w : Wr) : Int := if writtenB l && isB w.1 then (if !phas l w.1 && decide (8 ≤ l.length) then 50 else 0) else 2

theorem wrs_length (l : List Wr) (h : W8 l) : (wrs l).length = l.length * 9 := by
  induction l with
  | nil => rfl
  | cons x xs ih =>
    have hx := h x (by simp)
    rw [wrs, List.flatMap_cons, List.length_append, show (List.flatMap wrc xs).length = _ from ih fun y hy => h y (by simp [hy])]
    simp [wrc, bys, hx]
    omega
theorem wrs_cons (x : Wr) (xs : List Wr) : wrs (x :: xs) = wrc x ++ wrs xs := by rw [wrs, List.flatMap_cons]; rfl
theorem wrs_append (a b : List Wr) : wrs (a ++ b) = wrs a ++ wrs b := by simp [wrs]
theorem wrc_length {x : Wr} (h : x.2.length = 8) : (wrc x).length = 9 := by simp [wrc, bys, h]
theorem wrs_drop (l : List Wr) (h : W8 l) (k : Nat) (hk : k ≤ l.length) : wrs (l.drop k) = (wrs l).drop (k * 9) := by
  have h2 : wrs l = wrs (l.take k) ++ wrs (l.drop k) := by rw [← wrs_append, List.take_append_drop]
  rw [h2, List.drop_left']
  rw [wrs_length _ fun x hx => h x (List.mem_of_mem_take hx), List.length_take, Nat.min_eq_left hk]
theorem wrs_take (l : List Wr) (h : W8 l) (k : Nat) (hk : k ≤ l.length) : wrs (l.take k) = (wrs l).take (k * 9) := by
  have h2 : wrs l = wrs (l.take k) ++ wrs (l.drop k) := by rw [← wrs_append, List.take_append_drop]
  rw [h2, List.take_left']
  rw [wrs_length _ fun x hx => h x (List.mem_of_mem_take hx), List.length_take, Nat.min_eq_left hk]
theorem wrs_get (l : List Wr) (h : W8 l) (k j : Nat) (hk : k < l.length) (hj : j < 9) : (wrs l)[k * 9 + j]? = (wrc l[k])[j]? := by
  rw [← List.getElem?_drop, ← wrs_drop l h k (by omega), List.drop_eq_getElem_cons hk, wrs_cons, List.getElem?_append_left]
  rw [wrc_length (h _ (List.getElem_mem hk))]; exact hj
theorem eight_of {l : List Nat} (h : l.length = 8) : ∃ a b c d e f g i, l = [a, b, c, d, e, f, g, i] := by
  match l, h with
  | [a, b, c, d, e, f, g, i], _ => exact ⟨a, b, c, d, e, f, g, i, rfl⟩
/-- The nine cells of write k. -/
theorem cells9 {w : World} {a : Option Addr} {l : List Wr} (h8 : W8 l) (h : Rd w a (wrs l)) {k : Nat} (hk : k < l.length) :
    ∃ (g off : Nat) (b : Int) (x0 x1 x2 x3 x4 x5 x6 x7 : Nat), a = some ⟨g, off, none⟩ ∧ g < w.heap.size ∧ l[k] = (b, [x0, x1, x2, x3, x4, x5, x6, x7]) ∧
      w.cell? ⟨g, off + k * 9, none⟩ = some (.int .i64 b) ∧ w.cell? ⟨g, off + k * 9 + 1, none⟩ = some (.int .u8 x0) ∧ w.cell? ⟨g, off + k * 9 + 2, none⟩ = some (.int .u8 x1) ∧
      w.cell? ⟨g, off + k * 9 + 3, none⟩ = some (.int .u8 x2) ∧ w.cell? ⟨g, off + k * 9 + 4, none⟩ = some (.int .u8 x3) ∧ w.cell? ⟨g, off + k * 9 + 5, none⟩ = some (.int .u8 x4) ∧
      w.cell? ⟨g, off + k * 9 + 6, none⟩ = some (.int .u8 x5) ∧ w.cell? ⟨g, off + k * 9 + 7, none⟩ = some (.int .u8 x6) ∧ w.cell? ⟨g, off + k * 9 + 8, none⟩ = some (.int .u8 x7) := by
  have hl := wrs_length l h8
  obtain ⟨g, off, rfl, hg, hc⟩ := h.at (by omega)
  obtain ⟨x0, x1, x2, x3, x4, x5, x6, x7, hx⟩ := eight_of (h8 _ (List.getElem_mem hk))
  have he : l[k] = ((l[k]).1, [x0, x1, x2, x3, x4, x5, x6, x7]) := by rw [← hx]
  have cell : ∀ j v, j < 9 → (wrc l[k])[j]? = some v → w.cell? ⟨g, off + k * 9 + j, none⟩ = some v := by
    intro j v hj hv
    have := hc (k * 9 + j) (by omega)
    rw [show off + k * 9 + j = off + (k * 9 + j) by omega, this, ← hv, ← wrs_get l h8 k j hk hj]
    exact (List.getElem?_eq_getElem _).symm
  rw [he] at cell
  exact ⟨g, off, (l[k]).1, x0, x1, x2, x3, x4, x5, x6, x7, rfl, hg, he, cell 0 _ (by omega) rfl, cell 1 _ (by omega) rfl, cell 2 _ (by omega) rfl, cell 3 _ (by omega) rfl, cell 4 _ (by omega) rfl, cell 5 _ (by omega) rfl, cell 6 _ (by omega) rfl, cell 7 _ (by omega) rfl, cell 8 _ (by omega) rfl⟩
theorem plc_le (l : List Wr) (k : Int) : plc l k ≤ l.length := by
  induction l with
  | nil => simp [plc]
  | cons x xs ih => simp only [plc]; split <;> simp; omega
theorem ins_eq (l : List Wr) (w : Wr) : ins w l = l.take (plc l w.1) ++ w :: l.drop (plc l w.1 + if phas l w.1 then 1 else 0) := by
  induction l with
  | nil => simp [ins, plc]
  | cons x xs ih =>
    simp only [ins, plc, phas]
    by_cases h : x.1 < w.1
    · simp only [h, if_true]
      rw [ih]
      rw [show plc xs w.1 + 1 + (if phas xs w.1 = true then 1 else 0) = plc xs w.1 + (if phas xs w.1 = true then 1 else 0) + 1 by omega]
      simp
    · by_cases h2 : x.1 = w.1
      · simp [h2]
      · simp [h, h2]
theorem plc_has (l : List Wr) (k : Int) (h : phas l k = true) : plc l k < l.length := by
  induction l with
  | nil => simp [phas] at h
  | cons x xs ih =>
    simp only [phas, plc] at *
    split at h
    · have := ih h; simp_all
    · rename_i h'; simp [h']
theorem ins_lt {x w : Wr} {xs : List Wr} (h : x.1 < w.1) : ins w (x :: xs) = x :: ins w xs := by rw [ins, if_pos h]
theorem ins_eqk {x w : Wr} {xs : List Wr} (h : x.1 = w.1) : ins w (x :: xs) = w :: xs := by rw [ins, if_neg (by omega), if_pos h]
theorem ins_gt {x w : Wr} {xs : List Wr} (h : w.1 < x.1) : ins w (x :: xs) = w :: x :: xs := by rw [ins, if_neg (by omega), if_neg (by omega)]
theorem phas_lt {x : Wr} {xs : List Wr} {k : Int} (h : x.1 < k) : phas (x :: xs) k = phas xs k := by rw [phas, if_pos h]
theorem phas_eqk {x : Wr} {xs : List Wr} {k : Int} (h : x.1 = k) : phas (x :: xs) k = true := by rw [phas, if_neg (by omega)]; simpa using h
theorem phas_gt {x : Wr} {xs : List Wr} {k : Int} (h : k < x.1) : phas (x :: xs) k = false := by rw [phas, if_neg (by omega)]; simp; omega
theorem goesUp_cons {last : Int} {x : Wr} {xs : List Wr} : goesUp last (x :: xs) = true ↔ last < x.1 ∧ x.1 < 32 ∧ goesUp x.1 xs = true := by simp [goesUp]
theorem three (a b : Int) : a < b ∨ a = b ∨ b < a := by omega
theorem ins_len (l : List Wr) (w : Wr) : (ins w l).length = l.length + (if phas l w.1 then 0 else 1) := by
  induction l with
  | nil => simp [ins, phas]
  | cons x xs ih =>
    rcases three x.1 w.1 with h | h | h
    · rw [ins_lt h, phas_lt h, List.length_cons, ih, List.length_cons]; omega
    · rw [ins_eqk h, phas_eqk h]; simp
    · rw [ins_gt h, phas_gt h]; simp
theorem ins_up (l : List Wr) (w : Wr) (hw : w.1 < 32) : ∀ last, last < w.1 → goesUp last l = true → goesUp last (ins w l) = true := by
  induction l with
  | nil => intro last h _; exact goesUp_cons.2 ⟨h, hw, rfl⟩
  | cons x xs ih =>
    intro last h hg
    obtain ⟨h1, h2, h3⟩ := goesUp_cons.1 hg
    rcases three x.1 w.1 with hx | hx | hx
    · rw [ins_lt hx]; exact goesUp_cons.2 ⟨h1, h2, ih x.1 hx h3⟩
    · rw [ins_eqk hx]; exact goesUp_cons.2 ⟨h, hw, hx ▸ h3⟩
    · rw [ins_gt hx]; exact goesUp_cons.2 ⟨h, hw, goesUp_cons.2 ⟨hx, h2, h3⟩⟩
theorem phas_ins (l : List Wr) (w : Wr) (k : Int) (hk : k ≠ w.1) : phas (ins w l) k = phas l k := by
  have hz : ∀ xs : List Wr, k < w.1 → phas (w :: xs) k = false := fun xs h => phas_gt h
  induction l with
  | nil =>
    rcases three w.1 k with h | h | h
    · rw [ins, phas_lt h]
    · exact absurd h.symm hk
    · rw [ins, phas_gt h]; rfl
  | cons x xs ih =>
    rcases three x.1 w.1 with hx | hx | hx
    · rw [ins_lt hx]
      rcases three x.1 k with h | h | h
      · rw [phas_lt h, phas_lt h, ih]
      · rw [phas_eqk h, phas_eqk h]
      · rw [phas_gt h, phas_gt h]
    · rw [ins_eqk hx]
      rcases three w.1 k with h | h | h
      · rw [phas_lt h, phas_lt (by omega)]
      · exact absurd h.symm hk
      · rw [phas_gt h, phas_gt (by omega)]
    · rw [ins_gt hx]
      rcases three w.1 k with h | h | h
      · rw [phas_lt h]
      · exact absurd h.symm hk
      · rw [phas_gt h, phas_gt (by omega)]
theorem phas_same (l : List Wr) (w : Wr) : phas (ins w l) w.1 = true := by
  induction l with
  | nil => exact phas_eqk rfl
  | cons x xs ih =>
    rcases three x.1 w.1 with hx | hx | hx
    · rw [ins_lt hx, phas_lt hx, ih]
    · rw [ins_eqk hx, phas_eqk rfl]
    · rw [ins_gt hx, phas_eqk rfl]
theorem ins_same (l : List Wr) (a b : Wr) (h : a.1 = b.1) : ins b (ins a l) = ins b l := by
  induction l with
  | nil => rw [ins, ins_eqk h]; rfl
  | cons x xs ih =>
    rcases three x.1 a.1 with hx | hx | hx
    · rw [ins_lt hx, ins_lt (by omega), ih, ins_lt (by omega)]
    · rw [ins_eqk hx, ins_eqk h, ins_eqk (by omega)]
    · rw [ins_gt hx, ins_eqk h, ins_gt (by omega)]
theorem ins_swap (l : List Wr) (a b : Wr) (h : a.1 ≠ b.1) : ins b (ins a l) = ins a (ins b l) := by
  induction l with
  | nil =>
    rcases three a.1 b.1 with c | c | c
    · show ins b [a] = ins a [b]
      rw [ins_lt c, ins_gt c]; rfl
    · exact absurd c h
    · show ins b [a] = ins a [b]
      rw [ins_gt c, ins_lt c]; rfl
  | cons x xs ih =>
    rcases three x.1 a.1 with ha | ha | ha <;> rcases three x.1 b.1 with hb | hb | hb
    · rw [ins_lt ha, ins_lt hb, ins_lt hb, ins_lt ha, ih]
    · rw [ins_lt ha, ins_eqk hb, ins_eqk hb, ins_lt (by omega)]
    · rw [ins_lt ha, ins_gt hb, ins_gt hb, ins_lt (by omega), ins_lt ha]
    · rw [ins_eqk ha, ins_lt hb, ins_lt (by omega), ins_eqk ha]
    · omega
    · rw [ins_eqk ha, ins_gt hb, ins_gt (by omega), ins_lt (by omega), ins_eqk ha]
    · rw [ins_gt ha, ins_lt hb, ins_lt (by omega), ins_lt hb, ins_gt ha]
    · rw [ins_gt ha, ins_eqk hb, ins_lt (by omega), ins_eqk hb, ins_gt (by omega)]
    · rw [ins_gt ha, ins_gt hb]
      rcases three a.1 b.1 with c | c | c
      · rw [ins_lt c, ins_gt hb, ins_gt c]
      · exact absurd c h
      · rw [ins_gt c, ins_lt c, ins_gt ha]
theorem any_phas (l : List Wr) (k : Int) : ∀ last, goesUp last l = true → l.any (fun x => x.1 == k) = phas l k := by
  induction l with
  | nil => intro _ _; rfl
  | cons x xs ih =>
    intro last hg
    simp only [goesUp, Bool.and_eq_true, decide_eq_true_eq] at hg
    have i := ih x.1 hg.2.2
    simp only [List.any_cons, phas, i]
    by_cases h : x.1 < k
    · have : ¬ x.1 = k := by omega
      simp [h, this]
    · by_cases h2 : x.1 = k
      · simp [h2]
      · have : phas xs k = false := by
          clear ih i
          have hx := hg.2.2
          cases xs with
          | nil => rfl
          | cons y ys =>
            simp only [goesUp, Bool.and_eq_true, decide_eq_true_eq] at hx
            have h3 : ¬ y.1 < k := by omega
            have h4 : ¬ y.1 = k := by omega
            simp [phas, h3, h4]
        simp [h, this]
theorem W8_ins {l : List Wr} {w : Wr} (h : W8 l) (hw : w.2.length = 8) : W8 (ins w l) := by
  intro x hx
  rw [ins_eq] at hx
  rcases List.mem_append.1 hx with h1 | h1
  · exact h x (List.mem_of_mem_take h1)
  · rcases List.mem_cons.1 h1 with rfl | h1
    · exact hw
    · exact h x (List.mem_of_mem_drop h1)
end Go.Proofs.Ytpjcekhpkipddaa
