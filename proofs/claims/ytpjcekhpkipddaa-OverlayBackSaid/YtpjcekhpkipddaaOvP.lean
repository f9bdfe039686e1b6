/-
  Overlays, plainly: On of Over is On of On; what is put is got.
-/
import Derived.Test.YtpjcekhpkipddaaOvG
namespace Go.Proofs.Ytpjcekhpkipddaa

theorem spl_swap (H : List Nat) (o p : Nat) (u v : List Nat) (ho : o + u.length ≤ H.length) (hp : p + v.length ≤ H.length) (hd : o + u.length ≤ p ∨ p + v.length ≤ o) : spl (spl H o u) p v = spl (spl H p v) o u := by
  apply List.ext_getElem?
  intro i
  rw [spl_get _ _ _ (by rw [spl_length _ _ _ ho]; exact hp), spl_get _ _ _ ho, spl_get _ _ _ (by rw [spl_length _ _ _ hp]; exact ho), spl_get _ _ _ hp]
  by_cases h1 : i < o <;> by_cases h2 : i < p <;> by_cases h3 : i < o + u.length <;> by_cases h4 : i < p + v.length <;> simp only [h1, h2, h3, h4, if_true, if_false] <;> omega
theorem spl_same (H : List Nat) (o : Nat) (u v : List Nat) (ho : o + u.length ≤ H.length) (he : u.length = v.length) : spl (spl H o u) o v = spl H o v := by
  apply List.ext_getElem?
  intro i
  rw [spl_get _ _ _ (by rw [spl_length _ _ _ ho]; omega), spl_get _ _ _ ho, spl_get _ _ _ (by omega)]
  by_cases h1 : i < o <;> by_cases h3 : i < o + v.length <;> simp only [h1, h3, he, if_true, if_false]

def splW (H : List Nat) (x : Wr) : List Nat := if isB x.1 then spl H (x.1.toNat * 8) x.2 else H
theorem splW_length (H : List Nat) (x : Wr) (hH : H.length = 256) (hx : x.2.length = 8) : (splW H x).length = 256 := by
  unfold splW
  split
  · rename_i h
    simp [isB] at h
    rw [spl_length _ _ _ (by omega), hH]
  · exact hH
theorem onL_cons (H : List Nat) (x : Wr) (xs : List Wr) : onL H (x :: xs) = onL (splW H x) xs := rfl
theorem splW_swap (H : List Nat) (x y : Wr) (hH : H.length = 256) (hx : x.2.length = 8) (hy : y.2.length = 8) (h : x.1 ≠ y.1) : splW (splW H x) y = splW (splW H y) x := by
  unfold splW
  cases h1 : isB x.1 <;> cases h2 : isB y.1 <;> simp
  simp [isB] at h1 h2
  rw [spl_swap _ _ _ _ _ (by omega) (by omega) (by omega)]
theorem splW_same (H : List Nat) (x y : Wr) (hH : H.length = 256) (hx : x.2.length = 8) (hy : y.2.length = 8) (h : x.1 = y.1) : splW (splW H x) y = splW H y := by
  unfold splW
  rw [h]
  cases h2 : isB y.1 <;> simp
  simp [isB] at h2
  rw [spl_same _ _ _ _ (by omega) (by omega)]
theorem onL_length : ∀ (l : List Wr) (H : List Nat), H.length = 256 → W8 l → (onL H l).length = 256
  | [], _, h, _ => h
  | x :: xs, H, h, h8 => by rw [onL_cons]; exact onL_length xs _ (splW_length H x h (h8 x (by simp))) fun y hy => h8 y (by simp [hy])
/-- A write of a block that does not come any more may be done first. -/
theorem onL_first : ∀ (l : List Wr) (H : List Nat) (x : Wr), H.length = 256 → W8 l → x.2.length = 8 → (∀ y ∈ l, y.1 ≠ x.1) → onL (splW H x) l = splW (onL H l) x
  | [], _, _, _, _, _, _ => rfl
  | y :: ys, H, x, hH, h8, hx, hne => by
    have hy := h8 y (by simp)
    rw [onL_cons, onL_cons, splW_swap H x y hH hx hy (Ne.symm (hne y (by simp))), onL_first ys _ x (splW_length _ _ hH hy) (fun z hz => h8 z (by simp [hz])) hx (fun z hz => hne z (by simp [hz]))]
theorem up_gt : ∀ (l : List Wr) (last : Int), goesUp last l = true → ∀ y ∈ l, last < y.1
  | [], _, _, _, h => by cases h
  | x :: xs, last, hg, y, hy => by
    obtain ⟨h1, h2, h3⟩ := goesUp_cons.1 hg
    rcases List.mem_cons.1 hy with rfl | hy
    · exact h1
    · have := up_gt xs x.1 h3 y hy; omega
theorem onL_ins : ∀ (l : List Wr) (H : List Nat) (x : Wr) (last : Int), H.length = 256 → W8 l → x.2.length = 8 → goesUp last l = true → onL H (ins x l) = splW (onL H l) x
  | [], _, _, _, _, _, _, _ => rfl
  | y :: ys, H, x, last, hH, h8, hx, hg => by
    obtain ⟨h1, h2, h3⟩ := goesUp_cons.1 hg
    have hy := h8 y (by simp)
    have h8' : W8 ys := fun z hz => h8 z (by simp [hz])
    have hgt := up_gt ys y.1 h3
    rcases three y.1 x.1 with h | h | h
    · rw [ins_lt h, onL_cons, onL_cons, onL_ins ys _ x y.1 (splW_length _ _ hH hy) h8' hx h3]
    · rw [ins_eqk h, onL_cons, onL_cons, onL_first ys H x hH h8' hx (fun z hz => by have := hgt z hz; omega), onL_first ys H y hH h8' hy (fun z hz => by have := hgt z hz; omega), splW_same _ _ _ (onL_length ys H hH h8') hy hx h]
    · rw [ins_gt h, onL_cons, onL_first (y :: ys) H x hH h8 hx]
      intro z hz
      rcases List.mem_cons.1 hz with rfl | hz
      · omega
      · have := hgt z hz; omega
theorem over_all : ∀ (b a : List Wr), writtenB a = true → W8 a → W8 b → overE a b = 0 → writtenB (overL a b) = true ∧ W8 (overL a b) ∧ ∀ H : List Nat, H.length = 256 → onL H (overL a b) = onL (onL H a) b
  | [], a, hw, h8, _, _ => ⟨hw, h8, fun _ _ => rfl⟩
  | x :: xs, a, hw, h8, h8b, hE => by
    unfold overE at hE
    by_cases hp : putE a x = 0
    · rw [if_pos hp] at hE
      have hx := h8b x (by simp)
      obtain ⟨h1, h2, h3⟩ := over_all xs (ins x a) (written_ins hp) (W8_ins h8 hx) (fun y hy => h8b y (by simp [hy])) hE
      refine ⟨h1, h2, fun H hH => ?_⟩
      rw [overL, h3 H hH, onL_ins a H x (-1) hH h8 hx (written_le hw).2, onL_cons]
    · rw [if_neg hp] at hE
      exact absurd hE hp
theorem over_bad : ∀ (b a : List Wr), writtenB a = true → (∀ x ∈ b, isB x.1 = true) → overE a b ≠ 0 → overE a b = 50
  | [], _, _, _, h => absurd rfl h
  | x :: xs, a, hw, hb, hE => by
    unfold overE at hE ⊢
    by_cases hp : putE a x = 0
    · rw [if_pos hp] at hE ⊢
      exact over_bad xs (ins x a) (written_ins hp) (fun y hy => hb y (by simp [hy])) hE
    · rw [if_neg hp]
      rcases putE_nz _ _ hp with ⟨h1, _⟩ | ⟨_, _, _, _, h⟩
      · rw [hw, hb x (by simp)] at h1; cases h1
      · exact h
theorem written_isB {l : List Wr} (h : writtenB l = true) : ∀ x ∈ l, isB x.1 = true := by
  have key : ∀ (l : List Wr) (last : Int), -1 ≤ last → goesUp last l = true → ∀ x ∈ l, isB x.1 = true := by
    intro l
    induction l with
    | nil => intro _ _ _ x hx; cases hx
    | cons y ys ih =>
      intro last h0 hg x hx
      obtain ⟨h1, h2, h3⟩ := goesUp_cons.1 hg
      rcases List.mem_cons.1 hx with rfl | hx
      · simp [isB]; omega
      · exact ih y.1 (by omega) h3 x hx
  exact key l (-1) (by omega) (written_le h).2

theorem fnd_cons (x : Wr) (xs : List Wr) (k : Int) : fnd (x :: xs) k = if x.1 = k then some x else fnd xs k := by
  rw [fnd, List.find?_cons]
  by_cases h : x.1 = k
  · simp [h]
  · have : (x.1 == k) = false := by simpa using h
    simp only [this, if_neg h]
    rfl
theorem fnd_put : ∀ (l : List Wr) (x : Wr), fnd (ins x l) x.1 = some x
  | [], x => by rw [ins, fnd_cons, if_pos rfl]
  | y :: ys, x => by
    rcases three y.1 x.1 with h | h | h
    · rw [ins_lt h, fnd_cons, if_neg (by omega), fnd_put ys x]
    · rw [ins_eqk h, fnd_cons, if_pos rfl]
    · rw [ins_gt h, fnd_cons, if_pos rfl]
theorem fnd_other : ∀ (l : List Wr) (x : Wr) (k : Int), k ≠ x.1 → fnd (ins x l) k = fnd l k
  | [], x, k, h => by rw [ins, fnd_cons, if_neg (Ne.symm h)]
  | y :: ys, x, k, h => by
    rcases three y.1 x.1 with c | c | c
    · rw [ins_lt c, fnd_cons, fnd_cons, fnd_other ys x k h]
    · rw [ins_eqk c, fnd_cons, fnd_cons, if_neg (Ne.symm h), if_neg (by omega)]
    · rw [ins_gt c, fnd_cons, if_neg (Ne.symm h)]
theorem fnd_mem : ∀ (l : List Wr) (last : Int), goesUp last l = true → ∀ x ∈ l, fnd l x.1 = some x
  | [], _, _, _, h => by cases h
  | y :: ys, last, hg, x, hx => by
    obtain ⟨h1, h2, h3⟩ := goesUp_cons.1 hg
    rcases List.mem_cons.1 hx with rfl | hx
    · rw [fnd_cons, if_pos rfl]
    · have := up_gt ys y.1 h3 x hx
      rw [fnd_cons, if_neg (by omega), fnd_mem ys y.1 h3 x hx]
end Go.Proofs.Ytpjcekhpkipddaa
