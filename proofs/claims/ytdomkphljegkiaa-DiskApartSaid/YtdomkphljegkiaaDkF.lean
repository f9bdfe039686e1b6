/-
  disk.Writes, Durable.
-/
import Derived.Test.YtdomkphljegkiaaDkE
namespace Go.Proofs.Ytdomkphljegkiaa
open Go.RowKit Go.Maps

def psum (f : Nat → Nat) (p : Nat → Bool) (n : Nat) : Nat := ((List.range n).map fun y => if p y then f y else 0).sum
theorem psum_succ (f : Nat → Nat) (p : Nat → Bool) (n : Nat) : psum f p (n + 1) = psum f p n + if p n then f n else 0 := by simp [psum, List.range_succ]
theorem psum_congr (f : Nat → Nat) {p q : Nat → Bool} : ∀ (n : Nat), (∀ y, y < n → (if p y then f y else 0) = (if q y then f y else 0)) → psum f p n = psum f q n
  | 0, _ => rfl
  | n + 1, h => by rw [psum_succ, psum_succ, psum_congr f n (fun y hy => h y (by omega)), h n (by omega)]
theorem psum_step (f : Nat → Nat) {p q : Nat → Bool} (x : Nat) (hp : p x = false) : ∀ (n : Nat), x < n → (∀ y, y < n → q y = (p y || y == x)) → psum f q n = psum f p n + f x
  | 0, h, _ => by omega
  | n + 1, h, hq => by
    rw [psum_succ, psum_succ]
    by_cases e : x = n
    · subst e
      have : psum f q x = psum f p x := psum_congr f x fun y hy => by
        rw [hq y (by omega)]
        have : (y == x) = false := by simp; omega
        rw [this, Bool.or_false]
      rw [this, hq x (by omega), hp]
      simp
    · have h1 : (n == x) = false := by simp; omega
      rw [psum_step f x hp n (by omega) (fun y hy => hq y (by omega)), hq n (by omega), h1, Bool.or_false]
      omega
theorem psum_le (f : Nat → Nat) (p : Nat → Bool) : ∀ n, psum f p n ≤ psum f (fun _ => true) n
  | 0 => Nat.le_refl _
  | n + 1 => by
    rw [psum_succ, psum_succ]
    have := psum_le f p n
    split <;> simp <;> omega
theorem psum_zero (f : Nat → Nat) {p : Nat → Bool} : ∀ n, (∀ y, y < n → p y = true → f y = 0) → psum f p n = 0
  | 0, _ => rfl
  | n + 1, h => by
    rw [psum_succ, psum_zero f n (fun y hy => h y (by omega))]
    by_cases hp : p n = true
    · rw [if_pos hp, h n (by omega) hp]
    · rw [if_neg hp]
/-- How many writes there are. -/
def total (C : Nat → List (List Nat)) : Nat := psum (fun y => (C y).length) (fun _ => true) 34
theorem total_no : total noC = 0 := psum_zero _ 34 fun _ _ _ => rfl
theorem total_up (C : Nat → List (List Nat)) (x : Nat) (hx : x < 34) (l : List Nat) : total (upC C x (C x ++ [l])) = total C + 1 := by
  have aux : ∀ n, psum (fun y => (upC C x (C x ++ [l]) y).length) (fun _ => true) n = psum (fun y => (C y).length) (fun _ => true) n + if x < n then 1 else 0 := by
    intro n
    induction n with
    | zero => rfl
    | succ n ih =>
      rw [psum_succ, psum_succ, ih]
      by_cases e : n = x
      · subst e
        rw [upC_same]
        simp
        omega
      · rw [upC_other C e]
        simp
        have : (x < n) = (x < n + 1) := by apply propext; omega
        simp only [this]
        omega
  unfold total
  rw [aux 34, if_pos hx]
theorem total_ge (C : Nat → List (List Nat)) (x : Nat) (hx : x < 34) : (C x).length ≤ total C := by
  have := psum_step (fun y => (C y).length) (p := fun _ => false) (q := fun y => y == x) x rfl 34 hx (fun y _ => by simp)
  have h2 := psum_le (fun y => (C y).length) (fun y => y == x) 34
  unfold total
  omega

section
variable {w : World} {B : Nat} {O : Nat → Prop} {g : Nat} {dur : List Nat} {C : Nat → List (List Nat)} {down : Bool}
set_option maxHeartbeats 2000000 in
theorem writes_ok (h : Dk w B O g dur C down) (hC : total C ≤ 1000000) :
    Calls Try.prog 11 #[.pointer (some ⟨g, 0, none⟩)] w fun e w' => e = .returned (.int .i64 (total C : Int)) ∧ Grows w w' := by
  obtain ⟨m, V, h1, h2, h3, h4, h5, h6, h7, h8⟩ := h
  have hc2 := (dk_cells h1 h2)
  have hcA := hc2.1
  have hcB := hc2.2
  have H5 := Lib.hid h5
  have H6 := Lib.hid h6
  clear h1 h2 h5 h6 h8 hc2 h7
  go_enter Try.func11, Try.ntmps11
  go_wp2_with (at_range; refine wpList_range_mp _ rfl _ 43 rfl 3 48 keyed Try.underlying43 m (fC C V) rfl H5.out ?_; intro w0 cnt0 hrg0 hg0 hs0)
  go_frame
  have HRG := Lib.hid hrg0
  have HG0 := Lib.hid hg0
  clear hrg0 hg0 hs0 hcA hcB
  go_loopg [3] cnt0 (fun gh s wr => ∃ left, Rg Try.prog 3 wr m w.heap.size (fC C V) left gh ∧ s = .int .i64 ((psum (fun y => (C y).length) (fun y => !left (.int .i64 (y : Int))) 34 : Nat) : Int) ∧ Grows w wr)
  case atStart =>
    refine ⟨_, HRG.out, ?_, HG0.out⟩
    rw [psum_zero _ 34 fun y hy hp => ?_]
    · rfl
    · rw [fC_at C V y hy] at hp
      by_cases hc : C y = []
      · simp [hc]
      · rw [if_neg hc] at hp; cases hp
  case round =>
    obtain ⟨left, hrg, rfl, hgr⟩ := hrel
    have HRG1 := Lib.hid hrg
    have HGR := Lib.hid hgr
    clear hrg hgr
    go_wp2_with (at_next; refine wpList_next_mp2 _ rfl (.tmp 12) rfl 3 keyed (fun p : Nat × Nat × Nat => .int .i64 (p.1 : Int)) (mkR C) (fun p => .int .i64 (p.1 : Int)) (fun p => p.1 < 34 ∧ C p.1 ≠ [] ∧ V p.1 = mkR C p) m w.heap.size (fC C V) left gk (fC_shape H6.out) rfl HRG1.out ?done ?more)
    case done =>
      intro hl0
      have HE : Hid (psum (fun y => (C y).length) (fun y => !left (.int .i64 (y : Int))) 34 = total C) := psum_congr _ 34 fun y _ => by rw [hl0]; rfl
      clear hl0
      go_wp2_with fail
      go_ret
      exact ⟨by rw [← HE.out]; rfl, HGR.out⟩
    case more =>
      intro n gb cp w1 cnt1 hn hc hV hlk hrg1 hlt hg1 hs1 hen
      have HRG2 := Lib.hid hrg1
      have HGR1 : Hid (Grows w w1) := HGR.out.grown hg1 (fun j e => by cases e; exact Nat.le_refl _)
      have HST := Lib.hid (psum_step (fun y => (C y).length) (p := fun y => !left (.int .i64 (y : Int))) (q := fun y => !(left (.int .i64 (y : Int)) && !(Lit.int .i64 (y : Int)).sameKey (.int .i64 (n : Int)))) n (by simp [hlk]) 34 hn (fun y hy => by
        by_cases e : y = n
        · subst e
          rw [WideAt.sameKey_self (a := .int .i64 (y : Int)) trivial]
          simp
        · rw [sameKey_ne (fun h => e (by injection h with _ h; omega))]
          have : (y == n) = false := by simpa using e
          rw [this]
          simp))
      have hle := psum_le (fun y => (C y).length) (fun y => !left (.int .i64 (y : Int))) 34
      have hge := total_ge C n hn
      have hC2 : psum (fun y => (C y).length) (fun _ => true) 34 ≤ 1000000 := hC
      generalize psum (fun y => (C y).length) (fun y => !left (.int .i64 (y : Int))) 34 = ps at *
      unfold mkR at hen
      dsimp only at hen
      generalize (C n).length = len at *
      clear hV hrg1 hg1 hlk
      go_wp2_with fail
      go_roundg cnt1
      case measure => omega
      case rel => exact ⟨_, HRG2.out, by rw [HST.out]; go_num, HGR1.out⟩

theorem dur_step (dur : List Nat) (k : Nat) : dur.take ((k + 1) * 64) = dur.take (k * 64) ++ (dur.drop (k * 64)).take 64 := by
  rw [Nat.succ_mul, List.take_add]
set_option maxHeartbeats 1000000 in
theorem durable_ok (h : Dk w B O g dur C down) :
    Calls Try.prog 9 #[.pointer (some ⟨g, 0, none⟩)] w (RetNew w 5 1 2176 (bys dur)) := by
  obtain ⟨i0, hi0, hz0, hz1, hz2⟩ := info_parts info_u8'
  obtain ⟨m, V, h1, h2, h3, h4, h5, h6, h7, h8⟩ := h
  have H1 := Lib.hid h1
  have H2 := Lib.hid h2
  have hgl := h1.lt
  clear h1 h2 h3 h4 h5 h6 h7 h8
  go_enter Try.func9, Try.ntmps9
  go_wp2_with (at_make; refine wpList_make_own _ rfl _ _ 27 rfl w.heap.size 5 i0 _ 1 Try.underlying27 hi0 hz0 hz1 _ _ _ 2176 rfl rfl rfl ?h1 ?h2 (Nat.le_refl _) ?_)
  case h1 => rw [hz2]; omega
  case h2 => unfold maxLen; omega
  intro w1 hown1 hgr1
  have HO := Lib.hid hown1
  have HG : Hid (Grows w w1) := (Grows.refl _).grown hgr1 (by simp)
  clear hown1 hgr1
  go_wp2_with fail
  go_loopg [3, 8] 34 (fun gh t i wr => ∃ (k : Nat), k + gh = 34 ∧ i = .int .i64 (k : Int) ∧ wr.ownsRow w.heap.size 5 1 t (k * 64) (bys (dur.take (k * 64))) ∧ Grows w wr)
  case atStart => exact ⟨0, by omega, rfl, HO.out, HG.out⟩
  case round =>
    obtain ⟨k, hk, rfl, hown, hgr⟩ := hrel
    have HO1 := Lib.hid hown
    have HG1 := Lib.hid hgr
    clear hown hgr
    by_cases hlt : k < 34
    · have hlt' : (k : Int) < 34 := by omega
      have hk0 : (0 : Int) ≤ (k : Int) := by omega
      have HS := Lib.hid ((dk_sec H1.out H2.out k hlt).grows HG1.out)
      have HL : Hid (((dur.drop (k * 64)).take 64).length = 64) := by show _ = _; have := H2.out; simp; omega
      have HT := Lib.hid (dur_step dur k)
      go_wp2_with (at_builtin; refine wpList_append_rd _ rfl (.tmp 11) (.tmp 17) 27 rfl w.heap.size 5 i0 _ 1 1 Try.underlying27 hi0 hz0 hz1 hz2 rfl (by decide) u3 (k * 64) _ rfl HO1.out (some ⟨g, k * 64, none⟩) 64 64 (bys ((dur.drop (k * 64)).take 64)) rfl HS.out ?q1 (bys_one _) ?q3 ?q4 HG1.out.size ?_)
      case q1 => rw [bys_length, HL.out]
      case q3 => unfold maxLen; omega
      case q4 => omega
      intro v7 w7 hown7 hgr7 _
      have HO7 := Lib.hid hown7
      have HG7 : Hid (Grows w w7) := HG1.out.grown hgr7 (by intro k hk; exact (HO1.out.lt k hk).1)
      clear hown7 hgr7
      go_wp2_with fail
      go_roundg (gk - 1)
      case measure => omega
      case rel => exact ⟨k + 1, by omega, by go_num, by rw [HT.out, bys_append, Nat.succ_mul]; exact HO7.out, HG7.out⟩
    · obtain rfl : k = 34 := by omega
      have hO := HO1.out
      rw [List.take_of_length_le (by rw [H2.out]; omega)] at hO
      have HO2 := Lib.hid hO
      clear hO
      go_wp2_with fail
      go_ret
      exact ⟨_, rfl, HO2.out, HG1.out⟩
end
end Go.Proofs.Ytdomkphljegkiaa
