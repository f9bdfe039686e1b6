/-
  disk: New, is, Up, Down; no disk at all.
-/
import Derived.Test.YtmcofmidpedkiaaDkA
import Derived.Outline
namespace Go.Proofs.Ytmcofmidpedkiaa
open Go.RowKit Go.Maps

def zer : List Nat := List.replicate 2176 0
theorem zer_length : zer.length = 2176 := List.length_replicate
def noC : Nat → List (List Nat) := fun _ => []

theorem fC_no (V : Nat → Value) : fC noC V = fun _ => none := by
  funext kl
  unfold fC noC
  split
  · rw [if_neg (by simp)]
  · rfl

theorem new_walk (Z : List Value) (hz : ∀ W, (zeroValue 58).run Try.prog W = .ok (.agg Z.toArray) W) (hl : ¬ Z.length < 2177) (w : World) : Calls Try.prog 7 #[] w fun e w' => e = .returned (.pointer (some ⟨w.heap.size + 1, 0, none⟩)) ∧ (w.alloc (.map #[] 0)).alloc (.cells (Z.set 2176 (.map (some w.heap.size))).toArray 58) = w' := by
  have hmm := @run_makeMap Try.prog
  go_enter Try.func7, Try.ntmps7
  go_wp2_with fail
  go_ret
  exact ⟨rfl, rfl⟩
def zdk : List Value := bys zer ++ [.map none, .bool false]
theorem zdk_run (W : World) : (zeroValue 58).run Try.prog W = .ok (.agg zdk.toArray) W := by kernel_rfl
theorem zdk_len : zdk.length = 2178 := by simp [zdk, bys_length, zer_length]
theorem zdk_set (m : Nat) : zdk.set 2176 (.map (some m)) = dkc zer m false := by
  have el := bys_length zer
  rw [zer_length] at el
  unfold dkc zdk
  rw [List.set_append_right _ _ (by omega), el]
  rfl
theorem dk_new (w : World) : Dk ((w.alloc (.map #[] 0)).alloc (.cells (dkc zer w.heap.size false).toArray 58)) w.heap.size (fun i => i = w.heap.size ∨ i = w.heap.size + 1) (w.heap.size + 1) zer noC false := by
  have hA := At.new (w.alloc (.map #[] 0)) 58 (dkc zer w.heap.size false).toArray
  rw [World.size_alloc] at hA
  refine ⟨w.heap.size, fun _ => undef, hA, zer_length, .inr rfl, .inl rfl, ?_, fun x _ h => absurd rfl h, fun x y _ _ _ h => absurd rfl h, fun i hi => by rw [World.size_alloc, World.size_alloc]; omega⟩
  rw [fC_no]
  exact (Mp.made w Try.prog 3).grows ((Grows.refl _).alloc _)
theorem new_any (w : World) : Calls Try.prog 7 #[] w fun e w' => e = .returned (.pointer (some ⟨w.heap.size + 1, 0, none⟩)) ∧ Dk w' w.heap.size (fun i => i = w.heap.size ∨ i = w.heap.size + 1) (w.heap.size + 1) zer noC false ∧ Grows w w' :=
  (new_walk zdk zdk_run (by rw [zdk_len]; omega) w).mono fun _ _ ⟨h1, h2⟩ => ⟨h1, by rw [← h2, zdk_set]; exact dk_new w, by rw [← h2]; exact ((Grows.refl _).alloc _).alloc _⟩

theorem is_any (n : Int) (w : World) : Calls Try.prog 24 #[.int .i64 n] w fun e w' => e = .returned (.bool (decide (0 ≤ n ∧ n < 34))) ∧ w = w' := by
  by_cases h0 : 0 ≤ n
  · by_cases h1 : n < 34
    · rw [decide_eq_true ⟨h0, h1⟩]
      go_enter Try.func24, Try.ntmps24
      go_wp2_with fail
      go_ret
      exact ⟨rfl, rfl⟩
    · rw [decide_eq_false (by omega)]
      go_enter Try.func24, Try.ntmps24
      go_wp2_with fail
      go_ret
      exact ⟨rfl, rfl⟩
  · rw [decide_eq_false (by omega)]
    go_enter Try.func24, Try.ntmps24
    go_wp2_with fail
    go_ret
    exact ⟨rfl, rfl⟩
theorem is_yes (n : Int) (w : World) (h0 : 0 ≤ n) (h1 : n < 34) : Calls Try.prog 24 #[.int .i64 n] w fun e w' => e = .returned (.bool true) ∧ w = w' := by
  have := is_any n w
  rwa [decide_eq_true ⟨h0, h1⟩] at this
theorem is_no (n : Int) (w : World) (h : ¬ (0 ≤ n ∧ n < 34)) : Calls Try.prog 24 #[.int .i64 n] w fun e w' => e = .returned (.bool false) ∧ w = w' := by
  have := is_any n w
  rwa [decide_eq_false h] at this

section
variable {w : World} {B : Nat} {O : Nat → Prop} {g : Nat} {dur : List Nat} {C : Nat → List (List Nat)}
/-- The disk's cells are written over; nothing else of it. -/
theorem Dk.cells {down down' : Bool} {dur' : List Nat} {w' : World} (h : Dk w B O g dur C down) (hl : dur'.length = 2176) (hA : ∀ m, At w g 58 (dkc dur m down).toArray → At w' g 58 (dkc dur' m down').toArray) (ho : ∀ i, i < w.heap.size → i ≠ g → w'.heap[i]? = w.heap[i]?) (hs : w.heap.size ≤ w'.heap.size) : Dk w' B O g dur' C down' := by
  obtain ⟨m, V, h1, h2, h3, h4, h5, h6, h7, h8⟩ := h
  refine ⟨m, V, hA m h1, hl, h3, h4, h5.same (ho m h5.lt ?_), fun x hx hc => ⟨(h6 x hx hc).1.same ?_ ?_, (h6 x hx hc).2⟩, h7, fun i hi => ⟨(h8 i hi).1, Nat.lt_of_lt_of_le (h8 i hi).2 hs⟩⟩
  · rintro rfl
    obtain ⟨es, clock, hb⟩ := h5.block
    unfold At at h1
    rw [hb] at h1
    cases h1
  · intro b hb
    obtain ⟨sl, r1, _⟩ := (h6 x hx hc).1
    rcases r1.2 with r2 | ⟨g', cap, cur, r2, r3, r4, _⟩
    · rw [r2.1] at hb; cases hb
    · rw [r2] at hb
      cases hb
      refine ho g' (Array.getElem?_eq_some_iff.1 r4).1 ?_
      rintro rfl
      unfold At at h1
      rw [r4] at h1
      injection h1 with h1
      injection h1 with _ h1
      exact absurd h1 (by decide)
  · rintro b hb ⟨cs, hcs⟩
    refine ho b hb ?_
    rintro rfl
    unfold At at h1
    rw [hcs] at h1
    injection h1 with h1
    injection h1 with _ h1
    exact absurd h1 (by decide)
theorem set_down {m : Nat} {down : Bool} (d : Bool) (h : At w g 58 (dkc dur m down).toArray) (hl : dur.length = 2176) : At (w.setCell ⟨g, 2177, none⟩ (.bool d)) g 58 (dkc dur m d).toArray := by
  have := h.set 2177 (.bool d)
  rw [List.setIfInBounds_toArray] at this
  have e : (dkc dur m down).set 2177 (.bool d) = dkc dur m d := by
    have el := bys_length dur
    rw [hl] at el
    unfold dkc
    rw [List.set_append_right _ _ (by omega), el]
    rfl
  rwa [e] at this
theorem Dk.setDown {down : Bool} (d : Bool) (h : Dk w B O g dur C down) : Dk (w.setCell ⟨g, 2177, none⟩ (.bool d)) B O g dur C d ∧ Turns O w (w.setCell ⟨g, 2177, none⟩ (.bool d)) O := by
  have ho : O g := by obtain ⟨m, V, h1, h2, h3, _⟩ := h; exact h3
  have hne : ∀ i, i ≠ g → (w.setCell ⟨g, 2177, none⟩ (.bool d)).heap[i]? = w.heap[i]? := fun i hi => RowKit.Below.heap_setCell _ _ _ _ hi
  refine ⟨h.cells h.len (fun m hm => set_down d hm h.len) (fun i _ hi => hne i hi) (by simp), ⟨rfl, rfl, rfl, by simp, fun i _ hi => hne i (fun e => hi (e ▸ ho)), fun _ hi => .inl hi⟩⟩

theorem up_ok (h : Dk w B O g dur C true) : Calls Try.prog 20 #[.pointer (some ⟨g, 0, none⟩)] w fun e w' => e = .returned (.int .i64 0) ∧ Dk w' B O g dur C false ∧ Turns O w w' O := by
  have hS := Lib.hid (h.setDown false)
  obtain ⟨m, V, h1, h2, _⟩ := h
  have hc := (dk_cells h1 h2).2
  have hf := h1.frozen 2177
  clear h1 h2
  go_enter Try.func20, Try.ntmps20
  go_wp2_with fail
  go_ret
  exact ⟨rfl, hS.out.1, hS.out.2⟩
end
end Go.Proofs.Ytmcofmidpedkiaa
