/-
  route.source.
-/
import Derived.Test.YtmoploenbppdbaaRtD
namespace Go.Proofs.Ytmoploenbppdbaa
open Go.RowKit

def rowOf (f : Nat → Nat) (n : Nat) : List (Nat × Nat) := (List.range' 2 (n - 1)).map fun i => (i, f i)
def full (f : Nat → Nat) (n : Nat) : Nat × Nat := bestOf gtB (1, f 1) (rowOf f n)
def poor (f : Nat → Nat) (n : Nat) : Nat × Nat := bestOf ltB (1, f 1) (rowOf f n)
def over (f : Nat → Nat) (n : Nat) : Option Nat := (List.range' (n + 1) (4 - n)).find? fun i => decide (0 < f i)
def srcF (f : Nat → Nat) (n : Nat) : Nat × Bool := match over f n with | some i => (i, true) | none => ((full f n).1, decide (1 < (full f n).2 - (poor f n).2))

theorem bestOf_mem (p : Nat → Nat → Bool) : ∀ (l : List (Nat × Nat)) (x : Nat × Nat), bestOf p x l = x ∨ bestOf p x l ∈ l
  | [], x => .inl rfl
  | y :: ys, x => by
    rw [bestOf]
    rcases bestOf_mem p ys (if p y.2 x.2 then y else x) with h | h
    · rw [h]
      split
      · exact .inr (by simp)
      · exact .inl rfl
    · exact .inr (by simp [h])
theorem best_gt : ∀ (l : List (Nat × Nat)) (x : Nat × Nat), x.2 ≤ (bestOf gtB x l).2 ∧ ∀ y ∈ l, y.2 ≤ (bestOf gtB x l).2
  | [], x => ⟨Nat.le_refl _, by simp⟩
  | y :: ys, x => by
    rw [bestOf]
    have ih := best_gt ys (if gtB y.2 x.2 then y else x)
    generalize bestOf gtB (if gtB y.2 x.2 then y else x) ys = b at *
    by_cases h : x.2 < y.2
    · rw [if_pos (by simpa [gtB] using h)] at ih
      refine ⟨by omega, fun z hz => ?_⟩
      rcases List.mem_cons.1 hz with rfl | hz
      · exact ih.1
      · exact ih.2 z hz
    · rw [if_neg (by simpa [gtB] using h)] at ih
      refine ⟨ih.1, fun z hz => ?_⟩
      rcases List.mem_cons.1 hz with rfl | hz
      · omega
      · exact ih.2 z hz
theorem best_lt : ∀ (l : List (Nat × Nat)) (x : Nat × Nat), (bestOf ltB x l).2 ≤ x.2 ∧ ∀ y ∈ l, (bestOf ltB x l).2 ≤ y.2
  | [], x => ⟨Nat.le_refl _, by simp⟩
  | y :: ys, x => by
    rw [bestOf]
    have ih := best_lt ys (if ltB y.2 x.2 then y else x)
    generalize bestOf ltB (if ltB y.2 x.2 then y else x) ys = b at *
    by_cases h : y.2 < x.2
    · rw [if_pos (by simpa [ltB] using h)] at ih
      refine ⟨by omega, fun z hz => ?_⟩
      rcases List.mem_cons.1 hz with rfl | hz
      · exact ih.1
      · exact ih.2 z hz
    · rw [if_neg (by simpa [ltB] using h)] at ih
      refine ⟨ih.1, fun z hz => ?_⟩
      rcases List.mem_cons.1 hz with rfl | hz
      · omega
      · exact ih.2 z hz
theorem row_mem {f : Nat → Nat} {n : Nat} {y : Nat × Nat} (h : y ∈ rowOf f n) : 2 ≤ y.1 ∧ y.1 ≤ n ∧ y.2 = f y.1 := by
  obtain ⟨i, hi, rfl⟩ := List.mem_map.1 h
  rw [List.mem_range'_1] at hi
  exact ⟨hi.1, by omega, rfl⟩
theorem best_is (p : Nat → Nat → Bool) (f : Nat → Nat) (n : Nat) (hn : 1 ≤ n) : let b := bestOf p (1, f 1) (rowOf f n); 1 ≤ b.1 ∧ b.1 ≤ n ∧ b.2 = f b.1 := by
  intro b
  rcases bestOf_mem p (rowOf f n) (1, f 1) with h | h
  · show 1 ≤ (bestOf p (1, f 1) (rowOf f n)).1 ∧ (bestOf p (1, f 1) (rowOf f n)).1 ≤ n ∧ (bestOf p (1, f 1) (rowOf f n)).2 = f (bestOf p (1, f 1) (rowOf f n)).1
    rw [h]
    exact ⟨Nat.le_refl _, hn, rfl⟩
  · have := row_mem h
    exact ⟨Nat.le_trans (by omega) this.1, this.2.1, this.2.2⟩
theorem full_ge (f : Nat → Nat) (n : Nat) : (poor f n).2 ≤ (full f n).2 := Nat.le_trans (best_lt (rowOf f n) (1, f 1)).1 (best_gt (rowOf f n) (1, f 1)).1

theorem over_step {f : Nat → Nat} {n k : Nat} (h : k < 4 - n) (hO : over f n = (List.range' (n + 1 + k) (4 - n - k)).find? fun i => decide (0 < f i)) :
    (0 < f (n + 1 + k) → over f n = some (n + 1 + k)) ∧ (¬ 0 < f (n + 1 + k) → over f n = (List.range' (n + 1 + (k + 1)) (4 - n - (k + 1))).find? fun i => decide (0 < f i)) := by
  rw [show 4 - n - k = (4 - n - (k + 1)) + 1 by omega, List.range'_succ, List.find?_cons] at hO
  refine ⟨fun hf => ?_, fun hf => ?_⟩
  · simpa [hf] using hO
  · rw [hO]
    simp only [hf, decide_false]
    rfl
theorem cxs_row (f : Nat → Nat) {w : World} {g : Nat} {t : TypeId} (h : At w g t (qs f).toArray) (n : Nat) (h1 : 1 ≤ n) (h4 : n ≤ 4) : Rd w (some ⟨g, 1, none⟩) (cxs ((1, f 1) :: rowOf f n)) := by
  refine .inr ⟨g, 1, rfl, h.lt, fun i v hv => ?_⟩
  rw [h.cell]
  have h5 : n = 1 ∨ n = 2 ∨ n = 3 ∨ n = 4 := by omega
  have hi : i < 4 := by
    have := (List.getElem?_eq_some_iff.1 hv).1
    rcases h5 with rfl | rfl | rfl | rfl <;> simp [cxs, rowOf] at this <;> omega
  rw [Nat.add_comm, qs_at f (i + 1) (by omega)]
  rw [← hv]
  have h6 : i = 0 ∨ i = 1 ∨ i = 2 ∨ i = 3 := by omega
  rcases h5 with rfl | rfl | rfl | rfl <;> rcases h6 with rfl | rfl | rfl | rfl <;> first | rfl | (exfalso; simp [cxs, rowOf] at hv)

theorem h32_row {f : Nat → Nat} (hf : ∀ i, f i ≤ 8) (n : Nat) : ∀ y ∈ (1, f 1) :: rowOf f n, y.2 < 32 := by
  intro y hy
  rcases List.mem_cons.1 hy with rfl | hy
  · have := hf 1; show f 1 < 32; omega
  · rw [(row_mem hy).2.2]; have := hf y.1; omega
theorem full_call (f : Nat → Nat) (hf : ∀ i, f i ≤ 8) (n : Nat) (h4 : n + 1 ≤ 4) {w : World} {g : Nat} {t : TypeId} (h : At w g t (qs f).toArray) :
    Calls Try.prog 16 #[.slice (some ⟨g, 1, none⟩) (n + 1) 4, .func (.func 18) #[] #[]] w fun e w' => e = .returned (cx (full f (n + 1)).1 (full f (n + 1)).2) ∧ w = w' :=
  best_more1 (1, f 1) (rowOf f (n + 1)) (h32_row hf (n + 1)) n (by simp [rowOf]) g 1 4 (by omega) (by omega) (by omega) w (cxs_row f h (n + 1) (by omega) (by omega))
theorem poor_call (f : Nat → Nat) (hf : ∀ i, f i ≤ 8) (n : Nat) (h4 : n + 1 ≤ 4) {w : World} {g : Nat} {t : TypeId} (h : At w g t (qs f).toArray) :
    Calls Try.prog 16 #[.slice (some ⟨g, 1, none⟩) (n + 1) 4, .func (.func 19) #[] #[]] w fun e w' => e = .returned (cx (poor f (n + 1)).1 (poor f (n + 1)).2) ∧ w = w' :=
  best_less2 (1, f 1) (rowOf f (n + 1)) (h32_row hf (n + 1)) n (by simp [rowOf]) g 1 4 (by omega) (by omega) (by omega) w (cxs_row f h (n + 1) (by omega) (by omega))
theorem poor_call1 (f : Nat → Nat) (hf : ∀ i, f i ≤ 8) (n : Nat) (h4 : n + 1 ≤ 4) {w : World} {g : Nat} {t : TypeId} (h : At w g t (qs f).toArray) :
    Calls Try.prog 16 #[.slice (some ⟨g, 1, none⟩) (n + 1) 4, .func (.func 17) #[] #[]] w fun e w' => e = .returned (cx (poor f (n + 1)).1 (poor f (n + 1)).2) ∧ w = w' :=
  best_less1 (1, f 1) (rowOf f (n + 1)) (h32_row hf (n + 1)) n (by simp [rowOf]) g 1 4 (by omega) (by omega) (by omega) w (cxs_row f h (n + 1) (by omega) (by omega))
theorem cv_int (W : World) (s : Nat) (h : s < 32) : (convert 47 3 (.float .f64 (floatOfInt .f64 (s : Int)))).run Try.prog W = .ok (.int .i64 (s : Int)) W :=
  run_convert_float_int (P := Try.prog) W 47 3 .f64 .i64 _ _ (by kernel_rfl) Try.underlying3 (fl_int32 s h)

set_option maxHeartbeats 2000000 in
theorem source_1 (f : Nat → Nat) (hf : ∀ i, f i ≤ 8) (w : World) :
    Calls Try.prog 15 #[.agg (qs f).toArray, .int .i64 1] w fun e w' => e = .returned (.tuple #[.int .i64 (((srcF f 1).1 : Nat) : Int), .bool (srcF f 1).2]) ∧ Grows w w' := by
  have hs1 : ∀ W, (Instr.sliceAt 41 (.pointer (some ⟨w.heap.size, 0, none⟩)) (some (.int .i64 (1 + 1))) none none).run Try.prog W = .ok (.slice (some ⟨w.heap.size, 2, none⟩) 3 3) W := fun W => by kernel_rfl
  have hs2 : ∀ W, (Instr.sliceAt 41 (.pointer (some ⟨w.heap.size, 0, none⟩)) (some (.int .i64 1)) (some (.int .i64 (1 + 1))) none).run Try.prog W = .ok (.slice (some ⟨w.heap.size, 1, none⟩) 1 4) W := fun W => by kernel_rfl
  have A0 := Lib.hid (At.new w 41 (qs f).toArray)
  have HF := Lib.hid hf
  have G0 := (Grows.refl w).alloc (.cells (qs f).toArray 41)
  have cv := cv_int
  have HCV := Lib.hid cv
  have bf := best_is gtB f 1 (by omega)
  have bp := best_is ltB f 1 (by omega)
  have hfp := full_ge f 1
  have hsrc : srcF f 1 = match over f 1 with | some i => (i, true) | none => ((full f 1).1, decide (1 < (full f 1).2 - (poor f 1).2)) := rfl
  have c1 : ∀ W, Grows (w.alloc (.cells (qs f).toArray 41)) W → Calls Try.prog 16 #[.slice (some ⟨w.heap.size, 1, none⟩) 1 4, .func (.func 18) #[] #[]] W fun e w' => e = .returned (cx (full f 1).1 (full f 1).2) ∧ W = w' := fun W hW => full_call f hf 0 (by omega) (A0.out.grows hW)
  have c2 : ∀ W, Grows (w.alloc (.cells (qs f).toArray 41)) W → Calls Try.prog 16 #[.slice (some ⟨w.heap.size, 1, none⟩) 1 4, .func (.func 19) #[] #[]] W fun e w' => e = .returned (cx (poor f 1).1 (poor f 1).2) ∧ W = w' := fun W hW => poor_call f hf 0 (by omega) (A0.out.grows hW)
  have hfb : (full f 1).1 ≤ 1 ∧ (full f 1).2 ≤ 8 := by
    have h1 : (full f 1).2 = f (full f 1).1 := bf.2.2
    exact ⟨bf.2.1, by rw [h1]; exact hf _⟩
  generalize full f 1 = F at *
  generalize poor f 1 = Po at *
  obtain ⟨F1, F2⟩ := F
  obtain ⟨P1, P2⟩ := Po
  simp only at hfb hfp hsrc c1 c2
  have HS := Lib.hid hsrc
  have HC1 := Lib.hid c1
  have HC2 := Lib.hid c2
  generalize srcF f 1 = SR at *
  clear hf cv bf bp hsrc c1 c2
  go_enter Try.func15, Try.ntmps15
  go_wp2_with fail
  go_loopg [14] 3 (fun gh i wr => ∃ (k : Nat), k + gh = 3 ∧ i = .int .i64 (k : Int) ∧ wr = w.alloc (.cells (qs f).toArray 41) ∧ over f 1 = (List.range' (1 + 1 + k) (4 - 1 - k)).find? fun i => decide (0 < f i))
  case atStart => exact ⟨0, by omega, rfl, rfl, rfl⟩
  case round =>
    obtain ⟨k, hk, rfl, rfl, hO⟩ := hrel
    by_cases hlt : k < 3
    · have hlt' : (k : Int) < 3 := by omega
      have hk0 : (0 : Int) ≤ (k : Int) := by omega
      obtain ⟨sk, hsk⟩ : ∃ sk : Nat, sk = 1 + 1 + k := ⟨_, rfl⟩
      have hst := over_step (f := f) (n := 1) (k := k) (by omega) hO
      rw [← hsk] at hst
      have hc := A0.out.cell sk
      rw [qs_at f sk (by omega)] at hc
      have hfk := HF.out sk
      have hg0 := fl_gt0 (show f sk < 32 by omega)
      have hcv := fun W => HCV.out W sk (by omega)
      unfold cx at hc
      have hc' : (w.alloc (.cells (qs f).toArray 41)).cell? ⟨w.heap.size, 2 + k, none⟩ = some (.complex .f64 (floatOfInt .f64 (sk : Int)) (floatOfInt .f64 ((f sk : Nat) : Int))) := by
        rw [← hc, show 2 + k = sk by omega]
      have HST := Lib.hid hst
      generalize f sk = fk at *
      clear hO hst hc hsk
      by_cases hz : 0 < fk
      · have hz' : decide (0 < fk) = true := by simpa using hz
        rw [hz'] at hg0
        have HR : Hid (SR = (sk, true)) := by show _ = _; rw [HS.out, HST.out.1 hz]
        clear hz hz'
        go_wp2_with fail
        go_ret2
        exact ⟨by rw [HR.out]; rfl, G0⟩
      · have hz' : decide (0 < fk) = false := by simpa using hz
        rw [hz'] at hg0
        have HR := Lib.hid (HST.out.2 hz)
        clear hz hz'
        go_wp2_with fail
        go_roundg (gk - 1)
        case measure => omega
        case rel => exact ⟨k + 1, by omega, by go_num, rfl, HR.out⟩
    · obtain rfl : k = 3 := by omega
      have HR : Hid (SR = (F1, decide (1 < F2 - P2))) := by show _ = _; rw [HS.out, hO]; rfl
      clear hO
      have hcv := fun W => HCV.out W F1 (by omega)
      have hsb := fun W => run_float_arith (P := Try.prog) W .sub 47 .f64 _ _ _ (fl_sub F2 (by omega) P2 (by omega) hfp)
      have hg1 := fl_gt1 (show F2 - P2 < 32 by omega)
      unfold cx at *
      go_wp2_with fail
      refine (HC1.out _ (Grows.refl _)).mono ?_
      rintro e w1 ⟨rfl, rfl⟩
      go_wp2_with fail
      refine (HC2.out _ (Grows.refl _)).mono ?_
      rintro e w1 ⟨rfl, rfl⟩
      go_wp2_with fail
      go_ret2
      exact ⟨by rw [HR.out]; rfl, G0⟩
set_option maxHeartbeats 2000000 in
theorem source_2 (f : Nat → Nat) (hf : ∀ i, f i ≤ 8) (w : World) :
    Calls Try.prog 15 #[.agg (qs f).toArray, .int .i64 2] w fun e w' => e = .returned (.tuple #[.int .i64 (((srcF f 2).1 : Nat) : Int), .bool (srcF f 2).2]) ∧ Grows w w' := by
  have hs1 : ∀ W, (Instr.sliceAt 41 (.pointer (some ⟨w.heap.size, 0, none⟩)) (some (.int .i64 (2 + 1))) none none).run Try.prog W = .ok (.slice (some ⟨w.heap.size, 3, none⟩) 2 2) W := fun W => by kernel_rfl
  have hs2 : ∀ W, (Instr.sliceAt 41 (.pointer (some ⟨w.heap.size, 0, none⟩)) (some (.int .i64 1)) (some (.int .i64 (2 + 1))) none).run Try.prog W = .ok (.slice (some ⟨w.heap.size, 1, none⟩) 2 4) W := fun W => by kernel_rfl
  have A0 := Lib.hid (At.new w 41 (qs f).toArray)
  have HF := Lib.hid hf
  have G0 := (Grows.refl w).alloc (.cells (qs f).toArray 41)
  have cv := cv_int
  have HCV := Lib.hid cv
  have bf := best_is gtB f 2 (by omega)
  have bp := best_is ltB f 2 (by omega)
  have hfp := full_ge f 2
  have hsrc : srcF f 2 = match over f 2 with | some i => (i, true) | none => ((full f 2).1, decide (1 < (full f 2).2 - (poor f 2).2)) := rfl
  have c1 : ∀ W, Grows (w.alloc (.cells (qs f).toArray 41)) W → Calls Try.prog 16 #[.slice (some ⟨w.heap.size, 1, none⟩) 2 4, .func (.func 18) #[] #[]] W fun e w' => e = .returned (cx (full f 2).1 (full f 2).2) ∧ W = w' := fun W hW => full_call f hf 1 (by omega) (A0.out.grows hW)
  have c2 : ∀ W, Grows (w.alloc (.cells (qs f).toArray 41)) W → Calls Try.prog 16 #[.slice (some ⟨w.heap.size, 1, none⟩) 2 4, .func (.func 19) #[] #[]] W fun e w' => e = .returned (cx (poor f 2).1 (poor f 2).2) ∧ W = w' := fun W hW => poor_call f hf 1 (by omega) (A0.out.grows hW)
  have hfb : (full f 2).1 ≤ 2 ∧ (full f 2).2 ≤ 8 := by
    have h1 : (full f 2).2 = f (full f 2).1 := bf.2.2
    exact ⟨bf.2.1, by rw [h1]; exact hf _⟩
  generalize full f 2 = F at *
  generalize poor f 2 = Po at *
  obtain ⟨F1, F2⟩ := F
  obtain ⟨P1, P2⟩ := Po
  simp only at hfb hfp hsrc c1 c2
  have HS := Lib.hid hsrc
  have HC1 := Lib.hid c1
  have HC2 := Lib.hid c2
  generalize srcF f 2 = SR at *
  clear hf cv bf bp hsrc c1 c2
  go_enter Try.func15, Try.ntmps15
  go_wp2_with fail
  go_loopg [14] 2 (fun gh i wr => ∃ (k : Nat), k + gh = 2 ∧ i = .int .i64 (k : Int) ∧ wr = w.alloc (.cells (qs f).toArray 41) ∧ over f 2 = (List.range' (2 + 1 + k) (4 - 2 - k)).find? fun i => decide (0 < f i))
  case atStart => exact ⟨0, by omega, rfl, rfl, rfl⟩
  case round =>
    obtain ⟨k, hk, rfl, rfl, hO⟩ := hrel
    by_cases hlt : k < 2
    · have hlt' : (k : Int) < 2 := by omega
      have hk0 : (0 : Int) ≤ (k : Int) := by omega
      obtain ⟨sk, hsk⟩ : ∃ sk : Nat, sk = 2 + 1 + k := ⟨_, rfl⟩
      have hst := over_step (f := f) (n := 2) (k := k) (by omega) hO
      rw [← hsk] at hst
      have hc := A0.out.cell sk
      rw [qs_at f sk (by omega)] at hc
      have hfk := HF.out sk
      have hg0 := fl_gt0 (show f sk < 32 by omega)
      have hcv := fun W => HCV.out W sk (by omega)
      unfold cx at hc
      have hc' : (w.alloc (.cells (qs f).toArray 41)).cell? ⟨w.heap.size, 3 + k, none⟩ = some (.complex .f64 (floatOfInt .f64 (sk : Int)) (floatOfInt .f64 ((f sk : Nat) : Int))) := by
        rw [← hc, show 3 + k = sk by omega]
      have HST := Lib.hid hst
      generalize f sk = fk at *
      clear hO hst hc hsk
      by_cases hz : 0 < fk
      · have hz' : decide (0 < fk) = true := by simpa using hz
        rw [hz'] at hg0
        have HR : Hid (SR = (sk, true)) := by show _ = _; rw [HS.out, HST.out.1 hz]
        clear hz hz'
        go_wp2_with fail
        go_ret2
        exact ⟨by rw [HR.out]; rfl, G0⟩
      · have hz' : decide (0 < fk) = false := by simpa using hz
        rw [hz'] at hg0
        have HR := Lib.hid (HST.out.2 hz)
        clear hz hz'
        go_wp2_with fail
        go_roundg (gk - 1)
        case measure => omega
        case rel => exact ⟨k + 1, by omega, by go_num, rfl, HR.out⟩
    · obtain rfl : k = 2 := by omega
      have HR : Hid (SR = (F1, decide (1 < F2 - P2))) := by show _ = _; rw [HS.out, hO]; rfl
      clear hO
      have hcv := fun W => HCV.out W F1 (by omega)
      have hsb := fun W => run_float_arith (P := Try.prog) W .sub 47 .f64 _ _ _ (fl_sub F2 (by omega) P2 (by omega) hfp)
      have hg1 := fl_gt1 (show F2 - P2 < 32 by omega)
      unfold cx at *
      go_wp2_with fail
      refine (HC1.out _ (Grows.refl _)).mono ?_
      rintro e w1 ⟨rfl, rfl⟩
      go_wp2_with fail
      refine (HC2.out _ (Grows.refl _)).mono ?_
      rintro e w1 ⟨rfl, rfl⟩
      go_wp2_with fail
      go_ret2
      exact ⟨by rw [HR.out]; rfl, G0⟩
set_option maxHeartbeats 2000000 in
theorem source_3 (f : Nat → Nat) (hf : ∀ i, f i ≤ 8) (w : World) :
    Calls Try.prog 15 #[.agg (qs f).toArray, .int .i64 3] w fun e w' => e = .returned (.tuple #[.int .i64 (((srcF f 3).1 : Nat) : Int), .bool (srcF f 3).2]) ∧ Grows w w' := by
  have hs1 : ∀ W, (Instr.sliceAt 41 (.pointer (some ⟨w.heap.size, 0, none⟩)) (some (.int .i64 (3 + 1))) none none).run Try.prog W = .ok (.slice (some ⟨w.heap.size, 4, none⟩) 1 1) W := fun W => by kernel_rfl
  have hs2 : ∀ W, (Instr.sliceAt 41 (.pointer (some ⟨w.heap.size, 0, none⟩)) (some (.int .i64 1)) (some (.int .i64 (3 + 1))) none).run Try.prog W = .ok (.slice (some ⟨w.heap.size, 1, none⟩) 3 4) W := fun W => by kernel_rfl
  have A0 := Lib.hid (At.new w 41 (qs f).toArray)
  have HF := Lib.hid hf
  have G0 := (Grows.refl w).alloc (.cells (qs f).toArray 41)
  have cv := cv_int
  have HCV := Lib.hid cv
  have bf := best_is gtB f 3 (by omega)
  have bp := best_is ltB f 3 (by omega)
  have hfp := full_ge f 3
  have hsrc : srcF f 3 = match over f 3 with | some i => (i, true) | none => ((full f 3).1, decide (1 < (full f 3).2 - (poor f 3).2)) := rfl
  have c1 : ∀ W, Grows (w.alloc (.cells (qs f).toArray 41)) W → Calls Try.prog 16 #[.slice (some ⟨w.heap.size, 1, none⟩) 3 4, .func (.func 18) #[] #[]] W fun e w' => e = .returned (cx (full f 3).1 (full f 3).2) ∧ W = w' := fun W hW => full_call f hf 2 (by omega) (A0.out.grows hW)
  have c2 : ∀ W, Grows (w.alloc (.cells (qs f).toArray 41)) W → Calls Try.prog 16 #[.slice (some ⟨w.heap.size, 1, none⟩) 3 4, .func (.func 19) #[] #[]] W fun e w' => e = .returned (cx (poor f 3).1 (poor f 3).2) ∧ W = w' := fun W hW => poor_call f hf 2 (by omega) (A0.out.grows hW)
  have hfb : (full f 3).1 ≤ 3 ∧ (full f 3).2 ≤ 8 := by
    have h1 : (full f 3).2 = f (full f 3).1 := bf.2.2
    exact ⟨bf.2.1, by rw [h1]; exact hf _⟩
  generalize full f 3 = F at *
  generalize poor f 3 = Po at *
  obtain ⟨F1, F2⟩ := F
  obtain ⟨P1, P2⟩ := Po
  simp only at hfb hfp hsrc c1 c2
  have HS := Lib.hid hsrc
  have HC1 := Lib.hid c1
  have HC2 := Lib.hid c2
  generalize srcF f 3 = SR at *
  clear hf cv bf bp hsrc c1 c2
  go_enter Try.func15, Try.ntmps15
  go_wp2_with fail
  go_loopg [14] 1 (fun gh i wr => ∃ (k : Nat), k + gh = 1 ∧ i = .int .i64 (k : Int) ∧ wr = w.alloc (.cells (qs f).toArray 41) ∧ over f 3 = (List.range' (3 + 1 + k) (4 - 3 - k)).find? fun i => decide (0 < f i))
  case atStart => exact ⟨0, by omega, rfl, rfl, rfl⟩
  case round =>
    obtain ⟨k, hk, rfl, rfl, hO⟩ := hrel
    by_cases hlt : k < 1
    · have hlt' : (k : Int) < 1 := by omega
      have hk0 : (0 : Int) ≤ (k : Int) := by omega
      obtain ⟨sk, hsk⟩ : ∃ sk : Nat, sk = 3 + 1 + k := ⟨_, rfl⟩
      have hst := over_step (f := f) (n := 3) (k := k) (by omega) hO
      rw [← hsk] at hst
      have hc := A0.out.cell sk
      rw [qs_at f sk (by omega)] at hc
      have hfk := HF.out sk
      have hg0 := fl_gt0 (show f sk < 32 by omega)
      have hcv := fun W => HCV.out W sk (by omega)
      unfold cx at hc
      have hc' : (w.alloc (.cells (qs f).toArray 41)).cell? ⟨w.heap.size, 4 + k, none⟩ = some (.complex .f64 (floatOfInt .f64 (sk : Int)) (floatOfInt .f64 ((f sk : Nat) : Int))) := by
        rw [← hc, show 4 + k = sk by omega]
      have HST := Lib.hid hst
      generalize f sk = fk at *
      clear hO hst hc hsk
      by_cases hz : 0 < fk
      · have hz' : decide (0 < fk) = true := by simpa using hz
        rw [hz'] at hg0
        have HR : Hid (SR = (sk, true)) := by show _ = _; rw [HS.out, HST.out.1 hz]
        clear hz hz'
        go_wp2_with fail
        go_ret2
        exact ⟨by rw [HR.out]; rfl, G0⟩
      · have hz' : decide (0 < fk) = false := by simpa using hz
        rw [hz'] at hg0
        have HR := Lib.hid (HST.out.2 hz)
        clear hz hz'
        go_wp2_with fail
        go_roundg (gk - 1)
        case measure => omega
        case rel => exact ⟨k + 1, by omega, by go_num, rfl, HR.out⟩
    · obtain rfl : k = 1 := by omega
      have HR : Hid (SR = (F1, decide (1 < F2 - P2))) := by show _ = _; rw [HS.out, hO]; rfl
      clear hO
      have hcv := fun W => HCV.out W F1 (by omega)
      have hsb := fun W => run_float_arith (P := Try.prog) W .sub 47 .f64 _ _ _ (fl_sub F2 (by omega) P2 (by omega) hfp)
      have hg1 := fl_gt1 (show F2 - P2 < 32 by omega)
      unfold cx at *
      go_wp2_with fail
      refine (HC1.out _ (Grows.refl _)).mono ?_
      rintro e w1 ⟨rfl, rfl⟩
      go_wp2_with fail
      refine (HC2.out _ (Grows.refl _)).mono ?_
      rintro e w1 ⟨rfl, rfl⟩
      go_wp2_with fail
      go_ret2
      exact ⟨by rw [HR.out]; rfl, G0⟩
set_option maxHeartbeats 2000000 in
theorem source_4 (f : Nat → Nat) (hf : ∀ i, f i ≤ 8) (w : World) :
    Calls Try.prog 15 #[.agg (qs f).toArray, .int .i64 4] w fun e w' => e = .returned (.tuple #[.int .i64 (((srcF f 4).1 : Nat) : Int), .bool (srcF f 4).2]) ∧ Grows w w' := by
  have hs1 : ∀ W, (Instr.sliceAt 41 (.pointer (some ⟨w.heap.size, 0, none⟩)) (some (.int .i64 (4 + 1))) none none).run Try.prog W = .ok (.slice (some ⟨w.heap.size, 0, none⟩) 0 0) W := fun W => by kernel_rfl
  have hs2 : ∀ W, (Instr.sliceAt 41 (.pointer (some ⟨w.heap.size, 0, none⟩)) (some (.int .i64 1)) (some (.int .i64 (4 + 1))) none).run Try.prog W = .ok (.slice (some ⟨w.heap.size, 1, none⟩) 4 4) W := fun W => by kernel_rfl
  have A0 := Lib.hid (At.new w 41 (qs f).toArray)
  have HF := Lib.hid hf
  have G0 := (Grows.refl w).alloc (.cells (qs f).toArray 41)
  have cv := cv_int
  have HCV := Lib.hid cv
  have bf := best_is gtB f 4 (by omega)
  have bp := best_is ltB f 4 (by omega)
  have hfp := full_ge f 4
  have hsrc : srcF f 4 = match over f 4 with | some i => (i, true) | none => ((full f 4).1, decide (1 < (full f 4).2 - (poor f 4).2)) := rfl
  have c1 : ∀ W, Grows (w.alloc (.cells (qs f).toArray 41)) W → Calls Try.prog 16 #[.slice (some ⟨w.heap.size, 1, none⟩) 4 4, .func (.func 18) #[] #[]] W fun e w' => e = .returned (cx (full f 4).1 (full f 4).2) ∧ W = w' := fun W hW => full_call f hf 3 (by omega) (A0.out.grows hW)
  have c2 : ∀ W, Grows (w.alloc (.cells (qs f).toArray 41)) W → Calls Try.prog 16 #[.slice (some ⟨w.heap.size, 1, none⟩) 4 4, .func (.func 19) #[] #[]] W fun e w' => e = .returned (cx (poor f 4).1 (poor f 4).2) ∧ W = w' := fun W hW => poor_call f hf 3 (by omega) (A0.out.grows hW)
  have hfb : (full f 4).1 ≤ 4 ∧ (full f 4).2 ≤ 8 := by
    have h1 : (full f 4).2 = f (full f 4).1 := bf.2.2
    exact ⟨bf.2.1, by rw [h1]; exact hf _⟩
  generalize full f 4 = F at *
  generalize poor f 4 = Po at *
  obtain ⟨F1, F2⟩ := F
  obtain ⟨P1, P2⟩ := Po
  simp only at hfb hfp hsrc c1 c2
  have HS := Lib.hid hsrc
  have HC1 := Lib.hid c1
  have HC2 := Lib.hid c2
  generalize srcF f 4 = SR at *
  clear hf cv bf bp hsrc c1 c2
  go_enter Try.func15, Try.ntmps15
  go_wp2_with fail
  go_loopg [14] 0 (fun gh i wr => ∃ (k : Nat), k + gh = 0 ∧ i = .int .i64 (k : Int) ∧ wr = w.alloc (.cells (qs f).toArray 41) ∧ over f 4 = (List.range' (4 + 1 + k) (4 - 4 - k)).find? fun i => decide (0 < f i))
  case atStart => exact ⟨0, by omega, rfl, rfl, rfl⟩
  case round =>
    obtain ⟨k, hk, rfl, rfl, hO⟩ := hrel
    by_cases hlt : k < 0
    · exact absurd hlt (by omega)
    · obtain rfl : k = 0 := by omega
      have HR : Hid (SR = (F1, decide (1 < F2 - P2))) := by show _ = _; rw [HS.out, hO]; rfl
      clear hO
      have hcv := fun W => HCV.out W F1 (by omega)
      have hsb := fun W => run_float_arith (P := Try.prog) W .sub 47 .f64 _ _ _ (fl_sub F2 (by omega) P2 (by omega) hfp)
      have hg1 := fl_gt1 (show F2 - P2 < 32 by omega)
      unfold cx at *
      go_wp2_with fail
      refine (HC1.out _ (Grows.refl _)).mono ?_
      rintro e w1 ⟨rfl, rfl⟩
      go_wp2_with fail
      refine (HC2.out _ (Grows.refl _)).mono ?_
      rintro e w1 ⟨rfl, rfl⟩
      go_wp2_with fail
      go_ret2
      exact ⟨by rw [HR.out]; rfl, G0⟩
theorem source_any (f : Nat → Nat) (hf : ∀ i, f i ≤ 8) (n : Nat) (h1 : 1 ≤ n) (h4 : n ≤ 4) (w : World) :
    Calls Try.prog 15 #[.agg (qs f).toArray, .int .i64 (n : Int)] w fun e w' => e = .returned (.tuple #[.int .i64 (((srcF f n).1 : Nat) : Int), .bool (srcF f n).2]) ∧ Grows w w' := by
  have h5 : n = 1 ∨ n = 2 ∨ n = 3 ∨ n = 4 := by omega
  rcases h5 with rfl | rfl | rfl | rfl
  · exact source_1 f hf w
  · exact source_2 f hf w
  · exact source_3 f hf w
  · exact source_4 f hf w
end Go.Proofs.Ytmoploenbppdbaa
