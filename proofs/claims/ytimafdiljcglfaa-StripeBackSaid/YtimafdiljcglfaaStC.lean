/-
  stripe.place, Place, Block.
-/
import Derived.Test.YtimafdiljcglfaaStB
namespace Go.Proofs.Ytimafdiljcglfaa
open Go.RowKit

theorem lit9 (v o0 o1 o2 o3 o4 o5 o6 o7 : Int) (k : Nat) (hk : k < 8) : (#[.int .i64 v, .int .i64 o0, .int .i64 o1, .int .i64 o2, .int .i64 o3, .int .i64 o4, .int .i64 o5, .int .i64 o6, .int .i64 o7] : Array Value)[1 + k]? = some (.int .i64 ([o0, o1, o2, o3, o4, o5, o6, o7].getD k 0)) := by
  have h8 : k = 0 ∨ k = 1 ∨ k = 2 ∨ k = 3 ∨ k = 4 ∨ k = 5 ∨ k = 6 ∨ k = 7 := by omega
  rcases h8 with rfl | rfl | rfl | rfl | rfl | rfl | rfl | rfl <;> rfl
/-- The slot of a block at its shard. -/
def slotOf (M : List Int) (b : Nat) : Nat := b % 4 + 4 * (M.take (b / 4)).count (M.getD (b / 4) 0)
theorem count_take_succ {M : List Int} {k : Nat} (h : k < M.length) (x : Int) : (M.take (k + 1)).count x = (M.take k).count x + if M.getD k 0 = x then 1 else 0 := by
  rw [List.take_succ_eq_append_getElem h, List.count_append]
  simp [List.getElem?_eq_getElem h, List.count_singleton]
theorem slotOf_lt {M : List Int} {b : Nat} (h : b < 32) : slotOf M b < 32 := by
  have h1 : (M.take (b / 4)).count (M.getD (b / 4) 0) ≤ b / 4 := Nat.le_trans List.count_le_length (List.length_take_le _ _)
  unfold slotOf
  omega

set_option maxHeartbeats 1000000 in
theorem place_any (v o0 o1 o2 o3 o4 o5 o6 o7 : Int) (M : List Int) (hM : [o0, o1, o2, o3, o4, o5, o6, o7] = M) (b : Nat) (hb : b < 32) (w : World) :
    Calls Try.prog 16 #[mpv v o0 o1 o2 o3 o4 o5 o6 o7, .int .i64 (b : Int)] w fun e w' => e = .returned (.complex .f64 (floatOfInt .f64 (M.getD (b / 4) 0)) (floatOfInt .f64 ((slotOf M b : Nat) : Int))) ∧ Grows w w' := by
  unfold mpv
  have hlit : ∀ k, k < 8 → (#[.int .i64 v, .int .i64 o0, .int .i64 o1, .int .i64 o2, .int .i64 o3, .int .i64 o4, .int .i64 o5, .int .i64 o6, .int .i64 o7] : Array Value)[1 + k]? = some (.int .i64 (M.getD k 0)) := fun k hk => by rw [← hM]; exact lit9 v o0 o1 o2 o3 o4 o5 o6 o7 k hk
  have h8 : M.length = 8 := by rw [← hM]; rfl
  have HL := Lib.hid hlit
  have H8 := Lib.hid h8
  have hq : b / 4 < 8 := by omega
  have hc0 := (At.new w 24 #[.int .i64 v, .int .i64 o0, .int .i64 o1, .int .i64 o2, .int .i64 o3, .int .i64 o4, .int .i64 o5, .int .i64 o6, .int .i64 o7]).cell (1 + b / 4)
  rw [HL.out _ hq] at hc0
  have hSL : slotOf M b = b % 4 + 4 * (M.take (b / 4)).count (M.getD (b / 4) 0) := rfl
  generalize slotOf M b = sl at *
  have HC := fun (k : Nat) (hk : k < 8) => count_take_succ (M := M) (k := k) (by rw [h8]; exact hk) (M.getD (b / 4) 0)
  have HLE := fun (k : Nat) => Nat.le_trans (List.count_le_length (a := M.getD (b / 4) 0) (l := M.take k)) (List.length_take_le _ _)
  generalize M.getD (b / 4) 0 = sh at *
  have HC := Lib.hid HC
  have HSL := Lib.hid hSL
  clear hSL
  have HLE := Lib.hid HLE
  have hq' : (b : Int) / 4 < 8 := by omega
  have hq0 : (0 : Int) ≤ (b : Int) / 4 := by omega
  clear hM hlit h8
  have hsl : ∀ W, (Instr.sliceAt 22 (.pointer (some ⟨w.heap.size, 1, none⟩)) none (some (.int .i64 ((b : Int) / 4))) none).run Try.prog W = .ok (.slice (some ⟨w.heap.size, 1, none⟩) (b / 4) 8) W := fun W => by
    have := run_sliceAt_h W Try.underlying22 (by kernel_rfl) ⟨w.heap.size, 1, none⟩ .i64 (b / 4) (by omega)
    rwa [show (((b / 4 : Nat)) : Int) = (b : Int) / 4 by omega] at this
  go_enter Try.func16, Try.ntmps16
  go_wp2_with fail
  clear hsl hc0
  go_loopg [6, 21] (b / 4) (fun gh t i wr => ∃ (k : Nat), k + gh = b / 4 ∧ i = .int .i64 (k : Int) ∧ t = .int .i64 (((b % 4 + 4 * (M.take k).count sh : Nat)) : Int) ∧ wr = w.alloc (.cells #[.int .i64 v, .int .i64 o0, .int .i64 o1, .int .i64 o2, .int .i64 o3, .int .i64 o4, .int .i64 o5, .int .i64 o6, .int .i64 o7] 24))
  case atStart => exact ⟨0, by omega, rfl, by simp, rfl⟩
  case round =>
    obtain ⟨k, hk, rfl, rfl, rfl⟩ := hrel
    have hle := HLE.out k
    by_cases hlt : k < b / 4
    · have hc0 := (At.new w 24 #[.int .i64 v, .int .i64 o0, .int .i64 o1, .int .i64 o2, .int .i64 o3, .int .i64 o4, .int .i64 o5, .int .i64 o6, .int .i64 o7]).cell (1 + k)
      rw [HL.out k (by omega)] at hc0
      have HC1 := Lib.hid (HC.out k (by omega))
      generalize M.getD k 0 = s at *
      have hlt' : (k : Int) < (b : Int) / 4 := by omega
      have hk0 : (0 : Int) ≤ (k : Int) := by omega
      by_cases hs : s = sh
      · have hs1 : (s == sh) = true := by simpa using hs
        have HN : Hid ((M.take (k + 1)).count sh = (M.take k).count sh + 1) := by show _ = _; rw [HC1.out, if_pos hs]
        generalize (M.take k).count sh = c at *
        clear hs HC1
        go_wp2_with fail
        go_roundg (gk - 1)
        case measure => omega
        case rel => exact ⟨k + 1, by omega, by go_num, by rw [HN.out]; go_num, rfl⟩
      · have hs1 : (s == sh) = false := by simpa using hs
        have HN : Hid ((M.take (k + 1)).count sh = (M.take k).count sh) := by show _ = _; rw [HC1.out, if_neg hs]; rfl
        generalize (M.take k).count sh = c at *
        clear hs HC1
        go_wp2_with fail
        go_roundg (gk - 1)
        case measure => omega
        case rel => exact ⟨k + 1, by omega, by go_num, by rw [HN.out], rfl⟩
    · obtain rfl : k = b / 4 := by omega
      go_wp2_with fail
      go_ret
      exact ⟨by rw [HSL.out]; exact congrArg (fun z => Ending.returned (.complex .f64 (floatOfInt .f64 sh) (floatOfInt .f64 z))) (by omega), (Grows.refl _).alloc _⟩

/-- What Place tells. -/
def placeE (v : Int) (M : List Int) (b : Nat) : Int := if okM v M then (if M.getD (b / 4) 0 = 0 then 4 else 0) else 2
def placeS (v : Int) (M : List Int) (b : Nat) : Int := if okM v M then M.getD (b / 4) 0 else 0
def placeK (v : Int) (M : List Int) (b : Nat) : Int := if okM v M then (if M.getD (b / 4) 0 = 0 then 0 else slotOf M b) else 0

set_option maxHeartbeats 1000000 in
theorem Place_any (v o0 o1 o2 o3 o4 o5 o6 o7 : Int) (M : List Int) (hM : [o0, o1, o2, o3, o4, o5, o6, o7] = M) (b : Nat) (hb : b < 32) (hok : okM v M = true) (w : World) :
    Calls Try.prog 7 #[mpv v o0 o1 o2 o3 o4 o5 o6 o7, .int .i64 (b : Int)] w fun e w' => e = .returned (.tuple #[.int .i64 (placeS v M b), .int .i64 (placeK v M b), .int .i64 (placeE v M b)]) ∧ Grows w w' := by
  have hC : checkE v M = 0 := by simp [checkE, hok]
  have hbd := (okM_bd hok).2.2
  have h8 : M.length = 8 := by rw [← hM]; rfl
  have hmem : M.getD (b / 4) 0 ∈ M := by
    rw [List.getD_eq_getElem?_getD, List.getElem?_eq_getElem (show b / 4 < M.length by omega)]
    exact List.getElem_mem _
  have hsb := hbd _ hmem
  have hsl := slotOf_lt (M := M) hb
  have hP : ∀ W, Calls Try.prog 16 #[mpv v o0 o1 o2 o3 o4 o5 o6 o7, .int .i64 (b : Int)] W fun e w' => e = .returned (.complex .f64 (floatOfInt .f64 (M.getD (b / 4) 0)) (floatOfInt .f64 ((slotOf M b : Nat) : Int))) ∧ Grows W w' := fun W => place_any v o0 o1 o2 o3 o4 o5 o6 o7 M hM b hb W
  have hK : ∀ W, Calls Try.prog 8 #[mpv v o0 o1 o2 o3 o4 o5 o6 o7] W fun e w' => e = .returned (.int .i64 0) ∧ Grows W w' := fun W => by
    have := check_any v o0 o1 o2 o3 o4 o5 o6 o7 W
    rw [hM, hC] at this
    exact this
  have e1 : placeS v M b = M.getD (b / 4) 0 := by simp [placeS, hok]
  have e2 : placeK v M b = if M.getD (b / 4) 0 = 0 then 0 else ((slotOf M b : Nat) : Int) := by simp [placeK, hok]
  have e3 : placeE v M b = if M.getD (b / 4) 0 = 0 then 4 else 0 := by simp [placeE, hok]
  rw [e1, e2, e3]
  clear e1 e2 e3 hmem h8 hbd hC hok hM
  generalize M.getD (b / 4) 0 = sh at *
  generalize slotOf M b = sl at *
  obtain ⟨s, rfl⟩ : ∃ s : Nat, sh = (s : Int) := ⟨sh.toNat, by omega⟩
  have hs : s < 32 := by omega
  have HP := Lib.hid hP
  have HK := Lib.hid hK
  clear hP hK
  have hw0 : withinB (b : Int) 0 31 = true := by simp [withinB]; omega
  have f1 := fl_eq0 hs
  have f2 := fl_int32 s hs
  have f3 := fl_int32 sl hsl
  have cv := fun (W : World) (B : Nat) (n : Int) (h : floatToIntVal .f64 B .i64 = some n) => run_convert_float_int (P := Try.prog) W 54 3 .f64 .i64 B n (by kernel_rfl) Try.underlying3 h
  have cs := fun W => cv W _ _ f2
  have ck := fun W => cv W _ _ f3
  clear cv f2 f3
  unfold mpv at *
  by_cases h0 : s = 0
  · subst h0
    simp only [Int.natCast_zero, if_true] at *
    go_enter Try.func7, Try.ntmps7
    go_wp2_with fail
    refine (HK.out _).mono ?_
    rintro e w1 ⟨rfl, hb1⟩
    have M1 := ((At.new w 24 #[.int .i64 v, .int .i64 o0, .int .i64 o1, .int .i64 o2, .int .i64 o3, .int .i64 o4, .int .i64 o5, .int .i64 o6, .int .i64 o7]).grows hb1)
    have cm := M1.cell
    go_wp2_with fail
    refine (within_any _ _ _ _).mono ?_
    rw [hw0]
    rintro e w2 ⟨rfl, rfl⟩
    go_wp2_with fail
    refine (HP.out _).mono ?_
    rintro e w2 ⟨rfl, hb2⟩
    clear cm
    go_wp2_with fail
    go_ret3
    exact ⟨rfl, (((Grows.refl _).alloc _).trans hb1).trans hb2⟩
  · have hn : ¬ ((s : Int) = 0) := by omega
    simp only [if_neg hn] at *
    have f4 : (s == 0) = false := by simpa using h0
    rw [f4] at f1
    clear hn h0 f4
    go_enter Try.func7, Try.ntmps7
    go_wp2_with fail
    refine (HK.out _).mono ?_
    rintro e w1 ⟨rfl, hb1⟩
    have M1 := ((At.new w 24 #[.int .i64 v, .int .i64 o0, .int .i64 o1, .int .i64 o2, .int .i64 o3, .int .i64 o4, .int .i64 o5, .int .i64 o6, .int .i64 o7]).grows hb1)
    have cm := M1.cell
    go_wp2_with fail
    refine (within_any _ _ _ _).mono ?_
    rw [hw0]
    rintro e w2 ⟨rfl, rfl⟩
    go_wp2_with fail
    refine (HP.out _).mono ?_
    rintro e w2 ⟨rfl, hb2⟩
    clear cm
    go_wp2_with fail
    go_ret3
    exact ⟨rfl, (((Grows.refl _).alloc _).trans hb1).trans hb2⟩

theorem slot_inj {M : List Int} (h8 : M.length = 8) {j k : Nat} (hj : j < 32) (hk : k < 32) (h1 : M.getD (j / 4) 0 = M.getD (k / 4) 0) (h2 : slotOf M j = slotOf M k) : j = k := by
  have key : ∀ {j k : Nat}, j < 32 → k < 32 → M.getD (j / 4) 0 = M.getD (k / 4) 0 → j / 4 < k / 4 → slotOf M j < slotOf M k := by
    intro j k hj hk h1 hlt
    have hc := count_take_succ (M := M) (k := j / 4) (by omega) (M.getD (k / 4) 0)
    rw [h1, if_pos rfl] at hc
    have hm : (M.take (j / 4 + 1)).count (M.getD (k / 4) 0) ≤ (M.take (k / 4)).count (M.getD (k / 4) 0) := by
      apply List.Sublist.count_le
      exact (List.take_prefix_take_left (by omega)).sublist
    simp only [slotOf, h1]
    omega
  rcases Nat.lt_trichotomy (j / 4) (k / 4) with h | h | h
  · have := key hj hk h1 h; omega
  · simp only [slotOf, h] at h2
    omega
  · have := key hk hj h1.symm h; omega

set_option maxHeartbeats 1000000 in
theorem Block_hit (v o0 o1 o2 o3 o4 o5 o6 o7 : Int) (M : List Int) (hM : [o0, o1, o2, o3, o4, o5, o6, o7] = M) (b : Nat) (hb : b < 32) (hok : okM v M = true) (s : Nat) (hsh : M.getD (b / 4) 0 = (s : Int)) (hs0 : 1 ≤ s) (w : World) :
    Calls Try.prog 9 #[mpv v o0 o1 o2 o3 o4 o5 o6 o7, .int .i64 (s : Int), .int .i64 ((slotOf M b : Nat) : Int)] w fun e w' => e = .returned (.tuple #[.int .i64 (b : Int), .int .i64 0]) ∧ Grows w w' := by
  have hC : checkE v M = 0 := by simp [checkE, hok]
  have hbd := (okM_bd hok).2.2
  have h8 : M.length = 8 := by rw [← hM]; rfl
  have hsl := slotOf_lt (M := M) hb
  have hshs : ∀ j, j < 32 → 0 ≤ M.getD (j / 4) 0 ∧ M.getD (j / 4) 0 ≤ 4 := by
    intro j hj
    apply hbd
    rw [List.getD_eq_getElem?_getD, List.getElem?_eq_getElem (show j / 4 < M.length by omega)]
    exact List.getElem_mem _
  have hs4 : s ≤ 4 := by have := hshs b hb; omega
  have hinj : ∀ j, j < 32 → M.getD (j / 4) 0 = (s : Int) → slotOf M j = slotOf M b → j = b := fun j hj h1 h2 => slot_inj h8 hj hb (h1.trans hsh.symm) h2
  have hP : ∀ (j : Nat), j < 32 → ∀ W, Calls Try.prog 16 #[mpv v o0 o1 o2 o3 o4 o5 o6 o7, .int .i64 (j : Int)] W fun e w' => e = .returned (.complex .f64 (floatOfInt .f64 (M.getD (j / 4) 0)) (floatOfInt .f64 ((slotOf M j : Nat) : Int))) ∧ Grows W w' := fun j hj W => place_any v o0 o1 o2 o3 o4 o5 o6 o7 M hM j hj W
  have hK : ∀ W, Calls Try.prog 8 #[mpv v o0 o1 o2 o3 o4 o5 o6 o7] W fun e w' => e = .returned (.int .i64 0) ∧ Grows W w' := fun W => by
    have := check_any v o0 o1 o2 o3 o4 o5 o6 o7 W
    rw [hM, hC] at this
    exact this
  have HP := Lib.hid hP
  have HK := Lib.hid hK
  have HI := Lib.hid hinj
  have HS := Lib.hid hshs
  have HSH := Lib.hid hsh
  clear hP hK hinj hshs hC hbd h8 hok hM hsh
  have hw1 : withinB (s : Int) 1 4 = true := by simp [withinB]; omega
  have hw2 : withinB ((slotOf M b : Nat) : Int) 0 31 = true := by simp [withinB]; omega
  unfold mpv at *
  generalize hsB : slotOf M b = sl at *
  have HSB := Lib.hid hsB
  clear hsB
  go_enter Try.func9, Try.ntmps9
  go_wp2_with fail
  refine (HK.out _).mono ?_
  rintro e w1 ⟨rfl, hb1⟩
  have M1 := Lib.hid ((At.new w 24 #[.int .i64 v, .int .i64 o0, .int .i64 o1, .int .i64 o2, .int .i64 o3, .int .i64 o4, .int .i64 o5, .int .i64 o6, .int .i64 o7]).grows hb1)
  have G1 := ((Grows.refl w).alloc (.cells #[.int .i64 v, .int .i64 o0, .int .i64 o1, .int .i64 o2, .int .i64 o3, .int .i64 o4, .int .i64 o5, .int .i64 o6, .int .i64 o7] 24)).trans hb1
  go_wp2_with fail
  refine (within_any _ _ _ _).mono ?_
  rw [hw1]
  rintro e w2 ⟨rfl, rfl⟩
  go_wp2_with fail
  refine (within_any _ _ _ _).mono ?_
  rw [hw2]
  rintro e w2 ⟨rfl, rfl⟩
  go_wp2_with fail
  go_loopg [29] (b + 1) (fun gh i wr => ∃ (k : Nat), k + gh = b + 1 ∧ i = .int .i64 (k : Int) ∧ k ≤ b ∧ Grows w1 wr)
  case atStart => exact ⟨0, by omega, rfl, by omega, Grows.refl _⟩
  case round =>
    obtain ⟨k, hk, rfl, hkb, hg⟩ := hrel
    have M2 := (M1.out.grows hg)
    have cm := M2.cell
    have hk32 : (k : Int) < 32 := by omega
    have hsk := HS.out k (by omega)
    have hslk := slotOf_lt (M := M) (show k < 32 by omega)
    have hPk := Lib.hid (HP.out k (by omega))
    have hIk := HI.out k (by omega)
    obtain ⟨t, ht⟩ : ∃ t : Nat, M.getD (k / 4) 0 = (t : Int) := ⟨(M.getD (k / 4) 0).toNat, by omega⟩
    have e1 := fl_eq32 (show t < 32 by omega) (show s < 32 by omega)
    have e2 := fl_eq32 hslk hsl
    by_cases hkk : k = b
    · obtain rfl : b = k := hkk.symm
      have ht' : t = s := by have := HSH.out; omega
      subst ht'
      rw [ht, HSB.out] at hPk
      rw [HSB.out] at e2
      simp only [beq_self_eq_true] at e1 e2
      clear ht hIk hsk
      go_wp2_with fail
      refine (hPk.out _).mono ?_
      rintro e w3 ⟨rfl, hb3⟩
      clear cm
      go_wp2_with fail
      go_ret2
      exact ⟨rfl, (G1.trans hg).trans hb3⟩
    · have hne : ¬ (t = s ∧ slotOf M k = sl) := fun ⟨h1, h2⟩ => hkk (hIk (by rw [ht, h1]) h2)
      have hne' : ((t == s) && (slotOf M k == sl)) = false := by
        rw [Bool.eq_false_iff]
        simpa using hne
      have hfl : (FloatKind.f64.format.order (floatOfInt .f64 (t : Int)) (floatOfInt .f64 (s : Int)) == some .eq && FloatKind.f64.format.order (floatOfInt .f64 ((slotOf M k : Nat) : Int)) (floatOfInt .f64 (sl : Int)) == some .eq) = false := by rw [e1, e2, hne']
      rw [ht] at hPk
      have hcx : ∀ W, (binOp .eql 52 (.complex .f64 (floatOfInt .f64 (t : Int)) (floatOfInt .f64 ((slotOf M k : Nat) : Int))) (.complex .f64 (floatOfInt .f64 (s : Int)) (floatOfInt .f64 (sl : Int)))).run Try.prog W = .ok (.bool false) W := fun W => by rw [run_eql_complex, hfl]
      generalize slotOf M k = slk at *
      clear ht hIk hsk hne hne' e1 e2 hfl
      go_wp2_with fail
      refine (hPk.out _).mono ?_
      rintro e w3 ⟨rfl, hb3⟩
      clear cm
      go_wp2_with fail
      go_roundg (gk - 1)
      case measure => omega
      case rel => exact ⟨k + 1, by omega, by go_num, by omega, hg.trans hb3⟩
end Go.Proofs.Ytimafdiljcglfaa
