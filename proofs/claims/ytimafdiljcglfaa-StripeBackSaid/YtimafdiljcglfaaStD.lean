/-
  StripeOwn's walk.
-/
import Derived.Test.YtimafdiljcglfaaStC
import Derived.Test.YtimafdiljcglfaaQuiet
namespace Go.Proofs.Ytimafdiljcglfaa
open Go.RowKit

set_option maxRecDepth 100000 in
set_option maxHeartbeats 2000000 in
theorem wakes_any (w : World) : Calls Try.prog 6 #[] w fun e w' => e = .returned (.bool true) ∧ Grows w w' := by
  have hz := zmap
  have c1 : ∀ W, Calls Try.prog 7 #[mpv 0 1 2 1 2 1 2 1 2, .int .i64 9] W fun e w' => e = .returned (.tuple #[.int .i64 1, .int .i64 5, .int .i64 0]) ∧ Grows W w' := fun W => by
    have := Place_any 0 1 2 1 2 1 2 1 2 [1, 2, 1, 2, 1, 2, 1, 2] rfl 9 (by omega) (by decide) W
    rwa [show placeS 0 [1, 2, 1, 2, 1, 2, 1, 2] 9 = 1 by decide, show placeK 0 [1, 2, 1, 2, 1, 2, 1, 2] 9 = 5 by decide, show placeE 0 [1, 2, 1, 2, 1, 2, 1, 2] 9 = 0 by decide] at this
  have c2 : ∀ W, Calls Try.prog 9 #[mpv 0 1 2 1 2 1 2 1 2, .int .i64 1, .int .i64 5] W fun e w' => e = .returned (.tuple #[.int .i64 9, .int .i64 0]) ∧ Grows W w' := fun W => by
    have := Block_hit 0 1 2 1 2 1 2 1 2 [1, 2, 1, 2, 1, 2, 1, 2] rfl 9 (by omega) (by decide) 1 rfl (by omega) W
    rwa [show slotOf [1, 2, 1, 2, 1, 2, 1, 2] 9 = 5 by decide] at this
  have c3 := fun W => change_ok0 0 1 2 1 2 1 2 1 2 2 W (by decide) (by decide) (by omega) (by omega)
  have C1 := Lib.hid c1
  have C2 := Lib.hid c2
  have C3 := Lib.hid c3
  clear c1 c2 c3
  unfold mpv at *
  go_enter Try.func6, Try.ntmps6
  go_wp2_with fail
  refine (C1.out _).mono ?_
  rintro e w1 ⟨rfl, hb1⟩
  have A1 := ((At.new w 24 #[.int .i64 0, .int .i64 1, .int .i64 2, .int .i64 1, .int .i64 2, .int .i64 1, .int .i64 2, .int .i64 1, .int .i64 2]).grows hb1)
  have cm := A1.cell
  go_wp2_with fail
  refine (C2.out _).mono ?_
  rintro e w2 ⟨rfl, hb2⟩
  clear cm
  have A2 := A1.grows hb2
  have cm := A2.cell
  go_wp2_with fail
  refine (C3.out _).mono ?_
  rintro e w3 ⟨rfl, hb3⟩
  clear cm
  go_wp2_with fail
  go_ret
  exact ⟨rfl, (((((Grows.refl w).alloc _).trans hb1).trans hb2).trans hb3).alloc _⟩

theorem getD_set_ne {M : List Int} {i j : Nat} (h : i ≠ j) (x : Int) : (M.set i x).getD j 0 = M.getD j 0 := by
  simp [List.getD_eq_getElem?_getD, List.getElem?_set_ne h]
theorem getD_set_eq {M : List Int} {i : Nat} (h : i < M.length) (x : Int) : (M.set i x).getD i 0 = x := by
  simp [List.getD_eq_getElem?_getD, h]
theorem count_set {M : List Int} {i : Nat} (x y : Int) (hx : x ≠ y) (hm : M.getD i 0 ≠ y) : (M.set i x).count y = M.count y := by
  induction M generalizing i with
  | nil => rfl
  | cons a l ih =>
    cases i with
    | zero =>
      simp only [List.getD_cons_zero] at hm
      rw [List.set_cons_zero, List.count_cons_of_ne hx, List.count_cons_of_ne hm]
    | succ i =>
      simp only [List.getD_cons_succ] at hm
      rw [List.set_cons_succ, List.count_cons, List.count_cons, ih hm]
theorem getD_take {M : List Int} {i k : Nat} (h : i < k) : (M.take k).getD i 0 = M.getD i 0 := by
  simp [List.getD_eq_getElem?_getD, List.getElem?_take_of_lt h]
/-- A shard that is not meant keeps its slots. -/
theorem slot_set {M : List Int} {b i : Nat} {x : Int} (hb : b / 4 ≠ i) (hx : x ≠ M.getD (b / 4) 0) (hm : M.getD i 0 ≠ M.getD (b / 4) 0) : slotOf (M.set i x) b = slotOf M b := by
  unfold slotOf
  rw [getD_set_ne (Ne.symm hb)]
  congr 2
  by_cases h : i < b / 4
  · rw [List.take_set, count_set x _ hx (by rw [getD_take h]; exact hm)]
  · rw [List.take_set, List.set_eq_of_length_le (by simp; omega)]
theorem okM_set {v : Int} {M : List Int} {i : Nat} {t : Int} (h : okM v M = true) (ht : 1 ≤ t ∧ t ≤ 4) (hv : v < 1099511627776) : okM (v + 1) (M.set i t) = true := by
  have hb := okM_bd h
  simp only [okM, withinB, Bool.and_eq_true, decide_eq_true_eq, List.all_eq_true]
  refine ⟨by omega, fun s hs => ?_⟩
  rcases List.mem_or_eq_of_mem_set hs with h1 | h1
  · exact hb.2.2 s h1
  · omega

set_option maxRecDepth 100000 in
set_option maxHeartbeats 4000000 in
theorem own_walk (v o0 o1 o2 o3 o4 o5 o6 o7 s t : Int) (w : World) :
    Calls Try.prog 3 #[mpv v o0 o1 o2 o3 o4 o5 o6 o7, .agg #[.int .i64 s, .int .i64 t]] w fun e w' => e = .returned (.bool true) ∧ Grows w w' := by
  have hz := zmap
  have G0 := ((Grows.refl w).alloc (.cells #[.int .i64 v, .int .i64 o0, .int .i64 o1, .int .i64 o2, .int .i64 o3, .int .i64 o4, .int .i64 o5, .int .i64 o6, .int .i64 o7] 24)).alloc (.cells #[.int .i64 s, .int .i64 t] 26)
  have M0 := Lib.hid ((At.new w 24 #[.int .i64 v, .int .i64 o0, .int .i64 o1, .int .i64 o2, .int .i64 o3, .int .i64 o4, .int .i64 o5, .int .i64 o6, .int .i64 o7]).alloc (.cells #[.int .i64 s, .int .i64 t] 26))
  have C0 := At.new (w.alloc (.cells #[.int .i64 v, .int .i64 o0, .int .i64 o1, .int .i64 o2, .int .i64 o3, .int .i64 o4, .int .i64 o5, .int .i64 o6, .int .i64 o7] 24)) 26 #[.int .i64 s, .int .i64 t]
  simp only [World.size_alloc] at C0
  have C0 := Lib.hid C0
  by_cases hE : changeE v [o0, o1, o2, o3, o4, o5, o6, o7] s t = 0
  · have hok := changeE_z hE
    have hb := mayB_bd hok.2.1
    have hvb := okM_bd hok.1
    have hPM : ∀ (k : Nat), k < 32 → ∀ W, Calls Try.prog 7 #[mpv v o0 o1 o2 o3 o4 o5 o6 o7, .int .i64 (k : Int)] W fun e w' => e = .returned (.tuple #[.int .i64 (placeS v [o0, o1, o2, o3, o4, o5, o6, o7] k), .int .i64 (placeK v [o0, o1, o2, o3, o4, o5, o6, o7] k), .int .i64 (placeE v [o0, o1, o2, o3, o4, o5, o6, o7] k)]) ∧ Grows W w' := fun k hk W => Place_any v o0 o1 o2 o3 o4 o5 o6 o7 _ rfl k hk hok.1 W
    have hch : ∀ W, Calls Try.prog 5 #[mpv v o0 o1 o2 o3 o4 o5 o6 o7, .agg #[.int .i64 s, .int .i64 t]] W (ChangeOk W v [o0, o1, o2, o3, o4, o5, o6, o7] s.toNat t) := fun W => change_ok v o0 o1 o2 o3 o4 o5 o6 o7 s t W hE
    have hlit : (#[.int .i64 v, .int .i64 o0, .int .i64 o1, .int .i64 o2, .int .i64 o3, .int .i64 o4, .int .i64 o5, .int .i64 o6, .int .i64 o7] : Array Value)[1 + s.toNat]? = some (.int .i64 ([o0, o1, o2, o3, o4, o5, o6, o7].getD s.toNat 0)) := lit9 v o0 o1 o2 o3 o4 o5 o6 o7 s.toNat (by omega)
    have HCH := Lib.hid hch
    have HPM := Lib.hid hPM
    have HLIT := Lib.hid hlit
    have h8 : [o0, o1, o2, o3, o4, o5, o6, o7].length = 8 := rfl
    generalize hM : [o0, o1, o2, o3, o4, o5, o6, o7] = M at *
    have HM := Lib.hid hM
    have H8 := Lib.hid h8
    have HOK := Lib.hid hok
    clear hE hch hPM hlit h8 hM hok
    unfold mpv at *
    go_enter Try.func3, Try.ntmps3
    go_wp2_with fail
    refine (HCH.out _).mono ?_
    rintro e w1 ⟨p0, p1, p2, p3, p4, p5, p6, p7, rfl, hN, hb1⟩
    have hokN : okM (v + 1) [p0, p1, p2, p3, p4, p5, p6, p7] = true := by rw [hN]; exact okM_set HOK.out.1 (by omega) (by have := HOK.out.2.2; omega)
    have hPN : ∀ (k : Nat), k < 32 → ∀ W, Calls Try.prog 7 #[mpv (v + 1) p0 p1 p2 p3 p4 p5 p6 p7, .int .i64 (k : Int)] W fun e w' => e = .returned (.tuple #[.int .i64 (placeS (v + 1) [p0, p1, p2, p3, p4, p5, p6, p7] k), .int .i64 (placeK (v + 1) [p0, p1, p2, p3, p4, p5, p6, p7] k), .int .i64 (placeE (v + 1) [p0, p1, p2, p3, p4, p5, p6, p7] k)]) ∧ Grows W w' := fun k hk W => Place_any (v + 1) p0 p1 p2 p3 p4 p5 p6 p7 _ rfl k hk hokN W
    have hKN : ∀ W, Calls Try.prog 8 #[mpv (v + 1) p0 p1 p2 p3 p4 p5 p6 p7] W fun e w' => e = .returned (.int .i64 0) ∧ Grows W w' := fun W => by
      have := check_any (v + 1) p0 p1 p2 p3 p4 p5 p6 p7 W
      rw [show checkE (v + 1) [p0, p1, p2, p3, p4, p5, p6, p7] = 0 by simp [checkE, hokN]] at this
      exact this
    have HPN := Lib.hid hPN
    have HKN := Lib.hid hKN
    have HN := Lib.hid hN
    have HOKN := Lib.hid hokN
    clear hPN hKN hN hokN
    unfold mpv at *
    have A1 := Lib.hid ((M0.out.grows hb1).alloc (.cells #[.int .i64 (v + 1), .int .i64 p0, .int .i64 p1, .int .i64 p2, .int .i64 p3, .int .i64 p4, .int .i64 p5, .int .i64 p6, .int .i64 p7] 24))
    have B1 := Lib.hid ((C0.out.grows hb1).alloc (.cells #[.int .i64 (v + 1), .int .i64 p0, .int .i64 p1, .int .i64 p2, .int .i64 p3, .int .i64 p4, .int .i64 p5, .int .i64 p6, .int .i64 p7] 24))
    have N1 := Lib.hid (At.new w1 24 #[.int .i64 (v + 1), .int .i64 p0, .int .i64 p1, .int .i64 p2, .int .i64 p3, .int .i64 p4, .int .i64 p5, .int .i64 p6, .int .i64 p7])
    have G1 := (G0.trans hb1).alloc (.cells #[.int .i64 (v + 1), .int .i64 p0, .int .i64 p1, .int .i64 p2, .int .i64 p3, .int .i64 p4, .int .i64 p5, .int .i64 p6, .int .i64 p7] 24)
    have hv1 : v + 1 ≤ 1099511627776 := by have := HOK.out.2.2; omega
    have hv0 := hvb.1
    clear hvb
    go_wp2_with fail
    go_loopg [7] 32 (fun gh i wr => ∃ (k : Nat), k + gh = 32 ∧ i = .int .i64 (k : Int) ∧ Grows (w1.alloc (.cells #[.int .i64 (v + 1), .int .i64 p0, .int .i64 p1, .int .i64 p2, .int .i64 p3, .int .i64 p4, .int .i64 p5, .int .i64 p6, .int .i64 p7] 24)) wr)
    case atStart => exact ⟨0, by omega, rfl, Grows.refl _⟩
    case round =>
      obtain ⟨k, hk, rfl, hg⟩ := hrel
      have A2 := A1.out.grows hg
      have B2 := B1.out.grows hg
      have N2 := N1.out.grows hg
      have cm := A2.cell
      have G2 := G1.trans hg
      by_cases hlt : k < 32
      · have hlt' : (k : Int) < 32 := by omega
        have P1 := Lib.hid (HPM.out k hlt)
        have P2 := Lib.hid (HPN.out k hlt)
        have hokS : okM (v + 1) (M.set s.toNat t) = true := by rw [← HN.out]; exact HOKN.out
        have e1 : placeS v M k = M.getD (k / 4) 0 := by simp [placeS, HOK.out.1]
        have e2 : placeS (v + 1) [p0, p1, p2, p3, p4, p5, p6, p7] k = (M.set s.toNat t).getD (k / 4) 0 := by rw [HN.out]; simp [placeS, hokS]
        have e3 : placeE v M k = if M.getD (k / 4) 0 = 0 then 4 else 0 := by simp [placeE, HOK.out.1]
        have e4 : placeE (v + 1) [p0, p1, p2, p3, p4, p5, p6, p7] k = if (M.set s.toNat t).getD (k / 4) 0 = 0 then 4 else 0 := by rw [HN.out]; simp [placeE, hokS]
        have e5 : placeK v M k = if M.getD (k / 4) 0 = 0 then 0 else ((slotOf M k : Nat) : Int) := by simp [placeK, HOK.out.1]
        have e6 : placeK (v + 1) [p0, p1, p2, p3, p4, p5, p6, p7] k = if (M.set s.toNat t).getD (k / 4) 0 = 0 then 0 else ((slotOf (M.set s.toNat t) k : Nat) : Int) := by rw [HN.out]; simp [placeK, hokS]
        by_cases hks : (k : Int) / 4 = s
        · have hks' : k / 4 = s.toNat := by omega
          rw [hks', getD_set_eq (by rw [H8.out]; omega)] at e2 e4
          rw [if_neg (by omega)] at e4
          rw [e2, e4] at P2
          clear e1 e2 e3 e4 e5 e6
          have hks1 : ((k : Int) / 4 == s) = true := by simpa using hks
          clear hks
          generalize placeS v M k = a1 at *
          generalize placeE v M k = a2 at *
          generalize placeK v M k = a3 at *
          generalize placeK (v + 1) [p0, p1, p2, p3, p4, p5, p6, p7] k = a4 at *
          go_wp2_with fail
          refine (P1.out _).mono ?_
          rintro e w3 ⟨rfl, hb3⟩
          clear cm
          have cn := (N2.grows hb3).cell
          go_wp2_with fail
          refine (P2.out _).mono ?_
          rintro e w4 ⟨rfl, hb4⟩
          clear cn
          have cc := (B2.grows (hb3.trans hb4)).cell
          go_wp2_with fail
          go_roundg (gk - 1)
          case measure => omega
          case rel => exact ⟨k + 1, by omega, by go_num, (hg.trans hb3).trans hb4⟩
        · have hks' : s.toNat ≠ k / 4 := by omega
          rw [getD_set_ne hks'] at e2 e4 e6
          have hks1 : ((k : Int) / 4 == s) = false := by simpa using hks
          have hsl := fun h1 h2 => slot_set (M := M) (b := k) (i := s.toNat) (x := t) (Ne.symm hks') h1 h2
          rw [← HN.out] at e6 hsl
          have HLIT' := HLIT.out
          generalize M.getD (k / 4) 0 = sh at *
          generalize M.getD s.toNat 0 = ms at *
          rw [e1, e3, e5] at P1
          rw [e2, e4, e6] at P2
          clear e1 e2 e3 e4 e5 e6 hks hks'
          generalize (if sh = 0 then (4 : Int) else 0) = ee at *
          have cl := A2.cell (1 + s.toNat)
          rw [HLIT'] at cl
          generalize hk3 : (if sh = 0 then (0 : Int) else ((slotOf M k : Nat) : Int)) = a3 at *
          generalize hk4 : (if sh = 0 then (0 : Int) else ((slotOf [p0, p1, p2, p3, p4, p5, p6, p7] k : Nat) : Int)) = a4 at *
          by_cases h1 : sh = t
          · have h1' : (sh != t) = false := by simpa using h1
            clear h1 hsl cl HLIT' hk3 hk4 hokS
            go_wp2_with fail
            refine (P1.out _).mono ?_
            rintro e w3 ⟨rfl, hb3⟩
            clear cm
            have cn := (N2.grows hb3).cell
            go_wp2_with fail
            refine (P2.out _).mono ?_
            rintro e w4 ⟨rfl, hb4⟩
            clear cn
            have cc := (B2.grows (hb3.trans hb4)).cell
            have cl4 := (A2.grows (hb3.trans hb4)).cell (1 + s.toNat)
            try rw [HLIT'] at cl4
            go_wp2_with fail
            go_roundg (gk - 1)
            case measure => omega
            case rel => exact ⟨k + 1, by omega, by go_num, (hg.trans hb3).trans hb4⟩
          · have h1' : (sh != t) = true := by simpa using h1
            by_cases h2 : sh = ms
            · have h2' : (sh != ms) = false := by simpa using h2
              clear h1 h2 hsl hk3 hk4 hokS cl
              go_wp2_with fail
              refine (P1.out _).mono ?_
              rintro e w3 ⟨rfl, hb3⟩
              clear cm
              have cn := (N2.grows hb3).cell
              go_wp2_with fail
              refine (P2.out _).mono ?_
              rintro e w4 ⟨rfl, hb4⟩
              clear cn
              have cc := (B2.grows (hb3.trans hb4)).cell
              have cl4 := (A2.grows (hb3.trans hb4)).cell (1 + s.toNat)
              try rw [HLIT'] at cl4
              go_wp2_with fail
              go_roundg (gk - 1)
              case measure => omega
              case rel => exact ⟨k + 1, by omega, by go_num, (hg.trans hb3).trans hb4⟩
            · have h2' : (sh != ms) = true := by simpa using h2
              have h3 : a3 = a4 := by rw [← hk3, ← hk4, hsl (Ne.symm h1) (Ne.symm h2)]
              clear h1 h2 hsl hk3 hk4 hokS cl
              obtain rfl := h3
              go_wp2_with fail
              refine (P1.out _).mono ?_
              rintro e w3 ⟨rfl, hb3⟩
              clear cm
              have cn := (N2.grows hb3).cell
              go_wp2_with fail
              refine (P2.out _).mono ?_
              rintro e w4 ⟨rfl, hb4⟩
              clear cn
              have cc := (B2.grows (hb3.trans hb4)).cell
              have cl4 := (A2.grows (hb3.trans hb4)).cell (1 + s.toNat)
              try rw [HLIT'] at cl4
              go_wp2_with fail
              go_roundg (gk - 1)
              case measure => omega
              case rel => exact ⟨k + 1, by omega, by go_num, (hg.trans hb3).trans hb4⟩
      · obtain rfl : k = 32 := by omega
        clear cm
        have c0 := A2.cell
        have c1 := N2.cell
        go_wp2_with fail
        refine (HKN.out _).mono ?_
        rintro e w3 ⟨rfl, hb3⟩
        clear c0 c1
        go_wp2_with fail
        refine (wakes_any _).mono ?_
        rintro e w4 ⟨rfl, hb4⟩
        go_wp2_with fail
        go_ret
        exact ⟨rfl, (G2.trans hb3).trans hb4⟩
  · refine Calls.mono (w := w) ?_ fun _ _ h => h
    have HB := Lib.hid (fun W => change_bad v o0 o1 o2 o3 o4 o5 o6 o7 s t W hE)
    generalize changeE v [o0, o1, o2, o3, o4, o5, o6, o7] s t = eA at *
    have h1 : (eA == 0) = false := by simpa using hE
    have h2 : (eA != 0) = true := by simpa using hE
    clear hE
    unfold mpv at *
    go_enter Try.func3, Try.ntmps3
    go_wp2_with fail
    refine (HB.out _).mono ?_
    rintro e w1 ⟨rfl, hb1⟩
    go_wp2_with fail
    refine (wakes_any _).mono ?_
    rintro e w2 ⟨rfl, hb2⟩
    go_wp2_with fail
    go_ret
    exact ⟨rfl, ((G0.trans hb1).alloc _).trans hb2⟩
end Go.Proofs.Ytimafdiljcglfaa
