/-
  cashboxref27.May.
-/
import Derived.Test.YtfigoeoimefngaaWjB
import Derived.Test.YtfigoeoimefngaaZa
namespace Go.Proofs.Ytfigoeoimefngaa
open Go.RowKit Go.Maps Go.Shelf

set_option maxRecDepth 100000 in
set_option maxHeartbeats 8000000 in
theorem may27_any (L : List Sn) (n : Nat) (hn : L.length = n) (hL : n ≤ 1048576) (a : Option Addr) (cap : Nat) (w : World) (hr : Rd w a (rowsOf Sn.cs L)) :
    Calls Try.prog 31 #[.slice a n cap] w fun e w' => e = .returned (.bool (mayB L)) ∧ Grows w w' := by
  have HR := Lib.hid hr
  have HN := Lib.hid hn
  have HNL := Lib.hid hL
  have HNA := Lib.hid named7_any
  unfold Nm.v at HNA
  have HFA := Lib.hid (fun q m W (h : Rd W a (rowsOf Sn.cs L)) => first_any L n hn hL a cap q m W h)
  clear hr hn hL
  go_enter Try.func31, Try.ntmps31
  go_wp2_with fail
  go_loopg [3] n (fun gk v3 wr => ∃ i : Nat, gk + i = n ∧ v3 = .int .i64 (i : Int) ∧ Grows w wr ∧ ∀ j, j < i → okAt L j = true)
  case atStart => exact ⟨0, by omega, rfl, Grows.refl _, fun j hj => by omega⟩
  case round =>
    obtain ⟨i, hi, rfl, hg, h0⟩ := hrel
    have HGW := Lib.hid hg
    have H0 := Lib.hid h0
    clear hg h0
    by_cases hlt : i < n
    · have hkl : i < L.length := by rw [HN.out]; exact hlt
      have HLT := Lib.hid hkl
      obtain ⟨g, off, rfl, hgw, hc⟩ := cells14 (HR.out.grows HGW.out) hkl
      have HX : Hid (L[i]? = some L[i]) := Lib.hid (List.getElem?_eq_getElem hkl)
      generalize L[i] = x at *
      obtain ⟨xk, m, xb, x0, x1, x2, x3, x4, x5, x6, x7, xe⟩ := x
      obtain ⟨c0, c1, c2, c3, c4, c5, c6, c7, c8, c9, c10, c11, c12, c13⟩ := cells14_at hc
      simp only at c0 c1 c2 c3 c4 c5 c6 c7 c8 c9 c10 c11 c12 c13
      have hlt' : (i : Int) < (n : Int) := by omega
      have hi0 : (0 : Int) ≤ (i : Int) := by omega
      have hwr : IntKind.i64.wrap ((i : Int) + 1) = (i : Int) + 1 := IntWalk.i64_in _ (by have := HNL.out; omega)
      clear hc hkl
      by_cases hk0 : xk < 0
      · have HNM : Hid (true = true) := Lib.hid rfl
        go_wp2_with fail
        go_ret
        exact ⟨by
          rw [may_false HLT.out (by
            rw [← Bool.not_eq_true, may_ref HX.out]
            rintro ⟨q1, q2, q3, q4, q5, q6, q7, q8, q9⟩
            dsimp only at q1 q2 q3 q4 q5 q6 q7 q8 q9
            first | omega | (rw [HNM.out] at q3; cases q3))]
          rfl, HGW.out.alloc _⟩
      · by_cases hk5 : 5 < xk
        · have HNM : Hid (true = true) := Lib.hid rfl
          go_wp2_with fail
          go_ret
          exact ⟨by
            rw [may_false HLT.out (by
              rw [← Bool.not_eq_true, may_ref HX.out]
              rintro ⟨q1, q2, q3, q4, q5, q6, q7, q8, q9⟩
              dsimp only at q1 q2 q3 q4 q5 q6 q7 q8 q9
              first | omega | (rw [HNM.out] at q3; cases q3))]
            rfl, HGW.out.alloc _⟩
        · cases hnm : namedB m
          · have HNM := Lib.hid hnm
            go_wp2_with fail
            refine (HNA.out _ _).mono ?_
            rintro e w5 ⟨rfl, hg5⟩
            rw [hnm]
            go_wp2_with fail
            go_ret
            exact ⟨by
              rw [may_false HLT.out (by
                rw [← Bool.not_eq_true, may_ref HX.out]
                rintro ⟨q1, q2, q3, q4, q5, q6, q7, q8, q9⟩
                dsimp only at q1 q2 q3 q4 q5 q6 q7 q8 q9
                first | omega | (rw [HNM.out] at q3; cases q3))]
              rfl, (HGW.out.alloc _).trans hg5⟩
          · have HNM := Lib.hid hnm
            have hxb := At.new wr 36 #[.int .i8 xk, .int .i64 m.s, .int .i64 m.i, .int .i64 m.t, .int .i64 xb, .int .u8 x0, .int .u8 x1, .int .u8 x2, .int .u8 x3, .int .u8 x4, .int .u8 x5, .int .u8 x6, .int .u8 x7, .int .i64 xe]
            have HXB := Lib.hid hxb
            clear hxb
            go_wp2_with fail
            refine (HNA.out _ _).mono ?_
            rintro e w5 ⟨rfl, hg5⟩
            rw [hnm]
            have HX5 := Lib.hid (HXB.out.grows hg5)
            have HG5 := Lib.hid ((HGW.out.alloc _).trans hg5)
            clear hg5 HXB hnm c0 c1 c2 c3 c4 c5 c6 c7 c8 c9 c10 c11 c12 c13
            generalize wr.heap.size = X at *
            have LN : Hid (∀ W, Grows w5 W → (loadVar 29 ⟨X, 1, none⟩).run Try.prog W = .ok (.agg #[.int .i64 m.s, .int .i64 m.i, .int .i64 m.t]) W) := Lib.hid (ld_mid (P := Try.prog) (cs := [.int .i8 xk, .int .i64 m.s, .int .i64 m.i, .int .i64 m.t, .int .i64 xb, .int .u8 x0, .int .u8 x1, .int .u8 x2, .int .u8 x3, .int .u8 x4, .int .u8 x5, .int .u8 x6, .int .u8 x7, .int .i64 xe]) (o := 1) (n := 3) HX5.out Try.underlying29 rfl (by simp) (by kernel_rfl))
            have C0 : ∀ W, Grows w5 W → Hid (Calls Try.prog 32 #[.slice (some ⟨g, off, none⟩) n cap, .int .i8 0, .agg #[.int .i64 m.s, .int .i64 m.i, .int .i64 m.t]] W fun e w' => e = .returned (.int .i64 (fstI 0 m L)) ∧ Grows W w') := fun W hw => Lib.hid (HFA.out 0 m W (HR.out.grows (HG5.out.trans hw)))
            have C3 : ∀ W, Grows w5 W → Hid (Calls Try.prog 32 #[.slice (some ⟨g, off, none⟩) n cap, .int .i8 3, .agg #[.int .i64 m.s, .int .i64 m.i, .int .i64 m.t]] W fun e w' => e = .returned (.int .i64 (fstI 3 m L)) ∧ Grows W w') := fun W hw => Lib.hid (HFA.out 3 m W (HR.out.grows (HG5.out.trans hw)))
            go_wp2_with fail
            refine wp_region_class w5 (by kernel_rfl) (by kernel_rfl) (Grows.refl _) ?_
            repeat (first
              | go_big_quiet_skip
              | (go_big_quiet_want; first
                  | ((with_reducible refine quiet_load (b := X) (off := 1) ?_ LN.out ?_); rfl; (simp only [Act.put, List.setIfInBounds_toArray, List.set_cons_zero, List.set_cons_succ]); go_big_quiet_on)
                  | (go_big_quiet_op; first
                      | go_big_quiet_on
                      | (refine ⟨_, fun _ _ => rfl, ?_⟩; go_big_quiet_on)
                      | go_big_quiet_call (first
                        | (intro hC; go_at_call 32; (with_reducible refine (C0 _ hC).out.mono ?_); rintro e w11 ⟨rfl, hg⟩; exact ⟨rfl, hC.trans hg⟩)
                        | (intro hC; go_at_call 32; (with_reducible refine (C3 _ hC).out.mono ?_); rintro e w11 ⟨rfl, hg⟩; exact ⟨rfl, hC.trans hg⟩)))))
            refine wpQuiet_nil ?_
            intro w6 hC6
            have HX6 := Lib.hid (HX5.out.grows hC6)
            have HG6 := Lib.hid (HG5.out.trans hC6)
            clear hC6 HX5 HG5 LN C0 C3
            by_cases hb1 : fstI 0 m L < 0
            · go_wp2_with fail
              go_ret
              exact ⟨by
                rw [may_false HLT.out (by
                  rw [← Bool.not_eq_true, may_ref HX.out]
                  rintro ⟨q1, q2, q3, q4, q5, q6, q7, q8, q9⟩
                  dsimp only at q1 q2 q3 q4 q5 q6 q7 q8 q9
                  first | omega | (rw [HNM.out] at q3; cases q3))]
                rfl, HG6.out⟩
            · by_cases hb2 : (i : Int) < fstI 0 m L
              · go_wp2_with fail
                go_ret
                exact ⟨by
                  rw [may_false HLT.out (by
                    rw [← Bool.not_eq_true, may_ref HX.out]
                    rintro ⟨q1, q2, q3, q4, q5, q6, q7, q8, q9⟩
                    dsimp only at q1 q2 q3 q4 q5 q6 q7 q8 q9
                    first | omega | (rw [HNM.out] at q3; cases q3))]
                  rfl, HG6.out⟩
              · rcases (show xk = 0 ∨ xk = 1 ∨ xk = 2 ∨ xk = 3 ∨ xk = 4 ∨ xk = 5 by omega) with rfl | rfl | rfl | rfl | rfl | rfl
                · have cx := HX6.out.cell
                  go_wp2_with fail
                  refine (HFA.out 0 m _ (HR.out.grows HG6.out)).mono ?_
                  rintro e w7 ⟨rfl, hg7⟩
                  have HX7 := Lib.hid (HX6.out.grows hg7)
                  have HG7 := Lib.hid (HG6.out.trans hg7)
                  clear cx hg7
                  have cx := HX7.out.cell
                  by_cases ho : fstI 0 m L = (i : Int)
                  case neg =>
                    have e2 : (fstI 0 m L != (i : Int)) = true := by simp [ho]
                    go_wp2_with fail
                    go_ret
                    exact ⟨by
                      rw [may_false HLT.out (by
                        rw [← Bool.not_eq_true, may_ref HX.out]
                        rintro ⟨q1, q2, q3, q4, q5, q6, q7, q8, q9⟩
                        dsimp only at q1 q2 q3 q4 q5 q6 q7 q8 q9
                        first | omega | (rw [HNM.out] at q3; cases q3))]
                      rfl, HG7.out⟩
                  case pos =>
                    have e2 : (fstI 0 m L != (i : Int)) = false := by simp [ho]
                    go_wp2_with fail
                    go_roundg (gk - 1)
                    case measure => omega
                    exact ⟨i + 1, by omega, by go_num, HG7.out, fun j hj => by
                      rcases Nat.lt_or_ge j i with h | h
                      · exact H0.out j h
                      · rw [show j = i by omega, may_ref HX.out]
                        dsimp only
                        refine ⟨by omega, by omega, HNM.out, ?_⟩
                        omega⟩
                · have cx := HX6.out.cell
                  by_cases hb3 : xb < 0
                  · go_wp2_with fail
                    go_ret
                    exact ⟨by
                      rw [may_false HLT.out (by
                        rw [← Bool.not_eq_true, may_ref HX.out]
                        rintro ⟨q1, q2, q3, q4, q5, q6, q7, q8, q9⟩
                        dsimp only at q1 q2 q3 q4 q5 q6 q7 q8 q9
                        first | omega | (rw [HNM.out] at q3; cases q3))]
                      rfl, HG6.out⟩
                  · by_cases hb4 : 32 ≤ xb
                    · go_wp2_with fail
                      go_ret
                      exact ⟨by
                        rw [may_false HLT.out (by
                          rw [← Bool.not_eq_true, may_ref HX.out]
                          rintro ⟨q1, q2, q3, q4, q5, q6, q7, q8, q9⟩
                          dsimp only at q1 q2 q3 q4 q5 q6 q7 q8 q9
                          first | omega | (rw [HNM.out] at q3; cases q3))]
                        rfl, HG6.out⟩
                    · by_cases hc1 : 0 ≤ fstI 3 m L
                      · by_cases hc2 : fstI 3 m L < (i : Int)
                        · go_wp2_with fail
                          go_ret
                          exact ⟨by
                            rw [may_false HLT.out (by
                              rw [← Bool.not_eq_true, may_ref HX.out]
                              rintro ⟨q1, q2, q3, q4, q5, q6, q7, q8, q9⟩
                              dsimp only at q1 q2 q3 q4 q5 q6 q7 q8 q9
                              first | omega | (rw [HNM.out] at q3; cases q3))]
                            rfl, HG6.out⟩
                        · go_wp2_with fail
                          go_roundg (gk - 1)
                          case measure => omega
                          exact ⟨i + 1, by omega, by go_num, HG6.out, fun j hj => by
                            rcases Nat.lt_or_ge j i with h | h
                            · exact H0.out j h
                            · rw [show j = i by omega, may_ref HX.out]
                              dsimp only
                              refine ⟨by omega, by omega, HNM.out, ?_⟩
                              omega⟩
                      · go_wp2_with fail
                        go_roundg (gk - 1)
                        case measure => omega
                        exact ⟨i + 1, by omega, by go_num, HG6.out, fun j hj => by
                          rcases Nat.lt_or_ge j i with h | h
                          · exact H0.out j h
                          · rw [show j = i by omega, may_ref HX.out]
                            dsimp only
                            refine ⟨by omega, by omega, HNM.out, ?_⟩
                            omega⟩
                · have cx := HX6.out.cell
                  by_cases hb3 : xb < 0
                  · go_wp2_with fail
                    go_ret
                    exact ⟨by
                      rw [may_false HLT.out (by
                        rw [← Bool.not_eq_true, may_ref HX.out]
                        rintro ⟨q1, q2, q3, q4, q5, q6, q7, q8, q9⟩
                        dsimp only at q1 q2 q3 q4 q5 q6 q7 q8 q9
                        first | omega | (rw [HNM.out] at q3; cases q3))]
                      rfl, HG6.out⟩
                  · by_cases hb4 : 32 ≤ xb
                    · go_wp2_with fail
                      go_ret
                      exact ⟨by
                        rw [may_false HLT.out (by
                          rw [← Bool.not_eq_true, may_ref HX.out]
                          rintro ⟨q1, q2, q3, q4, q5, q6, q7, q8, q9⟩
                          dsimp only at q1 q2 q3 q4 q5 q6 q7 q8 q9
                          first | omega | (rw [HNM.out] at q3; cases q3))]
                        rfl, HG6.out⟩
                    · by_cases hc1 : 0 ≤ fstI 3 m L
                      · by_cases hc2 : fstI 3 m L < (i : Int)
                        · go_wp2_with fail
                          go_ret
                          exact ⟨by
                            rw [may_false HLT.out (by
                              rw [← Bool.not_eq_true, may_ref HX.out]
                              rintro ⟨q1, q2, q3, q4, q5, q6, q7, q8, q9⟩
                              dsimp only at q1 q2 q3 q4 q5 q6 q7 q8 q9
                              first | omega | (rw [HNM.out] at q3; cases q3))]
                            rfl, HG6.out⟩
                        · go_wp2_with fail
                          go_roundg (gk - 1)
                          case measure => omega
                          exact ⟨i + 1, by omega, by go_num, HG6.out, fun j hj => by
                            rcases Nat.lt_or_ge j i with h | h
                            · exact H0.out j h
                            · rw [show j = i by omega, may_ref HX.out]
                              dsimp only
                              refine ⟨by omega, by omega, HNM.out, ?_⟩
                              omega⟩
                      · go_wp2_with fail
                        go_roundg (gk - 1)
                        case measure => omega
                        exact ⟨i + 1, by omega, by go_num, HG6.out, fun j hj => by
                          rcases Nat.lt_or_ge j i with h | h
                          · exact H0.out j h
                          · rw [show j = i by omega, may_ref HX.out]
                            dsimp only
                            refine ⟨by omega, by omega, HNM.out, ?_⟩
                            omega⟩
                · have cx := HX6.out.cell
                  go_wp2_with fail
                  refine (HFA.out 3 m _ (HR.out.grows HG6.out)).mono ?_
                  rintro e w7 ⟨rfl, hg7⟩
                  have HX7 := Lib.hid (HX6.out.grows hg7)
                  have HG7 := Lib.hid (HG6.out.trans hg7)
                  clear cx hg7
                  have cx := HX7.out.cell
                  by_cases ho : fstI 3 m L = (i : Int)
                  case neg =>
                    have e2 : (fstI 3 m L != (i : Int)) = true := by simp [ho]
                    go_wp2_with fail
                    go_ret
                    exact ⟨by
                      rw [may_false HLT.out (by
                        rw [← Bool.not_eq_true, may_ref HX.out]
                        rintro ⟨q1, q2, q3, q4, q5, q6, q7, q8, q9⟩
                        dsimp only at q1 q2 q3 q4 q5 q6 q7 q8 q9
                        first | omega | (rw [HNM.out] at q3; cases q3))]
                      rfl, HG7.out⟩
                  case pos =>
                    have e2 : (fstI 3 m L != (i : Int)) = false := by simp [ho]
                    go_wp2_with fail
                    go_roundg (gk - 1)
                    case measure => omega
                    exact ⟨i + 1, by omega, by go_num, HG7.out, fun j hj => by
                      rcases Nat.lt_or_ge j i with h | h
                      · exact H0.out j h
                      · rw [show j = i by omega, may_ref HX.out]
                        dsimp only
                        refine ⟨by omega, by omega, HNM.out, ?_⟩
                        omega⟩
                · have cx := HX6.out.cell
                  go_wp2_with fail
                  refine (HFA.out 4 m _ (HR.out.grows HG6.out)).mono ?_
                  rintro e w7 ⟨rfl, hg7⟩
                  have HX7 := Lib.hid (HX6.out.grows hg7)
                  have HG7 := Lib.hid (HG6.out.trans hg7)
                  clear cx hg7
                  have cx := HX7.out.cell
                  by_cases ho : fstI 4 m L = (i : Int)
                  case neg =>
                    have e2 : (fstI 4 m L != (i : Int)) = true := by simp [ho]
                    go_wp2_with fail
                    go_ret
                    exact ⟨by
                      rw [may_false HLT.out (by
                        rw [← Bool.not_eq_true, may_ref HX.out]
                        rintro ⟨q1, q2, q3, q4, q5, q6, q7, q8, q9⟩
                        dsimp only at q1 q2 q3 q4 q5 q6 q7 q8 q9
                        first | omega | (rw [HNM.out] at q3; cases q3))]
                      rfl, HG7.out⟩
                  case pos =>
                    have e2 : (fstI 4 m L != (i : Int)) = false := by simp [ho]
                    by_cases hxe : xe = 0
                    · have e3 : (xe == (0 : Int)) = true := by simp [hxe]
                      by_cases hc1 : fstI 3 m L < 0
                      · go_wp2_with fail
                        go_ret
                        exact ⟨by
                          rw [may_false HLT.out (by
                            rw [← Bool.not_eq_true, may_ref HX.out]
                            rintro ⟨q1, q2, q3, q4, q5, q6, q7, q8, q9⟩
                            dsimp only at q1 q2 q3 q4 q5 q6 q7 q8 q9
                            first | omega | (rw [HNM.out] at q3; cases q3))]
                          rfl, HG7.out⟩
                      · by_cases hc2 : (i : Int) < fstI 3 m L
                        · go_wp2_with fail
                          go_ret
                          exact ⟨by
                            rw [may_false HLT.out (by
                              rw [← Bool.not_eq_true, may_ref HX.out]
                              rintro ⟨q1, q2, q3, q4, q5, q6, q7, q8, q9⟩
                              dsimp only at q1 q2 q3 q4 q5 q6 q7 q8 q9
                              first | omega | (rw [HNM.out] at q3; cases q3))]
                            rfl, HG7.out⟩
                        · go_wp2_with fail
                          go_roundg (gk - 1)
                          case measure => omega
                          exact ⟨i + 1, by omega, by go_num, HG7.out, fun j hj => by
                            rcases Nat.lt_or_ge j i with h | h
                            · exact H0.out j h
                            · rw [show j = i by omega, may_ref HX.out]
                              dsimp only
                              refine ⟨by omega, by omega, HNM.out, ?_⟩
                              omega⟩
                    · have e3 : (xe == (0 : Int)) = false := by simp [hxe]
                      go_wp2_with fail
                      go_roundg (gk - 1)
                      case measure => omega
                      exact ⟨i + 1, by omega, by go_num, HG7.out, fun j hj => by
                        rcases Nat.lt_or_ge j i with h | h
                        · exact H0.out j h
                        · rw [show j = i by omega, may_ref HX.out]
                          dsimp only
                          refine ⟨by omega, by omega, HNM.out, ?_⟩
                          omega⟩
                · have cx := HX6.out.cell
                  go_wp2_with fail
                  refine (HFA.out 5 m _ (HR.out.grows HG6.out)).mono ?_
                  rintro e w7 ⟨rfl, hg7⟩
                  have HX7 := Lib.hid (HX6.out.grows hg7)
                  have HG7 := Lib.hid (HG6.out.trans hg7)
                  clear cx hg7
                  have cx := HX7.out.cell
                  by_cases ho : fstI 5 m L = (i : Int)
                  case neg =>
                    have e2 : (fstI 5 m L != (i : Int)) = true := by simp [ho]
                    go_wp2_with fail
                    go_ret
                    exact ⟨by
                      rw [may_false HLT.out (by
                        rw [← Bool.not_eq_true, may_ref HX.out]
                        rintro ⟨q1, q2, q3, q4, q5, q6, q7, q8, q9⟩
                        dsimp only at q1 q2 q3 q4 q5 q6 q7 q8 q9
                        first | omega | (rw [HNM.out] at q3; cases q3))]
                      rfl, HG7.out⟩
                  case pos =>
                    have e2 : (fstI 5 m L != (i : Int)) = false := by simp [ho]
                    by_cases hc1 : fstI 3 m L < 0
                    · go_wp2_with fail
                      go_ret
                      exact ⟨by
                        rw [may_false HLT.out (by
                          rw [← Bool.not_eq_true, may_ref HX.out]
                          rintro ⟨q1, q2, q3, q4, q5, q6, q7, q8, q9⟩
                          dsimp only at q1 q2 q3 q4 q5 q6 q7 q8 q9
                          first | omega | (rw [HNM.out] at q3; cases q3))]
                        rfl, HG7.out⟩
                    · by_cases hc2 : (i : Int) < fstI 3 m L
                      · go_wp2_with fail
                        go_ret
                        exact ⟨by
                          rw [may_false HLT.out (by
                            rw [← Bool.not_eq_true, may_ref HX.out]
                            rintro ⟨q1, q2, q3, q4, q5, q6, q7, q8, q9⟩
                            dsimp only at q1 q2 q3 q4 q5 q6 q7 q8 q9
                            first | omega | (rw [HNM.out] at q3; cases q3))]
                          rfl, HG7.out⟩
                      · go_wp2_with fail
                        go_roundg (gk - 1)
                        case measure => omega
                        exact ⟨i + 1, by omega, by go_num, HG7.out, fun j hj => by
                          rcases Nat.lt_or_ge j i with h | h
                          · exact H0.out j h
                          · rw [show j = i by omega, may_ref HX.out]
                            dsimp only
                            refine ⟨by omega, by omega, HNM.out, ?_⟩
                            omega⟩
    · have : i = n := by omega
      subst this
      have HF : Hid (mayB L = true) := Lib.hid (may_true (fun j hj => H0.out j (by rw [← HN.out]; exact hj)))
      clear hlt
      go_wp2_with fail
      go_ret
      exact ⟨by rw [HF.out]; rfl, HGW.out⟩
end Go.Proofs.Ytfigoeoimefngaa
