/-
  home: within, May.
-/
import Derived.Test.YtmcofmidpedkiaaHmD
import Derived.Test.YtmcofmidpedkiaaIdx
namespace Go.Proofs.Ytmcofmidpedkiaa
open Go.RowKit Go.Maps

def inB (x a b : Int) : Bool := decide (a ≤ x) && decide (x ≤ b)
theorem inB_iff {x a b : Int} : inB x a b = true ↔ a ≤ x ∧ x ≤ b := by simp [inB]
theorem within_any (x a b : Int) (w : World) : Calls Try.prog 35 #[.int .i64 x, .int .i64 a, .int .i64 b] w fun e w' => e = .returned (.bool (inB x a b)) ∧ w = w' := by
  by_cases h1 : a ≤ x
  · by_cases h2 : x ≤ b
    · have e : inB x a b = true := inB_iff.2 ⟨h1, h2⟩
      rw [e]
      clear e
      go_enter Try.func35, Try.ntmps35
      go_wp2_with fail
      go_ret
      exact ⟨rfl, rfl⟩
    · have e : inB x a b = false := by rw [Bool.eq_false_iff]; intro h; exact h2 (inB_iff.1 h).2
      rw [e]
      clear e
      go_enter Try.func35, Try.ntmps35
      go_wp2_with fail
      go_ret
      exact ⟨rfl, rfl⟩
  · have e : inB x a b = false := by rw [Bool.eq_false_iff]; intro h; exact h1 (inB_iff.1 h).1
    rw [e]
    clear e
    go_enter Try.func35, Try.ntmps35
    go_wp2_with fail
    go_ret
    exact ⟨rfl, rfl⟩

/-- What May tells. -/
def mayB (n t u i b : Int) (M : List Int) : Bool := M.all (inB · 0 4) && (inB n 0 1099511627776 && (inB t 1 1099511627776 && (inB u 0 255 && (inB i 0 1048576 && inB b 1 1048577))))
theorem idx8 (W : World) (o0 o1 o2 o3 o4 o5 o6 o7 : Int) (M : List Int) (hM : [o0, o1, o2, o3, o4, o5, o6, o7] = M) (k : Nat) (hk : k < 8) : (Instr.index 37 (.agg #[.int .i64 o0, .int .i64 o1, .int .i64 o2, .int .i64 o3, .int .i64 o4, .int .i64 o5, .int .i64 o6, .int .i64 o7]) (.int .i64 (k : Int))).run Try.prog W = .ok (.int .i64 (M.getD k 0)) W := by
  subst hM
  exact run_index_ints W Try.underlying37 Try.underlying3 (by kernel_rfl) .i64 [o0, o1, o2, o3, o4, o5, o6, o7] k hk rfl
theorem all_take_succ {M : List Int} {p : Int → Bool} {k : Nat} (hk : k < M.length) (h : (M.take k).all p = true) (hp : p (M.getD k 0) = true) : (M.take (k + 1)).all p = true := by
  rw [List.take_succ_eq_append_getElem hk, List.all_append, h, Bool.true_and]
  rw [List.getD_eq_getElem?_getD, List.getElem?_eq_getElem hk] at hp
  simpa using hp
theorem all_not {M : List Int} {p : Int → Bool} {k : Nat} (hk : k < M.length) (hp : p (M.getD k 0) = false) : M.all p = false := by
  rw [List.getD_eq_getElem?_getD, List.getElem?_eq_getElem hk] at hp
  rw [List.all_eq_false]
  exact ⟨M[k], List.getElem_mem hk, by simpa using hp⟩
set_option maxHeartbeats 1000000 in
theorem may_any (n t u i b o0 o1 o2 o3 o4 o5 o6 o7 : Int) (M : List Int) (hM : [o0, o1, o2, o3, o4, o5, o6, o7] = M) (w : World) : Calls Try.prog 17 #[supv n t u i b o0 o1 o2 o3 o4 o5 o6 o7] w fun e w' => e = .returned (.bool (mayB n t u i b M)) ∧ Grows w w' := by
  unfold supv
  have h8 : M.length = 8 := by rw [← hM]; rfl
  have hix : ∀ W (k : Nat), k < 8 → (Instr.index 37 (.agg #[.int .i64 o0, .int .i64 o1, .int .i64 o2, .int .i64 o3, .int .i64 o4, .int .i64 o5, .int .i64 o6, .int .i64 o7]) (.int .i64 (k : Int))).run Try.prog W = .ok (.int .i64 (M.getD k 0)) W := fun W k hk => idx8 W o0 o1 o2 o3 o4 o5 o6 o7 M hM k hk
  have HIX := Lib.hid hix
  have H8 := Lib.hid h8
  have HM : Hid (∀ c, c = mayB n t u i b M → Ending.returned (.bool c) = .returned (.bool (mayB n t u i b M))) := fun c h => by rw [h]
  have HA := Lib.hid (At.new w 39 #[.int .i64 n, .int .i64 t, .int .i64 u, .int .i64 i, .int .i64 b, .int .i64 o0, .int .i64 o1, .int .i64 o2, .int .i64 o3, .int .i64 o4, .int .i64 o5, .int .i64 o6, .int .i64 o7])
  have HG := Lib.hid ((Grows.refl w).alloc (.cells #[.int .i64 n, .int .i64 t, .int .i64 u, .int .i64 i, .int .i64 b, .int .i64 o0, .int .i64 o1, .int .i64 o2, .int .i64 o3, .int .i64 o4, .int .i64 o5, .int .i64 o6, .int .i64 o7] 39))
  clear hM h8 hix
  have ca := HA.out.cell
  go_enter Try.func17, Try.ntmps17
  go_wp2_with fail
  generalize hwa : w.alloc (.cells #[.int .i64 n, .int .i64 t, .int .i64 u, .int .i64 i, .int .i64 b, .int .i64 o0, .int .i64 o1, .int .i64 o2, .int .i64 o3, .int .i64 o4, .int .i64 o5, .int .i64 o6, .int .i64 o7] 39) = wa at *
  clear hwa
  go_loopg [7] 8 (fun gh j wr => ∃ (k : Nat), k + gh = 8 ∧ j = .int .i64 (k : Int) ∧ (M.take k).all (inB · 0 4) = true ∧ wr = wa)
  case atStart => exact ⟨0, by omega, rfl, by simp, rfl⟩
  case round =>
    obtain ⟨k, hk, rfl, hall, rfl⟩ := hrel
    have HALL := Lib.hid hall
    clear hall
    by_cases hlt : k < 8
    · have hlt' : (k : Int) < 8 := by omega
      have hk0 : (0 : Int) ≤ (k : Int) := by omega
      have hi := fun W => HIX.out W k hlt
      cases hin : inB (M.getD k 0) 0 4 with
      | true =>
        have HIN := Lib.hid (all_take_succ (by rw [H8.out]; exact hlt) HALL.out hin)
        have HW : Hid (∀ W, Calls Try.prog 35 #[.int .i64 (M.getD k 0), .int .i64 0, .int .i64 4] W fun e w' => e = .returned (.bool true) ∧ W = w') := fun W => by have := within_any (M.getD k 0) 0 4 W; rwa [hin] at this
        clear hin
        generalize M.getD k 0 = z at *
        go_wp2_with fail
        refine (HW.out _).mono ?_
        rintro e w2 ⟨rfl, rfl⟩
        go_wp2_with fail
        go_roundg (gk - 1)
        case measure => omega
        case rel => exact ⟨k + 1, by omega, by go_num, HIN.out, rfl⟩
      | false =>
        have HW : Hid (∀ W, Calls Try.prog 35 #[.int .i64 (M.getD k 0), .int .i64 0, .int .i64 4] W fun e w' => e = .returned (.bool false) ∧ W = w') := fun W => by have := within_any (M.getD k 0) 0 4 W; rwa [hin] at this
        have HF : Hid (mayB n t u i b M = false) := by show _ = _; unfold mayB; rw [all_not (by rw [H8.out]; exact hlt) hin]; rfl
        clear hin
        generalize M.getD k 0 = z at *
        go_wp2_with fail
        refine (HW.out _).mono ?_
        rintro e w2 ⟨rfl, rfl⟩
        go_wp2_with fail
        go_ret
        exact ⟨HM.out _ HF.out.symm, HG.out⟩
    · obtain rfl : k = 8 := by omega
      have hT := HALL.out
      rw [List.take_of_length_le (by rw [H8.out]; omega)] at hT
      have HE : Hid (mayB n t u i b M = (inB n 0 1099511627776 && (inB t 1 1099511627776 && (inB u 0 255 && (inB i 0 1048576 && inB b 1 1048577))))) := by show _ = _; unfold mayB; rw [hT]; rfl
      clear hT
      have HW1 := Lib.hid (fun W => within_any n 0 1099511627776 W)
      have HW2 := Lib.hid (fun W => within_any t 1 1099511627776 W)
      have HW3 := Lib.hid (fun W => within_any u 0 255 W)
      have HW4 := Lib.hid (fun W => within_any i 0 1048576 W)
      have HW5 := Lib.hid (fun W => within_any b 1 1048577 W)
      generalize inB n 0 1099511627776 = b1 at *
      generalize inB t 1 1099511627776 = b2 at *
      generalize inB u 0 255 = b3 at *
      generalize inB i 0 1048576 = b4 at *
      generalize inB b 1 1048577 = b5 at *
      go_wp2_with fail
      refine (HW1.out _).mono ?_
      rintro e w' ⟨rfl, rfl⟩
      cases b1 with
      | false =>
        go_wp2_with fail
        go_ret
        exact ⟨HM.out _ (by rw [HE.out]; rfl), HG.out⟩
      | true =>
        go_wp2_with fail
        refine (HW2.out _).mono ?_
        rintro e w' ⟨rfl, rfl⟩
        cases b2 with
        | false =>
          go_wp2_with fail
          go_ret
          exact ⟨HM.out _ (by rw [HE.out]; rfl), HG.out⟩
        | true =>
          go_wp2_with fail
          refine (HW3.out _).mono ?_
          rintro e w' ⟨rfl, rfl⟩
          cases b3 with
          | false =>
            go_wp2_with fail
            go_ret
            exact ⟨HM.out _ (by rw [HE.out]; rfl), HG.out⟩
          | true =>
            go_wp2_with fail
            refine (HW4.out _).mono ?_
            rintro e w' ⟨rfl, rfl⟩
            cases b4 with
            | false =>
              go_wp2_with fail
              go_ret
              exact ⟨HM.out _ (by rw [HE.out]; rfl), HG.out⟩
            | true =>
              go_wp2_with fail
              refine (HW5.out _).mono ?_
              rintro e w' ⟨rfl, rfl⟩
              cases b5 with
              | false =>
                go_wp2_with fail
                go_ret
                exact ⟨HM.out _ (by rw [HE.out]; rfl), HG.out⟩
              | true =>
                go_wp2_with fail
                go_ret
                exact ⟨HM.out _ (by rw [HE.out]; rfl), HG.out⟩
end Go.Proofs.Ytmcofmidpedkiaa
