/-
  stripe.within, Check, may.
-/
import Derived.Test.YtimafdiljcglfaaFl
import Derived.Test.YtimafdiljcglfaaIdx
namespace Go.Proofs.Ytimafdiljcglfaa
open Go.RowKit

def withinB (n a b : Int) : Bool := decide (a ≤ n) && decide (n ≤ b)
theorem within_any (n a b : Int) (w : World) : Calls Try.prog 15 #[.int .i64 n, .int .i64 a, .int .i64 b] w fun e w' => e = .returned (.bool (withinB n a b)) ∧ w = w' := by
  by_cases h1 : a ≤ n
  · have : withinB n a b = decide (n ≤ b) := by simp [withinB, h1]
    rw [this]
    go_enter Try.func15, Try.ntmps15
    go_wp2
    go_ret
    exact ⟨rfl, rfl⟩
  · have : withinB n a b = false := by simp [withinB, h1]
    rw [this]
    go_enter Try.func15, Try.ntmps15
    go_wp2
    go_ret
    exact ⟨rfl, rfl⟩

/-- May a map be? -/
def okM (v : Int) (M : List Int) : Bool := withinB v 0 1099511627776 && M.all (fun s => withinB s 0 4)
def checkE (v : Int) (M : List Int) : Int := if okM v M then 0 else 2

theorem idx8 (o0 o1 o2 o3 o4 o5 o6 o7 : Int) (k : Nat) (hk : k < 8) (w : World) :
    (Instr.index 22 (.agg #[.int .i64 o0, .int .i64 o1, .int .i64 o2, .int .i64 o3, .int .i64 o4, .int .i64 o5, .int .i64 o6, .int .i64 o7]) (.int .i64 (k : Int))).run Try.prog w = .ok (.int .i64 ([o0, o1, o2, o3, o4, o5, o6, o7].getD k 0)) w := by
  exact run_index_ints w Try.underlying22 Try.underlying3 (by kernel_rfl) .i64 [o0, o1, o2, o3, o4, o5, o6, o7] k hk rfl

theorem all_drop {p : Int → Bool} {M : List Int} {k : Nat} (h : k < M.length) : (M.drop k).all p = (p (M.getD k 0) && (M.drop (k + 1)).all p) := by
  rw [List.drop_eq_getElem_cons h, List.all_cons]
  simp [List.getElem?_eq_getElem h]

set_option maxHeartbeats 1000000 in
theorem check_any (v o0 o1 o2 o3 o4 o5 o6 o7 : Int) (w : World) :
    Calls Try.prog 8 #[.agg #[.int .i64 v, .int .i64 o0, .int .i64 o1, .int .i64 o2, .int .i64 o3, .int .i64 o4, .int .i64 o5, .int .i64 o6, .int .i64 o7]] w fun e w' => e = .returned (.int .i64 (checkE v [o0, o1, o2, o3, o4, o5, o6, o7])) ∧ Grows w w' := by
  cases hv : withinB v 0 1099511627776 with
  | false =>
    have : checkE v [o0, o1, o2, o3, o4, o5, o6, o7] = 2 := by simp [checkE, okM, hv]
    rw [this]
    go_enter Try.func8, Try.ntmps8
    go_wp2_with fail
    refine (within_any _ _ _ _).mono ?_
    rintro e w1 ⟨rfl, rfl⟩
    rw [hv]
    go_wp2_with fail
    go_ret
    exact ⟨rfl, (Grows.refl _).alloc _⟩
  | true =>
    generalize hM : [o0, o1, o2, o3, o4, o5, o6, o7] = M
    have h8 : M.length = 8 := by rw [← hM]; rfl
    have HE : Hid (checkE v M = if M.all (fun s => withinB s 0 4) then 0 else 2) := by
      show _ = _
      simp [checkE, okM, hv]
    have hix : ∀ (k : Nat) (W : World), k < 8 → (Instr.index 22 (.agg #[.int .i64 o0, .int .i64 o1, .int .i64 o2, .int .i64 o3, .int .i64 o4, .int .i64 o5, .int .i64 o6, .int .i64 o7]) (.int .i64 (k : Int))).run Try.prog W = .ok (.int .i64 (M.getD k 0)) W := fun k W hk => by rw [← hM]; exact idx8 o0 o1 o2 o3 o4 o5 o6 o7 k hk W
    have HX := Lib.hid hix
    have H8 := Lib.hid h8
    clear hM hix h8
    go_enter Try.func8, Try.ntmps8
    go_wp2_with fail
    refine (within_any _ _ _ _).mono ?_
    rintro e w1 ⟨rfl, rfl⟩
    rw [hv]
    go_wp2_with fail
    go_loopg [11] 8 (fun gh i wr => ∃ (k : Nat), k + gh = 8 ∧ i = .int .i64 (k : Int) ∧ Grows w wr ∧ M.all (fun s => withinB s 0 4) = (M.drop k).all (fun s => withinB s 0 4))
    case atStart => exact ⟨0, by omega, rfl, (Grows.refl _).alloc _, rfl⟩
    case round =>
      obtain ⟨k, hk, rfl, hg, hall⟩ := hrel
      have HA := Lib.hid hall
      clear hall
      by_cases hlt : k < 8
      · have HD := all_drop (p := fun s => withinB s 0 4) (M := M) (k := k) (by rw [H8.out]; exact hlt)
        have hix := fun W => HX.out k W hlt
        generalize M.getD k 0 = s at *
        have hlt' : (k : Int) < 8 := by omega
        have HD := Lib.hid HD
        cases hs : withinB s 0 4
        · have HF : Hid (checkE v M = 2) := by show _ = _; rw [HE.out, HA.out, HD.out, hs]; rfl
          go_wp2_with fail
          refine (within_any _ _ _ _).mono ?_
          rintro e w1 ⟨rfl, rfl⟩
          rw [hs]
          go_wp2_with fail
          go_ret
          exact ⟨by rw [HF.out]; rfl, hg⟩
        · have HN : Hid (M.all (fun s => withinB s 0 4) = (M.drop (k + 1)).all (fun s => withinB s 0 4)) := by show _ = _; rw [HA.out, HD.out, hs]; rfl
          go_wp2_with fail
          refine (within_any _ _ _ _).mono ?_
          rintro e w1 ⟨rfl, rfl⟩
          rw [hs]
          go_wp2_with fail
          go_roundg (gk - 1)
          case measure => omega
          case rel => exact ⟨k + 1, by omega, by go_num, hg, HN.out⟩
      · obtain rfl : k = 8 := by omega
        have HF : Hid (checkE v M = 0) := by
          show _ = _
          rw [HE.out, HA.out, List.drop_of_length_le (by rw [H8.out]; exact Nat.le_refl _)]
          rfl
        go_wp2_with fail
        go_ret
        exact ⟨by rw [HF.out]; rfl, hg⟩

def mayB (s t : Int) : Bool := withinB s 0 7 && withinB t 1 4
theorem may_any (s t : Int) (w : World) : Calls Try.prog 14 #[.agg #[.int .i64 s, .int .i64 t]] w fun e w' => e = .returned (.bool (mayB s t)) ∧ Grows w w' := by
  cases hs : withinB s 0 7
  · have : mayB s t = false := by simp [mayB, hs]
    rw [this]
    go_enter Try.func14, Try.ntmps14
    go_wp2_with fail
    refine (within_any _ _ _ _).mono ?_
    rintro e w1 ⟨rfl, rfl⟩
    rw [hs]
    go_wp2_with fail
    go_ret
    exact ⟨rfl, (Grows.refl _).alloc _⟩
  · have : mayB s t = withinB t 1 4 := by simp [mayB, hs]
    rw [this]
    go_enter Try.func14, Try.ntmps14
    go_wp2_with fail
    refine (within_any _ _ _ _).mono ?_
    rintro e w1 ⟨rfl, rfl⟩
    rw [hs]
    go_wp2_with fail
    refine (within_any _ _ _ _).mono ?_
    rintro e w1 ⟨rfl, rfl⟩
    go_wp2_with fail
    go_ret
    exact ⟨rfl, (Grows.refl _).alloc _⟩
end Go.Proofs.Ytimafdiljcglfaa
