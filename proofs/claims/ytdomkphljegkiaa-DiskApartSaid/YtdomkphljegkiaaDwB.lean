/-
  cashboxlaw03.great.
-/
import Derived.Test.YtdomkphljegkiaaDwO
namespace Go.Proofs.Ytdomkphljegkiaa
open Go.RowKit

def acB (x : Ac) : Bool := decide (200 < x.l.length) || decide (100 < x.pl)
def greatB (l : List Ac) : Bool := decide (200 < l.length) || l.any acB
theorem greatB_no {l : List Ac} (h : greatB l = false) : l.length ≤ 200 ∧ ∀ x ∈ l, x.l.length ≤ 200 := by
  unfold greatB at h
  rw [Bool.or_eq_false_iff, decide_eq_false_iff_not] at h
  refine ⟨by omega, fun x hx => ?_⟩
  have := List.any_eq_false.1 h.2 x hx
  simp [acB] at this
  omega
set_option maxHeartbeats 1000000 in
theorem great_any (l : List Ac) (a : Option Addr) (n cap : Nat) (hn : l.length = n) (w : World) (hr : Rd w a (rowsOf acc l)) :
    Calls Try.prog 6 #[.slice a n cap] w fun e w' => e = .returned (.bool (greatB l)) ∧ w = w' := by
  have HR := Lib.hid hr
  have HN := Lib.hid hn
  clear hr hn
  go_enter Try.func6, Try.ntmps6
  go_wp2_with fail
  go_loopg [6] n (fun gh i wr => ∃ (k : Nat), k + gh = n ∧ i = .int .i64 (k : Int) ∧ k ≤ 200 ∧ (∀ x ∈ l.take k, acB x = false) ∧ wr = w)
  case atStart => exact ⟨0, by omega, rfl, by omega, by simp, rfl⟩
  case round =>
    obtain ⟨k, hk, rfl, hk2, hall, rfl⟩ := hrel
    have HA := Lib.hid hall
    clear hall
    by_cases hlt : k < n
    · have hlt' : (k : Int) < (n : Int) := by omega
      by_cases h2 : k = 200
      · subst h2
        have HG : Hid (greatB l = true) := by show _ = _; unfold greatB; rw [HN.out, decide_eq_true hlt]; rfl
        go_wp2_with fail
        go_ret
        exact ⟨by rw [HG.out]; rfl, rfl⟩
      · have h2' : ¬ (200 : Int) ≤ (k : Int) := by omega
        obtain ⟨b, off, rfl, hb, hc⟩ := rows_cell acc_len (by decide) HR.out (show k < l.length by rw [HN.out]; exact hlt)
        have hc2 := hc 2 _ rfl
        have hc3 := hc 3 _ rfl
        have hm : l[k]'(by rw [HN.out]; exact hlt) ∈ l := List.getElem_mem _
        have HT : Hid (l.take (k + 1) = l.take k ++ [l[k]'(by rw [HN.out]; exact hlt)]) := List.take_succ_eq_append_getElem _
        have HM := Lib.hid hm
        clear hm hc
        generalize l[k]'(by rw [HN.out]; exact hlt) = x at *
        have hk0 : (0 : Int) ≤ (k : Int) := by omega
        by_cases h3 : 200 < x.l.length
        · have HG : Hid (greatB l = true) := by
            show _ = _
            unfold greatB
            rw [List.any_eq_true.2 ⟨x, HM.out, by simp [acB, h3]⟩, Bool.or_true]
          have h3' : (200 : Int) < (x.l.length : Int) := by omega
          go_wp2_with fail
          go_ret
          exact ⟨by rw [HG.out]; rfl, rfl⟩
        · have h3' : ¬ (200 : Int) < (x.l.length : Int) := by omega
          by_cases h4 : 100 < x.pl
          · have HG : Hid (greatB l = true) := by
              show _ = _
              unfold greatB
              rw [List.any_eq_true.2 ⟨x, HM.out, by simp [acB, h4]⟩, Bool.or_true]
            have h4' : (100 : Int) < (x.pl : Int) := by omega
            go_wp2_with fail
            go_ret
            exact ⟨by rw [HG.out]; rfl, rfl⟩
          · have h4' : ¬ (100 : Int) < (x.pl : Int) := by omega
            have HX : Hid (acB x = false) := by show _ = _; simp [acB]; omega
            go_wp2_with fail
            go_roundg (gk - 1)
            case measure => omega
            case rel => exact ⟨k + 1, by omega, by go_num, by omega, by
              intro y hy
              rw [HT.out] at hy
              rcases List.mem_append.1 hy with h | h
              · exact HA.out y h
              · simp at h; rw [h]; exact HX.out, rfl⟩
    · obtain rfl : k = n := by omega
      have HG : Hid (greatB l = false) := by
        show _ = _
        unfold greatB
        rw [Bool.or_eq_false_iff]
        have := HA.out
        rw [List.take_of_length_le (by rw [HN.out]; omega)] at this
        exact ⟨decide_eq_false (by rw [HN.out]; omega), List.any_eq_false.2 fun x hx => by rw [this x hx]; decide⟩
      go_wp2_with fail
      go_ret
      exact ⟨by rw [HG.out]; rfl, rfl⟩
end Go.Proofs.Ytdomkphljegkiaa
