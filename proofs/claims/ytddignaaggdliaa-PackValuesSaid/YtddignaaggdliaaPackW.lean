/-
  The document's answer: blocks as bytes, and back.
-/
import Derived.Test.YtddignaaggdliaaPackS
namespace Go.Proofs.Ytddignaaggdliaa
open Go.RowKit

theorem sofar_one (l : List Nat) (N k : Nat) (h : l.length = N) (hk : k < N) : (bys (sofar l N k)).toArray.setIfInBounds k (.int .u8 ((l[k]'(by omega) : Nat) : Int)) = (bys (sofar l N (k + 1))).toArray := by
  rw [List.setIfInBounds_toArray]
  congr 1
  unfold bys sofar
  rw [List.map_append, List.map_append, List.set_append_right _ _ (by simp; omega)]
  obtain ⟨r, hr⟩ : ∃ r, N - k = r + 1 := ⟨N - k - 1, by omega⟩
  rw [hr, List.replicate_succ, List.map_cons, show k - (List.map (fun x : Nat => Value.int .u8 (x : Int)) (List.take k l)).length = 0 by simp; omega, List.set_cons_zero, show N - (k + 1) = r by omega, List.take_succ_eq_append_getElem (by omega), List.map_append]
  simp

theorem sofar_get (l : List Nat) (N k : Nat) (h : l.length = N) (hk : k < N) : (bys (sofar l N k)).toArray[k]? = some (.int .u8 0) := by
  unfold bys sofar
  simp only [List.getElem?_toArray, List.getElem?_map]
  rw [List.getElem?_append_right (by simp; omega), List.getElem?_replicate]
  simp
  omega

set_option maxHeartbeats 400000 in
theorem refValue_no (a : Option Addr) (n cap : Nat) (w : World) (h : n ≠ 8) : Calls Try.prog 17 #[.slice a n cap] w fun e w' => e = .returned (.tuple #[agg8 zero8, .int .i64 2]) ∧ Grows w w' := by
  have h' : ((n : Int) != 8) = true := by simp; omega
  go_enter Try.func17, Try.ntmps17
  go_wp2
  refine bodyPost_ret (v := .tuple #[agg8 zero8, .int .i64 2]) (by simp [agg8, zero8, bys, results, Try.results17, go_sem]) rfl ⟨rfl, ?_⟩
  repeat (first | exact Grows.refl _ | refine Grows.alloc ?_ _ | refine Grows.drew ?_)

set_option maxHeartbeats 1000000 in
theorem refValue_yes (l : List Nat) (hl : l.length = 8) (a : Option Addr) (cap : Nat) (w : World) (hrd : Rd w a (bys l)) : Calls Try.prog 17 #[.slice a 8 cap] w fun e w' => e = .returned (.tuple #[agg8 l, .int .i64 0]) ∧ Grows w w' := by
  have HL := Lib.hid hl
  clear hl
  obtain ⟨b, off, rfl, hbw, hc⟩ := hrd.at (by rw [bys_length, HL.out]; omega)
  have HC := Lib.hid hc
  clear hc hrd
  go_enter Try.func17, Try.ntmps17
  go_wp2_with fail
  go_loopg [5] 8 (fun gh t wr => ∃ k : Nat, k + gh = 8 ∧ t = .int .i64 k ∧ Grows w wr ∧ At wr (w.heap.size + 1) 36 (bys (sofar l 8 k)).toArray ∧ At wr w.heap.size 36 #[.int .u8 0, .int .u8 0, .int .u8 0, .int .u8 0, .int .u8 0, .int .u8 0, .int .u8 0, .int .u8 0])
  case atStart =>
    refine ⟨0, by omega, rfl, ((Grows.refl _).alloc _).alloc _, ?_, (At.new w _ _).alloc _⟩
    have h := At.new (w.alloc (.cells #[.int .u8 0, .int .u8 0, .int .u8 0, .int .u8 0, .int .u8 0, .int .u8 0, .int .u8 0, .int .u8 0] 36)) 36 #[.int .u8 0, .int .u8 0, .int .u8 0, .int .u8 0, .int .u8 0, .int .u8 0, .int .u8 0, .int .u8 0]
    rw [World.size_alloc] at h
    rw [sofar_zero, bys_rep]
    exact h
  case round =>
    obtain ⟨k, hk, rfl, hg, hat1, hat0⟩ := hrel
    by_cases hlt : k < 8
    · have hlt' : (k : Int) < 8 := by omega
      have hk0 : (0 : Int) ≤ (k : Int) := by omega
      have hl8 := HL.out
      have hcell := (hg.cell b (off + k) hbw).trans (HC.out k (by rw [bys_length]; omega))
      rw [bys_at l k (by omega)] at hcell
      have hown := (hat1.cell k).trans (sofar_get l 8 k HL.out hlt)
      have hfr := hat1.frozen k
      have HS := Lib.hid (sofar_one l 8 k HL.out hlt)
      have H1 := Lib.hid hat1
      have H0 := Lib.hid hat0
      have Hl8 := Lib.hid hl8
      clear hat1 hat0
      generalize hx : l[k]'(by omega) = x at *
      clear hx hl8
      go_wp2_with fail
      go_roundg (gk - 1)
      case measure => omega
      case rel =>
        refine ⟨k + 1, by omega, by go_num, hg.setCell (Nat.le_succ _) _, ?_, H0.out.far (by simp) _⟩
        rw [← HS.out]
        exact H1.out.set _ _
    · obtain rfl : k = 8 := by omega
      rw [sofar_all l 8 HL.out] at hat1
      obtain ⟨x0, x1, x2, x3, x4, x5, x6, x7, rfl⟩ := eight HL.out
      simp only [bys, List.map] at hat1
      clear HC HL
      have hc1 := hat1.cell
      have hc0 := hat0.cell
      have hf0 := hat0.frozen
      go_wp2_with fail
      refine bodyPost_ret (v := .tuple #[agg8 [x0, x1, x2, x3, x4, x5, x6, x7], .int .i64 0]) (by simp [agg8, bys, results, Try.results17, go_sem, hc0]) rfl ⟨rfl, ?_⟩
      exact ((((((((hg.setCell (Nat.le_refl _) _).setCell (Nat.le_refl _) _).setCell (Nat.le_refl _) _).setCell (Nat.le_refl _) _).setCell (Nat.le_refl _) _).setCell (Nat.le_refl _) _).setCell (Nat.le_refl _) _).setCell (Nat.le_refl _) _)

end Go.Proofs.Ytddignaaggdliaa
