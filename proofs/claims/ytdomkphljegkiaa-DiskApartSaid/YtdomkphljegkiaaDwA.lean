/-
  cashboxlaw03.wakes.
-/
import Derived.Test.YtdomkphljegkiaaDkH
import Derived.Lib.SlBytesConst
namespace Go.Proofs.Ytdomkphljegkiaa
open Go.RowKit Go.Maps

theorem spl_back (xs : List Nat) (o : Nat) (l : List Nat) (h : o + l.length ≤ xs.length) : ((spl xs o l).drop o).take l.length = l := by
  unfold spl
  rw [List.append_assoc, List.drop_append]
  simp [Nat.min_eq_left (show o ≤ xs.length by omega)]
theorem rdS_no (dur : List Nat) (x : Nat) : rdS dur noC x = (dur.drop (x * 64)).take 64 := rfl
theorem rd_one (w : World) (x : Nat) : Rd (w.alloc (.cells #[.int .u8 (x : Int)] 5 (1, 2))) (some ⟨w.heap.size, 0, none⟩) (bys [x]) := rd_new w #[.int .u8 (x : Int)] _ (1, 2)

set_option maxHeartbeats 1000000 in
theorem wakes_any (w : World) : Calls Try.prog 7 #[] w fun e w' => e = .returned (.bool true) ∧ Grows w w' := by
  have kc := fun (w : World) (C : Array Value) (n c : Nat) => Lib.run_convert_bytes_const (P := Try.prog) w 27 5 C n c Try.underlying27 Try.underlying5
  go_enter Try.func7, Try.ntmps7
  go_wp2_with fail
  refine (new_any _).mono ?_
  rintro e w1 ⟨rfl, hD1, hG1⟩
  generalize w.heap.size + 1 = g at *
  generalize (fun i => i = w.heap.size ∨ i = g) = O1 at *
  have HD1 := Lib.hid (hD1.grows ((Grows.refl w1).alloc (.cells #[.int .u8 97] 5 (1, 2))))
  have HG1 := Lib.hid (hG1.alloc (.cells #[.int .u8 97] 5 (1, 2)))
  clear hD1 hG1
  go_wp2_with fail
  refine (write_ok HD1.out 5 (by omega) [97] (by simp) _ _ (rd_one w1 97) (by simp [noC])).mono ?_
  rintro e w2 ⟨rfl, O2, hD2, hT2⟩
  have HG2 := Lib.hid (hT2.low HG1.out (fun i hi => HD1.out.ge hi))
  have HD2 := Lib.hid hD2
  clear hD2 hT2 HD1 HG1
  go_wp2_with fail
  refine (flush_ok HD2.out (fun x _ => by by_cases e : x = 5 <;> simp [upC, noC, e])).mono ?_
  rintro e w3 ⟨rfl, hD3, hT3⟩
  have HG3 := Lib.hid ((hT3.low HG2.out (fun i hi => HD2.out.ge hi)).alloc (.cells #[.int .u8 98] 5 (1, 2)))
  have HD3 := Lib.hid (hD3.grows ((Grows.refl w3).alloc (.cells #[.int .u8 98] 5 (1, 2))))
  clear hD3 hT3 HD2 HG2
  generalize flushed zer (upC noC 5 (noC 5 ++ [pad [97]])) = d3 at *
  go_wp2_with fail
  refine (write_ok HD3.out 5 (by omega) [98] (by simp) _ _ (rd_one w3 98) (by simp [noC])).mono ?_
  rintro e w4 ⟨rfl, O4, hD4, hT4⟩
  have HG4 := Lib.hid ((hT4.low HG3.out (fun i hi => HD3.out.ge hi)).alloc (.cells #[.int .u8 99] 5 (1, 2)))
  have HD4 := Lib.hid (hD4.grows ((Grows.refl w4).alloc (.cells #[.int .u8 99] 5 (1, 2))))
  clear hD4 hT4 HD3 HG3
  go_wp2_with fail
  refine (write_ok HD4.out 5 (by omega) [99] (by simp) _ _ (rd_one w4 99) (by simp [upC, noC])).mono ?_
  rintro e w5 ⟨rfl, O5, hD5, hT5⟩
  have HG5 := Lib.hid ((hT5.low HG4.out (fun i hi => HD4.out.ge hi)).alloc (.cells #[.int .i64 5, .int .i64 1] 42))
  have HD5 := Lib.hid (hD5.grows ((Grows.refl w5).alloc (.cells #[.int .i64 5, .int .i64 1] 42)))
  have hA5 := At.new w5 42 #[.int .i64 5, .int .i64 1]
  have HC0 := Lib.hid (hA5.cell 0)
  have HC1 := Lib.hid (hA5.cell 1)
  clear hD5 hT5 HD4 HG4 hA5
  go_wp2_with fail
  refine (crash_one HD5.out 5 1 (by omega) (by omega) (by simp [upC, noC]) (by simp [upC, noC]) w5.heap.size 0 1 HC0.out HC1.out).mono ?_
  rintro e w6 ⟨rfl, hD6, hT6⟩
  have HG6 := Lib.hid (hT6.low HG5.out (fun i hi => HD5.out.ge hi))
  have HD6 := Lib.hid hD6
  have HL3 := Lib.hid HD5.out.len
  clear hD6 hT6 HD5 HG5 HC0 HC1
  go_wp2_with fail
  refine (up_ok HD6.out).mono ?_
  rintro e w7 ⟨rfl, hD7, hT7⟩
  have HG7 := Lib.hid (hT7.low HG6.out (fun i hi => HD6.out.ge hi))
  have HD7 := Lib.hid hD7
  clear hD7 hT7 HD6 HG6
  go_wp2_with fail
  refine (read_ok HD7.out 5 (by omega) (by simp [noC])).mono ?_
  have er : rdS (spl d3 (5 * 64) ((upC (upC noC 5 (noC 5 ++ [pad [98]])) 5 (upC noC 5 (noC 5 ++ [pad [98]]) 5 ++ [pad [99]]) 5).getD (1 - 1) [])) noC 5 = pad [98] := by
    rw [rdS_no]
    have e1 : (upC (upC noC 5 (noC 5 ++ [pad [98]])) 5 (upC noC 5 (noC 5 ++ [pad [98]]) 5 ++ [pad [99]]) 5).getD (1 - 1) [] = pad [98] := by simp [upC, noC]
    rw [e1]
    have := spl_back d3 (5 * 64) (pad [98]) (by rw [HL3.out, pad_length _ (by simp)]; omega)
    rwa [pad_length _ (by simp)] at this
  rintro e w8 ⟨v, rfl, hN, _⟩
  rw [er] at hN
  obtain ⟨g8, c8, rfl, _, _⟩ := own_form hN.1 (by omega)
  have HG8 := Lib.hid (HG7.out.trans hN.2)
  have hc0 : w8.cell? ⟨g8, 0, none⟩ = some (.int .u8 98) := by
    have := (Rd.own hN.1).at (by rw [bys_length, pad_length _ (by simp)]; omega)
    obtain ⟨b, off, e1, _, h2⟩ := this
    cases e1
    have := h2 0 (by rw [bys_length, pad_length _ (by simp)]; omega)
    rw [this]
    rfl
  have hc1 : w8.cell? ⟨g8, 1, none⟩ = some (.int .u8 0) := by
    have := (Rd.own hN.1).at (by rw [bys_length, pad_length _ (by simp)]; omega)
    obtain ⟨b, off, e1, _, h2⟩ := this
    cases e1
    have := h2 1 (by rw [bys_length, pad_length _ (by simp)]; omega)
    rw [this]
    rfl
  clear hN er
  go_wp2_with fail
  go_ret
  exact ⟨rfl, HG8.out⟩
end Go.Proofs.Ytdomkphljegkiaa
