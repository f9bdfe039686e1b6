/-
  cashboxlaw09.wakes; no disk; HomeNil.
-/
import Derived.Test.YtmcofmidpedkiaaHmF
import Derived.Lib.SmallJoins
namespace Go.Proofs.Ytmcofmidpedkiaa
open Go.RowKit Go.Maps

set_option maxRecDepth 100000 in
set_option maxHeartbeats 1000000 in
theorem wakes_any (w : World) : Calls Try.prog 9 #[] w fun e w' => e = .returned (.bool true) ∧ Grows w w' := by
  have kc := fun (w : World) (C : Array Value) (n c : Nat) => Lib.run_convert_bytes_const (P := Try.prog) w 28 5 C n c Try.underlying28 Try.underlying5
  have hz := zsup
  unfold supv at hz
  go_enter Try.func9, Try.ntmps9
  go_wp2_with fail
  refine (new_any _).mono ?_
  rintro e w1 ⟨rfl, hD1, hG1⟩
  obtain ⟨g, hgg⟩ : ∃ g, w.heap.size + 1 = g := ⟨_, rfl⟩
  obtain ⟨O1, hO1⟩ : ∃ O1, (fun i => i = w.heap.size ∨ i = w.heap.size + 1) = O1 := ⟨_, rfl⟩
  rw [hO1] at hD1
  rw [hgg] at hD1 ⊢
  clear hgg hO1
  have HD1 := Lib.hid hD1
  have HG1 := Lib.hid hG1
  clear hD1 hG1
  go_wp2_with fail
  refine (gs_new HD1.out).mono ?_
  rintro e w2 ⟨rfl, hG2⟩
  unfold supv
  have kd := fun (n c : Nat) => Go.Joins.run_convert_bytes_const_at (P := Try.prog) (w2.alloc (.cells #[.int .i64 0, .int .i64 1, .int .i64 0, .int .i64 0, .int .i64 1, .int .i64 0, .int .i64 0, .int .i64 0, .int .i64 0, .int .i64 0, .int .i64 0, .int .i64 0, .int .i64 0] 39)) 28 5 #[.int .u8 120] n c (w2.heap.size + 1) (by simp) Try.underlying28 Try.underlying5
  have ec : (w2.alloc (.cells #[.int .i64 0, .int .i64 1, .int .i64 0, .int .i64 0, .int .i64 1, .int .i64 0, .int .i64 0, .int .i64 0, .int .i64 0, .int .i64 0, .int .i64 0, .int .i64 0, .int .i64 0] 39)).heap.size = w2.heap.size + 1 := by simp
  have HS := Lib.hid ((At.new w2 39 #[.int .i64 0, .int .i64 1, .int .i64 0, .int .i64 0, .int .i64 1, .int .i64 0, .int .i64 0, .int .i64 0, .int .i64 0, .int .i64 0, .int .i64 0, .int .i64 0, .int .i64 0]).alloc (.cells #[.int .u8 120] 5 (1, 2)))
  have HG3 := Lib.hid (((HG1.out.trans hG2).alloc (.cells #[.int .i64 0, .int .i64 1, .int .i64 0, .int .i64 0, .int .i64 1, .int .i64 0, .int .i64 0, .int .i64 0, .int .i64 0, .int .i64 0, .int .i64 0, .int .i64 0, .int .i64 0] 39)).alloc (.cells #[.int .u8 120] 5 (1, 2)))
  have HD3 := Lib.hid ((HD1.out.grows hG2).grows (((Grows.refl w2).alloc (.cells #[.int .i64 0, .int .i64 1, .int .i64 0, .int .i64 0, .int .i64 1, .int .i64 0, .int .i64 0, .int .i64 0, .int .i64 0, .int .i64 0, .int .i64 0, .int .i64 0, .int .i64 0] 39)).alloc (.cells #[.int .u8 120] 5 (1, 2))))
  have HN : Hid (¬ O1 w2.heap.size) := Lib.hid ((HD1.out.grows hG2).not (Nat.le_refl _))
  have HR := Lib.hid (rd_one (w2.alloc (.cells #[.int .i64 0, .int .i64 1, .int .i64 0, .int .i64 0, .int .i64 1, .int .i64 0, .int .i64 0, .int .i64 0, .int .i64 0, .int .i64 0, .int .i64 0, .int .i64 0, .int .i64 0] 39)) 120)
  rw [ec] at HR
  clear hG2 ec HD1 HG1
  go_wp2_with fail
  refine (write_ok HD3.out 0 (by omega) [120] (by simp) _ _ HR.out (by simp [noC])).mono ?_
  rintro e w4 ⟨rfl, O4, hD4, hT4⟩
  have HG4 := Lib.hid ((hT4.low HG3.out (fun i hi => HD3.out.ge hi)).alloc (.cells #[.int .u8 120] 5 (1, 2)))
  have HD4 := Lib.hid (hD4.grows ((Grows.refl w4).alloc (.cells #[.int .u8 120] 5 (1, 2))))
  have HS4 := Lib.hid ((hT4.at HS.out HN.out).alloc (.cells #[.int .u8 120] 5 (1, 2)))
  have HN4 : Hid (¬ O4 w2.heap.size) := Lib.hid (fun h => by
    rcases hT4.own _ h with h | h
    · exact HN.out h
    · simp at h; omega)
  clear hD4 hT4 HD3 HG3 HS HN HR kd
  generalize w2.heap.size = gs at *
  go_wp2_with fail
  refine (write_ok HD4.out 1 (by omega) [120] (by simp) _ _ (rd_one w4 120) (by simp [upC, noC])).mono ?_
  rintro e w5 ⟨rfl, O5, hD5, hT5⟩
  have HG5 := Lib.hid (hT5.low HG4.out (fun i hi => HD4.out.ge hi))
  have HD5 := Lib.hid hD5
  have HS5 := Lib.hid (hT5.at HS4.out HN4.out)
  clear hD5 hT5 HD4 HG4 HS4 HN4
  go_wp2_with fail
  refine (gs_bad HD5.out (fun x _ => by by_cases e : x = 1 <;> by_cases e' : x = 0 <;> simp [upC, noC, e, e']) (by rw [rdS_up' _ _ _ _ _ (by omega), rdS_upx]; rfl) (by rw [rdS_upx]; rfl)).mono ?_
  rintro e w6 ⟨n, t, u, i, b, o0, o1, o2, o3, o4, o5, o6, o7, rfl, hG6⟩
  have hs := (HS5.out.grows hG6).alloc (.cells #[.int .i64 n, .int .i64 t, .int .i64 u, .int .i64 i, .int .i64 b, .int .i64 o0, .int .i64 o1, .int .i64 o2, .int .i64 o3, .int .i64 o4, .int .i64 o5, .int .i64 o6, .int .i64 o7] 39)
  have c0 := (hs.cell 0).trans (show _ = some (.int .i64 0) from rfl)
  have c1 := (hs.cell 1).trans (show _ = some (.int .i64 1) from rfl)
  have c4 := (hs.cell 4).trans (show _ = some (.int .i64 1) from rfl)
  have HG6 := Lib.hid ((HG5.out.trans hG6).alloc (.cells #[.int .i64 n, .int .i64 t, .int .i64 u, .int .i64 i, .int .i64 b, .int .i64 o0, .int .i64 o1, .int .i64 o2, .int .i64 o3, .int .i64 o4, .int .i64 o5, .int .i64 o6, .int .i64 o7] 39))
  clear HD5 HS5 HG5 hG6 hs
  unfold supv
  go_wp2_with fail
  go_ret
  exact ⟨rfl, HG6.out⟩
end Go.Proofs.Ytmcofmidpedkiaa
