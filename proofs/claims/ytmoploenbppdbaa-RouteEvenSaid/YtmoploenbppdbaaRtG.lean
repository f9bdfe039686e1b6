/-
  RouteMoved's walk.
-/
import Derived.Test.YtmoploenbppdbaaRtF
import Derived.Test.YtmoploenbppdbaaRtB
import Derived.Test.YtmoploenbppdbaaQuiet
namespace Go.Proofs.Ytmoploenbppdbaa
open Go.RowKit

theorem bitsOf_at : ∀ (l : List Bool) (j : Nat), bitsOf l / 2 ^ j % 2 = (l.getD j false).toNat
  | [], j => by simp [bitsOf]
  | b :: bs, 0 => by
    simp only [bitsOf, Nat.pow_zero, Nat.div_one, List.getD_cons_zero]
    cases b <;> simp <;> omega
  | b :: bs, j + 1 => by
    have hb : b.toNat ≤ 1 := by cases b <;> simp
    rw [bitsOf, Nat.pow_succ, Nat.mul_comm (2 ^ j) 2, ← Nat.div_div_eq_div_mul, show (b.toNat + 2 * bitsOf bs) / 2 = bitsOf bs by omega, bitsOf_at bs j, List.getD_cons_succ]
theorem own_at {M : List Int} (x : Int) (j : Nat) (h : j < M.length) : ownB M x / 2 ^ j % 2 = (M.getD j 0 == x).toNat := by
  rw [ownB, bitsOf_at]
  simp [List.getElem?_eq_getElem h]
theorem own_lt (M : List Int) (h8 : M.length = 8) (x : Int) : ownB M x < 256 := by
  have := bitsOf_lt (M.map (fun s => s == x))
  rwa [List.length_map, h8] at this
theorem eq8i_self (W : World) (o0 o1 o2 o3 o4 o5 o6 o7 : Int) : (Op.equalIn 10000 22 (.agg #[.int .i64 o0, .int .i64 o1, .int .i64 o2, .int .i64 o3, .int .i64 o4, .int .i64 o5, .int .i64 o6, .int .i64 o7]) (.agg #[.int .i64 o0, .int .i64 o1, .int .i64 o2, .int .i64 o3, .int .i64 o4, .int .i64 o5, .int .i64 o6, .int .i64 o7])).run Try.prog W = .ok true W := by
  have hk : OfKinds (List.replicate 8 (some .i64)) [.int .i64 o0, .int .i64 o1, .int .i64 o2, .int .i64 o3, .int .i64 o4, .int .i64 o5, .int .i64 o6, .int .i64 o7] := ⟨⟨_, rfl⟩, ⟨_, rfl⟩, ⟨_, rfl⟩, ⟨_, rfl⟩, ⟨_, rfl⟩, ⟨_, rfl⟩, ⟨_, rfl⟩, ⟨_, rfl⟩, trivial⟩
  have := eq_flat_agg (P := Try.prog) W 2 22 (List.replicate 8 (some .i64)) (by kernel_rfl) (by omega) (fun _ => rfl) _ _ hk hk
  rw [(cellsEq_iff hk hk).2 rfl] at this
  exact this
theorem getD_set_ne {M : List Int} {i j : Nat} (h : i ≠ j) (x : Int) : (M.set i x).getD j 0 = M.getD j 0 := by
  simp [List.getD_eq_getElem?_getD, List.getElem?_set_ne h]
theorem getD_set_eq {M : List Int} {i : Nat} (h : i < M.length) (x : Int) : (M.set i x).getD i 0 = x := by
  simp [List.getD_eq_getElem?_getD, h]
theorem okR_set {M : List Int} {i : Nat} {t : Int} (h : okR M = true) (ht : isS t = true) : okR (M.set i t) = true := by
  simp only [okR, List.all_eq_true] at h ⊢
  intro s hs
  rcases List.mem_or_eq_of_mem_set hs with h1 | h1
  · exact h s h1
  · rw [h1]; exact ht

set_option maxRecDepth 100000 in
set_option maxHeartbeats 4000000 in
theorem moved_walk (o0 o1 o2 o3 o4 o5 o6 o7 s t : Int) (w : World) :
    Calls Try.prog 4 #[.agg #[.int .i64 o0, .int .i64 o1, .int .i64 o2, .int .i64 o3, .int .i64 o4, .int .i64 o5, .int .i64 o6, .int .i64 o7], .agg #[.int .i64 s, .int .i64 t]] w fun e w' => e = .returned (.bool true) ∧ Grows w w' := by
  have hz := z8
  have G0 := ((Grows.refl w).alloc (.cells #[.int .i64 o0, .int .i64 o1, .int .i64 o2, .int .i64 o3, .int .i64 o4, .int .i64 o5, .int .i64 o6, .int .i64 o7] 22)).alloc (.cells #[.int .i64 s, .int .i64 t] 25)
  have M0 := Lib.hid ((At.new w 22 #[.int .i64 o0, .int .i64 o1, .int .i64 o2, .int .i64 o3, .int .i64 o4, .int .i64 o5, .int .i64 o6, .int .i64 o7]).alloc (.cells #[.int .i64 s, .int .i64 t] 25))
  have C0 := At.new (w.alloc (.cells #[.int .i64 o0, .int .i64 o1, .int .i64 o2, .int .i64 o3, .int .i64 o4, .int .i64 o5, .int .i64 o6, .int .i64 o7] 22)) 25 #[.int .i64 s, .int .i64 t]
  simp only [World.size_alloc] at C0
  have C0 := Lib.hid C0
  cases hE : movedOk [o0, o1, o2, o3, o4, o5, o6, o7] s t with
  | false =>
    have HB := Lib.hid (fun W => moved_bad o0 o1 o2 o3 o4 o5 o6 o7 s t W hE)
    have he := eq8i_self
    clear hE
    go_enter Try.func4, Try.ntmps4
    go_wp2_with fail
    refine (HB.out _).mono ?_
    rintro e w1 ⟨rfl, hb1⟩
    go_wp2_with fail
    refine (wakes_any _).mono ?_
    rintro e w2 ⟨rfl, hb2⟩
    go_wp2_with fail
    go_ret
    exact ⟨rfl, ((G0.trans hb1).alloc _).trans hb2⟩
  | true =>
    obtain ⟨hR, hs0, hs8, ht⟩ := movedOk_bd hE
    have HB := Lib.hid (fun W => moved_ok o0 o1 o2 o3 o4 o5 o6 o7 s t W hE)
    have hlit : ∀ k, k < 8 → (#[.int .i64 o0, .int .i64 o1, .int .i64 o2, .int .i64 o3, .int .i64 o4, .int .i64 o5, .int .i64 o6, .int .i64 o7] : Array Value)[k]? = some (.int .i64 ([o0, o1, o2, o3, o4, o5, o6, o7].getD k 0)) := fun k hk => lit8 o0 o1 o2 o3 o4 o5 o6 o7 k hk
    have HLM := Lib.hid hlit
    have h8 : [o0, o1, o2, o3, o4, o5, o6, o7].length = 8 := rfl
    generalize [o0, o1, o2, o3, o4, o5, o6, o7] = M at *
    have H8 := Lib.hid h8
    clear hE hlit h8
    go_enter Try.func4, Try.ntmps4
    go_wp2_with fail
    refine (HB.out _).mono ?_
    rintro e w1 ⟨p0, p1, p2, p3, p4, p5, p6, p7, rfl, hN, hb1⟩
    have hlit : ∀ k, k < 8 → (#[.int .i64 p0, .int .i64 p1, .int .i64 p2, .int .i64 p3, .int .i64 p4, .int .i64 p5, .int .i64 p6, .int .i64 p7] : Array Value)[k]? = some (.int .i64 ((M.set s.toNat t).getD k 0)) := fun k hk => by rw [← hN]; exact lit8 p0 p1 p2 p3 p4 p5 p6 p7 k hk
    have HLN := Lib.hid hlit
    have HMay : ∀ W, Grows (w1.alloc (.cells #[.int .i64 p0, .int .i64 p1, .int .i64 p2, .int .i64 p3, .int .i64 p4, .int .i64 p5, .int .i64 p6, .int .i64 p7] 22)) W → Hid (Calls Try.prog 6 #[.agg #[.int .i64 p0, .int .i64 p1, .int .i64 p2, .int .i64 p3, .int .i64 p4, .int .i64 p5, .int .i64 p6, .int .i64 p7]] W fun e w' => e = .returned (.bool true) ∧ Grows W w') := fun W _ => by
      have := may_any p0 p1 p2 p3 p4 p5 p6 p7 _ hN W
      rw [okR_set hR ht] at this
      exact this
    have HOwn : ∀ W, Grows (w1.alloc (.cells #[.int .i64 p0, .int .i64 p1, .int .i64 p2, .int .i64 p3, .int .i64 p4, .int .i64 p5, .int .i64 p6, .int .i64 p7] 22)) W → Hid (Calls Try.prog 10 #[.agg #[.int .i64 p0, .int .i64 p1, .int .i64 p2, .int .i64 p3, .int .i64 p4, .int .i64 p5, .int .i64 p6, .int .i64 p7], .int .i64 t] W fun e w' => e = .returned (.int .i64 ((ownB (M.set s.toNat t) t : Nat) : Int)) ∧ Grows W w') := fun W _ => owned_any p0 p1 p2 p3 p4 p5 p6 p7 _ hN t W
    have hbit : ownB (M.set s.toNat t) t / 2 ^ s.toNat % 2 = 1 := by
      rw [own_at t s.toNat (by rw [List.length_set, H8.out]; omega), getD_set_eq (by rw [H8.out]; omega)]
      simp
    have hlt := own_lt (M.set s.toNat t) (by rw [List.length_set, H8.out]) t
    clear hN hlit HB
    have A1 := Lib.hid ((M0.out.grows hb1).alloc (.cells #[.int .i64 p0, .int .i64 p1, .int .i64 p2, .int .i64 p3, .int .i64 p4, .int .i64 p5, .int .i64 p6, .int .i64 p7] 22))
    have B1 := Lib.hid ((C0.out.grows hb1).alloc (.cells #[.int .i64 p0, .int .i64 p1, .int .i64 p2, .int .i64 p3, .int .i64 p4, .int .i64 p5, .int .i64 p6, .int .i64 p7] 22))
    have N1 := Lib.hid (At.new w1 22 #[.int .i64 p0, .int .i64 p1, .int .i64 p2, .int .i64 p3, .int .i64 p4, .int .i64 p5, .int .i64 p6, .int .i64 p7])
    have G1 := (G0.trans hb1).alloc (.cells #[.int .i64 p0, .int .i64 p1, .int .i64 p2, .int .i64 p3, .int .i64 p4, .int .i64 p5, .int .i64 p6, .int .i64 p7] 22)
    generalize ownB (M.set s.toNat t) t = B at *
    have HBIT := Lib.hid hbit
    clear hbit
    go_wp2_with fail
    go_loopg [26] 8 (fun gh i wr => ∃ (k : Nat), k + gh = 8 ∧ i = .int .i64 (k : Int) ∧ Grows (w1.alloc (.cells #[.int .i64 p0, .int .i64 p1, .int .i64 p2, .int .i64 p3, .int .i64 p4, .int .i64 p5, .int .i64 p6, .int .i64 p7] 22)) wr)
    case atStart => exact ⟨0, by omega, rfl, Grows.refl _⟩
    case round =>
      obtain ⟨k, hk, rfl, hg⟩ := hrel
      have A2 := A1.out.grows hg
      have B2 := B1.out.grows hg
      have N2 := N1.out.grows hg
      have G2 := G1.trans hg
      by_cases hlt8 : k < 8
      · have hlt' : (k : Int) < 8 := by omega
        have hk0 : (0 : Int) ≤ (k : Int) := by omega
        have cc := B2.cell
        have cm := A2.cell k
        have cn := N2.cell k
        rw [HLM.out k hlt8] at cm
        rw [HLN.out k hlt8] at cn
        by_cases hks : (k : Int) = s
        · have e1 : ((k : Int) == s) = true := by simpa using hks
          have e2 : ((k : Int) != s) = false := by simpa using hks
          rw [show k = s.toNat by omega, getD_set_eq (by rw [H8.out]; omega), ← show k = s.toNat by omega] at cn
          clear hks cm
          go_wp2_with fail
          go_quiet (fail)
          go_wp2_with fail
          go_roundg (gk - 1)
          case measure => omega
          case rel => exact ⟨k + 1, by omega, by go_num, hg.drewN _⟩
        · have e1 : ((k : Int) == s) = false := by simpa using hks
          have e2 : ((k : Int) != s) = true := by simpa using hks
          rw [getD_set_ne (show s.toNat ≠ k by omega)] at cn
          generalize M.getD k 0 = x at *
          clear hks
          go_wp2_with fail
          go_quiet (fail)
          go_wp2_with fail
          go_roundg (gk - 1)
          case measure => omega
          case rel => exact ⟨k + 1, by omega, by go_num, hg.drewN _⟩
      · obtain rfl : k = 8 := by omega
        have L1 := Lib.hid (ld_row (P := Try.prog) N2 Try.underlying22 rfl (by kernel_rfl))
        have c0 : wr.cell? ⟨w.heap.size + 1, 0, none⟩ = some (.int .i64 s) := B2.cell 0
        have c1 : wr.cell? ⟨w.heap.size + 1, 1, none⟩ = some (.int .i64 t) := B2.cell 1
        have L2 := Lib.hid (ld_int (P := Try.prog) Try.underlying3 c0)
        have L3 := Lib.hid (ld_int (P := Try.prog) Try.underlying3 c1)
        have hgo := hg
        have hb1 : (bits .and .i64 ((B : Int) / 2 ^ s.toNat) 1 == 1) = true := by
          rw [and_bit B s.toNat (by omega), HBIT.out]
          rfl
        clear c0 c1
        go_wp2_with fail
        refine wp_region_class wr (by kernel_rfl) (by kernel_rfl) (Grows.refl _) ?_
        repeat (first
          | go_big_quiet_skip
          | (go_big_quiet_want; first
              | (refine quiet_load (b := w1.heap.size) (off := 0) rfl L1.out ?_; (simp only [Act.put, List.setIfInBounds_toArray, List.set_cons_zero, List.set_cons_succ]); go_big_quiet_on)
              | (refine quiet_load (b := w.heap.size + 1) (off := 0) rfl L2.out ?_; (simp only [Act.put, List.setIfInBounds_toArray, List.set_cons_zero, List.set_cons_succ]); go_big_quiet_on)
              | (refine quiet_load (b := w.heap.size + 1) (off := 1) rfl L3.out ?_; (simp only [Act.put, List.setIfInBounds_toArray, List.set_cons_zero, List.set_cons_succ]); go_big_quiet_on)
              | (go_big_quiet_op; first
                  | go_big_quiet_on
                  | (refine ⟨_, fun _ _ => rfl, ?_⟩; go_big_quiet_on)
                  | go_big_quiet_call (first
                      | (intro hC; go_at_call 6; refine (HMay _ (hgo.trans hC)).out.mono ?_; rintro e w11 ⟨rfl, hg'⟩; exact ⟨rfl, hC.trans hg'⟩)
                      | (intro hC; go_at_call 10; refine (HOwn _ (hgo.trans hC)).out.mono ?_; rintro e w11 ⟨rfl, hg'⟩; exact ⟨rfl, hC.trans hg'⟩)
                      | (intro hC; go_at_call 8; refine (wakes_any _).mono ?_; rintro e w11 ⟨rfl, hg'⟩; exact ⟨rfl, hC.trans hg'⟩)))))
        refine wpQuiet_nil ?_
        intro w10 hb10
        go_wp2_with fail
        go_ret
        exact ⟨rfl, G2.trans hb10⟩
end Go.Proofs.Ytmoploenbppdbaa
