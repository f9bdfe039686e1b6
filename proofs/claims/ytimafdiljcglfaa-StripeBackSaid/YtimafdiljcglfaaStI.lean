/-
  StripeBack: the law's walk.
-/
import Derived.Test.YtimafdiljcglfaaStH
namespace Go.Proofs.Ytimafdiljcglfaa
open Go.RowKit

set_option maxRecDepth 100000 in
set_option maxHeartbeats 8000000 in
theorem back_walk (v u o0 o1 o2 o3 o4 o5 o6 o7 p0 p1 p2 p3 p4 p5 p6 p7 : Int) (w : World) :
    Calls Try.prog 4 #[mpv v o0 o1 o2 o3 o4 o5 o6 o7, mpv u p0 p1 p2 p3 p4 p5 p6 p7] w fun e w' => e = .returned (.bool true) ∧ Grows w w' := by
  have G0 := ((Grows.refl w).alloc (.cells #[.int .i64 v, .int .i64 o0, .int .i64 o1, .int .i64 o2, .int .i64 o3, .int .i64 o4, .int .i64 o5, .int .i64 o6, .int .i64 o7] 24)).alloc (.cells #[.int .i64 u, .int .i64 p0, .int .i64 p1, .int .i64 p2, .int .i64 p3, .int .i64 p4, .int .i64 p5, .int .i64 p6, .int .i64 p7] 24)
  have A0 := Lib.hid ((At.new w 24 #[.int .i64 v, .int .i64 o0, .int .i64 o1, .int .i64 o2, .int .i64 o3, .int .i64 o4, .int .i64 o5, .int .i64 o6, .int .i64 o7]).alloc (.cells #[.int .i64 u, .int .i64 p0, .int .i64 p1, .int .i64 p2, .int .i64 p3, .int .i64 p4, .int .i64 p5, .int .i64 p6, .int .i64 p7] 24))
  have B0 := At.new (w.alloc (.cells #[.int .i64 v, .int .i64 o0, .int .i64 o1, .int .i64 o2, .int .i64 o3, .int .i64 o4, .int .i64 o5, .int .i64 o6, .int .i64 o7] 24)) 24 #[.int .i64 u, .int .i64 p0, .int .i64 p1, .int .i64 p2, .int .i64 p3, .int .i64 p4, .int .i64 p5, .int .i64 p6, .int .i64 p7]
  simp only [World.size_alloc] at B0
  have B0 := Lib.hid B0
  have KA := Lib.hid (fun W => check_any v o0 o1 o2 o3 o4 o5 o6 o7 W)
  have KB := Lib.hid (fun W => check_any u p0 p1 p2 p3 p4 p5 p6 p7 W)
  cases hok : okM v [o0, o1, o2, o3, o4, o5, o6, o7] with
  | false =>
    rw [show checkE v [o0, o1, o2, o3, o4, o5, o6, o7] = 2 by simp [checkE, hok]] at KA
    clear hok KB
    unfold mpv
    go_enter Try.func4, Try.ntmps4
    go_wp2_with fail
    refine (KA.out _).mono ?_
    rintro e w1 ⟨rfl, hb1⟩
    go_wp2_with fail
    refine (wakes_any _).mono ?_
    rintro e w2 ⟨rfl, hb2⟩
    go_wp2_with fail
    go_ret
    exact ⟨rfl, (G0.trans hb1).trans hb2⟩
  | true =>
  rw [show checkE v [o0, o1, o2, o3, o4, o5, o6, o7] = 0 by simp [checkE, hok]] at KA
  cases hok2 : okM u [p0, p1, p2, p3, p4, p5, p6, p7] with
  | false =>
    rw [show checkE u [p0, p1, p2, p3, p4, p5, p6, p7] = 2 by simp [checkE, hok2]] at KB
    clear hok hok2
    unfold mpv
    go_enter Try.func4, Try.ntmps4
    go_wp2_with fail
    refine (KA.out _).mono ?_
    rintro e w1 ⟨rfl, hb1⟩
    have cb := (B0.out.grows hb1).cell
    go_wp2_with fail
    refine (KB.out _).mono ?_
    rintro e w2 ⟨rfl, hb2⟩
    clear cb
    go_wp2_with fail
    refine (wakes_any _).mono ?_
    rintro e w3 ⟨rfl, hb3⟩
    go_wp2_with fail
    go_ret
    exact ⟨rfl, ((G0.trans hb1).trans hb2).trans hb3⟩
  | true =>
  rw [show checkE u [p0, p1, p2, p3, p4, p5, p6, p7] = 0 by simp [checkE, hok2]] at KB
  have hvb := okM_bd hok
  obtain ⟨nv, rfl⟩ : ∃ n : Nat, v = (n : Int) := ⟨v.toNat, by omega⟩
  have hPM : ∀ (k : Nat), k < 32 → ∀ W, Calls Try.prog 7 #[mpv (nv : Int) o0 o1 o2 o3 o4 o5 o6 o7, .int .i64 (k : Int)] W fun e w' => e = .returned (.tuple #[.int .i64 (placeS nv [o0, o1, o2, o3, o4, o5, o6, o7] k), .int .i64 (placeK nv [o0, o1, o2, o3, o4, o5, o6, o7] k), .int .i64 (placeE nv [o0, o1, o2, o3, o4, o5, o6, o7] k)]) ∧ Grows W w' := fun k hk W => Place_any nv o0 o1 o2 o3 o4 o5 o6 o7 _ rfl k hk hok W
  have hBL : ∀ (k : Nat), k < 32 → ∀ (s : Nat), [o0, o1, o2, o3, o4, o5, o6, o7].getD (k / 4) 0 = (s : Int) → 1 ≤ s → ∀ W, Calls Try.prog 9 #[mpv (nv : Int) o0 o1 o2 o3 o4 o5 o6 o7, .int .i64 (s : Int), .int .i64 ((slotOf [o0, o1, o2, o3, o4, o5, o6, o7] k : Nat) : Int)] W fun e w' => e = .returned (.tuple #[.int .i64 (k : Int), .int .i64 0]) ∧ Grows W w' := fun k hk s hs h1 W => Block_hit nv o0 o1 o2 o3 o4 o5 o6 o7 _ rfl k hk hok s hs h1 W
  have hBy : ∀ W, Calls Try.prog 10 #[mpv (nv : Int) o0 o1 o2 o3 o4 o5 o6 o7] W fun e w' => ∃ u, e = .returned (.tuple #[u, .int .i64 0]) ∧ NewBy W (mapB nv [o0, o1, o2, o3, o4, o5, o6, o7]) u w' := fun W => Bytes_ok nv o0 o1 o2 o3 o4 o5 o6 o7 _ rfl hok W
  have hRe : ∀ (a : Option Addr) (cap : Nat) (W : World), Rd W a (bys (mapB nv [o0, o1, o2, o3, o4, o5, o6, o7])) → Calls Try.prog 11 #[.slice a 14 cap] W fun e w' => e = .returned (.tuple #[mpv (nv : Int) o0 o1 o2 o3 o4 o5 o6 o7, .int .i64 0]) ∧ Grows W w' := fun a cap W h => Read_ok nv o0 o1 o2 o3 o4 o5 o6 o7 _ rfl hok a cap W h
  have hDi : ∀ W, Calls Try.prog 12 #[mpv (nv : Int) o0 o1 o2 o3 o4 o5 o6 o7, mpv u p0 p1 p2 p3 p4 p5 p6 p7] W (DiffPost W [p0, p1, p2, p3, p4, p5, p6, p7] (dfs [o0, o1, o2, o3, o4, o5, o6, o7] [p0, p1, p2, p3, p4, p5, p6, p7] 8)) := fun W => Diff_any nv u o0 o1 o2 o3 o4 o5 o6 o7 p0 p1 p2 p3 p4 p5 p6 p7 _ _ rfl rfl hok hok2 W
  have hubd := (okM_bd hok2).2.2
  have hAl : (dfs [o0, o1, o2, o3, o4, o5, o6, o7] [p0, p1, p2, p3, p4, p5, p6, p7] 8).any (fun i => [p0, p1, p2, p3, p4, p5, p6, p7].getD i 0 == 0) = false → ∀ (a : Option Addr) (cap : Nat) (W : World), Rd W a (rowsOf (chc [p0, p1, p2, p3, p4, p5, p6, p7]) (dfs [o0, o1, o2, o3, o4, o5, o6, o7] [p0, p1, p2, p3, p4, p5, p6, p7] 8)) → Calls Try.prog 13 #[mpv (nv : Int) o0 o1 o2 o3 o4 o5 o6 o7, .slice a (dfs [o0, o1, o2, o3, o4, o5, o6, o7] [p0, p1, p2, p3, p4, p5, p6, p7] 8).length cap] W (AllPost W nv [p0, p1, p2, p3, p4, p5, p6, p7] (dfs [o0, o1, o2, o3, o4, o5, o6, o7] [p0, p1, p2, p3, p4, p5, p6, p7] 8).length) := fun hany a cap W h => by
    have := All_any nv o0 o1 o2 o3 o4 o5 o6 o7 _ [p0, p1, p2, p3, p4, p5, p6, p7] rfl hok (dfs [o0, o1, o2, o3, o4, o5, o6, o7] [p0, p1, p2, p3, p4, p5, p6, p7] 8) _ rfl (fun i hi => by
      have h1 := dfs_lt hi
      have h2 := hubd ([p0, p1, p2, p3, p4, p5, p6, p7].getD i 0) (by rw [List.getD_eq_getElem?_getD, List.getElem?_eq_getElem (show i < [p0, p1, p2, p3, p4, p5, p6, p7].length from h1)]; exact List.getElem_mem _)
      have h3 : ([p0, p1, p2, p3, p4, p5, p6, p7].getD i 0 == 0) = false := by
        rw [Bool.eq_false_iff]
        intro h
        rw [Bool.eq_false_iff] at hany
        exact hany (List.any_eq_true.2 ⟨i, hi, h⟩)
      have h4 : [p0, p1, p2, p3, p4, p5, p6, p7].getD i 0 ≠ 0 := by simpa using h3
      exact ⟨h1, by omega, by omega⟩) (dfs_len _ _ _) a cap W h
    rwa [app_dfs _ _ rfl rfl] at this
  have hlit : ∀ k, k < 8 → (#[.int .i64 (nv : Int), .int .i64 o0, .int .i64 o1, .int .i64 o2, .int .i64 o3, .int .i64 o4, .int .i64 o5, .int .i64 o6, .int .i64 o7] : Array Value)[1 + k]? = some (.int .i64 ([o0, o1, o2, o3, o4, o5, o6, o7].getD k 0)) := fun k hk => lit9 nv o0 o1 o2 o3 o4 o5 o6 o7 k hk
  have hlit2 : ∀ k, k < 8 → (#[.int .i64 u, .int .i64 p0, .int .i64 p1, .int .i64 p2, .int .i64 p3, .int .i64 p4, .int .i64 p5, .int .i64 p6, .int .i64 p7] : Array Value)[1 + k]? = some (.int .i64 ([p0, p1, p2, p3, p4, p5, p6, p7].getD k 0)) := fun k hk => lit9 u p0 p1 p2 p3 p4 p5 p6 p7 k hk
  have HQ : Hid (∀ (q0 q1 q2 q3 q4 q5 q6 q7 : Int), [q0, q1, q2, q3, q4, q5, q6, q7] = [p0, p1, p2, p3, p4, p5, p6, p7] → ∀ W, (Op.equalIn 10000 22 (.agg #[.int .i64 q0, .int .i64 q1, .int .i64 q2, .int .i64 q3, .int .i64 q4, .int .i64 q5, .int .i64 q6, .int .i64 q7]) (.agg #[.int .i64 p0, .int .i64 p1, .int .i64 p2, .int .i64 p3, .int .i64 p4, .int .i64 p5, .int .i64 p6, .int .i64 p7])).run Try.prog W = .ok true W) := fun q0 q1 q2 q3 q4 q5 q6 q7 h W => by
    rw [eq8, decide_eq_true h]
  have h8 : [o0, o1, o2, o3, o4, o5, o6, o7].length = 8 := rfl
  have h8' : [p0, p1, p2, p3, p4, p5, p6, p7].length = 8 := rfl
  have hDl := dfs_len [o0, o1, o2, o3, o4, o5, o6, o7] [p0, p1, p2, p3, p4, p5, p6, p7] 8
  generalize hA : [o0, o1, o2, o3, o4, o5, o6, o7] = A at *
  generalize hB : [p0, p1, p2, p3, p4, p5, p6, p7] = B at *
  have HPM := Lib.hid hPM
  have HBL := Lib.hid hBL
  have HBy := Lib.hid hBy
  have HRe := Lib.hid hRe
  have HDi := Lib.hid hDi
  have HAl := Lib.hid hAl
  have HL := Lib.hid hlit
  have HL2 := Lib.hid hlit2
  have H8 := Lib.hid h8
  have HOK := Lib.hid hok
  have HVB := Lib.hid hvb.2.2
  have hv1 := hvb.2.1
  clear hPM hBL hBy hRe hDi hAl hlit hlit2 h8 h8' hok hok2 hvb hubd hA hB
  unfold mpv at *
  have hz1 := z160 A
  have hz2 := z5 A
  go_enter Try.func4, Try.ntmps4
  go_wp2_with fail
  refine (KA.out _).mono ?_
  rintro e w1 ⟨rfl, hb1⟩
  have cb := (B0.out.grows hb1).cell
  go_wp2_with fail
  refine (KB.out _).mono ?_
  rintro e w2 ⟨rfl, hb2⟩
  have A2 := Lib.hid (A0.out.grows (hb1.trans hb2))
  have B2 := Lib.hid (B0.out.grows (hb1.trans hb2))
  have G2 := (G0.trans hb1).trans hb2
  clear cb A0 B0 G0 KA KB hb1 hb2
  go_wp2_with fail
  have S0 := Lib.hid ((At.new w2 36 (sn A 0)).alloc (.cells (mn A 0) 37))
  have M0 := At.new (w2.alloc (.cells (sn A 0) 36)) 37 (mn A 0)
  simp only [World.size_alloc] at M0
  clear hz1 hz2
  have hn1 : w.heap.size ≠ w2.heap.size := by have := A2.out.lt; omega
  have hn2 : w.heap.size ≠ w2.heap.size + 1 := by have := A2.out.lt; omega
  go_loopg [7] 32 (fun gh i wr => ∃ (k : Nat), k + gh = 32 ∧ i = .int .i64 (k : Int) ∧ At wr w2.heap.size 36 (sn A k) ∧ At wr (w2.heap.size + 1) 37 (mn A k) ∧ Grows w2 wr)
  case atStart => exact ⟨0, by omega, rfl, S0.out, M0, (((Grows.refl w2).alloc _).alloc _)⟩
  case round =>
    obtain ⟨k, hk, rfl, hS, hM, hg⟩ := hrel
    have HS := Lib.hid hS
    have HM := Lib.hid hM
    clear hS hM
    by_cases hlt : k < 32
    · have hlt' : (k : Int) < 32 := by omega
      have hk0 : (0 : Int) ≤ (k : Int) := by omega
      have P1 := Lib.hid (HPM.out k hlt)
      have e1 : placeS nv A k = A.getD (k / 4) 0 := by simp [placeS, HOK.out]
      have e3 : placeE nv A k = if A.getD (k / 4) 0 = 0 then 4 else 0 := by simp [placeE, HOK.out]
      have e5 : placeK nv A k = if A.getD (k / 4) 0 = 0 then 0 else ((slotOf A k : Nat) : Int) := by simp [placeK, HOK.out]
      rw [e1, e3, e5] at P1
      clear e1 e3 e5
      have hq' : (k : Int) / 4 < 8 := by omega
      have hq0 : (0 : Int) ≤ (k : Int) / 4 := by omega
      have hm := HVB.out (A.getD (k / 4) 0) (by rw [List.getD_eq_getElem?_getD, List.getElem?_eq_getElem (show k / 4 < A.length by rw [H8.out]; omega)]; exact List.getElem_mem _)
      have CA := Lib.hid (HL.out (k / 4) (by omega))
      have HB1 := Lib.hid (HBL.out k hlt)
      have HSC := Lib.hid (slot_cn A H8.out k hlt)
      have HSK := Lib.hid (sn_skip A k)
      have HMK := Lib.hid (mn_skip A k)
      have HST := Lib.hid (fun s a b c => sn_set A k s a b c hlt)
      have HMT := Lib.hid (mn_set A k)
      have cm := (A2.out.grows hg).cell
      generalize A.getD (k / 4) 0 = sh at *
      obtain ⟨s, rfl⟩ : ∃ s : Nat, sh = (s : Int) := ⟨sh.toNat, by omega⟩
      by_cases hs : s = 0
      · subst hs
        simp only [Int.natCast_zero, if_true] at P1
        have S1 : Hid (sn A (k + 1) = sn A k) := HSK.out rfl
        have M1 : Hid (mn A (k + 1) = mn A k) := HMK.out rfl
        go_wp2_with fail
        refine (P1.out _).mono ?_
        rintro e w3 ⟨rfl, hb3⟩
        clear cm
        have ca := (A2.out.grows (hg.trans hb3)).cell (1 + k / 4)
        rw [CA.out] at ca
        simp only [Int.natCast_zero] at ca
        go_wp2_with fail
        go_roundg (gk - 1)
        case measure => omega
        case rel => exact ⟨k + 1, by omega, by go_num, by rw [S1.out]; exact HS.out.grows hb3, by rw [M1.out]; exact HM.out.grows hb3, hg.trans hb3⟩
      · have hs1 : 1 ≤ s := by omega
        have hs4 : s ≤ 4 := by omega
        have hz : ¬ ((s : Int) = 0) := by omega
        rw [if_neg hz, if_neg hz, HSC.out] at P1
        have HB2 := Lib.hid (HB1.out s rfl hs1)
        rw [HSC.out] at HB2
        have S1 : Hid ((sn A k).setIfInBounds (s * 32 + cn A s k) (.bool true) = sn A (k + 1)) := HST.out s rfl hs1 hs4
        have M1 : Hid ((mn A k).setIfInBounds s (.int .i64 (((cn A s k : Nat) : Int) + 1)) = mn A (k + 1)) := HMT.out s rfl hs1 hs4
        have hc32 := cn_le A s k
        have hsa := sn_at A k (s * 32 + cn A s k) (by omega)
        rw [show snB A k (s * 32 + cn A s k) = false by
          rw [snB, show (s * 32 + cn A s k) / 32 = s by omega, show (s * 32 + cn A s k) % 32 = cn A s k by omega]; simp] at hsa
        have hma := mn_at A k s (by omega)
        rw [show mnI A k s = ((cn A s k : Nat) : Int) by rw [mnI, if_neg hs]] at hma
        have HSA := Lib.hid hsa
        have HMA := Lib.hid hma
        clear hsa hma HSK HMK HST HMT HB1
        generalize cn A s k = c at *
        have hzb : ((s : Int) == 0) = false := by simpa using hz
        have hs5 : (s : Int) < 5 := by omega
        have hs0 : (0 : Int) ≤ (s : Int) := by omega
        have hc0 : (0 : Int) ≤ (c : Int) := by omega
        have hc31 : (c : Int) < 32 := by omega
        have hcw : IntKind.i64.wrap ((c : Int) + 1) = (c : Int) + 1 := IntWalk.i64_in _ (by omega)
        go_wp2_with fail
        refine (P1.out _).mono ?_
        rintro e w3 ⟨rfl, hb3⟩
        clear cm
        have ca := (A2.out.grows (hg.trans hb3)).cell (1 + k / 4)
        rw [CA.out] at ca
        have hS3 := HS.out.grows hb3
        have hM3 := HM.out.grows hb3
        have cs := (hS3.cell (s * 32 + c)).trans HSA.out
        have cM := (hM3.cell s).trans HMA.out
        have fs := hS3.frozen (s * 32 + c)
        have fm := hM3.frozen s
        have HS3 := Lib.hid hS3
        have HM3 := Lib.hid hM3
        clear hS3 hM3
        have cm := (A2.out.grows (hg.trans hb3)).cell
        go_wp2_with fail
        have hS4 : At ((w3.setCell ⟨w2.heap.size, s * 32 + c, none⟩ (.bool true)).setCell ⟨w2.heap.size + 1, s, none⟩ (.int .i64 ((c : Int) + 1))) w2.heap.size 36 (sn A (k + 1)) := by
          rw [← S1.out]; exact (HS3.out.set _ _).far (by simp) _
        have hM4 : At ((w3.setCell ⟨w2.heap.size, s * 32 + c, none⟩ (.bool true)).setCell ⟨w2.heap.size + 1, s, none⟩ (.int .i64 ((c : Int) + 1))) (w2.heap.size + 1) 37 (mn A (k + 1)) := by
          rw [← M1.out]; exact (HM3.out.far (by simp) _).set _ _
        have G4 : Grows w2 ((w3.setCell ⟨w2.heap.size, s * 32 + c, none⟩ (.bool true)).setCell ⟨w2.heap.size + 1, s, none⟩ (.int .i64 ((c : Int) + 1))) := ((hg.trans hb3).setCell (by simp) _).setCell (by simp) _
        generalize (w3.setCell ⟨w2.heap.size, s * 32 + c, none⟩ (.bool true)).setCell ⟨w2.heap.size + 1, s, none⟩ (.int .i64 ((c : Int) + 1)) = w4 at *
        have HS4 := Lib.hid hS4
        have HM4 := Lib.hid hM4
        clear hS4 hM4 cs cM fs fm cm ca
        refine (HB2.out _).mono ?_
        rintro e w5 ⟨rfl, hb5⟩
        go_wp2_with fail
        go_roundg (gk - 1)
        case measure => omega
        case rel => exact ⟨k + 1, by omega, by go_num, HS4.out.grows hb5, HM4.out.grows hb5, G4.trans hb5⟩
    · obtain rfl : k = 32 := by omega
      have G3 := G2.trans hg
      have A3 := Lib.hid (A2.out.grows hg)
      have B3 := Lib.hid (B2.out.grows hg)
      clear A2 B2 HPM HBL
      go_wp2_with fail
      generalize wr = wx at *
      go_loopg [13] 4 (fun gh i wr => ∃ (s : Nat), s + gh = 5 ∧ 1 ≤ s ∧ i = .int .i64 (s : Int) ∧ Grows wx wr)
      case atStart => exact ⟨1, by omega, by omega, rfl, Grows.refl _⟩
      case round =>
        obtain ⟨s, hs, hs1, rfl, hgs⟩ := hrel
        by_cases hlt : s ≤ 4
        · have hlt' : (s : Int) ≤ 4 := by omega
          go_wp2_with fail
          go_loopg [14] 32 (fun gh i wi => ∃ (t : Nat), t + gh = 32 ∧ i = .int .i64 (t : Int) ∧ Grows wx wi)
          case atStart => exact ⟨0, by omega, rfl, hgs⟩
          case round =>
            obtain ⟨t, ht, rfl, hgt⟩ := hrel
            by_cases hlt2 : t < 32
            · have hlt3 : (t : Int) < 32 := by omega
              have ht0 : (0 : Int) ≤ (t : Int) := by omega
              have hs0 : (0 : Int) ≤ (s : Int) := by omega
              have hs5 : (s : Int) < 5 := by omega
              have cs := ((HS.out.grows hgt).cell (s * 32 + t)).trans (sn_at A 32 (s * 32 + t) (by omega))
              rw [show snB A 32 (s * 32 + t) = decide ((t : Int) < ((cn A s 32 : Nat) : Int)) by
                rw [snB, show (s * 32 + t) / 32 = s by omega, show (s * 32 + t) % 32 = t by omega]; simp [hs1]] at cs
              have cM := ((HM.out.grows hgt).cell s).trans (mn_at A 32 s (by omega))
              rw [show mnI A 32 s = ((cn A s 32 : Nat) : Int) by rw [mnI, if_neg (by omega)]] at cM
              generalize cn A s 32 = c at *
              go_wp2_with fail
              go_quiet (fail)
              go_wp2_with fail
              go_roundg (gk - 1)
              case measure => omega
              case rel => exact ⟨t + 1, by omega, by go_num, hgt.drewN _⟩
            · obtain rfl : t = 32 := by omega
              go_wp2_with fail
              go_roundg (5 - s - 1)
              case measure => omega
              case rel => exact ⟨s + 1, by omega, by omega, by go_num, hgt⟩
        · obtain rfl : s = 5 := by omega
          have G4 := G3.trans hgs
          have A4 := Lib.hid (A3.out.grows hgs)
          have B4 := Lib.hid (B3.out.grows hgs)
          clear A3 B3 HS HM
          have cm := A4.out.cell
          go_wp2_with fail
          refine (HBy.out _).mono ?_
          rintro e w5 ⟨vb, rfl, ab, cb, rfl, hown5, hb5⟩
          rw [mapB_length _ _ H8.out] at hown5
          rw [mapB_length _ _ H8.out]
          have R5 := Lib.hid (Rd.own hown5)
          clear cm hown5
          go_wp2_with fail
          refine (HRe.out _ _ _ R5.out).mono ?_
          rintro e w6 ⟨rfl, hb6⟩
          have G6 := ((G4.trans hb5).trans hb6).alloc (.cells #[.int .i64 (nv : Int), .int .i64 o0, .int .i64 o1, .int .i64 o2, .int .i64 o3, .int .i64 o4, .int .i64 o5, .int .i64 o6, .int .i64 o7] 24)
          have A6 := Lib.hid ((A4.out.grows (hb5.trans hb6)).alloc (.cells #[.int .i64 (nv : Int), .int .i64 o0, .int .i64 o1, .int .i64 o2, .int .i64 o3, .int .i64 o4, .int .i64 o5, .int .i64 o6, .int .i64 o7] 24))
          have B6 := Lib.hid ((B4.out.grows (hb5.trans hb6)).alloc (.cells #[.int .i64 (nv : Int), .int .i64 o0, .int .i64 o1, .int .i64 o2, .int .i64 o3, .int .i64 o4, .int .i64 o5, .int .i64 o6, .int .i64 o7] 24))
          have N6 := At.new w6 24 #[.int .i64 (nv : Int), .int .i64 o0, .int .i64 o1, .int .i64 o2, .int .i64 o3, .int .i64 o4, .int .i64 o5, .int .i64 o6, .int .i64 o7]
          clear R5 A4 B4
          have cm := A6.out.cell
          have cn := N6.cell
          have cq := B6.out.cell
          have heq := fun W => eqm_self W (nv : Int) o0 o1 o2 o3 o4 o5 o6 o7
          go_wp2_with fail
          clear cm cn cq heq
          refine (HDi.out _).mono ?_
          rintro e w7 ⟨hb7, hpost⟩
          have G7 := G6.trans hb7
          have A7 := Lib.hid (A6.out.grows hb7)
          have B7 := Lib.hid (B6.out.grows hb7)
          clear A6 B6 N6
          rcases hpost with ⟨hany, rfl⟩ | ⟨hany, v7, rfl, hN7⟩
          · have HAN := Lib.hid hany
            clear hany HAl
            go_wp2_with fail
            go_loopg [21, 22, 23] 8 (fun gh a b i wr => ∃ (k d : Nat) (nn : Bool), k + gh = 8 ∧ i = .int .i64 (k : Int) ∧ a = .int .i64 (d : Int) ∧ b = .bool nn ∧ (dfs A B k).length = d ∧ (dfs A B k).any (fun i => B.getD i 0 == 0) = nn ∧ Grows w7 wr)
            case atStart => exact ⟨0, 0, false, by omega, rfl, rfl, rfl, rfl, rfl, Grows.refl _⟩
            case round =>
              obtain ⟨k, d, nn, hk, rfl, rfl, rfl, hd, hnn, hg7⟩ := hrel
              have HDD := Lib.hid hd
              have HNN := Lib.hid hnn
              have hd8 : d ≤ k := by rw [← hd]; exact dfs_len A B k
              clear hd hnn
              by_cases hlt : k < 8
              · have hlt' : (k : Int) < 8 := by omega
                have hk0 : (0 : Int) ≤ (k : Int) := by omega
                have HS1 := Lib.hid (dfs_succ A B k)
                have HS2 := Lib.hid (dfs_any_succ A B k)
                have ca := (A7.out.grows hg7).cell (1 + k)
                have cb := (B7.out.grows hg7).cell (1 + k)
                rw [HL.out k hlt] at ca
                rw [HL2.out k hlt] at cb
                generalize A.getD k 0 = x at *
                generalize B.getD k 0 = y at *
                by_cases hxy : x = y
                · have hne : (x != y) = false := by simpa using hxy
                  rw [if_neg (by simpa using hxy), List.append_nil] at HS1
                  rw [decide_eq_false (by simpa using hxy), Bool.false_and, Bool.or_false] at HS2
                  clear hxy
                  go_wp2_with fail
                  go_quiet (fail)
                  go_wp2_with fail
                  go_roundg (gk - 1)
                  case measure => omega
                  case rel => exact ⟨k + 1, d, nn, by omega, by go_num, rfl, rfl, by rw [HS1.out]; exact HDD.out, by rw [HS2.out]; exact HNN.out, hg7.drewN _⟩
                · have hne : (x != y) = true := by simpa using hxy
                  rw [if_pos hxy] at HS1
                  rw [decide_eq_true hxy, Bool.true_and, HNN.out] at HS2
                  have HL1 : Hid ((dfs A B (k + 1)).length = d + 1) := by
                    show _ = _
                    rw [HS1.out, List.length_append, HDD.out]; rfl
                  clear hxy HS1
                  cases nn
                  · by_cases hy : y = 0
                    · subst hy
                      go_wp2_with fail
                      go_quiet (fail)
                      have cb2 : (wr.drewN nq).cell? ⟨w.heap.size + 1, 1 + k, none⟩ = some (.int .i64 0) := cb
                      clear ca cb
                      go_wp2_with fail
                      go_roundg (gk - 1)
                      case measure => omega
                      case rel => exact ⟨k + 1, d + 1, true, by omega, by go_num, by go_num, rfl, HL1.out, by rw [HS2.out]; rfl, hg7.drewN _⟩
                    · have hyb : (y == 0) = false := by simpa using hy
                      rw [hyb, Bool.or_false] at HS2
                      clear hy
                      go_wp2_with fail
                      go_quiet (fail)
                      have cb2 : (wr.drewN nq).cell? ⟨w.heap.size + 1, 1 + k, none⟩ = some (.int .i64 y) := cb
                      clear ca cb
                      go_wp2_with fail
                      go_roundg (gk - 1)
                      case measure => omega
                      case rel => exact ⟨k + 1, d + 1, false, by omega, by go_num, by go_num, rfl, HL1.out, HS2.out, hg7.drewN _⟩
                  · rw [Bool.true_or] at HS2
                    go_wp2_with fail
                    go_quiet (fail)
                    clear ca cb
                    go_wp2_with fail
                    go_roundg (gk - 1)
                    case measure => omega
                    case rel => exact ⟨k + 1, d + 1, true, by omega, by go_num, by go_num, rfl, HL1.out, HS2.out, hg7.drewN _⟩
              · obtain rfl : k = 8 := by omega
                have hnt : nn = true := by rw [← HNN.out, HAN.out]
                subst hnt
                go_wp2_with fail
                refine (wakes_any _).mono ?_
                rintro e w8 ⟨rfl, hb8⟩
                go_wp2_with fail
                go_ret
                exact ⟨rfl, (G7.trans hg7).trans hb8⟩
          · have HAN := Lib.hid hany
            have HAL := Lib.hid (HAl.out hany)
            obtain ⟨a7, c7, rfl, _⟩ := own_slice hN7.1
            have R7 := Lib.hid hN7.rd
            clear hany HAl hN7
            obtain ⟨m, hm⟩ : ∃ m, (dfs A B 8).length = m := ⟨_, rfl⟩
            rw [hm] at HAL hDl
            have HMM := Lib.hid hm
            rw [hm]
            clear hm
            go_wp2_with fail
            go_loopg [21, 22, 23] 8 (fun gh a b i wr => ∃ (k d : Nat) (nn : Bool), k + gh = 8 ∧ i = .int .i64 (k : Int) ∧ a = .int .i64 (d : Int) ∧ b = .bool nn ∧ (dfs A B k).length = d ∧ (dfs A B k).any (fun i => B.getD i 0 == 0) = nn ∧ Grows w7 wr)
            case atStart => exact ⟨0, 0, false, by omega, rfl, rfl, rfl, rfl, rfl, Grows.refl _⟩
            case round =>
              obtain ⟨k, d, nn, hk, rfl, rfl, rfl, hd, hnn, hg7⟩ := hrel
              have HDD := Lib.hid hd
              have HNN := Lib.hid hnn
              have hd8 : d ≤ k := by rw [← hd]; exact dfs_len A B k
              clear hd hnn
              by_cases hlt : k < 8
              · have hlt' : (k : Int) < 8 := by omega
                have hk0 : (0 : Int) ≤ (k : Int) := by omega
                have HS1 := Lib.hid (dfs_succ A B k)
                have HS2 := Lib.hid (dfs_any_succ A B k)
                have ca := (A7.out.grows hg7).cell (1 + k)
                have cb := (B7.out.grows hg7).cell (1 + k)
                rw [HL.out k hlt] at ca
                rw [HL2.out k hlt] at cb
                generalize A.getD k 0 = x at *
                generalize B.getD k 0 = y at *
                by_cases hxy : x = y
                · have hne : (x != y) = false := by simpa using hxy
                  rw [if_neg (by simpa using hxy), List.append_nil] at HS1
                  rw [decide_eq_false (by simpa using hxy), Bool.false_and, Bool.or_false] at HS2
                  clear hxy
                  go_wp2_with fail
                  go_quiet (fail)
                  go_wp2_with fail
                  go_roundg (gk - 1)
                  case measure => omega
                  case rel => exact ⟨k + 1, d, nn, by omega, by go_num, rfl, rfl, by rw [HS1.out]; exact HDD.out, by rw [HS2.out]; exact HNN.out, hg7.drewN _⟩
                · have hne : (x != y) = true := by simpa using hxy
                  rw [if_pos hxy] at HS1
                  rw [decide_eq_true hxy, Bool.true_and, HNN.out] at HS2
                  have HL1 : Hid ((dfs A B (k + 1)).length = d + 1) := by
                    show _ = _
                    rw [HS1.out, List.length_append, HDD.out]; rfl
                  clear hxy HS1
                  cases nn
                  · by_cases hy : y = 0
                    · subst hy
                      go_wp2_with fail
                      go_quiet (fail)
                      have cb2 : (wr.drewN nq).cell? ⟨w.heap.size + 1, 1 + k, none⟩ = some (.int .i64 0) := cb
                      clear ca cb
                      go_wp2_with fail
                      go_roundg (gk - 1)
                      case measure => omega
                      case rel => exact ⟨k + 1, d + 1, true, by omega, by go_num, by go_num, rfl, HL1.out, by rw [HS2.out]; rfl, hg7.drewN _⟩
                    · have hyb : (y == 0) = false := by simpa using hy
                      rw [hyb, Bool.or_false] at HS2
                      clear hy
                      go_wp2_with fail
                      go_quiet (fail)
                      have cb2 : (wr.drewN nq).cell? ⟨w.heap.size + 1, 1 + k, none⟩ = some (.int .i64 y) := cb
                      clear ca cb
                      go_wp2_with fail
                      go_roundg (gk - 1)
                      case measure => omega
                      case rel => exact ⟨k + 1, d + 1, false, by omega, by go_num, by go_num, rfl, HL1.out, HS2.out, hg7.drewN _⟩
                  · rw [Bool.true_or] at HS2
                    go_wp2_with fail
                    go_quiet (fail)
                    clear ca cb
                    go_wp2_with fail
                    go_roundg (gk - 1)
                    case measure => omega
                    case rel => exact ⟨k + 1, d + 1, true, by omega, by go_num, by go_num, rfl, HL1.out, HS2.out, hg7.drewN _⟩
              · obtain rfl : k = 8 := by omega
                have hnt : nn = false := by rw [← HNN.out, HAN.out]
                subst hnt
                obtain rfl : d = m := by rw [← HDD.out, HMM.out]
                have cm := (A7.out.grows hg7).cell
                go_wp2_with fail
                refine (HAL.out _ _ _ (R7.out.grows hg7)).mono ?_
                rintro e w8 ⟨hb8, hres⟩
                clear cm
                have A8 := Lib.hid (A7.out.grows (hg7.trans hb8))
                have B8 := Lib.hid (B7.out.grows (hg7.trans hb8))
                have G8 := (G7.trans hg7).trans hb8
                rcases hres with ⟨hle, q0, q1, q2, q3, q4, q5, q6, q7, rfl, hq⟩ | ⟨hgt, x, y, q0, q1, q2, q3, q4, q5, q6, q7, rfl⟩
                · unfold mpv
                  have heq := HQ.out q0 q1 q2 q3 q4 q5 q6 q7 hq
                  have ca := (A8.out.alloc (.cells #[.int .i64 ((nv : Int) + d), .int .i64 q0, .int .i64 q1, .int .i64 q2, .int .i64 q3, .int .i64 q4, .int .i64 q5, .int .i64 q6, .int .i64 q7] 24)).cell
                  have cb := (B8.out.alloc (.cells #[.int .i64 ((nv : Int) + d), .int .i64 q0, .int .i64 q1, .int .i64 q2, .int .i64 q3, .int .i64 q4, .int .i64 q5, .int .i64 q6, .int .i64 q7] 24)).cell
                  have cn := (At.new w8 24 #[.int .i64 ((nv : Int) + d), .int .i64 q0, .int .i64 q1, .int .i64 q2, .int .i64 q3, .int .i64 q4, .int .i64 q5, .int .i64 q6, .int .i64 q7]).cell
                  have hwr : IntKind.i64.wrap ((nv : Int) + (d : Int)) = (nv : Int) + (d : Int) := IntWalk.i64_in _ (by omega)
                  have HQQ := Lib.hid hq
                  clear hq
                  go_wp2_with fail
                  refine (wakes_any _).mono ?_
                  rintro e w9 ⟨rfl, hb9⟩
                  clear ca cb cn heq
                  go_wp2_with fail
                  go_ret
                  exact ⟨rfl, (G8.alloc _).trans hb9⟩
                · unfold mpv
                  have ca := (A8.out.alloc (.cells #[.int .i64 x, .int .i64 q0, .int .i64 q1, .int .i64 q2, .int .i64 q3, .int .i64 q4, .int .i64 q5, .int .i64 q6, .int .i64 q7] 24)).cell
                  have hbig : (1099511627768 : Int) < (nv : Int) := by omega
                  go_wp2_with fail
                  refine (wakes_any _).mono ?_
                  rintro e w9 ⟨rfl, hb9⟩
                  clear ca
                  go_wp2_with fail
                  go_ret
                  exact ⟨rfl, (G8.alloc _).trans hb9⟩
end Go.Proofs.Ytimafdiljcglfaa
