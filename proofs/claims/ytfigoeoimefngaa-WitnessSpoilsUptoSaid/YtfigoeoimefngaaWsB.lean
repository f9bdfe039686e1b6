/-
  The law WitnessSpoils.
-/
import Derived.Test.YtfigoeoimefngaaWqG
import Derived.Test.YtfigoeoimefngaaWsA
import Derived.Test.YtfigoeoimefngaaWnD
namespace Go.Proofs.Ytfigoeoimefngaa
open Go.RowKit Go.Maps Go.Shelf

theorem spoil_ok {M : List Sn} (hok : ∀ x ∈ M, x.n.ok ∧ x.wk.ok) {q : Nat} {v : List Int} (hv : v.length = 8) (hb : Bys v) : ∀ y ∈ spoilL M q v, y.n.ok ∧ y.wk.ok := by
  intro y hy
  obtain ⟨p, hp, rfl⟩ := List.getElem_of_mem hy
  have h1 : (spoilL M q v)[p]? = some (spoilL M q v)[p] := List.getElem?_eq_getElem hp
  generalize (spoilL M q v)[p] = y at *
  unfold spoilL at h1
  rw [List.getElem?_modify] at h1
  cases hx : M[p]? with
  | none => rw [hx] at h1; cases h1
  | some x =>
    rw [hx] at h1
    have ho := hok x (List.mem_of_getElem? hx)
    simp only [Option.map_eq_map, Option.map_some, Option.some.injEq] at h1
    split at h1
    · subst h1
      exact ⟨ho.1, put_ok ho.2 hv hb⟩
    · subst h1
      exact ho
theorem rem_in (at0 : Int) (n : Nat) (h0 : 0 < n) (h3 : n ≤ 300) : ∃ q : Nat, q < n ∧ (wrap64 (at0.tmod (n : Int) + (n : Int))).tmod (n : Int) = (q : Int) := by
  have hp : (0 : Int) < (n : Int) := by omega
  have h1 : at0.tmod (n : Int) < (n : Int) := Int.tmod_lt_of_pos _ hp
  have h2 : -(n : Int) < at0.tmod (n : Int) := by
    have := Int.tmod_lt_of_pos (-at0) hp
    rw [Int.neg_tmod] at this
    omega
  obtain ⟨t, ht⟩ : ∃ t, at0.tmod (n : Int) = t := ⟨_, rfl⟩
  rw [ht] at h1 h2 ⊢
  rw [IntWalk.wrap64_in _ (by omega)]
  have h4 : (t + (n : Int)).tmod (n : Int) = (t + (n : Int)) % (n : Int) := Int.tmod_eq_emod_of_nonneg (by omega)
  have h5 := Int.emod_nonneg (t + (n : Int)) (show (n : Int) ≠ 0 by omega)
  have h6 := Int.emod_lt_of_pos (t + (n : Int)) hp
  exact ⟨((t + (n : Int)) % (n : Int)).toNat, by omega, by rw [h4]; omega⟩
set_option maxRecDepth 100000 in
set_option maxHeartbeats 8000000 in
theorem spoils32_walk (L : List Sn) (n : Nat) (hn : L.length = n) (hL : n ≤ 1048576) (hok : ∀ x ∈ L, x.n.ok ∧ x.wk.ok) (a : Option Addr) (cap : Nat) (at0 : Int) (hat : -9223372036854775808 ≤ at0 ∧ at0 ≤ 9223372036854775807) (v0 v1 v2 v3 v4 v5 v6 v7 : Int) (hbv : Bys [v0, v1, v2, v3, v4, v5, v6, v7]) (w : World) (hr : Rd w a (rowsOf Sn.cs L)) :
    Calls Try.prog 6 #[.slice a n cap, .int .i64 at0, .agg #[.int .u8 v0, .int .u8 v1, .int .u8 v2, .int .u8 v3, .int .u8 v4, .int .u8 v5, .int .u8 v6, .int .u8 v7]] w fun e w' => e = .returned (.bool true) ∧ Grows w w' := by
  have hfz := fz_zero
  obtain ⟨wA, hwA⟩ : ∃ wA, w.alloc (.cells #[.int .u8 v0, .int .u8 v1, .int .u8 v2, .int .u8 v3, .int .u8 v4, .int .u8 v5, .int .u8 v6, .int .u8 v7] 31) = wA := ⟨_, rfl⟩
  have hgA : Grows w wA := by rw [← hwA]; exact (Grows.refl _).alloc _
  have HVA : Hid (At wA w.heap.size 31 #[.int .u8 v0, .int .u8 v1, .int .u8 v2, .int .u8 v3, .int .u8 v4, .int .u8 v5, .int .u8 v6, .int .u8 v7]) := Lib.hid (by rw [← hwA]; exact At.new w _ _)
  have HGA := Lib.hid hgA
  have HME := Lib.hid (refmend_any L n hn hL hok a cap wA (hr.grows hgA))
  have HN := Lib.hid hn
  have HOK := Lib.hid hok
  have HAT := Lib.hid hat
  have HBV := Lib.hid hbv
  clear hgA hr hn hL hok hat hbv
  go_enter Try.func6, Try.ntmps6
  go_wp2_with fail
  clear hwA
  refine HME.out.mono ?_
  clear HME
  rintro e w2 ⟨hg, ⟨hm, rfl⟩ | ⟨hm, v, rfl, ho⟩⟩
  · have HG2 := Lib.hid (HGA.out.trans hg)
    clear hg hm
    by_cases h3 : n ≤ 300
    · have h1i : decide ((n : Int) > 300) = false := decide_eq_false (by omega)
      go_wp2_with fail
      refine (wakes_any _).mono ?_
      rintro e w9 ⟨rfl, hg9⟩
      have HG9 := Lib.hid (HG2.out.trans hg9)
      clear hg9
      go_wp2_with fail
      go_ret
      exact ⟨rfl, HG9.out⟩
    · have h1i : decide ((n : Int) > 300) = true := decide_eq_true (by omega)
      go_wp2_with fail
      refine (wakes_any _).mono ?_
      rintro e w9 ⟨rfl, hg9⟩
      have HG9 := Lib.hid (HG2.out.trans hg9)
      clear hg9
      go_wp2_with fail
      go_ret
      exact ⟨rfl, HG9.out⟩
  · have HG2 := Lib.hid (HGA.out.trans hg)
    have HM := Lib.hid hm
    have HV2 := Lib.hid (HVA.out.grows hg)
    rw [HN.out] at ho
    obtain ⟨am, cm, rfl, _, _, _⟩ := own_slice ho
    have HO2 := Lib.hid ho
    clear hg hm ho
    by_cases h3 : n ≤ 300
    · have h1i : decide ((n : Int) > 300) = false := decide_eq_false (by omega)
      by_cases h0 : n = 0
      · have h2i : decide ((n : Int) = 0) = true := decide_eq_true (by omega)
        go_wp2_with fail
        refine (wakes_any _).mono ?_
        rintro e w9 ⟨rfl, hg9⟩
        have HG9 := Lib.hid (HG2.out.trans hg9)
        clear hg9
        go_wp2_with fail
        go_ret
        exact ⟨rfl, HG9.out⟩
      · have h2i : decide ((n : Int) = 0) = false := decide_eq_false (by omega)
        have h2j : ¬ ((n : Int) = 0) := by omega
        obtain ⟨q, hqn, hq⟩ := rem_in at0 n (by omega) h3
        obtain ⟨M, hML⟩ : ∃ M, mendL L = M := ⟨_, rfl⟩
        have HMA : Hid (Alike L M) := Lib.hid (by rw [← hML]; exact mend_alike L)
        have HMO : Hid (∀ y ∈ M, y.n.ok ∧ y.wk.ok) := Lib.hid (by rw [← hML]; exact mend_ok HM.out HOK.out)
        have HMB : Hid (∀ f ∈ readsF M, badF f = false) := Lib.hid (by rw [← hML]; exact (mend_wrong HM.out HOK.out).1)
        have HMN : Hid (M.length = n) := Lib.hid (by rw [HMA.out.len, HN.out])
        have HMM : Hid (mayB M = true) := Lib.hid (by rw [mayB_alike HMA.out]; exact HM.out)
        rw [hML] at HO2
        clear hML HMA HM HOK
        obtain ⟨gm, cm2, e3, _, _⟩ := own_form HO2.out (by omega)
        injection e3 with e3 _ e4
        subst e3 e4
        have hql : q < M.length := by rw [HMN.out]; exact hqn
        have hx : M[q]? = some M[q] := List.getElem?_eq_getElem hql
        generalize M[q] = x at *
        have HX := Lib.hid hx
        obtain ⟨g1, o1, e5, hgm, hrm⟩ := ld_seen (Rd.own HO2.out) hx
        injection e5 with e5
        injection e5 with e5 e6
        subst e5 e6
        have HRM : Hid (w2.rangeAt gm (q * 14) x.cs) := Lib.hid (by simpa using hrm)
        have hzs := seen_zero
        obtain ⟨X, hX⟩ : ∃ X, w2.heap.size = X := ⟨_, rfl⟩
        obtain ⟨w3, hw3⟩ : ∃ w3, (w2.alloc (.cells Sn.zero.cs.toArray 36)).setCells X 0 x.cs = w3 := ⟨_, rfl⟩
        have hg3 : Grows w2 w3 := by rw [← hw3]; exact Grows.setCells (by omega) _ _ ((Grows.refl _).alloc _)
        have hAX : At w3 X 36 #[.int .i8 x.k, .int .i64 x.n.s, .int .i64 x.n.i, .int .i64 x.n.t, .int .i64 x.b, .int .u8 x.x0, .int .u8 x.x1, .int .u8 x.x2, .int .u8 x.x3, .int .u8 x.x4, .int .u8 x.x5, .int .u8 x.x6, .int .u8 x.x7, .int .i64 x.e] := by rw [← hw3, ← hX]; exact At.all (cs := Sn.zero.cs.toArray.toList) (vs := x.cs) (At.new w2 _ _) rfl
        have HTX : Hid ((w2.alloc (.cells Sn.zero.cs.toArray 36)).there X 0 x.cs.toArray.size) := Lib.hid (by rw [← hX]; exact (At.new w2 _ _).there 0 _ (Nat.le_of_eq rfl))
        have HI14 : Hid ((Try.prog.info? 36).map (·.size) = some x.cs.toArray.size) := Lib.hid (by kernel_rfl)
        have HI14' : Hid ((Try.prog.info? 36).map (·.size) = some x.cs.length) := Lib.hid (by kernel_rfl)
        have HO14 : Hid (x.cs.toArray.all (·.oneCell') = true) := Lib.hid (all_oneCell_toArray (fun v hv => by have := seen_one [x]; rw [rows_one] at this; exact this v hv))
        have HAX := Lib.hid hAX
        have HVX := Lib.hid (HV2.out.grows hg3)
        have HO3 := Lib.hid (own_grows HO2.out hg3)
        have HG3 := Lib.hid (HG2.out.trans hg3)
        have HXS : Hid (gm < X) := Lib.hid (by rw [← hX]; exact hgm)
        have HWS : Hid (w.heap.size < gm) := Lib.hid (by have h1 := (own_typed HO2.out (show (Value.slice (some ⟨gm, 0, none⟩) n cm).ownBlock = some gm from rfl)).choose_spec.2.1; have := HVA.out.lt; omega)
        have hq0 : (0 : Int) ≤ (q : Int) := by omega
        have hq1 : (q : Int) < (n : Int) := by omega
        have cX := hAX.cell
        have cV := HVX.out.cell
        have hev : ∀ W, (Op.equalIn 10000 31 (.agg #[.int .u8 x.x0, .int .u8 x.x1, .int .u8 x.x2, .int .u8 x.x3, .int .u8 x.x4, .int .u8 x.x5, .int .u8 x.x6, .int .u8 x.x7]) (.agg #[.int .u8 v0, .int .u8 v1, .int .u8 v2, .int .u8 v3, .int .u8 v4, .int .u8 v5, .int .u8 v6, .int .u8 v7])).run Try.prog W = .ok (decide (x.val = [v0, v1, v2, v3, v4, v5, v6, v7])) W := fun W => eq8_any W x.val [v0, v1, v2, v3, v4, v5, v6, v7] rfl rfl
        clear hrm hg3 hAX hgm hx hql HVA HGA HV2 HO2 HG2
        by_cases hk : x.k = 1
        · have b1 : (x.k != (1 : Int)) = false := by simp [hk]
          by_cases hxv : x.val = [v0, v1, v2, v3, v4, v5, v6, v7]
          · rw [decide_eq_true hxv] at hev
            go_wp2_with (first | (with_reducible refine wpList_load_mid (op := ⟨some 49, .load 36 (.tmp 48), _, _, _, none⟩) rfl 36 (.tmp 48) rfl gm (q * 14) ?d1 x.cs _ HRM.out Try.underlying36 rfl HI14'.out ?_) | (with_reducible refine wpList_store_mid (op := ⟨none, .store 36 (.tmp 9) (.tmp 49), _, _, _, none⟩) rfl 36 (.tmp 9) (.tmp 49) rfl X 0 x.cs.toArray ?d2 ?d3 HTX.out HI14.out HO14.out ?_))
            all_goals try rfl
            refine (wakes_any _).mono ?_
            rintro e w9 ⟨rfl, hg9⟩
            have HG9 := Lib.hid (HG3.out.trans hg9)
            clear hg9
            go_wp2_with fail
            go_ret
            exact ⟨rfl, HG9.out⟩
          · rw [decide_eq_false hxv] at hev
            go_wp2_with (first | (with_reducible refine wpList_load_mid (op := ⟨some 49, .load 36 (.tmp 48), _, _, _, none⟩) rfl 36 (.tmp 48) rfl gm (q * 14) ?k1 x.cs _ HRM.out Try.underlying36 rfl HI14'.out ?_) | (with_reducible refine wpList_store_mid (op := ⟨none, .store 36 (.tmp 9) (.tmp 49), _, _, _, none⟩) rfl 36 (.tmp 9) (.tmp 49) rfl X 0 x.cs.toArray ?k2 ?k3 HTX.out HI14.out HO14.out ?_))
            all_goals try rfl
            clear hev cX cV b1 hzs hq HRM HTX HI14 HI14' HO14 hw3 h1i h2i
            refine (order27_any M n HMN.out (by omega) (some ⟨gm, 0, none⟩) cm w3 (Rd.own HO3.out)).mono ?_
            rintro e w4 ⟨hg4, ⟨hm, rfl⟩ | ⟨hm, vD, rfl, hoD⟩⟩
            · exfalso
              rw [HMM.out] at hm
              cases hm
            · obtain ⟨aD, cD, rfl, _, _, _⟩ := own_slice hoD
              have HRD := Lib.hid (Rd.own hoD)
              have HDL : Hid ((decL M).length ≤ n) := Lib.hid (by have := decL_len M; have := HMN.out; omega)
              obtain ⟨D, hD⟩ : ∃ D, decL M = D := ⟨_, rfl⟩
              have HD := Lib.hid hD
              rw [hD] at HRD HDL ⊢
              have HG4 := Lib.hid hg4
              clear hm hoD hg4 hD
              go_wp2_with fail
              go_loopg [12, 13] D.length (fun gk v12 v13 wr => ∃ i : Nat, gk + i = D.length ∧ v13 = .int .i64 (i : Int) ∧ v12 = .bool (decide (x.n ∈ D.take i)) ∧ Grows w4 wr)
              case atStart => exact ⟨0, by omega, rfl, by simp, Grows.refl _⟩
              case round =>
                obtain ⟨i, hi, rfl, rfl, hg⟩ := hrel
                have HGW := Lib.hid hg
                clear hg
                by_cases hlt : i < D.length
                · obtain ⟨g, off, rfl, hgD, hrD⟩ := ld_nm (HRD.out.grows HGW.out) (List.getElem?_eq_getElem hlt)
                  have htk : D.take (i + 1) = D.take i ++ [D[i]] := by rw [List.take_add_one, List.getElem?_eq_getElem hlt]; rfl
                  generalize D[i] = y at *
                  have HTK := Lib.hid htk
                  have L2 : Hid (∀ W, Grows wr W → (loadVar 29 ⟨g, off + i * 3, none⟩).run Try.prog W = .ok (.agg #[.int .i64 y.s, .int .i64 y.i, .int .i64 y.t]) W) := Lib.hid (ld_range hrD hgD Try.underlying29 rfl (by kernel_rfl))
                  have L1 : Hid (∀ W, Grows wr W → (loadVar 29 ⟨X, 1, none⟩).run Try.prog W = .ok (.agg #[.int .i64 x.n.s, .int .i64 x.n.i, .int .i64 x.n.t]) W) := Lib.hid (ld_mid (P := Try.prog) (cs := _) (o := 1) (n := 3) ((HAX.out.grows HG4.out).grows HGW.out) Try.underlying29 rfl (by simp) (by kernel_rfl))
                  have hen : ∀ W, (Op.equalIn 10000 29 (.agg #[.int .i64 y.s, .int .i64 y.i, .int .i64 y.t]) (.agg #[.int .i64 x.n.s, .int .i64 x.n.i, .int .i64 x.n.t])).run Try.prog W = .ok (decide (y = x.n)) W := fun W => eqn_any W y x.n
                  have hlt' : (i : Int) < (D.length : Int) := by omega
                  have hi0 : (0 : Int) ≤ (i : Int) := by omega
                  have hwr : IntKind.i64.wrap ((i : Int) + 1) = (i : Int) + 1 := IntWalk.i64_in _ (by have := HDL.out; omega)
                  clear hrD hgD htk
                  by_cases hin : x.n ∈ D.take i
                  · rw [decide_eq_true hin]
                    have HB : Hid (decide (x.n ∈ D.take (i + 1)) = true) := Lib.hid (decide_eq_true (by rw [HTK.out]; exact List.mem_append_left _ hin))
                    clear hin
                    go_upto_region 13 with (fail)
                    refine wp_region_class wr (by kernel_rfl) (by kernel_rfl) (Grows.refl _) ?_
                    repeat (first
                      | go_big_quiet_skip
                      | (go_big_quiet_want; first
                          | ((with_reducible refine quiet_load (b := X) (off := 1) ?_ L1.out ?_); rfl; (simp only [Act.put, List.setIfInBounds_toArray, List.set_cons_zero, List.set_cons_succ]); go_big_quiet_on)
                          | ((with_reducible refine quiet_load (b := g) (off := off + i * 3) ?_ L2.out ?_); rfl; (simp only [Act.put, List.setIfInBounds_toArray, List.set_cons_zero, List.set_cons_succ]); go_big_quiet_on)
                          | (go_big_quiet_op; (first
                              | go_big_quiet_on
                              | (refine ⟨_, fun _ _ => rfl, ?_⟩; go_big_quiet_on)))))
                    refine wpQuiet_nil ?_
                    intro w6 hC6
                    have HC6 := Lib.hid (HGW.out.trans hC6)
                    clear hC6
                    go_wp2_with fail
                    go_roundg (gk - 1)
                    case measure => omega
                    exact ⟨i + 1, by omega, rfl, by rw [HB.out], HC6.out⟩
                  · rw [decide_eq_false hin]
                    by_cases hyx : y = x.n
                    · rw [decide_eq_true hyx] at hen
                      have HB : Hid (decide (x.n ∈ D.take (i + 1)) = true) := Lib.hid (decide_eq_true (by rw [HTK.out, hyx]; simp))
                      clear hin hyx
                      go_upto_region 13 with (fail)
                      refine wp_region_class wr (by kernel_rfl) (by kernel_rfl) (Grows.refl _) ?_
                      repeat (first
                        | go_big_quiet_skip
                        | (go_big_quiet_want; first
                            | ((with_reducible refine quiet_load (b := X) (off := 1) ?_ L1.out ?_); rfl; (simp only [Act.put, List.setIfInBounds_toArray, List.set_cons_zero, List.set_cons_succ]); go_big_quiet_on)
                            | ((with_reducible refine quiet_load (b := g) (off := off + i * 3) ?_ L2.out ?_); rfl; (simp only [Act.put, List.setIfInBounds_toArray, List.set_cons_zero, List.set_cons_succ]); go_big_quiet_on)
                            | (go_big_quiet_op; (first
                                | go_big_quiet_on
                                | (refine ⟨_, fun _ _ => rfl, ?_⟩; go_big_quiet_on)))))
                      refine wpQuiet_nil ?_
                      intro w6 hC6
                      have HC6 := Lib.hid (HGW.out.trans hC6)
                      clear hC6
                      go_wp2_with fail
                      go_roundg (gk - 1)
                      case measure => omega
                      exact ⟨i + 1, by omega, rfl, by rw [HB.out], HC6.out⟩
                    · rw [decide_eq_false hyx] at hen
                      have HB : Hid (decide (x.n ∈ D.take (i + 1)) = false) := Lib.hid (decide_eq_false (by rw [HTK.out, List.mem_append, List.mem_singleton]; rintro (h | h); exact hin h; exact hyx h.symm))
                      clear hin hyx
                      go_upto_region 13 with (fail)
                      refine wp_region_class wr (by kernel_rfl) (by kernel_rfl) (Grows.refl _) ?_
                      repeat (first
                        | go_big_quiet_skip
                        | (go_big_quiet_want; first
                            | ((with_reducible refine quiet_load (b := X) (off := 1) ?_ L1.out ?_); rfl; (simp only [Act.put, List.setIfInBounds_toArray, List.set_cons_zero, List.set_cons_succ]); go_big_quiet_on)
                            | ((with_reducible refine quiet_load (b := g) (off := off + i * 3) ?_ L2.out ?_); rfl; (simp only [Act.put, List.setIfInBounds_toArray, List.set_cons_zero, List.set_cons_succ]); go_big_quiet_on)
                            | (go_big_quiet_op; (first
                                | go_big_quiet_on
                                | (refine ⟨_, fun _ _ => rfl, ?_⟩; go_big_quiet_on)))))
                      refine wpQuiet_nil ?_
                      intro w6 hC6
                      have HC6 := Lib.hid (HGW.out.trans hC6)
                      clear hC6
                      go_wp2_with fail
                      go_roundg (gk - 1)
                      case measure => omega
                      exact ⟨i + 1, by omega, rfl, by rw [HB.out], HC6.out⟩
                · have htk : D.take i = D := List.take_of_length_le (by omega)
                  rw [htk]
                  have h1 : ¬ (i : Int) < (D.length : Int) := by omega
                  obtain ⟨V, hV⟩ : ∃ V, ivs [v0, v1, v2, v3, v4, v5, v6, v7] = V := ⟨_, rfl⟩
                  obtain ⟨w5, hw5⟩ : ∃ w5, wr.setCells gm (q * 14 + 5) V = w5 := ⟨_, rfl⟩
                  have hoR := own_grows (own_grows HO3.out HG4.out) HGW.out
                  have HVL : Hid (V.length = 8) := Lib.hid (by rw [← hV]; rfl)
                  have HO5 : Hid (w5.ownsRow wA.heap.size 36 14 (.slice (some ⟨gm, 0, none⟩) n cm) n (rowsOf Sn.cs (spoilL M q [v0, v1, v2, v3, v4, v5, v6, v7]))) := Lib.hid (by
                    unfold spoilL
                    rw [rows_put rfl _ _ (by rw [HMN.out]; exact hqn), hV, ← hw5]
                    exact own_sets hoR _ _ (by rw [rows_length Sn.cs_len, HMN.out, HVL.out]; omega))
                  have HTV : Hid (wr.there gm (q * 14 + 5) V.toArray.size) := Lib.hid (by
                    rcases hoR.2 with h2 | ⟨g', cap', cur, q1, q2, q3, q4, q5, q6, q7⟩
                    · cases h2.1
                    · injection q1 with q1 _ _
                      injection q1 with q1
                      injection q1 with q1
                      subst q1
                      have hA : At wr gm 36 cur := q3
                      refine hA.there _ _ ?_
                      rw [q6, List.size_toArray, HVL.out]
                      omega)
                  have HIV : Hid ((Try.prog.info? 31).map (·.size) = some V.toArray.size) := Lib.hid (by rw [List.size_toArray, HVL.out]; exact info_val8)
                  have HV1 : Hid (V.toArray.all (·.oneCell') = true) := Lib.hid (by rw [← hV]; exact ivs_all _)
                  have HXR := (HAX.out.grows HG4.out).grows HGW.out
                  have HVR := (HVX.out.grows HG4.out).grows HGW.out
                  have cV := HVR.cell
                  have HX5 : Hid (At w5 X 36 #[.int .i8 x.k, .int .i64 x.n.s, .int .i64 x.n.i, .int .i64 x.n.t, .int .i64 x.b, .int .u8 x.x0, .int .u8 x.x1, .int .u8 x.x2, .int .u8 x.x3, .int .u8 x.x4, .int .u8 x.x5, .int .u8 x.x6, .int .u8 x.x7, .int .i64 x.e]) := Lib.hid (by rw [← hw5]; exact At.keep HXR (by have := HXS.out; omega) _ _)
                  have HV5 : Hid (At w5 w.heap.size 31 #[.int .u8 v0, .int .u8 v1, .int .u8 v2, .int .u8 v3, .int .u8 v4, .int .u8 v5, .int .u8 v6, .int .u8 v7]) := Lib.hid (by rw [← hw5]; exact At.keep HVR (by have := HWS.out; omega) _ _)
                  have HG5 : Hid (Grows w w5) := Lib.hid (by rw [← hw5]; exact Grows.setCells (by have := HWS.out; omega) _ _ ((HG3.out.trans HG4.out).trans HGW.out))
                  clear htk hlt hoR HXR HVR HGW HG4 HG3 HAX HVX HO3 HRD
                  go_wp2_with (with_reducible refine wpList_store_mid (op := ⟨none, .store 31 (.tmp 85) (.tmp 83), _, _, _, none⟩) rfl 31 (.tmp 85) (.tmp 83) rfl gm (q * 14 + 5) V.toArray ?l1 ?l2 HTV.out HIV.out HV1.out ?l3)
                  case l2 => rw [← hV]; rfl
                  all_goals try rfl
                  obtain ⟨vl, hvl⟩ : ∃ vl, [v0, v1, v2, v3, v4, v5, v6, v7] = vl := ⟨_, rfl⟩
                  have HVL := Lib.hid hvl
                  have HXV := Lib.hid hxv
                  rw [hvl] at HO5 HXV HBV
                  have HSP := Lib.hid (spoil HMM.out HMB.out HX.out hk (v := vl) (by rw [← hvl]; rfl) HXV.out)
                  have HAL := Lib.hid (spoil_alike HX.out hk vl)
                  obtain ⟨M5, hM5⟩ : ∃ M5, spoilL M q vl = M5 := ⟨_, rfl⟩
                  rw [hM5] at HO5 HSP HAL
                  have HN5 : Hid (M5.length = n) := Lib.hid (by rw [HAL.out.len, HMN.out])
                  have HMM5 : Hid (mayB M5 = true) := Lib.hid (by rw [mayB_alike HAL.out]; exact HMM.out)
                  have HMO5 : Hid (∀ y ∈ M5, y.n.ok ∧ y.wk.ok) := Lib.hid (fun y hy => by
                    rw [← hM5] at hy
                    exact spoil_ok HMO.out (by rw [← hvl]; rfl) HBV.out y hy)
                  have HR5 := Lib.hid (Rd.own HO5.out)
                  clear hvl hxv hM5 hw5 HMM HMB HAL HMO HTV HIV HV1 hV cV HO5
                  refine (wrong_told M5 n HN5.out (by omega) HMO5.out _ cm _ HR5.out).mono ?_
                  rintro e w6 ⟨hg, av, cv, fs, ec, rfl, hrf, ht⟩
                  obtain ⟨rfl, rfl⟩ : fs = wrongF M5 ∧ ec = 0 := by
                    rcases ht.is with ⟨_, h2, h3⟩ | ⟨h1, _⟩
                    · exact ⟨h2, h3⟩
                    · rw [HMM5.out] at h1; cases h1
                  have HF6 := Lib.hid hrf
                  have HR6 := Lib.hid (HR5.out.grows hg)
                  have HX6 := Lib.hid (HX5.out.grows hg)
                  have HV6 := Lib.hid (HV5.out.grows hg)
                  have HG6 := Lib.hid (HG5.out.trans hg)
                  clear hg hrf ht HR5 HX5 HV5 HG5
                  go_wp2_with fail
                  refine (first_told M5 n HN5.out (by omega) HMO5.out _ cm _ HR6.out).mono ?_
                  rintro e w7 ⟨hg, F, fb, rfl, hf, hE⟩
                  obtain ⟨rfl, rfl⟩ : F = frC (wrongF M5) ∧ fb = decide (0 < (wrongF M5).length) := by
                    rcases hE with ⟨_, h2, h3⟩ | ⟨h1, _⟩
                    · exact ⟨h2, h3⟩
                    · rw [HMM5.out] at h1; cases h1
                  have HF7 := Lib.hid (HF6.out.grows hg)
                  have HX7 := Lib.hid (HX6.out.grows hg)
                  have HV7 := Lib.hid (HV6.out.grows hg)
                  have HG7 := Lib.hid (HG6.out.trans hg)
                  have HFO := Lib.hid hf
                  clear hg hf hE HR6 HX6 HV6 HG6 HF6 HMO5 HN5 HMM5
                  by_cases hd : x.n ∈ D
                  · obtain ⟨f, hw, h1, h2, h3, h4, h5⟩ := HSP.out.2 (by rw [HD.out]; exact hd)
                    have hfr : frC [f] = f := rfl
                    have hfb : decide (0 < [f].length) = true := rfl
                    rw [hw] at HFO HF7 ⊢
                    rw [hfr] at HFO ⊢
                    rw [hfb]
                    rw [decide_eq_true hd]
                    obtain ⟨fa, fn, fbk, fw, fg, fsh, fwa, fk⟩ := f
                    simp only at h1 h2 h3 h4 h5
                    subst h1 h2 h3 h4 h5
                    obtain ⟨f, hfe⟩ : ∃ f : Ft, (⟨fa, x.n, x.b, x.val, fg, fsh, fwa, fk⟩ : Ft) = f := ⟨_, rfl⟩
                    rw [hfe] at HFO HF7 ⊢
                    rw [show [f].length = 1 from rfl]
                    have F1 : f.at_ = fa := by rw [← hfe]
                    have F4 : f.b = x.b := by rw [← hfe]
                    have F2 : ((f.cs.drop 1).take 3).toArray = #[.int .i64 x.n.s, .int .i64 x.n.i, .int .i64 x.n.t] := by rw [← hfe]; rfl
                    have F5 : ((f.cs.drop 5).take 8).toArray = #[.int .u8 x.x0, .int .u8 x.x1, .int .u8 x.x2, .int .u8 x.x3, .int .u8 x.x4, .int .u8 x.x5, .int .u8 x.x6, .int .u8 x.x7] := by rw [Ft.cs_want HFO.out, ← hfe]; rfl
                    have F13 : ((f.cs.drop 13).take 8).toArray = #[.int .u8 v0, .int .u8 v1, .int .u8 v2, .int .u8 v3, .int .u8 v4, .int .u8 v5, .int .u8 v6, .int .u8 v7] := by rw [Ft.cs_got HFO.out, ← hfe]; show (ivs fg).toArray = _; rw [← HVL.out]; rfl
                    obtain ⟨ga, oa, rfl, hga, hra⟩ := ld_fault HF7.out (fun g hg => by rw [List.mem_singleton.1 hg]; exact HFO.out) (show [f][0]? = some f from rfl)
                    obtain ⟨Y, hY⟩ : ∃ Y, w7.heap.size = Y := ⟨_, rfl⟩
                    obtain ⟨w8, hw8⟩ : ∃ w8, (w7.alloc (.cells fz 34)).setCells Y 0 f.cs = w8 := ⟨_, rfl⟩
                    have hg8 : Grows w7 w8 := by rw [← hw8]; exact Grows.setCells (by omega) _ _ ((Grows.refl _).alloc _)
                    have HAY : At w8 Y 34 f.cs.toArray := by rw [← hw8, ← hY]; exact At.all (cs := fz.toList) (At.new w7 _ _) (by rw [Ft.cs_len HFO.out]; rfl)
                    have HTY : Hid ((w7.alloc (.cells fz 34)).there Y 0 f.cs.toArray.size) := Lib.hid (by rw [← hY]; exact (At.new w7 _ _).there 0 _ (by rw [List.size_toArray, Ft.cs_len HFO.out]; exact Nat.le_refl _))
                    have HIF : Hid ((Try.prog.info? 34).map (·.size) = some f.cs.toArray.size) := Lib.hid (by rw [List.size_toArray, Ft.cs_len HFO.out]; exact info_fault)
                    have hlf := Ft.cs_len HFO.out
                    have HX8 := HX7.out.grows hg8
                    have HV8 := HV7.out.grows hg8
                    have LF0 : Hid (∀ W, Grows w8 W → (loadVar 34 ⟨ga, oa, none⟩).run Try.prog W = .ok (.agg f.cs.toArray) W) := Lib.hid (fun W hW => ld_range (o := oa) (fun j v hv => by have := hra j v hv; simpa using this) hga Try.underlying34 rfl (by rw [hlf]; exact info_fault) W (hg8.trans hW))
                    have LFY : Hid (∀ W, Grows w8 W → (loadVar 34 ⟨Y, 0, none⟩).run Try.prog W = .ok (.agg f.cs.toArray) W) := Lib.hid (ld_row HAY Try.underlying34 rfl HIF.out)
                    have LQ : Hid (∀ W, Grows w8 W → (loadVar 3 ⟨Y, 0, none⟩).run Try.prog W = .ok (.int .i64 (fa : Int)) W) := Lib.hid (ld_int Try.underlying3 (by rw [HAY.cell, ← F1]; rfl))
                    have LB : Hid (∀ W, Grows w8 W → (loadVar 3 ⟨Y, 4, none⟩).run Try.prog W = .ok (.int .i64 x.b) W) := Lib.hid (ld_int Try.underlying3 (by rw [HAY.cell, ← F4]; rfl))
                    have LN : Hid (∀ W, Grows w8 W → (loadVar 29 ⟨Y, 1, none⟩).run Try.prog W = .ok (.agg #[.int .i64 x.n.s, .int .i64 x.n.i, .int .i64 x.n.t]) W) := Lib.hid (by rw [← F2]; exact ld_mid (P := Try.prog) (o := 1) (n := 3) HAY Try.underlying29 rfl (by rw [hlf]; omega) (by kernel_rfl))
                    have LW : Hid (∀ W, Grows w8 W → (loadVar 31 ⟨Y, 5, none⟩).run Try.prog W = .ok (.agg #[.int .u8 x.x0, .int .u8 x.x1, .int .u8 x.x2, .int .u8 x.x3, .int .u8 x.x4, .int .u8 x.x5, .int .u8 x.x6, .int .u8 x.x7]) W) := Lib.hid (by rw [← F5]; exact ld_mid (P := Try.prog) (o := 5) (n := 8) HAY Try.underlying31 rfl (by rw [hlf]; omega) info_val8)
                    have LG : Hid (∀ W, Grows w8 W → (loadVar 31 ⟨Y, 13, none⟩).run Try.prog W = .ok (.agg #[.int .u8 v0, .int .u8 v1, .int .u8 v2, .int .u8 v3, .int .u8 v4, .int .u8 v5, .int .u8 v6, .int .u8 v7]) W) := Lib.hid (by rw [← F13]; exact ld_mid (P := Try.prog) (o := 13) (n := 8) HAY Try.underlying31 rfl (by rw [hlf]; omega) info_val8)
                    have KN : Hid (∀ W, Grows w8 W → (loadVar 29 ⟨X, 1, none⟩).run Try.prog W = .ok (.agg #[.int .i64 x.n.s, .int .i64 x.n.i, .int .i64 x.n.t]) W) := Lib.hid (ld_mid (P := Try.prog) (cs := _) (o := 1) (n := 3) HX8 Try.underlying29 rfl (by simp) (by kernel_rfl))
                    have KB : Hid (∀ W, Grows w8 W → (loadVar 3 ⟨X, 4, none⟩).run Try.prog W = .ok (.int .i64 x.b) W) := Lib.hid (ld_int Try.underlying3 (by rw [HX8.cell]; rfl))
                    have KV : Hid (∀ W, Grows w8 W → (loadVar 31 ⟨X, 5, none⟩).run Try.prog W = .ok (.agg #[.int .u8 x.x0, .int .u8 x.x1, .int .u8 x.x2, .int .u8 x.x3, .int .u8 x.x4, .int .u8 x.x5, .int .u8 x.x6, .int .u8 x.x7]) W) := Lib.hid (ld_mid (P := Try.prog) (cs := _) (o := 5) (n := 8) HX8 Try.underlying31 rfl (by simp) info_val8)
                    have KW : Hid (∀ W, Grows w8 W → (loadVar 31 ⟨w.heap.size, 0, none⟩).run Try.prog W = .ok (.agg #[.int .u8 v0, .int .u8 v1, .int .u8 v2, .int .u8 v3, .int .u8 v4, .int .u8 v5, .int .u8 v6, .int .u8 v7]) W) := Lib.hid (ld_row HV8 Try.underlying31 rfl info_val8)
                    have e34 := fun W => ft_self HFO.out W
                    have eN : ∀ W, (Op.equalIn 10000 29 (.agg #[.int .i64 x.n.s, .int .i64 x.n.i, .int .i64 x.n.t]) (.agg #[.int .i64 x.n.s, .int .i64 x.n.i, .int .i64 x.n.t])).run Try.prog W = .ok true W := fun W => by have := eqn_any W x.n x.n; rwa [decide_eq_true rfl] at this
                    have eX : ∀ W, (Op.equalIn 10000 31 (.agg #[.int .u8 x.x0, .int .u8 x.x1, .int .u8 x.x2, .int .u8 x.x3, .int .u8 x.x4, .int .u8 x.x5, .int .u8 x.x6, .int .u8 x.x7]) (.agg #[.int .u8 x.x0, .int .u8 x.x1, .int .u8 x.x2, .int .u8 x.x3, .int .u8 x.x4, .int .u8 x.x5, .int .u8 x.x6, .int .u8 x.x7])).run Try.prog W = .ok true W := fun W => by have := eq8_any W x.val x.val rfl rfl; rwa [decide_eq_true rfl] at this
                    have eV : ∀ W, (Op.equalIn 10000 31 (.agg #[.int .u8 v0, .int .u8 v1, .int .u8 v2, .int .u8 v3, .int .u8 v4, .int .u8 v5, .int .u8 v6, .int .u8 v7]) (.agg #[.int .u8 v0, .int .u8 v1, .int .u8 v2, .int .u8 v3, .int .u8 v4, .int .u8 v5, .int .u8 v6, .int .u8 v7])).run Try.prog W = .ok true W := fun W => by have := eq8_any W [v0, v1, v2, v3, v4, v5, v6, v7] [v0, v1, v2, v3, v4, v5, v6, v7] rfl rfl; rwa [decide_eq_true rfl] at this
                    have HG8 := Lib.hid (HG7.out.trans hg8)
                    clear F1 F2 F4 F5 F13 hra hga hg8 HAY HX8 HV8 hlf hw hfr hfb hd hfe HF7 HX7 HV7 HG7 HSP HXV HVL HBV HX
                    go_upto_region 19 with (with_reducible refine wpList_store_mid (op := ⟨none, .store 34 (.tmp 16) (.tmp 94), _, _, _, none⟩) rfl 34 (.tmp 16) (.tmp 94) rfl Y 0 f.cs.toArray ?n1 ?n2 HTY.out HIF.out f.cs_one ?_)
                    all_goals try rfl
                    obtain ⟨FA, hFA⟩ : ∃ FA, f.cs.toArray = FA := ⟨_, rfl⟩
                    rw [hFA] at LF0 LFY
                    rw [hFA] at e34
                    clear hFA hw8 HTY HIF
                    refine wp_region_class w8 (by kernel_rfl) (by kernel_rfl) (Grows.refl _) ?_
                    repeat (first
                      | go_big_quiet_skip
                      | (go_big_quiet_want; first
                          | ((with_reducible refine quiet_load (b := ga) (off := oa) ?_ LF0.out ?_); rfl; (simp only [Act.put, List.setIfInBounds_toArray, List.set_cons_zero, List.set_cons_succ]); go_big_quiet_on)
                          | ((with_reducible refine quiet_load (b := Y) (off := 0) ?_ LFY.out ?_); rfl; (simp only [Act.put, List.setIfInBounds_toArray, List.set_cons_zero, List.set_cons_succ]); go_big_quiet_on)
                          | ((with_reducible refine quiet_load (b := Y) (off := 0) ?_ LQ.out ?_); rfl; (simp only [Act.put, List.setIfInBounds_toArray, List.set_cons_zero, List.set_cons_succ]); go_big_quiet_on)
                          | ((with_reducible refine quiet_load (b := Y) (off := 1) ?_ LN.out ?_); rfl; (simp only [Act.put, List.setIfInBounds_toArray, List.set_cons_zero, List.set_cons_succ]); go_big_quiet_on)
                          | ((with_reducible refine quiet_load (b := X) (off := 1) ?_ KN.out ?_); rfl; (simp only [Act.put, List.setIfInBounds_toArray, List.set_cons_zero, List.set_cons_succ]); go_big_quiet_on)
                          | ((with_reducible refine quiet_load (b := Y) (off := 4) ?_ LB.out ?_); rfl; (simp only [Act.put, List.setIfInBounds_toArray, List.set_cons_zero, List.set_cons_succ]); go_big_quiet_on)
                          | ((with_reducible refine quiet_load (b := X) (off := 4) ?_ KB.out ?_); rfl; (simp only [Act.put, List.setIfInBounds_toArray, List.set_cons_zero, List.set_cons_succ]); go_big_quiet_on)
                          | ((with_reducible refine quiet_load (b := Y) (off := 5) ?_ LW.out ?_); rfl; (simp only [Act.put, List.setIfInBounds_toArray, List.set_cons_zero, List.set_cons_succ]); go_big_quiet_on)
                          | ((with_reducible refine quiet_load (b := X) (off := 5) ?_ KV.out ?_); rfl; (simp only [Act.put, List.setIfInBounds_toArray, List.set_cons_zero, List.set_cons_succ]); go_big_quiet_on)
                          | ((with_reducible refine quiet_load (b := Y) (off := 13) ?_ LG.out ?_); rfl; (simp only [Act.put, List.setIfInBounds_toArray, List.set_cons_zero, List.set_cons_succ]); go_big_quiet_on)
                          | ((with_reducible refine quiet_load (b := w.heap.size) (off := 0) ?_ KW.out ?_); rfl; (simp only [Act.put, List.setIfInBounds_toArray, List.set_cons_zero, List.set_cons_succ]); go_big_quiet_on)
                          | (go_big_quiet_op; (first
                              | go_big_quiet_on
                              | (refine ⟨_, fun _ _ => rfl, ?_⟩; go_big_quiet_on)
                              | go_big_quiet_call ((intro hC; go_at_call 9; refine (wakes_any _).mono ?_; rintro e w11 ⟨rfl, hg⟩; exact ⟨rfl, hC.trans hg⟩))))))
                    refine wpQuiet_nil ?_
                    intro w10 hb10
                    have HG10 := Lib.hid (HG8.out.trans hb10)
                    clear hb10
                    go_wp2_with fail
                    go_ret
                    exact ⟨rfl, HG10.out⟩
                  · have hw := HSP.out.1 (by rw [HD.out]; exact hd)
                    have hfr : frC [] = zF := rfl
                    have hfb : decide (0 < ([] : List Ft).length) = false := rfl
                    rw [hw] at HFO HF7 ⊢
                    rw [hfr] at HFO ⊢
                    rw [hfb]
                    rw [decide_eq_false hd]
                    obtain ⟨F, hF⟩ : ∃ F, zF = F := ⟨_, rfl⟩
                    rw [hF] at HFO ⊢
                    have HT7 : Hid ((w7.alloc (.cells fz 34)).there w7.heap.size 0 F.cs.toArray.size) := Lib.hid ((At.new w7 _ _).there 0 _ (by rw [List.size_toArray, Ft.cs_len HFO.out]; exact Nat.le_refl _))
                    have HI7 : Hid ((Try.prog.info? 34).map (·.size) = some F.cs.toArray.size) := Lib.hid (by rw [List.size_toArray, Ft.cs_len HFO.out]; exact info_fault)
                    have HG8 : Hid (Grows w ((w7.alloc (.cells fz 34)).setCells w7.heap.size 0 F.cs)) := Lib.hid (Grows.setCells HG7.out.size _ _ (HG7.out.alloc _))
                    clear hw hfr hfb hd hF HF7 HX7 HV7 HG7
                    go_wp2_with (with_reducible refine wpList_store_mid (op := ⟨none, .store 34 (.tmp 16) (.tmp 94), _, _, _, none⟩) rfl 34 (.tmp 16) (.tmp 94) rfl w7.heap.size 0 F.cs.toArray ?m1 ?m2 HT7.out HI7.out F.cs_one ?_)
                    all_goals try rfl
                    refine (wakes_any _).mono ?_
                    rintro e w9 ⟨rfl, hg9⟩
                    have HG9 := Lib.hid (HG8.out.trans hg9)
                    clear hg9
                    go_wp2_with fail
                    go_ret
                    exact ⟨rfl, HG9.out⟩
        · have b1 : (x.k != (1 : Int)) = true := by simp [hk]
          go_wp2_with (first | (with_reducible refine wpList_load_mid (op := ⟨some 49, .load 36 (.tmp 48), _, _, _, none⟩) rfl 36 (.tmp 48) rfl gm (q * 14) ?j1 x.cs _ HRM.out Try.underlying36 rfl HI14'.out ?_) | (with_reducible refine wpList_store_mid (op := ⟨none, .store 36 (.tmp 9) (.tmp 49), _, _, _, none⟩) rfl 36 (.tmp 9) (.tmp 49) rfl X 0 x.cs.toArray ?j2 ?j3 HTX.out HI14.out HO14.out ?_))
          all_goals try rfl
          refine (wakes_any _).mono ?_
          rintro e w9 ⟨rfl, hg9⟩
          have HG9 := Lib.hid (HG3.out.trans hg9)
          clear hg9
          go_wp2_with fail
          go_ret
          exact ⟨rfl, HG9.out⟩
    · have h1i : decide ((n : Int) > 300) = true := decide_eq_true (by omega)
      go_wp2_with fail
      refine (wakes_any _).mono ?_
      rintro e w9 ⟨rfl, hg9⟩
      have HG9 := Lib.hid (HG2.out.trans hg9)
      clear hg9
      go_wp2_with fail
      go_ret
      exact ⟨rfl, HG9.out⟩
end Go.Proofs.Ytfigoeoimefngaa
