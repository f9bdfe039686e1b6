/-
  The law OrderTime: its walk.
-/
import Derived.Test.YtcailhkaeledbaaOrP
import Derived.Test.YtcailhkaeledbaaOrR
import Derived.Test.YtcailhkaeledbaaQuiet
namespace Go.Proofs.Ytcailhkaeledbaa
open Go.RowKit Go.Maps

def cnt5 (l : List Sn) : Nat := (l.filter fun x => x.k == 5).length
theorem cnt5_take (l : List Sn) (k : Nat) (hk : k < l.length) : cnt5 (l.take (k + 1)) = cnt5 (l.take k) + if l[k].k = 5 then 1 else 0 := by
  unfold cnt5
  rw [List.take_add_one, List.getElem?_eq_getElem hk]
  show ((l.take k ++ [l[k]]).filter _).length = _
  rw [List.filter_append, List.length_append, List.filter_cons]
  by_cases h : l[k].k = 5 <;> simp [h]
theorem cnt5_le (l : List Sn) : cnt5 l ≤ l.length := List.length_filter_le _ _
set_option maxRecDepth 100000 in
set_option maxHeartbeats 8000000 in
theorem time_walk (L : List Sn) (n : Nat) (hn : L.length = n) (a : Option Addr) (cap : Nat) (hok : ∀ x ∈ L, x.n.ok) (w : World) (hr : Rd w a (rowsOf Sn.cs L)) :
    Calls Try.prog 4 #[.slice a n cap] w fun e w' => e = .returned (.bool true) ∧ Grows w w' := by
  have HG0 := Lib.hid (Grows.refl w)
  by_cases hbig : 200 < n
  · have hb : (200 : Int) < (n : Int) := by omega
    clear hn hok hr hbig
    go_enter Try.func4, Try.ntmps4
    go_wp2_with fail
    refine (wakes_any _).mono ?_
    rintro e wz ⟨rfl, hgz⟩
    go_wp2_with fail
    go_ret
    exact ⟨rfl, (HG0.out).trans hgz⟩
  have hb : ¬ (200 : Int) < (n : Int) := by omega
  have HN := Lib.hid hn
  have HM := Lib.hid (fun W (hg : Grows w W) => may_any L n hn (by omega) hok a cap W (hr.grows hg))
  have HR := Lib.hid hr
  have HO := Lib.hid (order_p L n hn (by omega) hok a cap w hr)
  have HCM := Lib.hid (fun y W (hg : Grows w W) => commits_any L n hn (by omega) a cap y W (hr.grows hg))
  have HAN := Lib.hid (fun y W (hg : Grows w W) => answered_any L n hn (by omega) a cap y W (hr.grows hg))
  have HB := Lib.hid hbig
  cases hm : mayB L
  · rw [hm] at HM
    unfold OrdP at HO
    rw [hm] at HO
    clear hm hn hok hr hbig HCM HAN
    go_enter Try.func4, Try.ntmps4
    go_wp2_with fail
    refine HO.out.mono ?_
    rintro e w1 ⟨hg, ⟨_, rfl⟩ | ⟨h, _⟩⟩
    · have HG1 := Lib.hid hg
      clear hg HO
      go_wp2_with fail
      refine (HM.out _ HG1.out).mono ?_
      rintro e w2 ⟨rfl, hg⟩
      have HG2 := Lib.hid (HG1.out.trans hg)
      clear hg HM
      go_wp2_with fail
      refine (wakes_any _).mono ?_
      rintro e wz ⟨rfl, hgz⟩
      go_wp2_with fail
      go_ret
      exact ⟨rfl, (HG2.out).trans hgz⟩
    · cases h
  have HAH := Lib.hid (fun x y W (hg : Grows w W) => ahead_any L n hn (by omega) hok a cap x y W (hr.grows hg) hm)
  have HF3 := Lib.hid (fun y hy => fst3 hm (a := y) hy)
  have HTC := Lib.hid (fun x y hx hy => time_core hm (a := x) (b := y) hx hy)
  have HRI := Lib.hid (decL_rises (com_at L hm))
  have HDN : Hid (cnt5 L = (decL L).length) := Lib.hid (done_len hm)
  have HLD : Hid ((decL L).length ≤ 200) := Lib.hid (by have h1 := decL_len L; have := HN.out; have := HB.out; omega)
  unfold OrdP at HO
  rw [hm] at HO
  clear hm hn hok hr hbig HM
  generalize decL L = D at *
  go_enter Try.func4, Try.ntmps4
  go_wp2_with fail
  refine HO.out.mono ?_
  rintro e w1 ⟨hg, ⟨h, _⟩ | ⟨_, aD, cD, rfl, hrD, hcD⟩⟩
  · cases h
  have HRD := Lib.hid hrD
  have HG1 := Lib.hid hg
  clear hrD hg HO hcD
  go_wp2_with fail
  go_loopg [5, 34] n (fun gh v5 v34 wr => ∃ k : Nat, gh + k = n ∧ v34 = .int .i64 (k : Int) ∧ v5 = .int .i64 ((cnt5 (L.take k) : Nat) : Int) ∧ Grows w1 wr)
  case atStart => exact ⟨0, by omega, rfl, rfl, Grows.refl _⟩
  case round =>
    obtain ⟨k, hgk, rfl, rfl, hg⟩ := hrel
    have HG := Lib.hid hg
    clear hg
    by_cases hlt : k < n
    · have hkl : k < L.length := by rw [HN.out]; exact hlt
      obtain ⟨g, off, rfl, hgw, hc⟩ := cells14 (HR.out.grows (HG1.out.trans HG.out)) hkl
      obtain ⟨c0, c1, c2, c3, c4, c5, c6, c7, c8, c9, c10, c11, c12, c13⟩ := cells14_at hc
      have hct := cnt5_take L k hkl
      have hcl : cnt5 (L.take k) ≤ 200 := by
        have h1 := cnt5_le (L.take k)
        rw [List.length_take] at h1
        have := HB.out
        omega
      generalize L[k] = x at *
      generalize cnt5 (L.take k) = t at *
      have HCT := Lib.hid hct
      clear hc hkl hct
      have hi1 : (k : Int) < (n : Int) := by omega
      have hi0 : (0 : Int) ≤ (k : Int) := by omega
      have hi2 : ((k : Int)).toNat = k := by omega
      clear hlt
      by_cases h5 : x.k = 5
      · have b5 : (x.k == (5 : Int)) = true := by simp [h5]
        have HE : Hid (cnt5 (L.take (k + 1)) = t + 1) := Lib.hid (by rw [HCT.out, if_pos h5])
        clear h5
        go_wp2_with fail
        go_roundg (gk - 1)
        case measure => omega
        case rel => exact ⟨k + 1, by omega, by go_num, by rw [HE.out]; go_num, HG.out.alloc _⟩
      · have b5 : (x.k == (5 : Int)) = false := by simp [h5]
        have HE : Hid (cnt5 (L.take (k + 1)) = t) := Lib.hid (by rw [HCT.out, if_neg h5]; rfl)
        clear h5
        go_wp2_with fail
        go_roundg (gk - 1)
        case measure => omega
        case rel => exact ⟨k + 1, by omega, by go_num, by rw [HE.out], HG.out.alloc _⟩
    · have hge : ¬ (k : Int) < (n : Int) := by omega
      have hct : cnt5 (L.take k) = D.length := by rw [List.take_of_length_le (by have := HN.out; omega), HDN.out]
      rw [hct]
      have HG2 := Lib.hid (HG1.out.trans HG.out)
      have HRD2 := Lib.hid (HRD.out.grows HG.out)
      have hld := HLD.out
      clear hct hlt hgk HDN HRD HG1 HG
      generalize wr = w2 at *
      go_wp2_with fail
      clear hge
      go_loopg [8, 9, 46] D.length (fun gh _ _ v46 wr => ∃ i : Nat, gh + i = D.length ∧ v46 = .int .i64 (i : Int) ∧ Grows w2 wr)
      case atStart => exact ⟨0, by omega, rfl, Grows.refl _⟩
      case round =>
        obtain ⟨i, hgi, rfl, hg⟩ := hrel
        have HGW := Lib.hid (HG2.out.trans hg)
        have HRW := Lib.hid (HRD2.out.grows hg)
        have HGR := Lib.hid hg
        clear hg
        by_cases hlt : i < D.length
        · have HX := Lib.hid (List.getElem?_eq_getElem hlt)
          have HLT := Lib.hid hlt
          have hmx := List.getElem_mem hlt
          have HMX := Lib.hid hmx
          clear hmx
          generalize D[i] = x at *
          have hi1 : (i : Int) < (D.length : Int) := by omega
          generalize gk = gk0 at *
          generalize wr = wx at *
          go_wp2_with fail
          clear hi1
          go_loopg [9] i (fun gh v9 wi => ∃ k : Nat, gh + k = i ∧ v9 = .int .i64 (k : Int) ∧ Grows wx wi)
          case atStart => exact ⟨0, by omega, rfl, Grows.refl _⟩
          case round =>
            obtain ⟨k, hgk, rfl, hgi'⟩ := hrel
            generalize wr = wi at *
            have HGI := Lib.hid (HGR.out.trans hgi')
            have HGJ := Lib.hid (HGW.out.trans hgi')
            have HRJ := Lib.hid (HRW.out.grows hgi')
            have HGX := Lib.hid hgi'
            clear hgi'
            by_cases hki : k < i
            · have hkl : k < D.length := by have := HLT.out; omega
              have HY := Lib.hid (List.getElem?_eq_getElem hkl)
              have hmy := List.getElem_mem hkl
              have hpy : (tk L D[k]).p < (tk L x).p := by
                have h1 := List.pairwise_iff_getElem.1 HRI.out k i hkl HLT.out hki
                have h2 := HX.out
                rw [List.getElem?_eq_getElem HLT.out] at h2
                injection h2 with h2
                rw [h2] at h1
                exact h1
              generalize D[k] = y at *
              have hne : ¬ x = y := fun e => by rw [e] at hpy; omega
              obtain ⟨gD, oD, rfl, hgD, _⟩ := cells3 HRJ.out hkl
              have LX := Lib.hid (ld_range (P := Try.prog) (ty := 31) (rows_cell_at Nm.cs_len (by omega) HRJ.out HX.out).2 hgD Try.underlying31 rfl (by kernel_rfl))
              have LY := Lib.hid (ld_range (P := Try.prog) (ty := 31) (rows_cell_at Nm.cs_len (by omega) HRJ.out HY.out).2 hgD Try.underlying31 rfl (by kernel_rfl))
              have C1 : ∀ W, Grows wi W → Hid (Calls Try.prog 10 #[.slice a n cap, y.v] W fun e w' => e = .returned (.int .i64 (tk L y).p) ∧ Grows W w') := fun W hw => Lib.hid (by rw [← HF3.out y hmy]; exact HCM.out y W (HGJ.out.trans hw))
              have C2 : ∀ W, Grows wi W → Hid (Calls Try.prog 10 #[.slice a n cap, x.v] W fun e w' => e = .returned (.int .i64 (tk L x).p) ∧ Grows W w') := fun W hw => Lib.hid (by rw [← HF3.out x HMX.out]; exact HCM.out x W (HGJ.out.trans hw))
              have C3 : ∀ W, Grows wi W → Hid (Calls Try.prog 11 #[.slice a n cap, x.v, y.v] W fun e w' => e = .returned (.bool (aheadL x y L)) ∧ Grows W w') := fun W hw => Lib.hid (HAH.out x y W (HGJ.out.trans hw))
              have C4 : ∀ W, Grows wi W → Hid (Calls Try.prog 12 #[.slice a n cap, x.v] W fun e w' => e = .returned (.bool (ansB x L)) ∧ Grows W w') := fun W hw => Lib.hid (HAN.out x W (HGJ.out.trans hw))
              have htc := HTC.out x y HMX.out hmy hpy
              generalize (tk L y).p = py at *
              generalize (tk L x).p = px at *
              generalize aheadL x y L = ah at *
              generalize ansB x L = an at *
              have he := eqn_any
              have hd : decide (x = y) = false := by simp [hne]
              have hge : decide (px ≤ py) = false := by simp; omega
              have hki1 : (k : Int) < (i : Int) := by omega
              have hk1 : (k : Int) < (D.length : Int) := by have := HLT.out; omega
              have hi1 : (i : Int) < (D.length : Int) := by have := HLT.out; omega
              have hld := HLD.out
              have hk0 : (0 : Int) ≤ (k : Int) := by omega
              have hi0 : (0 : Int) ≤ (i : Int) := by omega
              unfold Nm.v at C1 C2 C3 C4
              unfold Nm.cs at LX LY
              clear hne hmy HGW HGJ HRJ hgD
              cases ah with
              | false =>
                clear htc
                go_wp2_with fail
                refine wp_region_class wi (by kernel_rfl) (by kernel_rfl) (Grows.refl _) ?_
                repeat (first
                  | go_big_quiet_skip
                  | (go_big_quiet_want; first
                      | (refine quiet_load (b := gD) (off := oD + i * 3) rfl LX.out ?_; (simp only [Act.put, List.setIfInBounds_toArray, List.set_cons_zero, List.set_cons_succ]); go_big_quiet_on)
                      | (refine quiet_load (b := gD) (off := oD + k * 3) rfl LY.out ?_; (simp only [Act.put, List.setIfInBounds_toArray, List.set_cons_zero, List.set_cons_succ]); go_big_quiet_on)
                      | (go_big_quiet_op; first
                          | go_big_quiet_on
                          | (refine ⟨_, fun _ _ => rfl, ?_⟩; go_big_quiet_on)
                          | go_big_quiet_call (first
                              | (intro hC; go_at_call 10; (with_reducible refine (C1 _ hC).out.mono ?_); rintro e w11 ⟨rfl, hg⟩; exact ⟨rfl, hC.trans hg⟩)
                              | (intro hC; go_at_call 10; (with_reducible refine (C2 _ hC).out.mono ?_); rintro e w11 ⟨rfl, hg⟩; exact ⟨rfl, hC.trans hg⟩)
                              | (intro hC; go_at_call 11; (with_reducible refine (C3 _ hC).out.mono ?_); rintro e w11 ⟨rfl, hg⟩; exact ⟨rfl, hC.trans hg⟩)
                              | (intro hC; go_at_call 12; (with_reducible refine (C4 _ hC).out.mono ?_); rintro e w11 ⟨rfl, hg⟩; exact ⟨rfl, hC.trans hg⟩)))))
                refine wpQuiet_nil ?_
                intro w10 hC10
                have HG10 := Lib.hid (HGX.out.trans hC10)
                clear C1 C2 C3 C4 LX LY hC10
                go_wp2_with fail
                go_roundg (gk - 1)
                case measure => omega
                case rel => exact ⟨k + 1, by omega, by go_num, HG10.out⟩
              | true =>
                have := htc rfl
                subst this
                clear htc
                go_wp2_with fail
                refine wp_region_class wi (by kernel_rfl) (by kernel_rfl) (Grows.refl _) ?_
                repeat (first
                  | go_big_quiet_skip
                  | (go_big_quiet_want; first
                      | (refine quiet_load (b := gD) (off := oD + i * 3) rfl LX.out ?_; (simp only [Act.put, List.setIfInBounds_toArray, List.set_cons_zero, List.set_cons_succ]); go_big_quiet_on)
                      | (refine quiet_load (b := gD) (off := oD + k * 3) rfl LY.out ?_; (simp only [Act.put, List.setIfInBounds_toArray, List.set_cons_zero, List.set_cons_succ]); go_big_quiet_on)
                      | (go_big_quiet_op; first
                          | go_big_quiet_on
                          | (refine ⟨_, fun _ _ => rfl, ?_⟩; go_big_quiet_on)
                          | go_big_quiet_call (first
                              | (intro hC; go_at_call 10; (with_reducible refine (C1 _ hC).out.mono ?_); rintro e w11 ⟨rfl, hg⟩; exact ⟨rfl, hC.trans hg⟩)
                              | (intro hC; go_at_call 10; (with_reducible refine (C2 _ hC).out.mono ?_); rintro e w11 ⟨rfl, hg⟩; exact ⟨rfl, hC.trans hg⟩)
                              | (intro hC; go_at_call 11; (with_reducible refine (C3 _ hC).out.mono ?_); rintro e w11 ⟨rfl, hg⟩; exact ⟨rfl, hC.trans hg⟩)
                              | (intro hC; go_at_call 12; (with_reducible refine (C4 _ hC).out.mono ?_); rintro e w11 ⟨rfl, hg⟩; exact ⟨rfl, hC.trans hg⟩)))))
                refine wpQuiet_nil ?_
                intro w10 hC10
                have HG10 := Lib.hid (HGX.out.trans hC10)
                clear C1 C2 C3 C4 LX LY hC10
                go_wp2_with fail
                go_roundg (gk - 1)
                case measure => omega
                case rel => exact ⟨k + 1, by omega, by go_num, HG10.out⟩
            · have hge : ¬ (k : Int) < (i : Int) := by omega
              have hli := HLT.out
              have hld := HLD.out
              clear hki
              go_wp2_with fail
              go_roundg (gk0 - 1)
              case measure => omega
              case rel => exact ⟨i + 1, by omega, by go_num, HGI.out⟩
        · have hge : ¬ (i : Int) < (D.length : Int) := by omega
          clear hlt
          go_wp2_with fail
          refine (wakes_any _).mono ?_
          rintro e wz ⟨rfl, hgz⟩
          go_wp2_with fail
          go_ret
          exact ⟨rfl, (HGW.out).trans hgz⟩
end Go.Proofs.Ytcailhkaeledbaa
