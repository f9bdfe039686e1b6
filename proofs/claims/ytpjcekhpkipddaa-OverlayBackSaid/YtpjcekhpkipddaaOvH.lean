/-
  OverlayBack's walk.
-/
import Derived.Test.YtpjcekhpkipddaaOvP
import Derived.Test.YtpjcekhpkipddaaQuiet
namespace Go.Proofs.Ytpjcekhpkipddaa
open Go.RowKit

theorem getR_some {l : List Wr} {k b : Int} {x0 x1 x2 x3 x4 x5 x6 x7 : Nat} (h : fnd l k = some (b, [x0, x1, x2, x3, x4, x5, x6, x7])) :
    getR l k = .tuple #[.agg #[.int .u8 x0, .int .u8 x1, .int .u8 x2, .int .u8 x3, .int .u8 x4, .int .u8 x5, .int .u8 x6, .int .u8 x7], .bool true] := by
  rw [getR, getV, h]; rfl
def ks8 : List (Option IntKind) := List.replicate 8 (some .u8)
theorem flat8 : flatQ Try.prog 2 24 = some ks8 := by kernel_rfl
theorem mk8 (cs : List Value) : mkV Try.prog 24 cs = .agg cs.toArray := rfl
theorem kinds_bys : ∀ (l : List Nat), OfKinds (List.replicate l.length (some .u8)) (bys l)
  | [] => trivial
  | _ :: xs => ⟨⟨_, rfl⟩, kinds_bys xs⟩
theorem eq8_self (W : World) (x0 x1 x2 x3 x4 x5 x6 x7 : Nat) : (Op.equalIn 10000 24 (.agg #[.int .u8 x0, .int .u8 x1, .int .u8 x2, .int .u8 x3, .int .u8 x4, .int .u8 x5, .int .u8 x6, .int .u8 x7]) (.agg #[.int .u8 x0, .int .u8 x1, .int .u8 x2, .int .u8 x3, .int .u8 x4, .int .u8 x5, .int .u8 x6, .int .u8 x7])).run Try.prog W = .ok true W := by
  have := eq_flat_agg (P := Try.prog) W 2 24 ks8 flat8 (by omega) mk8 _ _ (kinds_bys [x0, x1, x2, x3, x4, x5, x6, x7]) (kinds_bys [x0, x1, x2, x3, x4, x5, x6, x7])
  rw [cellsEq_self (kinds_bys [x0, x1, x2, x3, x4, x5, x6, x7])] at this
  exact this
theorem flat256 : flatQ Try.prog 3 36 = some (List.replicate 256 (some .u8)) := by kernel_rfl
theorem mk256 (cs : List Value) : mkV Try.prog 36 cs = .agg cs.toArray := rfl
theorem eq256_self (W : World) (Y : List Nat) (h : Y.length = 256) : (Op.equalIn 10000 36 (.agg (bys Y).toArray) (.agg (bys Y).toArray)).run Try.prog W = .ok true W := by
  have hk := kinds_bys Y
  rw [h] at hk
  have := eq_flat_agg (P := Try.prog) W 3 36 _ flat256 (by omega) mk256 _ _ hk hk
  rw [cellsEq_self hk] at this
  exact this

set_option maxRecDepth 100000 in
set_option maxHeartbeats 4000000 in
theorem back_walk (H : List Nat) (hH : H.length = 256) (la lb : List Wr) (na nb : Nat) (ha : la.length = na) (hb : lb.length = nb) (h8a : W8 la) (h8b : W8 lb) (a b : Option Addr) (ca cb : Nat) (p : Int) (x0 x1 x2 x3 x4 x5 x6 x7 : Nat) (w : World) (hra : Rd w a (wrs la)) (hrb : Rd w b (wrs lb)) (hca : na ≤ ca) (hna : a = none → na = 0 ∧ ca = 0) :
    Calls Try.prog 4 #[.agg (bys H).toArray, .slice a na ca, .slice b nb cb, aggW p x0 x1 x2 x3 x4 x5 x6 x7] w fun e w' => e = .returned (.bool true) ∧ Grows w w' := by
  have HRA := Lib.hid hra
  have HRB := Lib.hid hrb
  have H8A := Lib.hid h8a
  have H8B := Lib.hid h8b
  have HA := Lib.hid ha
  have HB := Lib.hid hb
  have HNA := Lib.hid hna
  have HH := Lib.hid hH
  clear hra hrb h8a h8b ha hb hna hH
  unfold aggW
  have G1 := (((Grows.refl w).alloc (.cells (bys H).toArray 36)).alloc (.cells #[.int .i64 p, .int .u8 x0, .int .u8 x1, .int .u8 x2, .int .u8 x3, .int .u8 x4, .int .u8 x5, .int .u8 x6, .int .u8 x7] 26))
  go_enter Try.func4, Try.ntmps4
  go_wp2_with fail
  refine (ref_written la na HA.out H8A.out a ca _ (HRA.out.grows G1)).mono ?_
  rintro e w1 ⟨rfl, hb1⟩
  have AH := Lib.hid (((At.new w 36 (bys H).toArray).alloc (.cells #[.int .i64 p, .int .u8 x0, .int .u8 x1, .int .u8 x2, .int .u8 x3, .int .u8 x4, .int .u8 x5, .int .u8 x6, .int .u8 x7] 26)).grows hb1)
  have AP := (At.new (w.alloc (.cells (bys H).toArray 36)) 26 #[.int .i64 p, .int .u8 x0, .int .u8 x1, .int .u8 x2, .int .u8 x3, .int .u8 x4, .int .u8 x5, .int .u8 x6, .int .u8 x7]).grows hb1
  simp only [World.size_alloc] at AP
  have HAP := Lib.hid AP
  clear AP
  have G2 := G1.trans hb1
  have hs2 : w.heap.size + 1 < w1.heap.size := HAP.out.lt
  clear G1 hb1
  cases hwa : writtenB la with
  | false =>
    go_wp2_with fail
    refine (wakes_any _).mono ?_
    rintro e w2 ⟨rfl, hb2⟩
    go_wp2_with fail
    go_ret
    exact ⟨rfl, G2.trans hb2⟩
  | true =>
    go_wp2_with fail
    refine (ref_written lb nb HB.out H8B.out b cb _ (HRB.out.grows G2)).mono ?_
    rintro e w2 ⟨rfl, hb2⟩
    have AH2 := Lib.hid (AH.out.grows hb2)
    have AP2 := Lib.hid (HAP.out.grows hb2)
    have G3 := G2.trans hb2
    have hs3 : w.heap.size + 1 < w2.heap.size := AP2.out.lt
    clear G2 hb2 AH HAP hs2
    cases hwb : writtenB lb with
    | false =>
      go_wp2_with fail
      refine (wakes_any _).mono ?_
      rintro e w3 ⟨rfl, hb3⟩
      go_wp2_with fail
      go_ret
      exact ⟨rfl, G3.trans hb3⟩
    | true =>
      have hna8 : na ≤ 8 := by have := written_le hwa; have := HA.out; omega
      have HWA := Lib.hid hwa
      have HWB := Lib.hid hwb
      clear hwa hwb
      have cp := AP2.out.cell
      go_wp2_with fail
      by_cases hP : putE la (p, [x0, x1, x2, x3, x4, x5, x6, x7]) = 0
      · have HF0 := Lib.hid (getR_some (fnd_put la (p, [x0, x1, x2, x3, x4, x5, x6, x7])))
        have HW1 := Lib.hid (written_ins hP)
        have HI8 := Lib.hid (W8_ins (w := (p, [x0, x1, x2, x3, x4, x5, x6, x7])) H8A.out rfl)
        refine (put_good la na HA.out H8A.out a ca p x0 x1 x2 x3 x4 x5 x6 x7 _ (HRA.out.grows G3) hca HNA.out hP).mono ?_
        rintro e w3 ⟨g1, m1, c1, rfl, hm1, hr1, hc1, hb3⟩
        have hm1' : m1 ≤ na + 1 := by have := ins_len la (p, [x0, x1, x2, x3, x4, x5, x6, x7]); rw [hm1, HA.out] at this; split at this <;> omega
        have HM1 := Lib.hid hm1
        have HR1 := Lib.hid hr1
        have AH3 := Lib.hid (AH2.out.grows hb3)
        have AP3 := Lib.hid (AP2.out.grows hb3)
        have G4 := G3.trans hb3
        clear hP cp AH2 AP2 hb3 G3 hm1 hr1
        have cp := AP3.out.cell
        go_wp2_with fail
        refine (get_any (ins (p, [x0, x1, x2, x3, x4, x5, x6, x7]) la) m1 HM1.out HI8.out _ c1 p _ HR1.out (by omega)).mono ?_
        rw [HF0.out]
        rintro e w4 ⟨rfl, hb4⟩
        have A5 := Lib.hid ((AH3.out.grows hb4).alloc (.cells #[.int .u8 x0, .int .u8 x1, .int .u8 x2, .int .u8 x3, .int .u8 x4, .int .u8 x5, .int .u8 x6, .int .u8 x7] 24))
        have P5 := Lib.hid ((AP3.out.grows hb4).alloc (.cells #[.int .u8 x0, .int .u8 x1, .int .u8 x2, .int .u8 x3, .int .u8 x4, .int .u8 x5, .int .u8 x6, .int .u8 x7] 24))
        have R5 := Lib.hid (HR1.out.grows (hb4.alloc (.cells #[.int .u8 x0, .int .u8 x1, .int .u8 x2, .int .u8 x3, .int .u8 x4, .int .u8 x5, .int .u8 x6, .int .u8 x7] 24)))
        have G5 := (G4.trans hb4).alloc (.cells #[.int .u8 x0, .int .u8 x1, .int .u8 x2, .int .u8 x3, .int .u8 x4, .int .u8 x5, .int .u8 x6, .int .u8 x7] 24)
        clear cp hb4 AH3 AP3 HR1 G4
        have cp := P5.out.cell
        have he8 := eq8_self
        go_wp2_with fail
        refine (ref_written (ins (p, [x0, x1, x2, x3, x4, x5, x6, x7]) la) m1 HM1.out HI8.out _ c1 _ R5.out).mono ?_
        rw [HW1.out]
        rintro e w5 ⟨rfl, hb5⟩
        have A6 := Lib.hid (A5.out.grows hb5)
        have P6 := Lib.hid (P5.out.grows hb5)
        have R6 := Lib.hid (R5.out.grows hb5)
        have G6 := G5.trans hb5
        clear cp hb5 A5 P5 R5 G5
        go_wp2_with fail
        go_loopg [13] na (fun gh i wr => ∃ (k : Nat), k + gh = na ∧ i = .int .i64 (k : Int) ∧ Grows w5 wr)
        case atStart => exact ⟨0, by omega, rfl, Grows.refl _⟩
        case round =>
          obtain ⟨k, hk, rfl, hg⟩ := hrel
          have G7 := G6.trans hg
          have R7 := Lib.hid (R6.out.grows hg)
          have P7 := Lib.hid (P6.out.grows hg)
          have A7 := Lib.hid (A6.out.grows hg)
          by_cases hlt : k < na
          · obtain ⟨g, off, q, y0, y1, y2, y3, y4, y5, y6, y7, rfl, hgw, hek, c0, c1', c2, c3, c4, c5, c6, c7, c8⟩ := cells9 H8A.out (HRA.out.grows G7) (k := k) (by rw [HA.out]; exact hlt)
            have hmem : (q, [y0, y1, y2, y3, y4, y5, y6, y7]) ∈ la := by rw [← hek]; exact List.getElem_mem _
            have hfm := fnd_mem la (-1) (written_le HWA.out).2 _ hmem
            clear hek
            have hlt' : (k : Int) < (na : Int) := by omega
            have hk0 : (0 : Int) ≤ (k : Int) := by omega
            by_cases hqp : q = p
            · have HG : Hid (getR (ins (p, [x0, x1, x2, x3, x4, x5, x6, x7]) la) q = .tuple #[.agg #[.int .u8 x0, .int .u8 x1, .int .u8 x2, .int .u8 x3, .int .u8 x4, .int .u8 x5, .int .u8 x6, .int .u8 x7], .bool true]) := by
                show _ = _
                rw [hqp]
                exact HF0.out
              have hq1 : (q == p) = true := by simpa using hqp
              have hq2 : (q != p) = false := by simpa using hqp
              clear hfm hmem hqp
              go_wp2_with fail
              refine (get_any (ins (p, [x0, x1, x2, x3, x4, x5, x6, x7]) la) m1 HM1.out HI8.out _ c1 q _ R7.out (by omega)).mono ?_
              rw [HG.out]
              rintro e w6 ⟨rfl, hb6⟩
              have hgo := hg.trans (hb6.alloc (.cells #[.int .u8 x0, .int .u8 x1, .int .u8 x2, .int .u8 x3, .int .u8 x4, .int .u8 x5, .int .u8 x6, .int .u8 x7] 24))
              have cp := (P6.out.grows hgo).cell
              have d0 : (w6.alloc (.cells #[.int .u8 x0, .int .u8 x1, .int .u8 x2, .int .u8 x3, .int .u8 x4, .int .u8 x5, .int .u8 x6, .int .u8 x7] 24)).cell? ⟨g, off + k * 9, none⟩ = some (.int .i64 q) := ((hb6.alloc _).cell _ _ hgw).trans c0
              clear c0 c1' c2 c3 c4 c5 c6 c7 c8
              go_wp2_with fail
              go_quiet (fail)
              go_wp2_with fail
              go_roundg (gk - 1)
              case measure => omega
              case rel => exact ⟨k + 1, by omega, by go_num, hgo.drewN _⟩
            · have HG := Lib.hid (getR_some ((fnd_other la (p, [x0, x1, x2, x3, x4, x5, x6, x7]) q hqp).trans hfm))
              have hq1 : (q == p) = false := by simpa using hqp
              have hq2 : (q != p) = true := by simpa using hqp
              clear hfm hmem hqp
              go_wp2_with fail
              refine (get_any (ins (p, [x0, x1, x2, x3, x4, x5, x6, x7]) la) m1 HM1.out HI8.out _ c1 q _ R7.out (by omega)).mono ?_
              rw [HG.out]
              rintro e w6 ⟨rfl, hb6⟩
              have hgo := hg.trans (hb6.alloc (.cells #[.int .u8 y0, .int .u8 y1, .int .u8 y2, .int .u8 y3, .int .u8 y4, .int .u8 y5, .int .u8 y6, .int .u8 y7] 24))
              have cp := (P6.out.grows hgo).cell
              have DD := hb6.alloc (.cells #[.int .u8 y0, .int .u8 y1, .int .u8 y2, .int .u8 y3, .int .u8 y4, .int .u8 y5, .int .u8 y6, .int .u8 y7] 24)
              have d0 := (DD.cell _ _ hgw).trans c0
              have d1 := (DD.cell _ _ hgw).trans c1'
              have d2 := (DD.cell _ _ hgw).trans c2
              have d3 := (DD.cell _ _ hgw).trans c3
              have d4 := (DD.cell _ _ hgw).trans c4
              have d5 := (DD.cell _ _ hgw).trans c5
              have d6 := (DD.cell _ _ hgw).trans c6
              have d7 := (DD.cell _ _ hgw).trans c7
              have d8 := (DD.cell _ _ hgw).trans c8
              clear c0 c1' c2 c3 c4 c5 c6 c7 c8
              go_wp2_with fail
              go_quiet (fail)
              go_wp2_with fail
              go_roundg (gk - 1)
              case measure => omega
              case rel => exact ⟨k + 1, by omega, by go_num, hgo.drewN _⟩
          · obtain rfl : na = k := by omega
            have hgt : ¬ ((na : Int) + 1 < (m1 : Int)) := by omega
            clear he8
            go_wp2_with fail
            refine (over_any la lb na nb HA.out HB.out H8A.out H8B.out a b ca cb _ (HRA.out.grows G7) (HRB.out.grows G7) hca HNA.out HWA.out HWB.out).mono ?_
            rintro e w9 (⟨hE, rfl, hb9⟩ | ⟨hE, ad, cc, rfl, hr9, hb9⟩)
            · have hE2 := over_bad lb la HWA.out (written_isB HWB.out) hE
              rw [hE2]
              clear hE hE2
              go_wp2_with fail
              refine (wakes_any _).mono ?_
              rintro e w10 ⟨rfl, hb10⟩
              go_wp2_with fail
              go_ret
              exact ⟨rfl, (G7.trans hb9).trans hb10⟩
            · obtain ⟨hW, h8m, hON⟩ := over_all lb la HWA.out H8A.out H8B.out hE
              have hml := (written_le hW).1
              have hON := hON H HH.out
              have G9 := G7.trans hb9
              have hZl := onL_length la H HH.out H8A.out
              have hYl := onL_length (overL la lb) H HH.out h8m
              have AH9 := A7.out.grows hb9
              have C1 : ∀ W, Grows w9 W → Hid (Calls Try.prog 10 #[.slice ad (overL la lb).length cc] W fun e w' => e = .returned (.bool true) ∧ Grows W w') := fun W hw => by
                have := ref_written (overL la lb) _ rfl h8m ad cc W (hr9.grows hw)
                rw [hW] at this
                exact this
              have C2 : ∀ W, Grows w9 W → Hid (Calls Try.prog 12 #[.agg (bys H).toArray, .slice ad (overL la lb).length cc] W fun e w' => e = .returned (.agg (bys (onL H (overL la lb))).toArray) ∧ Grows W w') := fun W hw =>
                on_any H HH.out (overL la lb) _ rfl h8m ad cc W (hr9.grows hw) (by omega)
              have C3 : ∀ W, Grows w9 W → Hid (Calls Try.prog 12 #[.agg (bys H).toArray, .slice a na ca] W fun e w' => e = .returned (.agg (bys (onL H la)).toArray) ∧ Grows W w') := fun W hw =>
                on_any H HH.out la na HA.out H8A.out a ca W (HRA.out.grows (G9.trans hw)) (by omega)
              have C4 : ∀ W, Grows w9 W → Hid (Calls Try.prog 12 #[.agg (bys (onL H la)).toArray, .slice b nb cb] W fun e w' => e = .returned (.agg (bys (onL H (overL la lb))).toArray) ∧ Grows W w') := fun W hw => by
                rw [hON]
                exact on_any (onL H la) hZl lb nb HB.out H8B.out b cb W (HRB.out.grows (G9.trans hw)) (by have := written_le HWB.out; have := HB.out; omega)
              have he : ∀ W : World, (Op.equalIn 10000 36 (.agg (bys (onL H (overL la lb))).toArray) (.agg (bys (onL H (overL la lb))).toArray)).run Try.prog W = .ok true W := fun W => eq256_self W _ hYl
              have LH := ld_row (P := Try.prog) AH9 Try.underlying36 rfl (by rw [show (bys H).toArray.size = 256 by simp [bys_length, HH.out]]; kernel_rfl)
              have HLH := Lib.hid LH
              generalize onL H (overL la lb) = Y at *
              generalize onL H la = Z at *
              generalize (overL la lb).length = mm at *
              clear hW h8m hON hZl hYl AH9 LH hr9 hE
              go_wp2_with fail
              refine wp_region_class w9 (by kernel_rfl) (by kernel_rfl) (Grows.refl _) ?_
              repeat (first
                | go_big_quiet_skip
                | (go_big_quiet_want; first
                    | (refine quiet_load (b := w.heap.size) (off := 0) rfl HLH.out ?_; (simp only [Act.put, List.setIfInBounds_toArray, List.set_cons_zero, List.set_cons_succ]); go_big_quiet_on)
                    | (go_big_quiet_op; first
                        | go_big_quiet_on
                        | (refine ⟨_, fun _ _ => rfl, ?_⟩; go_big_quiet_on)
                        | go_big_quiet_call (first
                            | (intro hC; go_at_call 10; refine (C1 _ hC).out.mono ?_; rintro e w11 ⟨rfl, hg⟩; exact ⟨rfl, hC.trans hg⟩)
                            | (intro hC; go_at_call 12; (with_reducible refine (C2 _ hC).out.mono ?_); rintro e w11 ⟨rfl, hg⟩; exact ⟨rfl, hC.trans hg⟩)
                            | (intro hC; go_at_call 12; (with_reducible refine (C3 _ hC).out.mono ?_); rintro e w11 ⟨rfl, hg⟩; exact ⟨rfl, hC.trans hg⟩)
                            | (intro hC; go_at_call 12; (with_reducible refine (C4 _ hC).out.mono ?_); rintro e w11 ⟨rfl, hg⟩; exact ⟨rfl, hC.trans hg⟩)
                            | (intro hC; go_at_call 6; refine (wakes_any _).mono ?_; rintro e w11 ⟨rfl, hg⟩; exact ⟨rfl, hC.trans hg⟩)))))
              refine wpQuiet_nil ?_
              intro w10 hb10
              go_wp2_with fail
              go_ret
              exact ⟨rfl, G9.trans hb10⟩
      · refine (put_bad la na HA.out H8A.out a ca p x0 x1 x2 x3 x4 x5 x6 x7 _ (HRA.out.grows G3) (by omega) hP).mono ?_
        rintro e w3 ⟨rfl, hb3⟩
        generalize putE la (p, [x0, x1, x2, x3, x4, x5, x6, x7]) = eA at *
        have h1 : (eA == 0) = false := by simpa using hP
        have h2 : (eA != 0) = true := by simpa using hP
        have AH3 := Lib.hid (AH2.out.grows hb3)
        have G4 := G3.trans hb3
        clear hP cp AH2 AP2 hb3 G3
        go_wp2_with fail
        refine (over_any la lb na nb HA.out HB.out H8A.out H8B.out a b ca cb _ (HRA.out.grows G4) (HRB.out.grows G4) hca HNA.out HWA.out HWB.out).mono ?_
        rintro e w9 (⟨hE, rfl, hb9⟩ | ⟨hE, ad, cc, rfl, hr9, hb9⟩)
        · have hE2 := over_bad lb la HWA.out (written_isB HWB.out) hE
          rw [hE2]
          clear hE hE2
          go_wp2_with fail
          refine (wakes_any _).mono ?_
          rintro e w10 ⟨rfl, hb10⟩
          go_wp2_with fail
          go_ret
          exact ⟨rfl, (G4.trans hb9).trans hb10⟩
        · obtain ⟨hW, h8m, hON⟩ := over_all lb la HWA.out H8A.out H8B.out hE
          have hml := (written_le hW).1
          have hON := hON H HH.out
          have G9 := G4.trans hb9
          have hZl := onL_length la H HH.out H8A.out
          have hYl := onL_length (overL la lb) H HH.out h8m
          have AH9 := AH3.out.grows hb9
          have C1 : ∀ W, Grows w9 W → Hid (Calls Try.prog 10 #[.slice ad (overL la lb).length cc] W fun e w' => e = .returned (.bool true) ∧ Grows W w') := fun W hw => by
            have := ref_written (overL la lb) _ rfl h8m ad cc W (hr9.grows hw)
            rw [hW] at this
            exact this
          have C2 : ∀ W, Grows w9 W → Hid (Calls Try.prog 12 #[.agg (bys H).toArray, .slice ad (overL la lb).length cc] W fun e w' => e = .returned (.agg (bys (onL H (overL la lb))).toArray) ∧ Grows W w') := fun W hw =>
            on_any H HH.out (overL la lb) _ rfl h8m ad cc W (hr9.grows hw) (by omega)
          have C3 : ∀ W, Grows w9 W → Hid (Calls Try.prog 12 #[.agg (bys H).toArray, .slice a na ca] W fun e w' => e = .returned (.agg (bys (onL H la)).toArray) ∧ Grows W w') := fun W hw =>
            on_any H HH.out la na HA.out H8A.out a ca W (HRA.out.grows (G9.trans hw)) (by omega)
          have C4 : ∀ W, Grows w9 W → Hid (Calls Try.prog 12 #[.agg (bys (onL H la)).toArray, .slice b nb cb] W fun e w' => e = .returned (.agg (bys (onL H (overL la lb))).toArray) ∧ Grows W w') := fun W hw => by
            rw [hON]
            exact on_any (onL H la) hZl lb nb HB.out H8B.out b cb W (HRB.out.grows (G9.trans hw)) (by have := written_le HWB.out; have := HB.out; omega)
          have he : ∀ W : World, (Op.equalIn 10000 36 (.agg (bys (onL H (overL la lb))).toArray) (.agg (bys (onL H (overL la lb))).toArray)).run Try.prog W = .ok true W := fun W => eq256_self W _ hYl
          have LH := ld_row (P := Try.prog) AH9 Try.underlying36 rfl (by rw [show (bys H).toArray.size = 256 by simp [bys_length, HH.out]]; kernel_rfl)
          have HLH := Lib.hid LH
          generalize onL H (overL la lb) = Y at *
          generalize onL H la = Z at *
          generalize (overL la lb).length = mm at *
          clear hW h8m hON hZl hYl AH9 LH hr9 hE
          go_wp2_with fail
          refine wp_region_class w9 (by kernel_rfl) (by kernel_rfl) (Grows.refl _) ?_
          repeat (first
            | go_big_quiet_skip
            | (go_big_quiet_want; first
                | (refine quiet_load (b := w.heap.size) (off := 0) rfl HLH.out ?_; (simp only [Act.put, List.setIfInBounds_toArray, List.set_cons_zero, List.set_cons_succ]); go_big_quiet_on)
                | (go_big_quiet_op; first
                    | go_big_quiet_on
                    | (refine ⟨_, fun _ _ => rfl, ?_⟩; go_big_quiet_on)
                    | go_big_quiet_call (first
                        | (intro hC; go_at_call 10; refine (C1 _ hC).out.mono ?_; rintro e w11 ⟨rfl, hg⟩; exact ⟨rfl, hC.trans hg⟩)
                        | (intro hC; go_at_call 12; (with_reducible refine (C2 _ hC).out.mono ?_); rintro e w11 ⟨rfl, hg⟩; exact ⟨rfl, hC.trans hg⟩)
                        | (intro hC; go_at_call 12; (with_reducible refine (C3 _ hC).out.mono ?_); rintro e w11 ⟨rfl, hg⟩; exact ⟨rfl, hC.trans hg⟩)
                        | (intro hC; go_at_call 12; (with_reducible refine (C4 _ hC).out.mono ?_); rintro e w11 ⟨rfl, hg⟩; exact ⟨rfl, hC.trans hg⟩)
                        | (intro hC; go_at_call 6; refine (wakes_any _).mono ?_; rintro e w11 ⟨rfl, hg⟩; exact ⟨rfl, hC.trans hg⟩)))))
          refine wpQuiet_nil ?_
          intro w10 hb10
          go_wp2_with fail
          go_ret
          exact ⟨rfl, G9.trans hb10⟩
end Go.Proofs.Ytpjcekhpkipddaa
