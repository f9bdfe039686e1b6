/-
  DiskApart: the walk.
-/
import Derived.Test.YtdomkphljegkiaaDwB
import Derived.Test.YtdomkphljegkiaaDkJ
import Derived.Test.YtdomkphljegkiaaConv
import Derived.Deep.RegionHeld
namespace Go.Proofs.Ytdomkphljegkiaa
open Go.RowKit Go.Maps

set_option maxRecDepth 100000 in
set_option maxHeartbeats 4000000 in
theorem apart_walk (l : List Ac) (a : Option Addr) (n cap : Nat) (hn : l.length = n) (l' : List Ac) (a' : Option Addr) (n' cap' : Nat) (hn' : l'.length = n') (w : World) (hr : Rd w a (rowsOf acc l)) (hok : ∀ x ∈ l, AcOk w x) (hr' : Rd w a' (rowsOf acc l')) (hok' : ∀ x ∈ l', AcOk w x) :
    Calls Try.prog 4 #[.slice a n cap, .slice a' n' cap'] w fun e w' => e = .returned (.bool true) ∧ Grows w w' := by
  have hGR := great_any l a n cap hn w hr
  have hGR' := great_any l' a' n' cap' hn' w hr'
  cases hg : greatB l with
  | true =>
    rw [hg] at hGR
    have HGR := Lib.hid hGR
    clear hGR hGR' hg hr hok hn hr' hok' hn'
    go_enter Try.func4, Try.ntmps4
    go_wp2_with fail
    refine HGR.out.mono ?_
    rintro e w1 ⟨rfl, rfl⟩
    go_wp2_with fail
    refine (wakes_any _).mono ?_
    rintro e w1 ⟨rfl, hG⟩
    go_wp2_with fail
    go_ret
    exact ⟨rfl, hG⟩
  | false =>
    rw [hg] at hGR
    cases hg' : greatB l' with
    | true =>
      rw [hg'] at hGR'
      have HGR := Lib.hid hGR
      have HGR' := Lib.hid hGR'
      clear hGR hGR' hg hr hok hn hr' hok' hn' hg'
      go_enter Try.func4, Try.ntmps4
      go_wp2_with fail
      refine HGR.out.mono ?_
      rintro e w1 ⟨rfl, rfl⟩
      go_wp2_with fail
      refine HGR'.out.mono ?_
      rintro e w1 ⟨rfl, rfl⟩
      go_wp2_with fail
      refine (wakes_any _).mono ?_
      rintro e w1 ⟨rfl, hG⟩
      go_wp2_with fail
      go_ret
      exact ⟨rfl, hG⟩
    | false =>
      rw [hg'] at hGR'
      have hsm := greatB_no hg
      have hsm' := greatB_no hg'
      have hn2 : n ≤ 200 := by rw [← hn]; exact hsm.1
      have hn2' : n' ≤ 200 := by rw [← hn']; exact hsm'.1
      have HGR := Lib.hid hGR
      have HGR' := Lib.hid hGR'
      have HR := Lib.hid hr
      have HN := Lib.hid hn
      have HOK := Lib.hid hok
      have HR' := Lib.hid hr'
      have HN' := Lib.hid hn'
      have HOK' := Lib.hid hok'
      clear hGR hGR' hg hg' hr hok hsm hn hr' hok' hsm' hn'
      go_enter Try.func4, Try.ntmps4
      go_wp2_with fail
      refine HGR.out.mono ?_
      rintro e w1 ⟨rfl, rfl⟩
      go_wp2_with fail
      refine HGR'.out.mono ?_
      rintro e w1 ⟨rfl, rfl⟩
      go_wp2_with fail
      refine (new_any _).mono ?_
      rintro e w1 ⟨rfl, hD1, hG1⟩
      obtain ⟨g, hgg⟩ : ∃ g, w.heap.size + 1 = g := ⟨_, rfl⟩
      obtain ⟨O1, hO1⟩ : ∃ O1, (fun i => i = w.heap.size ∨ i = w.heap.size + 1) = O1 := ⟨_, rfl⟩
      rw [hO1] at hD1
      rw [hgg] at hD1 ⊢
      clear hgg hO1
      have HD1 := Lib.hid hD1
      have HG1 := Lib.hid hG1
      clear hD1 hG1 HGR HGR'
      go_wp2_with fail
      go_loopg [23] n (fun gh i wr => ∃ (k : Nat) (O : Nat → Prop) (dur : List Nat) (C : Nat → List (List Nat)), k + gh = n ∧ i = .int .i64 (k : Int) ∧ Dk wr w.heap.size O g dur C false ∧ Grows w wr ∧ total C ≤ k)
      case atStart => exact ⟨0, O1, zer, noC, by omega, rfl, HD1.out, HG1.out, by rw [total_no]; omega⟩
      case round =>
        obtain ⟨k, O, dur, C, hk, rfl, hD, hG, ht⟩ := hrel
        have HD := Lib.hid hD
        have HG := Lib.hid hG
        clear hD hG
        by_cases hlt : k < n
        · have hlt' : (k : Int) < (n : Int) := by omega
          have hk0 : (0 : Int) ≤ (k : Int) := by omega
          obtain ⟨b, off, rfl, hb, hc⟩ := rows_cell acc_len (by decide) HR.out (show k < l.length by rw [HN.out]; exact hlt)
          have hm : l[k]'(by rw [HN.out]; exact hlt) ∈ l := List.getElem_mem _
          have HX := Lib.hid (HOK.out _ hm)
          have hc0 := hc 0 _ rfl
          have hc1 := hc 1 _ rfl
          have hc2 := hc 2 _ rfl
          rw [Nat.add_zero] at hc0
          clear hc hm
          generalize l[k]'(by rw [HN.out]; exact hlt) = x at *
          obtain ⟨xd, xn, xa, xl, xc, pa, pl, pc⟩ := x
          dsimp only at *
          have HCC : Hid (∀ W, Grows w W → (W.cell? ⟨b, off + k * 4 + 1, none⟩ = some (.int .i64 xn) ∧ W.cell? ⟨b, off + k * 4 + 2, none⟩ = some (.slice xa xl.length xc)) ∧ W.cell? ⟨b, off + k * 4, none⟩ = some (.int .i64 xd)) := fun W hW => ⟨⟨(hW.cell _ _ hb).trans hc1, (hW.cell _ _ hb).trans hc2⟩, (hW.cell _ _ hb).trans hc0⟩
          clear hc0 hc1 hc2
          -- what the write comes to
          have HWR : Hid (∀ W, Dk W w.heap.size O g dur C false → Grows w W → Calls Try.prog 12 #[.pointer (some ⟨g, 0, none⟩), .int .i64 xn, .slice xa xl.length xc] W fun e w' => ∃ ee O' C', e = .returned (.int .i64 ee) ∧ Dk w' w.heap.size O' g dur C' false ∧ Grows w w' ∧ total C' ≤ k + 1) := fun W hW hGW => by
            by_cases hgd : 0 ≤ xn ∧ xn < 34 ∧ xl.length ≤ 64
            · obtain ⟨X, rfl⟩ : ∃ X : Nat, xn = (X : Int) := ⟨xn.toNat, by omega⟩
              have hX : X < 34 := by omega
              refine (write_ok hW X hX xl hgd.2.2 xa xc (HX.out.1.grows hGW) (Nat.le_trans (total_ge C X hX) (by omega))).mono ?_
              rintro e w3 ⟨rfl, O3, hD3, hT3⟩
              exact ⟨0, O3, _, rfl, hD3, hT3.low hGW (fun i hi => hW.ge hi), by rw [total_up C X hX]; omega⟩
            · refine (write_bad hW xn xa xl.length xc hgd).mono ?_
              rintro e w3 ⟨rfl, rfl⟩
              exact ⟨2, O, C, rfl, hW, hGW, by omega⟩
          have hS := (HCC.out _ (HG.out.drew)).1
          go_wp2_with fail
          go_region_held3 (fun W => W.cell? ⟨b, off + k * 4 + 1, none⟩ = some (.int .i64 xn) ∧ W.cell? ⟨b, off + k * 4 + 2, none⟩ = some (.slice xa xl.length xc)) (first | exact hS | exact hS3) (first
            | (go_at_call 12; refine (HWR.out _ (HD.out.grows (Grows.refl _).drew) HG.out.drew).mono ?_; rintro e w3 ⟨ee, O3, C3, rfl, hD3, hG3, ht3⟩; have hS3 := (HCC.out _ hG3).1; have HD3 := Lib.hid hD3; have HG3 := Lib.hid hG3; clear hD3 hG3))
          have hd3 := (HCC.out _ HG3.out).2
          clear hS hS3
          by_cases hd2 : xd = 2
          · have hd2' : (xd == 2) = true := by simpa using hd2
            clear hd2
            go_wp2_with fail
            refine (flush_ok HD3.out (fun y hy => Nat.le_trans (total_ge C3 y hy) (by omega))).mono ?_
            rintro e w4 ⟨rfl, hD4, hT4⟩
            have HD4 := Lib.hid hD4
            have HG4 := Lib.hid (hT4.low HG3.out (fun i hi => HD3.out.ge hi))
            clear hD4 hT4 hd3
            go_wp2_with fail
            go_roundg (gk - 1)
            case measure => omega
            case rel => exact ⟨k + 1, O3, _, noC, by omega, by go_num, HD4.out, HG4.out, by rw [total_no]; omega⟩
          · have hd2' : (xd == 2) = false := by simpa using hd2
            clear hd2
            go_wp2_with fail
            go_roundg (gk - 1)
            case measure => omega
            case rel => exact ⟨k + 1, O3, dur, C3, by omega, by go_num, HD3.out, HG3.out, ht3⟩
        · obtain rfl : k = n := by omega
          go_wp2_with fail
          refine (durable_ok HD.out).mono ?_
          rintro e w2 ⟨v2, rfl, hN2⟩
          obtain ⟨g2, c2, rfl, _, _⟩ := own_form hN2.1 (by omega)
          have HR2 := Lib.hid (Rd.own hN2.1)
          have HD2 := Lib.hid (HD.out.grows hN2.2)
          have HG2 := Lib.hid (HG.out.trans hN2.2)
          clear hN2
          go_wp2_with fail
          refine (writes_ok HD2.out (by omega)).mono ?_
          rintro e w3 ⟨rfl, hG3⟩
          have HD3 := Lib.hid (HD2.out.grows hG3)
          have HG3 := Lib.hid (HG2.out.trans hG3)
          have HR3 := Lib.hid (HR2.out.grows hG3)
          clear hG3
          go_wp2_with fail
          refine (copy_ok HD3.out (fun y hy => Nat.le_trans (total_ge C y hy) (by omega))).mono ?_
          rintro e w4 ⟨gc, Oc, rfl, hDc, hG4⟩
          have HDc := Lib.hid hDc
          have HG4 := Lib.hid hG4
          clear hDc hG4
          go_wp2_with fail
          go_loopg [57] n' (fun gh i wr => ∃ (k : Nat) (O : Nat → Prop) (dur' : List Nat) (C' : Nat → List (List Nat)), k + gh = n' ∧ i = .int .i64 (k : Int) ∧ Dk wr w3.heap.size O gc dur' C' false ∧ Grows w3 wr ∧ total C' ≤ 200 ∧ (0 < k → C' = noC))
          case atStart => exact ⟨0, Oc, dur, C, by omega, rfl, HDc.out, HG4.out, by omega, by omega⟩
          case round =>
            obtain ⟨j, O', dur', C', hj, rfl, hD', hG', ht', hz'⟩ := hrel
            have HD' := Lib.hid hD'
            have HG' := Lib.hid hG'
            have HZ' := Lib.hid hz'
            clear hD' hG' hz'
            by_cases hlt2 : j < n'
            · have hlt' : (j : Int) < (n' : Int) := by omega
              have hk0 : (0 : Int) ≤ (j : Int) := by omega
              obtain ⟨b, off, rfl, hb, hc⟩ := rows_cell acc_len (by decide) HR'.out (show j < l'.length by rw [HN'.out]; exact hlt2)
              have hm : l'[j]'(by rw [HN'.out]; exact hlt2) ∈ l' := List.getElem_mem _
              have HX := Lib.hid (HOK'.out _ hm)
              have hc1 := hc 1 _ rfl
              have hc2 := hc 2 _ rfl
              clear hc hm
              generalize l'[j]'(by rw [HN'.out]; exact hlt2) = x at *
              obtain ⟨xd, xn, xa, xl, xc, pa, pl, pc⟩ := x
              dsimp only at *
              have HCC : Hid (∀ W, Grows w W → W.cell? ⟨b, off + j * 4 + 1, none⟩ = some (.int .i64 xn) ∧ W.cell? ⟨b, off + j * 4 + 2, none⟩ = some (.slice xa xl.length xc)) := fun W hW => ⟨(hW.cell _ _ hb).trans hc1, (hW.cell _ _ hb).trans hc2⟩
              clear hc1 hc2
              have HWR : Hid (∀ W, Dk W w3.heap.size O' gc dur' C' false → Grows w3 W → Calls Try.prog 12 #[.pointer (some ⟨gc, 0, none⟩), .int .i64 xn, .slice xa xl.length xc] W fun e w' => ∃ ee O'' C'', e = .returned (.int .i64 ee) ∧ Dk w' w3.heap.size O'' gc dur' C'' false ∧ Grows w3 w' ∧ total C'' ≤ 201) := fun W hW hGW => by
                by_cases hgd : 0 ≤ xn ∧ xn < 34 ∧ xl.length ≤ 64
                · obtain ⟨X, rfl⟩ : ∃ X : Nat, xn = (X : Int) := ⟨xn.toNat, by omega⟩
                  have hX : X < 34 := by omega
                  refine (write_ok hW X hX xl hgd.2.2 xa xc (HX.out.1.grows (HG3.out.trans hGW)) (Nat.le_trans (total_ge C' X hX) (by omega))).mono ?_
                  rintro e w5 ⟨rfl, O5, hD5, hT5⟩
                  exact ⟨0, O5, _, rfl, hD5, hT5.low hGW (fun i hi => hW.ge hi), by rw [total_up C' X hX]; omega⟩
                · refine (write_bad hW xn xa xl.length xc hgd).mono ?_
                  rintro e w5 ⟨rfl, rfl⟩
                  exact ⟨2, O', C', rfl, hW, hGW, by omega⟩
              have hS := HCC.out _ ((HG3.out.trans HG'.out).drew)
              go_wp2_with fail
              go_region_held3 (fun W => W.cell? ⟨b, off + j * 4 + 1, none⟩ = some (.int .i64 xn) ∧ W.cell? ⟨b, off + j * 4 + 2, none⟩ = some (.slice xa xl.length xc)) (first | exact hS | exact hS5) (first
                | (go_at_call 12; refine (HWR.out _ (HD'.out.grows (Grows.refl _).drew) HG'.out.drew).mono ?_; rintro e w5 ⟨ee, O5, C5, rfl, hD5, hG5, ht5⟩; have hS5 := HCC.out _ (HG3.out.trans hG5); have HD5 := Lib.hid hD5; have HG5 := Lib.hid hG5; clear hD5 hG5))
              clear hS hS5
              go_wp2_with fail
              refine (flush_ok HD5.out (fun y hy => Nat.le_trans (total_ge C5 y hy) (by omega))).mono ?_
              rintro e w6 ⟨rfl, hD6, hT6⟩
              have HD6 := Lib.hid hD6
              have HG6 := Lib.hid (hT6.low HG5.out (fun i hi => HD5.out.ge hi))
              clear hD6 hT6
              go_wp2_with fail
              go_roundg (n' - j - 1)
              case measure => omega
              case rel => exact ⟨j + 1, O5, _, noC, by omega, by go_num, HD6.out, HG6.out, by rw [total_no]; omega, fun _ => rfl⟩
            · obtain rfl : j = n' := by omega
              have HDd := Lib.hid (HD3.out.grows HG'.out)
              have HGd := Lib.hid (HG3.out.trans HG'.out)
              have HL := Lib.hid HDd.out.len
              have hgd : Grows wr wr.drew := (Grows.refl _).drew
              have cv1 : ∀ W, Grows wr W → (convert 27 9 (.slice (some ⟨g2, 0, none⟩) 2176 c2)).run Try.prog W = .ok (.string (strN dur)) W := fun W h => run_conv (P := Try.prog) W 27 9 5 Try.underlying27 Try.underlying5 Try.underlying9 _ dur _ c2 HL.out ((HR3.out.grows HG'.out).grows h)
              have C9 : ∀ W, Grows wr W → Hid (Calls Try.prog 9 #[.pointer (some ⟨g, 0, none⟩)] W (RetNew W 5 1 2176 (bys dur))) := fun W h => durable_ok (HDd.out.grows h)
              have C11 : ∀ W, Grows wr W → Hid (Calls Try.prog 11 #[.pointer (some ⟨g, 0, none⟩)] W fun e w' => e = .returned (.int .i64 ((total C : Nat) : Int)) ∧ Grows W w') := fun W h => writes_ok (HDd.out.grows h) (by omega)
              by_cases h0 : j = 0
              · have h0' : ((j : Int) == 0) = true := by simp [h0]
                clear h0
                generalize total C = tc at *
                go_wp2_with fail
                first
                  | (
                    go_region_held (fun W => Grows wr W) (first | exact hgd | exact k8 | exact k7 | exact k5 | assumption) (first
                      | (go_at_call 9; refine (C9 _ hgd).out.mono ?_; rintro e w5 ⟨v5, rfl, hN5⟩; obtain ⟨g5, c5, rfl, _, _⟩ := own_form hN5.1 (by omega); have cv5 : ∀ W, Grows w5 W → (convert 27 9 (.slice (some ⟨g5, 0, none⟩) 2176 c5)).run Try.prog W = .ok (.string (strN dur)) W := (fun W h => run_conv (P := Try.prog) W 27 9 5 Try.underlying27 Try.underlying5 Try.underlying9 _ dur _ c5 HL.out ((Rd.own hN5.1).grows h)); have k5 := hgd.trans hN5.2; have r5 := Grows.refl w5; clear hN5)
                      | (go_at_call 11; refine (C11 _ k5).out.mono ?_; rintro e w7 ⟨rfl, hG7⟩; have k7 := k5.trans hG7)
                      | (go_at_call 7; refine (wakes_any _).mono ?_; rintro e w8 ⟨rfl, hG8⟩; have k8 := k7.trans hG8)))
                  | fail
                all_goals
                  go_wp2_with fail
                  go_ret
                  exact ⟨rfl, HGd.out.trans k8⟩
              · have h0' : ((j : Int) == 0) = false := by simp; omega
                have hzz := HZ'.out (by omega)
                have C12 : ∀ W, Grows wr W → Hid (Calls Try.prog 11 #[.pointer (some ⟨gc, 0, none⟩)] W fun e w' => e = .returned (.int .i64 0) ∧ Grows W w') := fun W h => by
                  have := writes_ok (HD'.out.grows h) (by omega)
                  rw [hzz, total_no] at this
                  exact this
                clear h0 hzz
                generalize total C = tc at *
                go_wp2_with fail
                go_region_held (fun W => Grows wr W) (first | exact hgd | exact k8 | exact k7 | exact k6 | exact k5 | assumption) (first
                  | (go_at_call 9; refine (C9 _ hgd).out.mono ?_; rintro e w5 ⟨v5, rfl, hN5⟩; obtain ⟨g5, c5, rfl, _, _⟩ := own_form hN5.1 (by omega); have cv5 : ∀ W, Grows w5 W → (convert 27 9 (.slice (some ⟨g5, 0, none⟩) 2176 c5)).run Try.prog W = .ok (.string (strN dur)) W := (fun W h => run_conv (P := Try.prog) W 27 9 5 Try.underlying27 Try.underlying5 Try.underlying9 _ dur _ c5 HL.out ((Rd.own hN5.1).grows h)); have k5 := hgd.trans hN5.2; have r5 := Grows.refl w5; clear hN5)
                  | (go_at_call 11; (with_reducible refine (C11 _ k5).out.mono ?_); rintro e w6 ⟨rfl, hG6⟩; have k6 := k5.trans hG6)
                  | (go_at_call 11; (with_reducible refine (C12 _ k6).out.mono ?_); rintro e w7 ⟨rfl, hG7⟩; have k7 := k6.trans hG7)
                  | (go_at_call 7; refine (wakes_any _).mono ?_; rintro e w8 ⟨rfl, hG8⟩; have k8 := k7.trans hG8))
                all_goals
                  go_wp2_with fail
                  go_ret
                  exact ⟨rfl, HGd.out.trans k8⟩
end Go.Proofs.Ytdomkphljegkiaa
