/-
  DiskSure: the walk.
-/
import Derived.Test.YtdomkphljegkiaaDwB
import Derived.Test.YtdomkphljegkiaaConv
import Derived.Deep.RegionHeld
namespace Go.Proofs.Ytdomkphljegkiaa
open Go.RowKit Go.Maps

theorem rdS_up (dur : List Nat) (C : Nat → List (List Nat)) (x : Nat) (L : List (List Nat)) (l : List Nat) : rdS dur (upC C x (L ++ [l])) x = l := by
  unfold rdS
  rw [upC_same, List.getLast?_concat]
theorem pad_take (l : List Nat) : (pad l).take l.length = l := by unfold pad; rw [List.take_left']; rfl

set_option maxRecDepth 100000 in
set_option maxHeartbeats 4000000 in
theorem sure_walk (l : List Ac) (a : Option Addr) (n cap : Nat) (hn : l.length = n) (w : World) (hr : Rd w a (rowsOf acc l)) (hok : ∀ x ∈ l, AcOk w x) :
    Calls Try.prog 3 #[.slice a n cap] w fun e w' => e = .returned (.bool true) ∧ Grows w w' := by
  have hGR := great_any l a n cap hn w hr
  cases hg : greatB l with
  | true =>
    rw [hg] at hGR
    have HGR := Lib.hid hGR
    clear hGR hg hr hok hn
    go_enter Try.func3, Try.ntmps3
    go_wp2_with fail
    refine HGR.out.mono ?_
    rintro e w1 ⟨rfl, rfl⟩
    go_wp2_with fail
    refine (wakes_any _).mono ?_
    rintro e w1 ⟨rfl, hG⟩
    go_wp2_with fail
    go_ret
    exact ⟨rfl, hG⟩
  | false =>
    rw [hg] at hGR
    have hsm := greatB_no hg
    have hn2 : n ≤ 200 := by rw [← hn]; exact hsm.1
    have HSM := Lib.hid hsm.2
    have HGR := Lib.hid hGR
    have HR := Lib.hid hr
    have HN := Lib.hid hn
    have HOK := Lib.hid hok
    clear hGR hg hr hok hsm hn
    go_enter Try.func3, Try.ntmps3
    go_wp2_with fail
    refine HGR.out.mono ?_
    rintro e w1 ⟨rfl, rfl⟩
    go_wp2_with fail
    refine (new_any _).mono ?_
    rintro e w1 ⟨rfl, hD1, hG1⟩
    obtain ⟨g, hgg⟩ : ∃ g, w.heap.size + 1 = g := ⟨_, rfl⟩
    obtain ⟨O1, hO1⟩ : ∃ O1, (fun i => i = w.heap.size ∨ i = w.heap.size + 1) = O1 := ⟨_, rfl⟩
    rw [hO1] at hD1
    rw [hgg] at hD1 ⊢
    clear hgg hO1
    have HD1 := Lib.hid hD1
    have HG1 := Lib.hid hG1
    clear hD1 hG1
    go_wp2_with fail
    refine (durable_ok HD1.out).mono ?_
    rintro e w2 ⟨v2, rfl, hN2⟩
    obtain ⟨g2, c2, rfl, _, _⟩ := own_form hN2.1 (by omega)
    have hcv := run_conv (P := Try.prog) w2 27 9 5 Try.underlying27 Try.underlying5 Try.underlying9 _ zer 2176 c2 zer_length (Rd.own hN2.1)
    have HD2 := Lib.hid (HD1.out.grows hN2.2)
    have HG2 := Lib.hid (HG1.out.trans hN2.2)
    clear hN2 HD1 HG1 HGR
    generalize zer = z0 at *
    go_wp2_with fail
    clear hcv
    go_loopg [4, 5, 21] n (fun gh s4 s5 i wr => ∃ (k : Nat) (O : Nat → Prop) (dur : List Nat) (C : Nat → List (List Nat)), k + gh = n ∧ i = .int .i64 (k : Int) ∧ s4 = .string (strN dur) ∧ s5 = .int .i64 ((total C : Nat) : Int) ∧ Dk wr w.heap.size O g dur C false ∧ Grows w wr ∧ total C ≤ k)
    case atStart => exact ⟨0, O1, z0, noC, by omega, rfl, rfl, by rw [total_no]; rfl, HD2.out, HG2.out, by rw [total_no]; omega⟩
    case round =>
      obtain ⟨k, O, dur, C, hk, rfl, rfl, rfl, hD, hG, ht⟩ := hrel
      have HD := Lib.hid hD
      have HG := Lib.hid hG
      clear hD hG
      by_cases hlt : k < n
      · have hlt' : (k : Int) < (n : Int) := by omega
        have hk0 : (0 : Int) ≤ (k : Int) := by omega
        obtain ⟨b, off, rfl, hb, hc⟩ := rows_cell acc_len (by decide) (HR.out.grows HG.out) (show k < l.length by rw [HN.out]; exact hlt)
        have hm : l[k]'(by rw [HN.out]; exact hlt) ∈ l := List.getElem_mem _
        have HX := Lib.hid (HOK.out _ hm)
        have hx2 := HSM.out _ hm
        have hc0 := hc 0 _ rfl
        have hc1 := hc 1 _ rfl
        have hc2 := hc 2 _ rfl
        have hc3 := hc 3 _ rfl
        rw [Nat.add_zero] at hc0
        clear hc hm
        generalize l[k]'(by rw [HN.out]; exact hlt) = x at *
        obtain ⟨xd, xn, xa, xl, xc, pa, pl, pc⟩ := x
        dsimp only at *
        by_cases hd2 : xd = 2
        · have hd2' : (xd == 2) = true := by simpa using hd2
          have hd3 : (xd != 2) = false := by simp [hd2]
          clear hd2
          have HDa := Lib.hid (HD.out.grows ((Grows.refl wr).alloc (.cells #[.int .i64 xd, .int .i64 xn, .slice xa xl.length xc, .slice pa pl pc] 31)))
          go_wp2_with fail
          refine (flush_ok HDa.out (fun y hy => Nat.le_trans (total_ge C y hy) (by omega))).mono ?_
          rintro e w3 ⟨rfl, hD3, hT3⟩
          have HD3 := Lib.hid hD3
          have HG3 := Lib.hid (hT3.low (HG.out.alloc _) (fun i hi => HDa.out.ge hi))
          clear hD3 hT3 hc0 hc1 hc2 hc3
          generalize flushed dur C = dur3 at *
          go_wp2_with fail
          refine (writes_ok HD3.out (by rw [total_no]; omega)).mono ?_
          rw [total_no]
          rintro e w4 ⟨rfl, hG4⟩
          have HD4 := Lib.hid (HD3.out.grows hG4)
          have HG4 := Lib.hid (HG3.out.trans hG4)
          clear hG4
          go_wp2_with fail
          refine (durable_ok HD4.out).mono ?_
          rintro e w5 ⟨v5, rfl, hN5⟩
          obtain ⟨g5, c5, rfl, _, _⟩ := own_form hN5.1 (by omega)
          have hcv := run_conv (P := Try.prog) w5 27 9 5 Try.underlying27 Try.underlying5 Try.underlying9 _ dur3 2176 c5 HD4.out.len (Rd.own hN5.1)
          have HD5 := Lib.hid (HD4.out.grows hN5.2)
          have HG5 := Lib.hid (HG4.out.trans hN5.2)
          clear hN5
          go_wp2_with fail
          go_roundg (gk - 1)
          case measure => omega
          case rel => exact ⟨k + 1, O, dur3, noC, by omega, by go_num, rfl, by rw [total_no]; rfl, HD5.out, HG5.out, by rw [total_no]; omega⟩
        · have hd2' : (xd == 2) = false := by simpa using hd2
          have hd3 : (xd != 2) = true := by simp [hd2]
          clear hd2
          have HAx := Lib.hid (At.new wr 31 #[.int .i64 xd, .int .i64 xn, .slice xa xl.length xc, .slice pa pl pc])
          have HDa := Lib.hid (HD.out.grows ((Grows.refl wr).alloc (.cells #[.int .i64 xd, .int .i64 xn, .slice xa xl.length xc, .slice pa pl pc] 31)))
          have HGa := Lib.hid (HG.out.alloc (.cells #[.int .i64 xd, .int .i64 xn, .slice xa xl.length xc, .slice pa pl pc] 31))
          by_cases hgd : 0 ≤ xn ∧ xn < 34 ∧ xl.length ≤ 64
          · obtain ⟨X, rfl⟩ : ∃ X : Nat, xn = (X : Int) := ⟨xn.toNat, by omega⟩
            have hX : X < 34 := by omega
            go_wp2_with fail
            refine (write_ok HDa.out X hX xl hgd.2.2 xa xc (HX.out.1.grows HGa.out) (Nat.le_trans (total_ge C X hX) (by omega))).mono ?_
            rintro e w3 ⟨rfl, O3, hD3, hT3⟩
            have HD3 := Lib.hid hD3
            have HG3 := Lib.hid (hT3.low HGa.out (fun i hi => HDa.out.ge hi))
            have hA3 := hT3.at HAx.out (HD.out.not (Nat.le_refl _))
            have HA3 := Lib.hid hA3
            have hT := total_up C X hX (pad xl)
            have hT1 : total (upC C X (C X ++ [pad xl])) ≤ k + 1 := by omega
            have HT := Lib.hid hT
            clear hD3 hT3 hc0 hc1 hc2 hc3 HAx hT
            have hx1 := hA3.cell 1
            simp only [List.getElem?_toArray, List.getElem?_cons_zero, List.getElem?_cons_succ] at hx1
            clear hA3
            go_wp2_with fail
            refine (read_ok HD3.out X hX (Nat.le_trans (total_ge _ X hX) (by omega))).mono ?_
            rw [rdS_up]
            rintro e w4 ⟨v4, rfl, hN4, _⟩
            obtain ⟨g4, c4, rfl, _, _⟩ := own_form hN4.1 (by omega)
            have hc64 := (own_cap hN4.1).1
            have HD4 := Lib.hid (HD3.out.grows hN4.2)
            have HG4 := Lib.hid (HG3.out.trans hN4.2)
            have HA4 := HA3.out.grows hN4.2
            have hx2c := HA4.cell 2
            simp only [List.getElem?_toArray, List.getElem?_cons_zero, List.getElem?_cons_succ] at hx2c
            have cv1 : ∀ W, Grows w4 W → (convert 27 9 (.slice (some ⟨g4, 0, none⟩) xl.length c4)).run Try.prog W = .ok (.string (strN xl)) W := fun W h => run_conv (P := Try.prog) W 27 9 5 Try.underlying27 Try.underlying5 Try.underlying9 _ xl _ c4 rfl (by
              have := rd_take ((Rd.own hN4.1).grows h) xl.length
              have e2 : (bys (pad xl)).take xl.length = bys xl := by rw [bys, ← List.map_take, pad_take]; rfl
              rwa [e2] at this)
            have cv2 : ∀ W, Grows w4 W → (convert 27 9 (.slice xa xl.length xc)).run Try.prog W = .ok (.string (strN xl)) W := fun W h => run_conv (P := Try.prog) W 27 9 5 Try.underlying27 Try.underlying5 Try.underlying9 _ xl _ xc rfl (HX.out.1.grows (HG4.out.trans h))
            have C9 : ∀ W, Grows w4 W → Hid (Calls Try.prog 9 #[.pointer (some ⟨g, 0, none⟩)] W (RetNew W 5 1 2176 (bys dur))) := fun W h => durable_ok (HD4.out.grows h)
            have C11 : ∀ W, Grows w4 W → Hid (Calls Try.prog 11 #[.pointer (some ⟨g, 0, none⟩)] W fun e w' => e = .returned (.int .i64 (((total C : Nat) : Int) + 1)) ∧ Grows W w') := fun W h => by
              have := writes_ok (HD4.out.grows h) (by omega)
              rw [HT.out] at this
              exact this
            have HL := Lib.hid HD4.out.len
            have hw1 : IntKind.i64.wrap (((total C : Nat) : Int) + 1) = ((total C : Nat) : Int) + 1 := IntWalk.i64_in _ (by omega)
            have hlq : (xl.length : Int) ≤ (c4 : Int) := by omega
            have hl0 : (0 : Int) ≤ (xl.length : Int) := by omega
            have g4d : Grows w4 w4.drew := (Grows.refl _).drew
            have hx2d : w4.drew.cell? ⟨wr.heap.size, 2, none⟩ = some (.slice xa xl.length xc) := hx2c
            have hkeep : ∀ W, Grows w4 W → W.cell? ⟨wr.heap.size, 2, none⟩ = some (.slice xa xl.length xc) := fun W h => (h.cell _ _ HA4.lt).trans hx2c
            have HKEEP := Lib.hid hkeep
            generalize total C = tc at *
            clear hN4 hx1 hkeep HA4
            go_wp2_with fail
            go_region_held (fun W => Grows w4 W ∧ W.cell? ⟨wr.heap.size, 2, none⟩ = some (.slice xa xl.length xc)) (first | exact ⟨g4d, hx2d⟩ | exact ⟨k6, q6⟩ | exact ⟨k5, q5⟩ | assumption) (first
              | (go_at_call 9; refine (C9 _ g4d).out.mono ?_; rintro e w5 ⟨v5, rfl, hN5⟩; obtain ⟨g5, c5, rfl, _, _⟩ := own_form hN5.1 (by omega); have cv5 : ∀ W, Grows w5 W → (convert 27 9 (.slice (some ⟨g5, 0, none⟩) 2176 c5)).run Try.prog W = .ok (.string (strN dur)) W := (fun W h => run_conv (P := Try.prog) W 27 9 5 Try.underlying27 Try.underlying5 Try.underlying9 _ dur _ c5 HL.out ((Rd.own hN5.1).grows h)); have k5 := g4d.trans hN5.2; have q5 := HKEEP.out _ k5; have r5 := Grows.refl w5; clear hN5)
              | (go_at_call 11; refine (C11 _ k5).out.mono ?_; rintro e w6 ⟨rfl, hG6⟩; have k6 := k5.trans hG6; have q6 := HKEEP.out _ k6))
            all_goals
              go_wp2_with fail
              go_roundg (gk - 1)
              case measure => omega
              case rel => exact ⟨k + 1, O3, dur, _, by omega, by go_num, rfl, by rw [HT.out]; rfl, HD4.out.grows k6, HG4.out.trans k6, hT1⟩
          · go_wp2_with fail
            refine (write_bad HDa.out xn xa xl.length xc hgd).mono ?_
            rintro e w3 ⟨rfl, rfl⟩
            go_wp2_with fail
            go_roundg (gk - 1)
            case measure => omega
            case rel => exact ⟨k + 1, O, dur, C, by omega, by go_num, rfl, rfl, HDa.out, HGa.out, by omega⟩
      · obtain rfl : k = n := by omega
        go_wp2_with fail
        refine (wakes_any _).mono ?_
        rintro e w9 ⟨rfl, hG9⟩
        go_wp2_with fail
        go_ret
        exact ⟨rfl, HG.out.trans hG9⟩
end Go.Proofs.Ytdomkphljegkiaa
