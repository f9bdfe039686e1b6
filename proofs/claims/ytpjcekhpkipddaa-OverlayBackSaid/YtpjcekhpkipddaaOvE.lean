/-
  OverlayOrder's walk.
-/
import Derived.Test.YtpjcekhpkipddaaOvD
namespace Go.Proofs.Ytpjcekhpkipddaa
open Go.RowKit

theorem get_R (l : List Wr) (h8 : W8 l) (hu : goesUp (-1) l = true) (key : Int) : ∃ z0 z1 z2 z3 z4 z5 z6 z7 : Nat, getR l key = .tuple #[.agg #[.int .u8 z0, .int .u8 z1, .int .u8 z2, .int .u8 z3, .int .u8 z4, .int .u8 z5, .int .u8 z6, .int .u8 z7], .bool (phas l key)] := by
  have h1 : (fnd l key).isSome = phas l key := by rw [fnd_some, any_phas l key _ hu]
  have h2 : (getV l key).length = 8 := by
    unfold getV
    cases hf : fnd l key with
    | none => rfl
    | some x =>
      have := List.mem_of_find?_eq_some hf
      exact h8 x this
  obtain ⟨z0, z1, z2, z3, z4, z5, z6, z7, hz⟩ := eight_of h2
  exact ⟨z0, z1, z2, z3, z4, z5, z6, z7, by rw [getR, h1, hz]; rfl⟩
theorem putE_of (l : List Wr) (x : Wr) (h1 : writtenB l = true) (h2 : isB x.1 = true) : putE l x = if !phas l x.1 && decide (8 ≤ l.length) then 50 else 0 := by
  simp [putE, h1, h2]
theorem written_ins {l : List Wr} {x : Wr} (h : putE l x = 0) : writtenB (ins x l) = true := by
  obtain ⟨h1, h2, h3⟩ := putE_z _ _ h
  obtain ⟨h4, h5⟩ := written_le h1
  have h6 := ins_len l x
  simp [isB] at h2
  simp only [writtenB, Bool.and_eq_true, decide_eq_true_eq]
  refine ⟨?_, ins_up l x h2.2 _ (by omega) h5⟩
  rw [h6]
  rcases h3 with h3 | h3
  · rw [h3]; simpa using h4
  · split <;> omega
theorem putE_again {l : List Wr} {x y : Wr} (hx : putE l x = 0) (hy : putE l y = 0) (h : x.1 = y.1) : putE (ins x l) y = 0 := by
  rw [putE_of _ _ (written_ins hx) (putE_z _ _ hy).2.1, ← h, phas_same]
  simp
theorem putE_swap {l : List Wr} {x y : Wr} (hx : putE l x = 0) (hy : putE l y = 0) (h : x.1 ≠ y.1) : putE (ins x l) y = putE (ins y l) x := by
  rw [putE_of _ _ (written_ins hx) (putE_z _ _ hy).2.1, putE_of _ _ (written_ins hy) (putE_z _ _ hx).2.1, phas_ins _ _ _ (Ne.symm h), phas_ins _ _ _ h, ins_len, ins_len]
  have h1 := (putE_z _ _ hx).2.2
  have h2 := (putE_z _ _ hy).2.2
  cases ha : phas l x.1 <;> cases hb : phas l y.1 <;> rw [ha] at h1 <;> rw [hb] at h2 <;> simp at h1 h2 ⊢
  all_goals omega

set_option maxRecDepth 100000 in
set_option maxHeartbeats 4000000 in
theorem order_walk (l : List Wr) (n : Nat) (hn : l.length = n) (h8 : W8 l) (a : Option Addr) (cap : Nat) (p : Int) (x0 x1 x2 x3 x4 x5 x6 x7 : Nat) (q : Int) (y0 y1 y2 y3 y4 y5 y6 y7 : Nat) (w : World) (hrd : Rd w a (wrs l)) (hcap : n ≤ cap) (hnil : a = none → n = 0 ∧ cap = 0) :
    Calls Try.prog 3 #[.slice a n cap, aggW p x0 x1 x2 x3 x4 x5 x6 x7, aggW q y0 y1 y2 y3 y4 y5 y6 y7] w fun e w' => e = .returned (.bool true) ∧ Grows w w' := by
  have Hrd := Lib.hid hrd
  have H8 := Lib.hid h8
  have HN := Lib.hid hn
  have Hnil := Lib.hid hnil
  clear hrd h8 hn hnil
  unfold aggW
  by_cases hgt : (100 : Int) < (n : Int)
  · go_enter Try.func3, Try.ntmps3
    go_wp2_with fail
    refine (great_any a n cap _).mono ?_
    rintro e w1 ⟨rfl, rfl⟩
    go_wp2_with fail
    refine (wakes_any _).mono ?_
    rintro e w1 ⟨rfl, hb1⟩
    go_wp2_with fail
    go_ret
    exact ⟨rfl, (((Grows.refl _).alloc _).alloc _).trans hb1⟩
  have hle : n ≤ 100 := by omega
  have hA0 : ∀ b z0 z1 z2 z3 z4 z5 z6 z7, putE l (b, [z0, z1, z2, z3, z4, z5, z6, z7]) = 0 → n ≤ 8 := by
    intro b z0 z1 z2 z3 z4 z5 z6 z7 h
    have := written_le (putE_z _ _ h).1
    have := HN.out
    omega
  have HA0 := Lib.hid hA0
  clear hA0
  go_enter Try.func3, Try.ntmps3
  go_wp2_with fail
  refine (great_any a n cap _).mono ?_
  rintro e w1 ⟨rfl, rfl⟩
  have G1 := (((Grows.refl w).alloc (.cells #[.int .i64 p, .int .u8 x0, .int .u8 x1, .int .u8 x2, .int .u8 x3, .int .u8 x4, .int .u8 x5, .int .u8 x6, .int .u8 x7] 26)).alloc (.cells #[.int .i64 q, .int .u8 y0, .int .u8 y1, .int .u8 y2, .int .u8 y3, .int .u8 y4, .int .u8 y5, .int .u8 y6, .int .u8 y7] 26))
  have AA := Lib.hid ((At.new w 26 #[.int .i64 p, .int .u8 x0, .int .u8 x1, .int .u8 x2, .int .u8 x3, .int .u8 x4, .int .u8 x5, .int .u8 x6, .int .u8 x7]).alloc (.cells #[.int .i64 q, .int .u8 y0, .int .u8 y1, .int .u8 y2, .int .u8 y3, .int .u8 y4, .int .u8 y5, .int .u8 y6, .int .u8 y7] 26))
  have AB := Lib.hid (At.new (w.alloc (.cells #[.int .i64 p, .int .u8 x0, .int .u8 x1, .int .u8 x2, .int .u8 x3, .int .u8 x4, .int .u8 x5, .int .u8 x6, .int .u8 x7] 26)) 26 #[.int .i64 q, .int .u8 y0, .int .u8 y1, .int .u8 y2, .int .u8 y3, .int .u8 y4, .int .u8 y5, .int .u8 y6, .int .u8 y7])
  simp only [World.size_alloc] at AB
  have ca := AA.out.cell
  have cb := AB.out.cell
  go_wp2_with fail
  by_cases hA : putE l (p, [x0, x1, x2, x3, x4, x5, x6, x7]) = 0
  · refine (put_good l n HN.out H8.out a cap p x0 x1 x2 x3 x4 x5 x6 x7 _ (Hrd.out.grows G1) hcap Hnil.out hA).mono ?_
    rintro e w1 ⟨g1, m1, c1, rfl, hm1, hr1, hc1, hb1⟩
    have HM1 := Lib.hid hm1
    have HR1 := Lib.hid hr1
    have HA := Lib.hid hA
    clear hm1 hr1 ca cb hA
    have G2 := G1.trans hb1
    have ca := (AA.out.grows hb1).cell
    have cb := (AB.out.grows hb1).cell
    go_wp2_with fail
    by_cases hB : putE l (q, [y0, y1, y2, y3, y4, y5, y6, y7]) = 0
    · refine (put_good l n HN.out H8.out a cap q y0 y1 y2 y3 y4 y5 y6 y7 _ (Hrd.out.grows G2) hcap Hnil.out hB).mono ?_
      rintro e w2 ⟨g2, m2, c2, rfl, hm2, hr2, hc2, hb2⟩
      have HM2 := Lib.hid hm2
      have HR2 := Lib.hid hr2
      have HB := Lib.hid hB
      clear hm2 hr2 ca cb hB
      have G3 := G2.trans hb2
      have AA3 := (AA.out.grows (hb1.trans hb2))
      have AB3 := (AB.out.grows (hb1.trans hb2))
      have ca := AA3.cell
      have cb := AB3.cell
      go_wp2_with fail
      refine (get_any l n HN.out H8.out a cap p _ (Hrd.out.grows G3) (by omega)).mono ?_
      rintro e w3 ⟨rfl, hb3⟩
      obtain ⟨z0, z1, z2, z3, z4, z5, z6, z7, hz⟩ := get_R l H8.out (written_le (putE_z _ _ HA.out).1).2 p
      rw [hz]
      clear hz
      have G4 := G3.trans hb3
      have A4 := Lib.hid ((AA3.grows hb3).alloc (.cells #[.int .u8 z0, .int .u8 z1, .int .u8 z2, .int .u8 z3, .int .u8 z4, .int .u8 z5, .int .u8 z6, .int .u8 z7] 24))
      have B4 := Lib.hid ((AB3.grows hb3).alloc (.cells #[.int .u8 z0, .int .u8 z1, .int .u8 z2, .int .u8 z3, .int .u8 z4, .int .u8 z5, .int .u8 z6, .int .u8 z7] 24))
      clear ca cb AA3 AB3
      have ca := A4.out.cell
      have cb := B4.out.cell
      have hl := ins_len l (p, [x0, x1, x2, x3, x4, x5, x6, x7])
      have HI8 := Lib.hid (W8_ins (w := (p, [x0, x1, x2, x3, x4, x5, x6, x7])) H8.out rfl)
      have HJ8 := Lib.hid (W8_ins (w := (q, [y0, y1, y2, y3, y4, y5, y6, y7])) H8.out rfl)
      have hm1 : m1 = n + (if phas l p then 0 else 1) := by rw [← HM1.out, hl, HN.out]
      clear hl
      cases hph : phas l p
      all_goals
        rw [hph] at hm1
        simp only [Bool.false_eq_true, if_false, if_true, Nat.add_zero] at hm1
        have hm1 := hm1.symm
        subst hm1
        by_cases hpq : p = q
        · subst hpq
          have HE := Lib.hid (putE_again HA.out HB.out rfl)
          have HS := Lib.hid (ins_same l (p, [x0, x1, x2, x3, x4, x5, x6, x7]) (p, [y0, y1, y2, y3, y4, y5, y6, y7]) rfl)
          go_wp2_with fail
          refine (put_good (ins (p, [x0, x1, x2, x3, x4, x5, x6, x7]) l) _ HM1.out HI8.out _ c1 p y0 y1 y2 y3 y4 y5 y6 y7 _ (HR1.out.grows (hb2.trans (hb3.alloc _))) hc1 (fun h => by cases h) HE.out).mono ?_
          rw [HS.out]
          rintro e w4 ⟨g4, m4, c4, rfl, hm4, hr4, hc4, hb4⟩
          rw [HM2.out] at hm4
          subst hm4
          have HR4 := Lib.hid hr4
          clear hr4 ca cb
          have hmb : m2 ≤ 100000 := by have := HM2.out; rw [ins_len, HN.out] at this; split at this <;> omega
          go_wp2_with fail
          refine (same_same (ins (p, [y0, y1, y2, y3, y4, y5, y6, y7]) l) m2 HM2.out HJ8.out _ _ c4 c2 _ HR4.out (HR2.out.grows ((hb3.alloc _).trans hb4)) hmb).mono ?_
          rintro e w5 ⟨rfl, hb5⟩
          go_wp2_with fail
          refine (wakes_any _).mono ?_
          rintro e w6 ⟨rfl, hb6⟩
          go_wp2_with fail
          go_ret
          exact ⟨rfl, (((G4.alloc _).trans hb4).trans hb5).trans hb6⟩
        · have hpq' : (p == q) = false := by simpa using hpq
          have HE := Lib.hid (putE_swap HA.out HB.out hpq)
          have HS := Lib.hid (ins_swap l (p, [x0, x1, x2, x3, x4, x5, x6, x7]) (q, [y0, y1, y2, y3, y4, y5, y6, y7]) hpq)
          have HK8 := Lib.hid (W8_ins (w := (q, [y0, y1, y2, y3, y4, y5, y6, y7])) HI8.out rfl)
          have hmb : m2 ≤ 100000 := by have := HM2.out; rw [ins_len, HN.out] at this; split at this <;> omega
          go_wp2_with fail
          by_cases hE : putE (ins (p, [x0, x1, x2, x3, x4, x5, x6, x7]) l) (q, [y0, y1, y2, y3, y4, y5, y6, y7]) = 0
          · refine (put_good (ins (p, [x0, x1, x2, x3, x4, x5, x6, x7]) l) _ HM1.out HI8.out _ c1 q y0 y1 y2 y3 y4 y5 y6 y7 _ (HR1.out.grows (hb2.trans (hb3.alloc _))) hc1 (fun h => by cases h) hE).mono ?_
            rintro e w4 ⟨g4, m4, c4, rfl, hm4, hr4, hc4, hb4⟩
            have HM4 := Lib.hid hm4
            have HR4 := Lib.hid hr4
            have HE0 := Lib.hid (HE.out.symm.trans hE)
            clear hr4 ca cb hm4 hE
            have ca := (A4.out.grows hb4).cell
            go_wp2_with fail
            refine (put_good (ins (q, [y0, y1, y2, y3, y4, y5, y6, y7]) l) _ HM2.out HJ8.out _ c2 p x0 x1 x2 x3 x4 x5 x6 x7 _ (HR2.out.grows ((hb3.alloc _).trans hb4)) hc2 (fun h => by cases h) HE0.out).mono ?_
            rw [← HS.out]
            rintro e w5 ⟨g5, m5, c5, rfl, hm5, hr5, hc5, hb5⟩
            rw [HM4.out] at hm5
            subst hm5
            have HR5 := Lib.hid hr5
            clear hr5 ca
            have hmb : m4 ≤ 100000 := by have := HM4.out; rw [ins_len, HM1.out] at this; split at this <;> omega
            go_wp2_with fail
            refine (same_same _ m4 HM4.out HK8.out _ _ c4 c5 _ (HR4.out.grows hb5) HR5.out hmb).mono ?_
            rintro e w6 ⟨rfl, hb6⟩
            go_wp2_with fail
            refine (wakes_any _).mono ?_
            rintro e w7 ⟨rfl, hb7⟩
            go_wp2_with fail
            go_ret
            exact ⟨rfl, ((((G4.alloc _).trans hb4).trans hb5).trans hb6).trans hb7⟩
          · refine (put_bad (ins (p, [x0, x1, x2, x3, x4, x5, x6, x7]) l) _ HM1.out HI8.out _ c1 q y0 y1 y2 y3 y4 y5 y6 y7 _ (HR1.out.grows (hb2.trans (hb3.alloc _))) (by omega) hE).mono ?_
            rintro e w4 ⟨rfl, hb4⟩
            clear ca cb
            have ca := (A4.out.grows hb4).cell
            have HE' := Lib.hid hE
            clear hE
            go_wp2_with fail
            refine (put_bad (ins (q, [y0, y1, y2, y3, y4, y5, y6, y7]) l) _ HM2.out HJ8.out _ c2 p x0 x1 x2 x3 x4 x5 x6 x7 _ (HR2.out.grows ((hb3.alloc _).trans hb4)) (by omega) (by rw [← HE.out]; exact HE'.out)).mono ?_
            rintro e w5 ⟨rfl, hb5⟩
            rw [← HE.out]
            have hE := HE'.out
            clear HE HE'
            generalize putE (ins (p, [x0, x1, x2, x3, x4, x5, x6, x7]) l) (q, [y0, y1, y2, y3, y4, y5, y6, y7]) = eA at *
            have h1 : (eA == 0) = false := by simpa using hE
            have h2 : (eA != 0) = true := by simpa using hE
            clear hE ca
            go_wp2_with fail
            refine (wakes_any _).mono ?_
            rintro e w7 ⟨rfl, hb7⟩
            go_wp2_with fail
            go_ret
            exact ⟨rfl, (((G4.alloc _).trans hb4).trans hb5).trans hb7⟩
    · refine (put_bad l n HN.out H8.out a cap q y0 y1 y2 y3 y4 y5 y6 y7 _ (Hrd.out.grows G2) (by omega) hB).mono ?_
      rintro e w2 ⟨rfl, hb2⟩
      generalize putE l (q, [y0, y1, y2, y3, y4, y5, y6, y7]) = eA at *
      have h1 : (eA == 0) = false := by simpa using hB
      have h2 : (eA != 0) = true := by simpa using hB
      clear hB ca cb
      go_wp2_with fail
      refine (wakes_any _).mono ?_
      rintro e w3 ⟨rfl, hb3⟩
      go_wp2_with fail
      go_ret
      exact ⟨rfl, (G2.trans hb2).trans hb3⟩
  · refine (put_bad l n HN.out H8.out a cap p x0 x1 x2 x3 x4 x5 x6 x7 _ (Hrd.out.grows G1) (by omega) hA).mono ?_
    rintro e w1 ⟨rfl, hb1⟩
    generalize putE l (p, [x0, x1, x2, x3, x4, x5, x6, x7]) = eA at *
    have h1 : (eA == 0) = false := by simpa using hA
    have h2 : (eA != 0) = true := by simpa using hA
    clear hA ca cb
    have G2 := G1.trans hb1
    have cb := (AB.out.grows hb1).cell
    go_wp2_with fail
    by_cases hB : putE l (q, [y0, y1, y2, y3, y4, y5, y6, y7]) = 0
    · refine (put_good l n HN.out H8.out a cap q y0 y1 y2 y3 y4 y5 y6 y7 _ (Hrd.out.grows G2) hcap Hnil.out hB).mono ?_
      rintro e w2 ⟨g, m, c, rfl, hm, hr, hc, hb2⟩
      clear hB hm hr cb
      go_wp2_with fail
      refine (wakes_any _).mono ?_
      rintro e w3 ⟨rfl, hb3⟩
      go_wp2_with fail
      go_ret
      exact ⟨rfl, (G2.trans hb2).trans hb3⟩
    · refine (put_bad l n HN.out H8.out a cap q y0 y1 y2 y3 y4 y5 y6 y7 _ (Hrd.out.grows G2) (by omega) hB).mono ?_
      rintro e w2 ⟨rfl, hb2⟩
      clear hB cb
      go_wp2_with fail
      refine (wakes_any _).mono ?_
      rintro e w3 ⟨rfl, hb3⟩
      go_wp2_with fail
      go_ret
      exact ⟨rfl, (G2.trans hb2).trans hb3⟩
end Go.Proofs.Ytpjcekhpkipddaa
