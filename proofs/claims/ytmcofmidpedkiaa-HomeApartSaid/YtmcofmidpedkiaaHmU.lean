/-
  HomeApart: the walk.
-/
import Derived.Test.YtmcofmidpedkiaaHmR
import Derived.BigRegion
namespace Go.Proofs.Ytmcofmidpedkiaa
open Go.RowKit Go.Maps

set_option maxRecDepth 100000 in
set_option maxHeartbeats 4000000 in
theorem apart_walk (p q : Int) (L : List Nat) (n1 : Nat) (hL : L.length = n1 * 8) (hb : ∀ x ∈ L, x < 256) (a1 : Option Addr) (c1 : Nat) (hc1 : n1 ≤ c1) (L' : List Nat) (n2 : Nat) (hL' : L'.length = n2 * 8) (hb' : ∀ x ∈ L', x < 256) (a2 : Option Addr) (c2 : Nat) (hc2 : n2 ≤ c2) (n t u i b o0 o1 o2 o3 o4 o5 o6 o7 : Int) (w : World) (hr : Rd w a1 (bys L)) (hr' : Rd w a2 (bys L')) :
    Calls Try.prog 5 #[.int .i64 p, .int .i64 q, .slice a1 n1 c1, .slice a2 n2 c2, supv n t u i b o0 o1 o2 o3 o4 o5 o6 o7] w fun e w' => e = .returned (.bool true) ∧ Grows w w' := by
  have HR := Lib.hid hr
  have HB := Lib.hid hb
  have HL := Lib.hid hL
  have HR' := Lib.hid hr'
  have HB' := Lib.hid hb'
  have HL' := Lib.hid hL'
  unfold supv
  clear hr hb hL hr' hb' hL'
  have HA0 := Lib.hid (At.new w 39 #[.int .i64 n, .int .i64 t, .int .i64 u, .int .i64 i, .int .i64 b, .int .i64 o0, .int .i64 o1, .int .i64 o2, .int .i64 o3, .int .i64 o4, .int .i64 o5, .int .i64 o6, .int .i64 o7])
  go_enter Try.func5, Try.ntmps5
  go_wp2_with fail
  refine (new_any _).mono ?_
  rintro e w1 ⟨rfl, hD1, hG1⟩
  have HA1 := Lib.hid (HA0.out.grows hG1)
  have HG1 := Lib.hid (((Grows.refl w).alloc (.cells #[.int .i64 n, .int .i64 t, .int .i64 u, .int .i64 i, .int .i64 b, .int .i64 o0, .int .i64 o1, .int .i64 o2, .int .i64 o3, .int .i64 o4, .int .i64 o5, .int .i64 o6, .int .i64 o7] 39)).trans hG1)
  have hlow := fun (j : Nat) (h : (w.alloc (.cells #[.int .i64 n, .int .i64 t, .int .i64 u, .int .i64 i, .int .i64 b, .int .i64 o0, .int .i64 o1, .int .i64 o2, .int .i64 o3, .int .i64 o4, .int .i64 o5, .int .i64 o6, .int .i64 o7] 39)).heap.size ≤ j) => (show w.heap.size ≤ j ∧ j ≠ w.heap.size by rw [World.size_alloc] at h; omega)
  generalize (w.alloc (.cells #[.int .i64 n, .int .i64 t, .int .i64 u, .int .i64 i, .int .i64 b, .int .i64 o0, .int .i64 o1, .int .i64 o2, .int .i64 o3, .int .i64 o4, .int .i64 o5, .int .i64 o6, .int .i64 o7] 39)).heap.size = B at *
  obtain ⟨g, hgg⟩ : ∃ g, B + 1 = g := ⟨_, rfl⟩
  obtain ⟨O1, hO1⟩ : ∃ O1, (fun i => i = B ∨ i = B + 1) = O1 := ⟨_, rfl⟩
  rw [hO1] at hD1
  rw [hgg] at hD1 ⊢
  clear hgg hO1
  have HD1 := Lib.hid hD1
  have HLOW := Lib.hid hlow
  clear hD1 hG1 HA0 hlow
  by_cases hpq : p = q
  · have hpe : (p == q) = true := by simpa using hpq
    clear hpq
    go_wp2_with fail
    refine (wakes_any _).mono ?_
    rintro e w3 ⟨rfl, hG3⟩
    go_wp2_with fail
    go_ret
    exact ⟨rfl, HG1.out.trans hG3⟩
  · have hpe : (p == q) = false := by simpa using hpq
    have HPQ := Lib.hid hpq
    clear hpq
    go_wp2_with fail
    by_cases hok : 0 ≤ p ∧ p < 8 ∧ n1 = 4
    · obtain ⟨h0, h8, rfl⟩ := hok
      obtain ⟨s, rfl⟩ : ∃ s : Nat, p = (s : Int) := ⟨p.toNat, by omega⟩
      have hs8 : s < 8 := by omega
      obtain ⟨b1, off, rfl, _, _⟩ := HR.out.at (by rw [bys_length, HL.out]; omega)
      refine (put_ok HD1.out s hs8 L HL.out b1 off c1 hc1 (HR.out.grows HG1.out) HB.out (by simp [noC])).mono ?_
      rintro e w2 ⟨rfl, O2, hD2, hT2⟩
      have HG2 := Lib.hid (hT2.low HG1.out (fun i hi => (HLOW.out i (HD1.out.ge hi)).1))
      have HA2 := Lib.hid (hT2.at HA1.out (fun hi => (HLOW.out _ (HD1.out.ge hi)).2 rfl))
      have HD2 := Lib.hid hD2
      clear hD2 hT2 HD1 HG1 HA1 h0 h8
      obtain ⟨er, m0, m1, m2, m3, m4, p0, p1, p2, p3, p4, p5, p6, p7, her, hps⟩ := ps_then HD2.out (fun x hx => by rw [upC_other _ (by omega)]; rfl) (fun x => by by_cases e : x = 26 + s <;> simp [upC, noC, e]) n t u i b o0 o1 o2 o3 o4 o5 o6 o7
      have HPS := Lib.hid hps
      have HER := Lib.hid her
      clear hps her
      unfold supv at HPS
      have ca := HA2.out.cell
      go_wp2_with fail
      refine HPS.out.mono ?_
      rintro e w3 ⟨rfl, O3, C3, hD3, hT3, hs3, hl3, hgv⟩
      have HG3 := Lib.hid (hT3.low HG2.out (fun i hi => (HLOW.out i (HD2.out.ge hi)).1))
      have HD3 := Lib.hid hD3
      have HS3 := Lib.hid hs3
      have HC3 := Lib.hid hl3
      have HGV := Lib.hid hgv
      clear hD3 hT3 HD2 HG2 HA2 ca HPS hs3 hl3 hgv
      go_wp2_with fail
      refine (HGV.out _ O3 C3 HD3.out (fun _ _ => rfl) (fun x _ => by have := HC3.out x; omega)).mono ?_
      rintro e w4 ⟨rfl, hG4⟩
      unfold supv
      have HG4 := Lib.hid ((HG3.out.trans hG4).alloc (.cells #[.int .i64 m0, .int .i64 m1, .int .i64 m2, .int .i64 m3, .int .i64 m4, .int .i64 p0, .int .i64 p1, .int .i64 p2, .int .i64 p3, .int .i64 p4, .int .i64 p5, .int .i64 p6, .int .i64 p7] 39))
      have HD4 := Lib.hid ((HD3.out.grows hG4).grows ((Grows.refl w4).alloc (.cells #[.int .i64 m0, .int .i64 m1, .int .i64 m2, .int .i64 m3, .int .i64 m4, .int .i64 p0, .int .i64 p1, .int .i64 p2, .int .i64 p3, .int .i64 p4, .int .i64 p5, .int .i64 p6, .int .i64 p7] 39)))
      have HA4 := Lib.hid (At.new w4 39 #[.int .i64 m0, .int .i64 m1, .int .i64 m2, .int .i64 m3, .int .i64 m4, .int .i64 p0, .int .i64 p1, .int .i64 p2, .int .i64 p3, .int .i64 p4, .int .i64 p5, .int .i64 p6, .int .i64 p7])
      have HNO : Hid (¬ O3 w4.heap.size) := Lib.hid ((HD3.out.grows hG4).not (Nat.le_refl _))
      clear hG4 HD3 HG3
      go_wp2_with fail
      generalize hwa : w4.alloc (.cells #[.int .i64 m0, .int .i64 m1, .int .i64 m2, .int .i64 m3, .int .i64 m4, .int .i64 p0, .int .i64 p1, .int .i64 p2, .int .i64 p3, .int .i64 p4, .int .i64 p5, .int .i64 p6, .int .i64 p7] 39) = wa at *
      clear hwa
      generalize w4.heap.size = gw at *
      by_cases hok2 : 0 ≤ q ∧ q < 8 ∧ n2 = 4
      · obtain ⟨h0, h8, rfl⟩ := hok2
        obtain ⟨r, rfl⟩ : ∃ r : Nat, q = (r : Int) := ⟨q.toNat, by omega⟩
        have hr8 : r < 8 := by omega
        obtain ⟨b2, off2, rfl, _, _⟩ := HR'.out.at (by rw [bys_length, HL'.out]; omega)
        refine (put_ok HD4.out r hr8 L' HL'.out b2 off2 c2 hc2 (HR'.out.grows HG4.out) HB'.out (by have := HC3.out (26 + r); omega)).mono ?_
        rintro e w5 ⟨rfl, O5, hD5, hT5⟩
        have HG5 := Lib.hid (hT5.low HG4.out (fun i hi => (HLOW.out i (HD4.out.ge hi)).1))
        have HA5 := Lib.hid (hT5.at HA4.out HNO.out)
        have HD5 := Lib.hid hD5
        have HSR : Hid (s ≠ r) := Lib.hid (fun h => HPQ.out (by rw [h]))
        have HLn : Hid (∀ x, (upC C3 (26 + r) (C3 (26 + r) ++ [pad (sealBy L')]) x).length ≤ 1002) := Lib.hid (fun x => by
          have := HC3.out x
          by_cases e : x = 26 + r
          · subst e; rw [upC_same, List.length_append, List.length_singleton]; omega
          · rw [upC_other _ e]; omega)
        clear hD5 hT5 HD4 HG4 HA4 HNO h0 h8
        go_wp2_with fail
        refine (get_put HD5.out s hs8 (by have := HLn.out (26 + s); omega) L HL.out HB.out (by rw [rdS_up' _ _ _ _ _ (by have := HSR.out; omega), rdS_same (HS3.out _ (by omega)), rdS_upx])).mono ?_
        rintro e w6 ⟨b6, c6, rfl, hr6, hG6⟩
        have HR6 := Lib.hid hr6
        have HG6 := Lib.hid (HG5.out.trans hG6)
        have HA6 := Lib.hid (HA5.out.grows hG6)
        have HD6 := Lib.hid (HD5.out.grows hG6)
        clear hr6 hG6 HD5 HG5 HA5
        go_wp2_with fail
        refine (HGV.out _ O5 _ HD6.out (fun x hx => upC_other _ (by omega) _) (fun x _ => by have := HLn.out x; omega)).mono ?_
        rintro e w7 ⟨rfl, hG7⟩
        unfold supv
        have HG7 := Lib.hid ((HG6.out.trans hG7).alloc (.cells #[.int .i64 m0, .int .i64 m1, .int .i64 m2, .int .i64 m3, .int .i64 m4, .int .i64 p0, .int .i64 p1, .int .i64 p2, .int .i64 p3, .int .i64 p4, .int .i64 p5, .int .i64 p6, .int .i64 p7] 39))
        have HA7 := Lib.hid ((HA6.out.grows hG7).alloc (.cells #[.int .i64 m0, .int .i64 m1, .int .i64 m2, .int .i64 m3, .int .i64 m4, .int .i64 p0, .int .i64 p1, .int .i64 p2, .int .i64 p3, .int .i64 p4, .int .i64 p5, .int .i64 p6, .int .i64 p7] 39))
        have HR7 := Lib.hid ((HR6.out.grows hG7).grows ((Grows.refl w7).alloc (.cells #[.int .i64 m0, .int .i64 m1, .int .i64 m2, .int .i64 m3, .int .i64 m4, .int .i64 p0, .int .i64 p1, .int .i64 p2, .int .i64 p3, .int .i64 p4, .int .i64 p5, .int .i64 p6, .int .i64 p7] 39)))
        have HN7 := Lib.hid (At.new w7 39 #[.int .i64 m0, .int .i64 m1, .int .i64 m2, .int .i64 m3, .int .i64 m4, .int .i64 p0, .int .i64 p1, .int .i64 p2, .int .i64 p3, .int .i64 p4, .int .i64 p5, .int .i64 p6, .int .i64 p7])
        have HRL := Lib.hid (HR.out.grows HG7.out)
        clear hG7 HD6 HG6 HA6 HR6 HGV HS3 HC3 HLn HSR
        have he := fun W => (eqs_any W m0 m1 m2 m3 m4 p0 p1 p2 p3 p4 p5 p6 p7 m0 m1 m2 m3 m4 p0 p1 p2 p3 p4 p5 p6 p7).trans (show _ = .ok true W by rw [decide_eq_true rfl])
        go_wp2_with fail
        generalize hw8 : w7.alloc (.cells #[.int .i64 m0, .int .i64 m1, .int .i64 m2, .int .i64 m3, .int .i64 m4, .int .i64 p0, .int .i64 p1, .int .i64 p2, .int .i64 p3, .int .i64 p4, .int .i64 p5, .int .i64 p6, .int .i64 p7] 39) = w8 at *
        clear hw8
        generalize w7.heap.size = gn at *
        have HSM : Hid (∀ W, Grows w8 W → Calls Try.prog 15 #[.slice (some ⟨b6, 0, none⟩) 4 c6, .slice (some ⟨b1, off, none⟩) 4 c1] W fun e w' => e = .returned (.bool true) ∧ Grows W w') := Lib.hid (fun W h => same_any L HL.out b6 0 c6 b1 off c1 W (HR7.out.grows h) (HRL.out.grows h))
        have HFI := Lib.hid (fun W => first_any W)
        unfold supv at HFI
        have hm' := HER.out
        clear HER
        rcases hm' with rfl | ⟨rfl, hm⟩
        · skip
          have HL1 := Lib.hid (ld_row (P := Try.prog) HA7.out Try.underlying39 rfl (by kernel_rfl))
          have HL2 := Lib.hid (ld_row (P := Try.prog) HN7.out Try.underlying39 rfl (by kernel_rfl))
          refine wp_region_class w8 (by kernel_rfl) (by kernel_rfl) (Grows.refl _) ?_
          repeat (first
            | go_big_quiet_skip
            | (go_big_quiet_want; first
                | (refine quiet_load (b := gw) (off := 0) rfl HL1.out ?_; (simp only [Act.put, List.setIfInBounds_toArray, List.set_cons_zero, List.set_cons_succ]); go_big_quiet_on)
                | (refine quiet_load (b := gn) (off := 0) rfl HL2.out ?_; (simp only [Act.put, List.setIfInBounds_toArray, List.set_cons_zero, List.set_cons_succ]); go_big_quiet_on)
                | (go_big_quiet_op; first
                    | go_big_quiet_on
                    | (refine ⟨_, fun _ _ => rfl, ?_⟩; go_big_quiet_on)
                    | go_big_quiet_call (first
                        | (intro hC; go_at_call 15; refine (HSM.out _ hC).mono ?_; rintro e w11 ⟨rfl, hg⟩; exact ⟨rfl, hC.trans hg⟩)
                        | (intro hC; go_at_call 16; refine (HFI.out _).mono ?_; rintro e w11 ⟨rfl, hg⟩; exact ⟨rfl, hC.trans hg⟩)
                        | (intro hC; go_at_call 9; refine (wakes_any _).mono ?_; rintro e w11 ⟨rfl, hg⟩; exact ⟨rfl, hC.trans hg⟩)))))
          refine wpQuiet_nil ?_
          intro w10 hb10
          go_wp2_with fail
          go_ret
          exact ⟨rfl, HG7.out.trans hb10⟩
        · skip
          injection hm with e0 hm
          injection hm with e1 hm
          injection hm with e2 hm
          injection hm with e3 hm
          injection hm with e4 hm
          injection hm with e5 hm
          injection hm with e6 hm
          injection hm with e7 hm
          injection hm with e8 hm
          injection hm with e9 hm
          injection hm with e10 hm
          injection hm with e11 hm
          injection hm with e12 hm
          subst e0 e1 e2 e3 e4 e5 e6 e7 e8 e9 e10 e11 e12
          have HL1 := Lib.hid (ld_row (P := Try.prog) HA7.out Try.underlying39 rfl (by kernel_rfl))
          have HL2 := Lib.hid (ld_row (P := Try.prog) HN7.out Try.underlying39 rfl (by kernel_rfl))
          refine wp_region_class w8 (by kernel_rfl) (by kernel_rfl) (Grows.refl _) ?_
          repeat (first
            | go_big_quiet_skip
            | (go_big_quiet_want; first
                | (refine quiet_load (b := gw) (off := 0) rfl HL1.out ?_; (simp only [Act.put, List.setIfInBounds_toArray, List.set_cons_zero, List.set_cons_succ]); go_big_quiet_on)
                | (refine quiet_load (b := gn) (off := 0) rfl HL2.out ?_; (simp only [Act.put, List.setIfInBounds_toArray, List.set_cons_zero, List.set_cons_succ]); go_big_quiet_on)
                | (go_big_quiet_op; first
                    | go_big_quiet_on
                    | (refine ⟨_, fun _ _ => rfl, ?_⟩; go_big_quiet_on)
                    | go_big_quiet_call (first
                        | (intro hC; go_at_call 15; refine (HSM.out _ hC).mono ?_; rintro e w11 ⟨rfl, hg⟩; exact ⟨rfl, hC.trans hg⟩)
                        | (intro hC; go_at_call 16; refine (HFI.out _).mono ?_; rintro e w11 ⟨rfl, hg⟩; exact ⟨rfl, hC.trans hg⟩)
                        | (intro hC; go_at_call 9; refine (wakes_any _).mono ?_; rintro e w11 ⟨rfl, hg⟩; exact ⟨rfl, hC.trans hg⟩)))))
          refine wpQuiet_nil ?_
          intro w10 hb10
          go_wp2_with fail
          go_ret
          exact ⟨rfl, HG7.out.trans hb10⟩
      · refine (put_bad q a2 n2 c2 hok2).mono ?_
        rintro e w5 ⟨rfl, rfl⟩
        clear hok2
        go_wp2_with fail
        refine (wakes_any _).mono ?_
        rintro e w6 ⟨rfl, hG6⟩
        go_wp2_with fail
        go_ret
        exact ⟨rfl, HG4.out.trans hG6⟩
    · refine (put_bad p a1 n1 c1 hok).mono ?_
      rintro e w2 ⟨rfl, rfl⟩
      clear hok
      go_wp2_with fail
      refine (wakes_any _).mono ?_
      rintro e w3 ⟨rfl, hG3⟩
      go_wp2_with fail
      go_ret
      exact ⟨rfl, HG1.out.trans hG3⟩
end Go.Proofs.Ytmcofmidpedkiaa
