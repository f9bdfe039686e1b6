/-
  HomeBack: the walk, where the home is put.
-/
import Derived.Test.YtmcofmidpedkiaaHmX
import Derived.BigRegion
import Derived.Deep.Cut
namespace Go.Proofs.Ytmcofmidpedkiaa
open Go.RowKit Go.Maps

def BkQ2 (w : World) (gb B g : Nat) (ca cb cx : Array Value) (d : List Nat) (C : Nat → List (List Nat)) (down : Bool) (s15 s16 : Value) (wx : World) : Prop :=
  s16 = .int .i64 0 ∧ ∃ gx, s15 = .pointer (some ⟨gx, 0, none⟩) ∧ w.heap.size ≠ gx ∧ gb ≠ gx ∧ w.heap.size ≤ gx ∧ BkS w gb gx B g ca cb cx d C down wx
set_option maxRecDepth 100000 in
set_option maxHeartbeats 40000000 in
theorem back_good (p : Int) (L : List Nat) (n1 : Nat) (hL : L.length = n1 * 8) (hb : ∀ x ∈ L, x < 256) (a1 : Option Addr) (c1 : Nat) (hc1 : n1 ≤ c1) (n t u i b o0 o1 o2 o3 o4 o5 o6 o7 n' t' u' i' b' p0 p1 p2 p3 p4 p5 p6 p7 : Int) (keep : Bool) (w : World) (hr : Rd w a1 (bys L)) (hok : 0 ≤ p ∧ p < 8 ∧ n1 = 4) :
    Calls Try.prog 6 #[.int .i64 p, .slice a1 n1 c1, supv n t u i b o0 o1 o2 o3 o4 o5 o6 o7, supv n' t' u' i' b' p0 p1 p2 p3 p4 p5 p6 p7, .bool keep] w fun e w' => e = .returned (.bool true) ∧ Grows w w' := by
  have HR := Lib.hid hr
  have HB := Lib.hid hb
  have HL := Lib.hid hL
  unfold supv
  clear hr hb hL
  have HA0 := Lib.hid ((At.new w 39 #[.int .i64 n, .int .i64 t, .int .i64 u, .int .i64 i, .int .i64 b, .int .i64 o0, .int .i64 o1, .int .i64 o2, .int .i64 o3, .int .i64 o4, .int .i64 o5, .int .i64 o6, .int .i64 o7]).alloc (.cells #[.int .i64 n', .int .i64 t', .int .i64 u', .int .i64 i', .int .i64 b', .int .i64 p0, .int .i64 p1, .int .i64 p2, .int .i64 p3, .int .i64 p4, .int .i64 p5, .int .i64 p6, .int .i64 p7] 39))
  have HB0 := Lib.hid (At.new (w.alloc (.cells #[.int .i64 n, .int .i64 t, .int .i64 u, .int .i64 i, .int .i64 b, .int .i64 o0, .int .i64 o1, .int .i64 o2, .int .i64 o3, .int .i64 o4, .int .i64 o5, .int .i64 o6, .int .i64 o7] 39)) 39 #[.int .i64 n', .int .i64 t', .int .i64 u', .int .i64 i', .int .i64 b', .int .i64 p0, .int .i64 p1, .int .i64 p2, .int .i64 p3, .int .i64 p4, .int .i64 p5, .int .i64 p6, .int .i64 p7])
  rw [World.size_alloc] at HB0
  go_enter Try.func6, Try.ntmps6
  go_wp2_with fail
  refine (new_any _).mono ?_
  rintro e w1 ⟨rfl, hD1, hG1⟩
  have HA1 := Lib.hid (HA0.out.grows hG1)
  have HB1 := Lib.hid (HB0.out.grows hG1)
  have HG1 := Lib.hid ((((Grows.refl w).alloc (.cells #[.int .i64 n, .int .i64 t, .int .i64 u, .int .i64 i, .int .i64 b, .int .i64 o0, .int .i64 o1, .int .i64 o2, .int .i64 o3, .int .i64 o4, .int .i64 o5, .int .i64 o6, .int .i64 o7] 39)).alloc (.cells #[.int .i64 n', .int .i64 t', .int .i64 u', .int .i64 i', .int .i64 b', .int .i64 p0, .int .i64 p1, .int .i64 p2, .int .i64 p3, .int .i64 p4, .int .i64 p5, .int .i64 p6, .int .i64 p7] 39)).trans hG1)
  have hlow := fun (j : Nat) (h : ((w.alloc (.cells #[.int .i64 n, .int .i64 t, .int .i64 u, .int .i64 i, .int .i64 b, .int .i64 o0, .int .i64 o1, .int .i64 o2, .int .i64 o3, .int .i64 o4, .int .i64 o5, .int .i64 o6, .int .i64 o7] 39)).alloc (.cells #[.int .i64 n', .int .i64 t', .int .i64 u', .int .i64 i', .int .i64 b', .int .i64 p0, .int .i64 p1, .int .i64 p2, .int .i64 p3, .int .i64 p4, .int .i64 p5, .int .i64 p6, .int .i64 p7] 39)).heap.size ≤ j) => (show w.heap.size ≤ j ∧ j ≠ w.heap.size ∧ j ≠ w.heap.size + 1 by rw [World.size_alloc, World.size_alloc] at h; omega)
  generalize ((w.alloc (.cells #[.int .i64 n, .int .i64 t, .int .i64 u, .int .i64 i, .int .i64 b, .int .i64 o0, .int .i64 o1, .int .i64 o2, .int .i64 o3, .int .i64 o4, .int .i64 o5, .int .i64 o6, .int .i64 o7] 39)).alloc (.cells #[.int .i64 n', .int .i64 t', .int .i64 u', .int .i64 i', .int .i64 b', .int .i64 p0, .int .i64 p1, .int .i64 p2, .int .i64 p3, .int .i64 p4, .int .i64 p5, .int .i64 p6, .int .i64 p7] 39)).heap.size = B at *
  obtain ⟨g, hgg⟩ : ∃ g, B + 1 = g := ⟨_, rfl⟩
  obtain ⟨O1, hO1⟩ : ∃ O1, (fun i => i = B ∨ i = B + 1) = O1 := ⟨_, rfl⟩
  rw [hO1] at hD1
  rw [hgg] at hD1 ⊢
  clear hgg hO1
  have HD1 := Lib.hid hD1
  have HLOW := Lib.hid hlow
  clear hD1 hG1 HA0 HB0 hlow
  obtain ⟨gb, hgb⟩ : ∃ gb, w.heap.size + 1 = gb := ⟨_, rfl⟩
  rw [hgb] at HB1 ⊢
  have HLOW2 : Hid (∀ j, B ≤ j → w.heap.size ≤ j ∧ j ≠ w.heap.size ∧ j ≠ gb) := Lib.hid (fun j h => by have := HLOW.out j h; omega)
  have HNE : Hid (w.heap.size ≠ gb ∧ w.heap.size ≤ gb) := Lib.hid (by omega)
  clear hgb HLOW
  have HLOW := HLOW2
  clear HLOW2
  go_wp2_with fail
  obtain ⟨h0, h8, rfl⟩ := hok
  obtain ⟨st, rfl⟩ : ∃ s : Nat, p = (s : Int) := ⟨p.toNat, by omega⟩
  have hs8 : st < 8 := by omega
  obtain ⟨b1, off, rfl, _, _⟩ := HR.out.at (by rw [bys_length, HL.out]; omega)
  refine (put_ok HD1.out st hs8 L HL.out b1 off c1 hc1 (HR.out.grows HG1.out) HB.out (by simp [noC])).mono ?_
  rintro e w2 ⟨rfl, O2, hD2, hT2⟩
  have HGb := Lib.hid (hT2.low HG1.out (fun i hi => (HLOW.out i (HD1.out.ge hi)).1))
  have HAc := Lib.hid (hT2.at HA1.out (fun hi => (HLOW.out _ (HD1.out.ge hi)).2.1 rfl))
  have HBc := Lib.hid (hT2.at HB1.out (fun hi => (HLOW.out _ (HD1.out.ge hi)).2.2 rfl))
  have HDc := Lib.hid hD2
  clear hD2 hT2 HD1 HG1 HA1 HB1 h0 h8
  go_wp2_with fail
  refine (get_put HDc.out st hs8 (by rw [upC_same]; simp [noC]) L HL.out HB.out (by rw [rdS_upx])).mono ?_
  rintro e w6 ⟨b6, c6, rfl, hr6, hG6⟩
  go_wp2_with fail
  refine (same_any L HL.out b6 0 c6 b1 off c1 w6 hr6 (HR.out.grows (HGb.out.trans hG6))).mono ?_
  rintro e w7 ⟨rfl, hG7⟩
  have HG2 := Lib.hid ((HGb.out.trans hG6).trans hG7)
  have HAa := Lib.hid ((HAc.out.grows hG6).grows hG7)
  have HAb := Lib.hid ((HBc.out.grows hG6).grows hG7)
  have HD2 := Lib.hid ((HDc.out.grows hG6).grows hG7)
  have HC0 : Hid (∀ x, x < 2 → upC noC (26 + st) (noC (26 + st) ++ [pad (sealBy L)]) x = []) := Lib.hid (fun x hx => by rw [upC_other _ (by omega)]; rfl)
  have HC2 : Hid (∀ x, (upC noC (26 + st) (noC (26 + st) ++ [pad (sealBy L)]) x).length ≤ 1) := Lib.hid (fun x => by by_cases e : x = 26 + st <;> simp [upC, noC, e])
  generalize upC noC (26 + st) (noC (26 + st) ++ [pad (sealBy L)]) = C2 at *
  clear hG6 hG7 hr6 HGb HAc HBc HDc
  have ca := HAa.out.cell
  go_wp2_with fail
  cases hm : mayB n t u i b [o0, o1, o2, o3, o4, o5, o6, o7] with
  | false =>
    have HM : Hid (∀ W, Calls Try.prog 17 #[supv n t u i b o0 o1 o2 o3 o4 o5 o6 o7] W fun e w' => e = .returned (.bool false) ∧ Grows W w') := fun W => by have := may_any n t u i b o0 o1 o2 o3 o4 o5 o6 o7 _ rfl W; rwa [hm] at this
    have HPB := Lib.hid (fun W => ps_bad n t u i b o0 o1 o2 o3 o4 o5 o6 o7 hm W g)
    unfold supv at HM HPB
    clear hm
    refine (HM.out _).mono ?_
    rintro e w3 ⟨rfl, hG3⟩
    have HG3 := Lib.hid (HG2.out.trans hG3)
    have HA3 := Lib.hid (HAa.out.grows hG3)
    clear ca hG3
    have ca := HA3.out.cell
    go_wp2_with fail
    refine (HPB.out _).mono ?_
    rintro e w4 ⟨rfl, hG4⟩
    have HG4 := Lib.hid (HG3.out.trans hG4)
    have HA4 := Lib.hid (HA3.out.grows hG4)
    clear ca hG4
    have ca := HA4.out.cell
    go_wp2_with fail
    refine (HM.out _).mono ?_
    rintro e w5 ⟨rfl, hG5⟩
    have HG5 := Lib.hid (HG4.out.trans hG5)
    clear ca hG5
    go_wp2_with fail
    refine (wakes_any _).mono ?_
    rintro e w6 ⟨rfl, hG6⟩
    go_wp2_with fail
    go_ret
    exact ⟨rfl, HG5.out.trans hG6⟩
  | true =>
    obtain ⟨s, hs, hi⟩ := may_is hm
    have HM : Hid (∀ W, Calls Try.prog 17 #[supv n t u i b o0 o1 o2 o3 o4 o5 o6 o7] W fun e w' => e = .returned (.bool true) ∧ Grows W w') := fun W => by have := may_any n t u i b o0 o1 o2 o3 o4 o5 o6 o7 _ rfl W; rwa [hm] at this
    have HS := Lib.hid hs
    have hn0 : 0 ≤ n := by have := hi.1; omega
    have HI := Lib.hid hi
    unfold supv at HM
    clear hm hs hi
    refine (HM.out _).mono ?_
    rintro e w3 ⟨rfl, hG3⟩
    have HG3 := Lib.hid (HG2.out.trans hG3)
    have HA3 := Lib.hid (HAa.out.grows hG3)
    have HB3 := Lib.hid (HAb.out.grows hG3)
    have HD3 := Lib.hid (HD2.out.grows hG3)
    clear ca hG3 HAa HAb HG2 HD2
    have ca := HA3.out.cell
    by_cases hmax : n < 1099511627776
    · have cb0 := (HB3.out.cell 0).trans (show _ = some (.int .i64 n') from rfl)
      have fb := HB3.out.frozen 0
      have lb := HB3.out.lt
      have HA4 := Lib.hid (HA3.out.far (p := ⟨gb, 0, none⟩) HNE.out.1 (.int .i64 (n + 1)))
      have HB4 : Hid (At (w3.setCell ⟨gb, 0, none⟩ (.int .i64 (n + 1))) gb 39 #[.int .i64 (n + 1), .int .i64 t', .int .i64 u', .int .i64 i', .int .i64 b', .int .i64 p0, .int .i64 p1, .int .i64 p2, .int .i64 p3, .int .i64 p4, .int .i64 p5, .int .i64 p6, .int .i64 p7]) := HB3.out.set 0 (.int .i64 (n + 1))
      have HD4 := Lib.hid (HD3.out.farSet HB3.out (fun hi => (HLOW.out _ (HD3.out.ge hi)).2.2 rfl) 0 (.int .i64 (n + 1)))
      have HG4 := Lib.hid (HG3.out.setCell (p := ⟨gb, 0, none⟩) HNE.out.2 (.int .i64 (n + 1)))
      have cc := HA4.out.cell
      have hge : ((1099511627776 : Int) ≤ n) = False := by simp; omega
      have hwr : IntKind.i64.wrap (n + 1) = n + 1 := IntWalk.i64_in _ (by omega)
      have hwr2 : wrap64 (n + 1) = n + 1 := IntWalk.wrap64_in _ (by omega)
      clear HA3 HB3 HD3 HG3 hn0 hmax
      go_wp2_with fail
      generalize hw4 : w3.setCell ⟨gb, 0, none⟩ (.int .i64 (n + 1)) = w4 at *
      clear hw4 cb0 fb lb ca cc hge hwr hwr2
      refine (psI HD4.out HS.out HI.out (by have := HC2.out (s.n % 2); omega)).mono ?_
      rintro e w5 ⟨rfl, O5, hD5, hT5⟩
      have HG5 := Lib.hid (hT5.low HG4.out (fun i hi => (HLOW.out i (HD4.out.ge hi)).1))
      have HA5 := Lib.hid (hT5.at HA4.out (fun hi => (HLOW.out _ (HD4.out.ge hi)).2.1 rfl))
      have HB5 := Lib.hid (hT5.at HB4.out (fun hi => (HLOW.out _ (HD4.out.ge hi)).2.2 rfl))
      have HD5 := Lib.hid hD5
      clear hD5 hT5 HD4 HG4 HA4 HB4
      go_wp2_with fail
      refine (flush_ok HD5.out (fun x _ => by
        have := HC2.out x
        by_cases e : x = s.n % 2
        · subst e; rw [upC_same, List.length_append, List.length_singleton]; omega
        · rw [upC_other _ e]; omega)).mono ?_
      rintro e w6 ⟨rfl, hD6, hT6⟩
      have HG6 := Lib.hid (hT6.low HG5.out (fun i hi => (HLOW.out i (HD5.out.ge hi)).1))
      have HA6 := Lib.hid (hT6.at HA5.out (fun hi => (HLOW.out _ (HD5.out.ge hi)).2.1 rfl))
      have HB6 := Lib.hid (hT6.at HB5.out (fun hi => (HLOW.out _ (HD5.out.ge hi)).2.2 rfl))
      have HD6 := Lib.hid hD6
      have HF1 : Hid (rdS (flushed zer (upC C2 (s.n % 2) (C2 (s.n % 2) ++ [s.sec]))) noC (s.n % 2) = s.sec) := Lib.hid (by
        rw [rd_flush HD5.out.len _ (by omega) (fun l hl => by rw [upC_same, List.getLast?_concat] at hl; injection hl with hl; rw [← hl]; exact s.sec_len), rdS_upx])
      have HF0 : Hid (zerosB (rdS (flushed zer (upC C2 (s.n % 2) (C2 (s.n % 2) ++ [s.sec]))) noC (1 - s.n % 2)) = true) := Lib.hid (by
        have h0 : upC C2 (s.n % 2) (C2 (s.n % 2) ++ [s.sec]) (1 - s.n % 2) = [] := by rw [upC_other _ (by omega), HC0.out _ (by omega)]
        rw [rd_flush HD5.out.len _ (by omega) (fun l hl => by rw [h0] at hl; cases hl)]
        exact zerosB_zer h0 (by omega))
      clear hD6 hT6 HD5 HG5 HA5 HB5
      generalize flushed zer (upC C2 (s.n % 2) (C2 (s.n % 2) ++ [s.sec])) = d1 at *
      go_upto_region 14 with (fail)
      go_cut [15, 16] from 18 (BkQ2 w gb B g #[.int .i64 n, .int .i64 t, .int .i64 u, .int .i64 i, .int .i64 b, .int .i64 o0, .int .i64 o1, .int .i64 o2, .int .i64 o3, .int .i64 o4, .int .i64 o5, .int .i64 o6, .int .i64 o7] #[.int .i64 (n + 1), .int .i64 t', .int .i64 u', .int .i64 i', .int .i64 b', .int .i64 p0, .int .i64 p1, .int .i64 p2, .int .i64 p3, .int .i64 p4, .int .i64 p5, .int .i64 p6, .int .i64 p7] #[.int .i64 n, .int .i64 t, .int .i64 u, .int .i64 i, .int .i64 b, .int .i64 o0, .int .i64 o1, .int .i64 o2, .int .i64 o3, .int .i64 o4, .int .i64 o5, .int .i64 o6, .int .i64 o7] d1 noC false)
      case first =>
        go_wp2_with fail
        refine (gsI1 HD6.out (fun x _ => by simp [noC]) HS.out HI.out (s.n % 2) (1 - s.n % 2) rfl rfl HF1.out HF0.out).mono ?_
        rintro e w7 ⟨rfl, hG7⟩
        have HQ : Hid (BkQ2 w gb B g #[.int .i64 n, .int .i64 t, .int .i64 u, .int .i64 i, .int .i64 b, .int .i64 o0, .int .i64 o1, .int .i64 o2, .int .i64 o3, .int .i64 o4, .int .i64 o5, .int .i64 o6, .int .i64 o7] #[.int .i64 (n + 1), .int .i64 t', .int .i64 u', .int .i64 i', .int .i64 b', .int .i64 p0, .int .i64 p1, .int .i64 p2, .int .i64 p3, .int .i64 p4, .int .i64 p5, .int .i64 p6, .int .i64 p7] #[.int .i64 n, .int .i64 t, .int .i64 u, .int .i64 i, .int .i64 b, .int .i64 o0, .int .i64 o1, .int .i64 o2, .int .i64 o3, .int .i64 o4, .int .i64 o5, .int .i64 o6, .int .i64 o7] d1 noC false (.pointer (some ⟨w7.heap.size, 0, none⟩)) (.int .i64 0) (w7.alloc (.cells #[.int .i64 n, .int .i64 t, .int .i64 u, .int .i64 i, .int .i64 b, .int .i64 o0, .int .i64 o1, .int .i64 o2, .int .i64 o3, .int .i64 o4, .int .i64 o5, .int .i64 o6, .int .i64 o7] 39))) := Lib.hid ⟨rfl, _, rfl, by have := (HA6.out.grows hG7).lt; omega, by have := (HB6.out.grows hG7).lt; omega, (HG6.out.trans hG7).size, (HA6.out.grows hG7).alloc _, (HB6.out.grows hG7).alloc _, At.new w7 _ _, ⟨_, (HD6.out.grows hG7).grows ((Grows.refl w7).alloc _), (HD6.out.grows hG7).not (Nat.le_refl _)⟩, (HG6.out.trans hG7).alloc _⟩
        clear hG7
        go_wp2_with fail
        go_meet
        case rel => exact HQ.out
      case rest =>
        obtain ⟨rfl, gx, rfl, hx1, hx2, hx3, hS⟩ := hcut
        have HS7 := Lib.hid hS
        have HX1 := Lib.hid hx1
        have HX2 := Lib.hid hx2
        have HX3 := Lib.hid hx3
        have HM0 : Hid (0 ≤ n + 1) := Lib.hid (by have := HI.out.1; omega)
        obtain ⟨m, hm1⟩ : ∃ m, n + 1 = m := ⟨_, rfl⟩
        rw [hm1] at HS7 HM0
        have HM1 := Lib.hid hm1
        have ca := HS7.out.a.cell
        have cx := HS7.out.x.cell
        have cb := HS7.out.b.cell
        have hea := fun W => eqsI W n t u i b o0 o1 o2 o3 o4 o5 o6 o7 n t u i b o0 o1 o2 o3 o4 o5 o6 o7 true (decide_eq_true rfl)
        have heb := fun W => eqsI W m t' u' i' b' p0 p1 p2 p3 p4 p5 p6 p7 m t' u' i' b' p0 p1 p2 p3 p4 p5 p6 p7 true (decide_eq_true rfl)
        have hec := fun W => eqsI W n t u i b o0 o1 o2 o3 o4 o5 o6 o7 m t' u' i' b' p0 p1 p2 p3 p4 p5 p6 p7 false (decide_eq_false (fun e => by injection e with e; omega))
        clear hS hx1 hx2 hx3 HD6 HG6 HA6 HB6 hm1
        generalize wc = w7 at *
        go_wp2_with fail
        cases hm2 : mayB m t' u' i' b' [p0, p1, p2, p3, p4, p5, p6, p7] with
        | false =>
          have HM2 : Hid (∀ W, Calls Try.prog 17 #[supv m t' u' i' b' p0 p1 p2 p3 p4 p5 p6 p7] W fun e w' => e = .returned (.bool false) ∧ Grows W w') := fun W => by have := may_any m t' u' i' b' p0 p1 p2 p3 p4 p5 p6 p7 _ rfl W; rwa [hm2] at this
          have HPB := Lib.hid (fun W => ps_bad m t' u' i' b' p0 p1 p2 p3 p4 p5 p6 p7 hm2 W g)
          unfold supv at HM2 HPB
          clear hm2 ca cb cx hea heb hec
          refine (HPB.out _).mono ?_
          rintro e w9 ⟨rfl, hG9⟩
          have HG9 := Lib.hid (HS7.out.g.trans hG9)
          have cb := (HS7.out.b.grows hG9).cell
          clear hG9
          go_wp2_with fail
          refine (HM2.out _).mono ?_
          rintro e w10 ⟨rfl, hG10⟩
          have HG10 := Lib.hid (HG9.out.trans hG10)
          clear hG10 cb
          go_wp2_with fail
          refine (wakes_any _).mono ?_
          rintro e w11 ⟨rfl, hG11⟩
          go_wp2_with fail
          go_ret
          exact ⟨rfl, HG10.out.trans hG11⟩
        | true =>
          obtain ⟨s2, hs2, hi2⟩ := may_is hm2
          have HS2 := Lib.hid hs2
          have HI2 := Lib.hid hi2
          have HN2 : Hid (s2.n = s.n + 1) := Lib.hid (by have h1 := hi2.1; have h2 := HI.out.1; have h3 := HM1.out; omega)
          clear hm2 hs2 hi2 ca cb cx
          obtain ⟨O7, hD7, hO7⟩ := HS7.out.d
          have HD7 := Lib.hid hD7
          have HO7 := Lib.hid hO7
          clear hD7 hO7
          refine (psI HD7.out HS2.out HI2.out (by simp [noC])).mono ?_
          rintro e w9 ⟨rfl, O9, hD9, hT9⟩
          have HS9 := Lib.hid (HS7.out.turn HLOW.out HD7.out HO7.out hD9 hT9)
          have HC9 : Hid ((upC noC (s2.n % 2) (noC (s2.n % 2) ++ [s2.sec])) (s2.n % 2) = [s2.sec] ∧ ∀ x, ((upC noC (s2.n % 2) (noC (s2.n % 2) ++ [s2.sec])) x).length ≤ 1) := Lib.hid ⟨by rw [upC_same]; rfl, fun x => by by_cases e : x = s2.n % 2 <;> simp [upC, noC, e]⟩
          have HR1 : Hid (rdS d1 (upC noC (s2.n % 2) (noC (s2.n % 2) ++ [s2.sec])) (s2.n % 2) = s2.sec) := Lib.hid (by rw [rdS_upx])
          have HR2 : Hid (rdS d1 (upC noC (s2.n % 2) (noC (s2.n % 2) ++ [s2.sec])) (s.n % 2) = s.sec) := Lib.hid (by rw [rdS_up' _ _ _ _ _ (by have := HN2.out; omega)]; exact HF1.out)
          clear hD9 hT9 HS7 HD7 HO7
          generalize upC noC (s2.n % 2) (noC (s2.n % 2) ++ [s2.sec]) = C9 at *
          go_upto_region 19 with (fail)
          go_cut [16] from 18 (fun s16 wx => s16 = .int .i64 0 ∧ BkS w gb gx B g #[.int .i64 n, .int .i64 t, .int .i64 u, .int .i64 i, .int .i64 b, .int .i64 o0, .int .i64 o1, .int .i64 o2, .int .i64 o3, .int .i64 o4, .int .i64 o5, .int .i64 o6, .int .i64 o7] #[.int .i64 m, .int .i64 t', .int .i64 u', .int .i64 i', .int .i64 b', .int .i64 p0, .int .i64 p1, .int .i64 p2, .int .i64 p3, .int .i64 p4, .int .i64 p5, .int .i64 p6, .int .i64 p7] #[.int .i64 m, .int .i64 t', .int .i64 u', .int .i64 i', .int .i64 b', .int .i64 p0, .int .i64 p1, .int .i64 p2, .int .i64 p3, .int .i64 p4, .int .i64 p5, .int .i64 p6, .int .i64 p7] d1 C9 false wx)
          case first =>
            obtain ⟨O9', hD9, hO9⟩ := HS9.out.d
            have HG2' := Lib.hid (gsI2 hD9 (fun x _ => by have := HC9.out.2 x; omega) HS.out HS2.out HN2.out HI2.out (s2.n % 2) (s.n % 2) rfl rfl HR1.out HR2.out)
            clear hD9 hO9 hea heb hec
            go_wp2_with fail
            refine HG2'.out.mono ?_
            rintro e w10 ⟨rfl, hG10⟩
            have HX10 := Lib.hid (HS9.out.x.grows hG10)
            have HQ : Hid (BkS w gb gx B g #[.int .i64 n, .int .i64 t, .int .i64 u, .int .i64 i, .int .i64 b, .int .i64 o0, .int .i64 o1, .int .i64 o2, .int .i64 o3, .int .i64 o4, .int .i64 o5, .int .i64 o6, .int .i64 o7] #[.int .i64 m, .int .i64 t', .int .i64 u', .int .i64 i', .int .i64 b', .int .i64 p0, .int .i64 p1, .int .i64 p2, .int .i64 p3, .int .i64 p4, .int .i64 p5, .int .i64 p6, .int .i64 p7] #[.int .i64 m, .int .i64 t', .int .i64 u', .int .i64 i', .int .i64 b', .int .i64 p0, .int .i64 p1, .int .i64 p2, .int .i64 p3, .int .i64 p4, .int .i64 p5, .int .i64 p6, .int .i64 p7] d1 C9 false (w10.setCells gx 0 (#[.int .i64 m, .int .i64 t', .int .i64 u', .int .i64 i', .int .i64 b', .int .i64 p0, .int .i64 p1, .int .i64 p2, .int .i64 p3, .int .i64 p4, .int .i64 p5, .int .i64 p6, .int .i64 p7] : Array Value).toList)) := Lib.hid ((HS9.out.grows hG10).setx HX1.out HX2.out HX3.out (ints [m, t', u', i', b', p0, p1, p2, p3, p4, p5, p6, p7]) rfl)
            clear hG10
            go_wp2_with (with_reducible refine wpList_store_mid (op := ⟨none, .store 39 (.tmp 15) (.tmp 98), _, _, _, none⟩) rfl 39 (.tmp 15) (.tmp 98) rfl (gx) (0) #[.int .i64 m, .int .i64 t', .int .i64 u', .int .i64 i', .int .i64 b', .int .i64 p0, .int .i64 p1, .int .i64 p2, .int .i64 p3, .int .i64 p4, .int .i64 p5, .int .i64 p6, .int .i64 p7] ?s1a ?s1b ?s1c ?s1d ?s1e ?_)
            case s1a => rfl
            case s1b => rfl
            case s1c => exact HX10.out.there 0 13 (by simp)
            case s1d => kernel_rfl
            case s1e => exact one13 _ _ _ _ _ _ _ _ _ _ _ _ _
            go_meet
            case rel => exact ⟨rfl, HQ.out⟩
          case rest =>
            obtain ⟨rfl, hS⟩ := hcut
            have HSA := Lib.hid hS
            clear hS HS9 HR1 HR2
            have ca := HSA.out.a.cell
            have cx := HSA.out.x.cell
            have cb := HSA.out.b.cell
            generalize wc = w10 at *
            have HDL : Hid (d1.length = 2176) := Lib.hid (by obtain ⟨_, h, _⟩ := HSA.out.d; exact h.len)
            have HMOD : Hid (m % 2 = ((s2.n % 2 : Nat) : Int)) := Lib.hid (by have := HI2.out.1; omega)
            have hm0 := HM0.out
            obtain ⟨Oa, hDa, hOa⟩ := HSA.out.d
            have HDA := Lib.hid hDa
            have HOA := Lib.hid hOa
            clear hDa hOa
            cases keep with
            | false =>
              go_wp2_with fail
              clear ca cx cb
              refine (crash_none HDA.out none 0).mono ?_
              rintro e w11 ⟨rfl, hD11, hT11⟩
              have HSB := Lib.hid (HSA.out.turn HLOW.out HDA.out HOA.out hD11 hT11)
              clear hD11 hT11 HDA HOA HSA
              obtain ⟨dF, hdF⟩ : ∃ d, d1 = d := ⟨_, rfl⟩
              rw [hdF] at HSB HF1 HF0
              clear hdF
              go_wp2_with fail
              obtain ⟨Ob, hDb, hOb⟩ := HSB.out.d
              refine (up_ok hDb).mono ?_
              rintro e w12 ⟨rfl, hD12, hT12⟩
              have HSC := Lib.hid (HSB.out.turn HLOW.out hDb hOb hD12 hT12)
              clear hDb hOb hD12 hT12 HSB
              go_upto_region 27 with (fail)
              go_cut [16] from 18 (fun s16 wx => s16 = .int .i64 0 ∧ BkS w gb gx B g #[.int .i64 n, .int .i64 t, .int .i64 u, .int .i64 i, .int .i64 b, .int .i64 o0, .int .i64 o1, .int .i64 o2, .int .i64 o3, .int .i64 o4, .int .i64 o5, .int .i64 o6, .int .i64 o7] #[.int .i64 m, .int .i64 t', .int .i64 u', .int .i64 i', .int .i64 b', .int .i64 p0, .int .i64 p1, .int .i64 p2, .int .i64 p3, .int .i64 p4, .int .i64 p5, .int .i64 p6, .int .i64 p7] #[.int .i64 n, .int .i64 t, .int .i64 u, .int .i64 i, .int .i64 b, .int .i64 o0, .int .i64 o1, .int .i64 o2, .int .i64 o3, .int .i64 o4, .int .i64 o5, .int .i64 o6, .int .i64 o7] dF noC false wx)
              case first =>
                obtain ⟨Oc, hDc, hOc⟩ := HSC.out.d
                have HGF := Lib.hid (gsI1 hDc (fun x _ => by simp [noC]) HS.out HI.out (s.n % 2) (1 - s.n % 2) rfl rfl HF1.out HF0.out)
                clear hDc hOc hea heb hec hm0
                go_wp2_with fail
                refine HGF.out.mono ?_
                rintro e w13 ⟨rfl, hG13⟩
                have HX13 := Lib.hid (HSC.out.x.grows hG13)
                have HQ : Hid (BkS w gb gx B g #[.int .i64 n, .int .i64 t, .int .i64 u, .int .i64 i, .int .i64 b, .int .i64 o0, .int .i64 o1, .int .i64 o2, .int .i64 o3, .int .i64 o4, .int .i64 o5, .int .i64 o6, .int .i64 o7] #[.int .i64 m, .int .i64 t', .int .i64 u', .int .i64 i', .int .i64 b', .int .i64 p0, .int .i64 p1, .int .i64 p2, .int .i64 p3, .int .i64 p4, .int .i64 p5, .int .i64 p6, .int .i64 p7] #[.int .i64 n, .int .i64 t, .int .i64 u, .int .i64 i, .int .i64 b, .int .i64 o0, .int .i64 o1, .int .i64 o2, .int .i64 o3, .int .i64 o4, .int .i64 o5, .int .i64 o6, .int .i64 o7] dF noC false (w13.setCells gx 0 (#[.int .i64 n, .int .i64 t, .int .i64 u, .int .i64 i, .int .i64 b, .int .i64 o0, .int .i64 o1, .int .i64 o2, .int .i64 o3, .int .i64 o4, .int .i64 o5, .int .i64 o6, .int .i64 o7] : Array Value).toList)) := Lib.hid ((HSC.out.grows hG13).setx HX1.out HX2.out HX3.out (ints [n, t, u, i, b, o0, o1, o2, o3, o4, o5, o6, o7]) rfl)
                clear hG13
                go_wp2_with (with_reducible refine wpList_store_mid (op := ⟨none, .store 39 (.tmp 15) (.tmp 125), _, _, _, none⟩) rfl 39 (.tmp 15) (.tmp 125) rfl (gx) (0) #[.int .i64 n, .int .i64 t, .int .i64 u, .int .i64 i, .int .i64 b, .int .i64 o0, .int .i64 o1, .int .i64 o2, .int .i64 o3, .int .i64 o4, .int .i64 o5, .int .i64 o6, .int .i64 o7] ?s2a ?s2b ?s2c ?s2d ?s2e ?_)
                case s2a => rfl
                case s2b => rfl
                case s2c => exact HX13.out.there 0 13 (by simp)
                case s2d => kernel_rfl
                case s2e => exact one13 _ _ _ _ _ _ _ _ _ _ _ _ _
                go_meet
                case rel => exact ⟨rfl, HQ.out⟩
              case rest =>
                obtain ⟨rfl, hS⟩ := hcut
                have HSE := Lib.hid hS
                clear hS HSC
                have ca := HSE.out.a.cell
                have cx := HSE.out.x.cell
                have cb := HSE.out.b.cell
                generalize wc = w14 at *
                go_wp2_with fail
                refine (wakes_any _).mono ?_
                rintro e w15 ⟨rfl, hG15⟩
                have HGE := Lib.hid (HSE.out.g.trans hG15)
                clear hG15 ca cx cb hea heb hec
                go_wp2_with fail
                go_ret
                exact ⟨rfl, HGE.out⟩
            | true =>
              have HK0 := Lib.hid ((At.new w10 51 #[.int .i64 (m % 2), .int .i64 1]).cell 0)
              have HK1 := Lib.hid ((At.new w10 51 #[.int .i64 (m % 2), .int .i64 1]).cell 1)
              have HDK := Lib.hid (HDA.out.grows ((Grows.refl w10).alloc (.cells #[.int .i64 (m % 2), .int .i64 1] 51)))
              have HSK := Lib.hid (HSA.out.grows ((Grows.refl w10).alloc (.cells #[.int .i64 (m % 2), .int .i64 1] 51)))
              go_wp2_with fail
              clear ca cx cb
              refine (crash_one HDK.out (s2.n % 2) 1 (by omega) (by omega) (by rw [HC9.out.1]; simp) (by rw [HC9.out.1]; simp) _ 0 1 (by rw [HK0.out, HMOD.out]; rfl) (by rw [Nat.zero_add, HK1.out]; rfl)).mono ?_
              rintro e w11 ⟨rfl, hD11, hT11⟩
              have HSB := Lib.hid (HSK.out.turn HLOW.out HDK.out HOA.out hD11 hT11)
              clear hD11 hT11 HDA HOA HSA HK0 HK1 HDK HSK
              have HR3 : Hid (rdS (spl d1 (s2.n % 2 * 64) ((C9 (s2.n % 2)).getD (1 - 1) [])) noC (s2.n % 2) = s2.sec) := Lib.hid (by rw [HC9.out.1]; exact rd_crash HDL.out _ (by omega) _ s2.sec_len)
              have HR4 : Hid (rdS (spl d1 (s2.n % 2 * 64) ((C9 (s2.n % 2)).getD (1 - 1) [])) noC (s.n % 2) = s.sec) := Lib.hid (by rw [HC9.out.1]; exact (rd_crash' HDL.out _ _ (by omega) (by have := HN2.out; omega) _ s2.sec_len).trans HF1.out)
              generalize spl d1 (s2.n % 2 * 64) ((C9 (s2.n % 2)).getD (1 - 1) []) = dF at *
              go_wp2_with fail
              obtain ⟨Ob, hDb, hOb⟩ := HSB.out.d
              refine (up_ok hDb).mono ?_
              rintro e w12 ⟨rfl, hD12, hT12⟩
              have HSC := Lib.hid (HSB.out.turn HLOW.out hDb hOb hD12 hT12)
              clear hDb hOb hD12 hT12 HSB
              go_upto_region 27 with (fail)
              go_cut [16] from 18 (fun s16 wx => s16 = .int .i64 0 ∧ BkS w gb gx B g #[.int .i64 n, .int .i64 t, .int .i64 u, .int .i64 i, .int .i64 b, .int .i64 o0, .int .i64 o1, .int .i64 o2, .int .i64 o3, .int .i64 o4, .int .i64 o5, .int .i64 o6, .int .i64 o7] #[.int .i64 m, .int .i64 t', .int .i64 u', .int .i64 i', .int .i64 b', .int .i64 p0, .int .i64 p1, .int .i64 p2, .int .i64 p3, .int .i64 p4, .int .i64 p5, .int .i64 p6, .int .i64 p7] #[.int .i64 m, .int .i64 t', .int .i64 u', .int .i64 i', .int .i64 b', .int .i64 p0, .int .i64 p1, .int .i64 p2, .int .i64 p3, .int .i64 p4, .int .i64 p5, .int .i64 p6, .int .i64 p7] dF noC false wx)
              case first =>
                obtain ⟨Oc, hDc, hOc⟩ := HSC.out.d
                have HGF := Lib.hid (gsI2 hDc (fun x _ => by simp [noC]) HS.out HS2.out HN2.out HI2.out (s2.n % 2) (s.n % 2) rfl rfl HR3.out HR4.out)
                clear hDc hOc hea heb hec hm0
                go_wp2_with fail
                refine HGF.out.mono ?_
                rintro e w13 ⟨rfl, hG13⟩
                have HX13 := Lib.hid (HSC.out.x.grows hG13)
                have HQ : Hid (BkS w gb gx B g #[.int .i64 n, .int .i64 t, .int .i64 u, .int .i64 i, .int .i64 b, .int .i64 o0, .int .i64 o1, .int .i64 o2, .int .i64 o3, .int .i64 o4, .int .i64 o5, .int .i64 o6, .int .i64 o7] #[.int .i64 m, .int .i64 t', .int .i64 u', .int .i64 i', .int .i64 b', .int .i64 p0, .int .i64 p1, .int .i64 p2, .int .i64 p3, .int .i64 p4, .int .i64 p5, .int .i64 p6, .int .i64 p7] #[.int .i64 m, .int .i64 t', .int .i64 u', .int .i64 i', .int .i64 b', .int .i64 p0, .int .i64 p1, .int .i64 p2, .int .i64 p3, .int .i64 p4, .int .i64 p5, .int .i64 p6, .int .i64 p7] dF noC false (w13.setCells gx 0 (#[.int .i64 m, .int .i64 t', .int .i64 u', .int .i64 i', .int .i64 b', .int .i64 p0, .int .i64 p1, .int .i64 p2, .int .i64 p3, .int .i64 p4, .int .i64 p5, .int .i64 p6, .int .i64 p7] : Array Value).toList)) := Lib.hid ((HSC.out.grows hG13).setx HX1.out HX2.out HX3.out (ints [m, t', u', i', b', p0, p1, p2, p3, p4, p5, p6, p7]) rfl)
                clear hG13
                go_wp2_with (with_reducible refine wpList_store_mid (op := ⟨none, .store 39 (.tmp 15) (.tmp 125), _, _, _, none⟩) rfl 39 (.tmp 15) (.tmp 125) rfl (gx) (0) #[.int .i64 m, .int .i64 t', .int .i64 u', .int .i64 i', .int .i64 b', .int .i64 p0, .int .i64 p1, .int .i64 p2, .int .i64 p3, .int .i64 p4, .int .i64 p5, .int .i64 p6, .int .i64 p7] ?s3a ?s3b ?s3c ?s3d ?s3e ?_)
                case s3a => rfl
                case s3b => rfl
                case s3c => exact HX13.out.there 0 13 (by simp)
                case s3d => kernel_rfl
                case s3e => exact one13 _ _ _ _ _ _ _ _ _ _ _ _ _
                go_meet
                case rel => exact ⟨rfl, HQ.out⟩
              case rest =>
                obtain ⟨rfl, hS⟩ := hcut
                have HSE := Lib.hid hS
                clear hS HSC
                have ca := HSE.out.a.cell
                have cx := HSE.out.x.cell
                have cb := HSE.out.b.cell
                generalize wc = w14 at *
                go_wp2_with fail
                refine (wakes_any _).mono ?_
                rintro e w15 ⟨rfl, hG15⟩
                have HGE := Lib.hid (HSE.out.g.trans hG15)
                clear hG15 ca cx cb hea heb hec
                go_wp2_with fail
                go_ret
                exact ⟨rfl, HGE.out⟩
    · have hmax' : (1099511627776 : Int) ≤ n := by omega
      clear hmax
      go_wp2_with fail
      refine (psI HD3.out HS.out HI.out (by have := HC2.out (s.n % 2); omega)).mono ?_
      rintro e w4 ⟨rfl, O4, hD4, hT4⟩
      have HG4 := Lib.hid (hT4.low HG3.out (fun i hi => (HLOW.out i (HD3.out.ge hi)).1))
      have HA4 := Lib.hid (hT4.at HA3.out (fun hi => (HLOW.out _ (HD3.out.ge hi)).2.1 rfl))
      clear ca hD4 hT4 HD3
      have ca := HA4.out.cell
      go_wp2_with fail
      refine (HM.out _).mono ?_
      rintro e w5 ⟨rfl, hG5⟩
      have HG5 := Lib.hid (HG4.out.trans hG5)
      clear ca hG5
      go_wp2_with fail
      refine (wakes_any _).mono ?_
      rintro e w6 ⟨rfl, hG6⟩
      go_wp2_with fail
      go_ret
      exact ⟨rfl, HG5.out.trans hG6⟩
end Go.Proofs.Ytmcofmidpedkiaa
