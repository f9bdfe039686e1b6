/-
  PackBack returns true: what was put is got where it stands, blocks and bytes there and back.
-/
import Derived.Test.YtddignaaggdliaaPackS
namespace Go.Proofs.Ytddignaaggdliaa
open Go.RowKit

/-- Pairs of integers as cells. -/
def prs (ps : List (Int × Int)) : List Value := ps.flatMap fun p => [.int .i64 p.1, .int .i64 p.2]
theorem prs_length (ps : List (Int × Int)) : (prs ps).length = ps.length * 2 := by
  induction ps with
  | nil => rfl
  | cons p ps ih => simp only [prs, List.flatMap_cons, List.length_append] at *; rw [ih]; simp; omega
theorem prs_at (ps : List (Int × Int)) (k : Nat) (h : k < ps.length) : (prs ps)[k * 2]? = some (.int .i64 ps[k].1) ∧ (prs ps)[k * 2 + 1]? = some (.int .i64 ps[k].2) := by
  induction ps generalizing k with
  | nil => simp at h
  | cons p ps ih =>
    cases k with
    | zero => exact ⟨rfl, rfl⟩
    | succ k =>
      have := ih k (by simpa using h)
      rw [show (k + 1) * 2 = k * 2 + 2 by omega]
      exact this

theorem rd_take {w : World} {a : Option Addr} {xs : List Value} (h : Rd w a xs) (n : Nat) : Rd w a (xs.take n) := by
  rcases h with h | ⟨b, off, e, hb, hc⟩
  · exact .inl (by simp [h])
  · refine .inr ⟨b, off, e, hb, fun i v hv => hc i v ?_⟩
    rw [List.getElem?_take] at hv
    split at hv
    · exact hv
    · cases hv

theorem get_back (X : List Nat) (n k : Nat) (h : fitsB n k = true) : num (((X ++ digits n k).drop X.length).take k) = n := by
  obtain ⟨h1, h2, h3, h4⟩ := (fitsB_iff _ _).1 h
  rw [List.drop_left', List.take_of_length_le (by rw [digits_length]; exact Nat.le_refl _), num_digits]
  · apply Nat.mod_eq_of_lt
    simp only [Int.toNat_natCast] at h4
    exact_mod_cast h4
  · rfl

set_option maxRecDepth 100000 in
set_option maxHeartbeats 400000 in
theorem lawBack_long (a b c : Option Addr) (n ca m cb k cc : Nat) (w : World) (h : 100 < (n : Int) ∨ 8000 < (m : Int) ∨ 1000 < (k : Int)) :
    Calls Try.prog 5 #[.slice a n ca, .slice b m cb, .slice c k cc] w fun e w' => e = .returned (.bool true) ∧ Grows w w' := by
  by_cases h1 : 100 < (n : Int)
  · clear h
    go_enter Try.func5, Try.ntmps5
    go_wp2_with fail
    refine (wakes_any _).mono ?_
    rintro e w1 ⟨rfl, hb1⟩
    go_wp2_with fail
    go_ret
    exact ⟨rfl, hb1⟩
  · by_cases h2 : 8000 < (m : Int)
    · clear h
      go_enter Try.func5, Try.ntmps5
      go_wp2_with fail
      refine (wakes_any _).mono ?_
      rintro e w1 ⟨rfl, hb1⟩
      go_wp2_with fail
      go_ret
      exact ⟨rfl, hb1⟩
    · have h3 : 1000 < (k : Int) := by omega
      clear h
      go_enter Try.func5, Try.ntmps5
      go_wp2_with fail
      refine (wakes_any _).mono ?_
      rintro e w1 ⟨rfl, hb1⟩
      go_wp2_with fail
      go_ret
      exact ⟨rfl, hb1⟩

set_option maxRecDepth 100000 in
set_option maxHeartbeats 4000000 in
theorem lawBack_any (ps : List (Int × Int)) (n : Nat) (hps : ps.length = n) (B : List Nat) (m : Nat) (hB : B.length = m) (V : List Nat) (k : Nat) (hV : V.length = k * 8) (a b c : Option Addr) (ca cb cc : Nat) (w : World)
    (hra : Rd w a (prs ps)) (hrb : Rd w b (bys B)) (hbb : ∀ x ∈ B, x < 256) (hcb : m ≤ cb) (hrc : Rd w c (bys V)) (h1 : (n : Int) ≤ 100) (h2 : (m : Int) ≤ 8000) (h3 : (k : Int) ≤ 1000) :
    Calls Try.prog 5 #[.slice a n ca, .slice b m cb, .slice c k cc] w fun e w' => e = .returned (.bool true) ∧ Grows w w' := by
  have Hra := Lib.hid hra
  have Hrb := Lib.hid hrb
  have Hrc := Lib.hid hrc
  have Hbb := Lib.hid hbb
  have Hps := Lib.hid hps
  have HB := Lib.hid hB
  have HV := Lib.hid hV
  clear hra hrb hrc hbb hps hB hV
  go_enter Try.func5, Try.ntmps5
  go_wp2_with fail
  go_loopg [7, 8] n (fun gh v i wr => ∃ (j : Nat) (X : List Nat) (ax : Option Addr) (cx : Nat), j + gh = n ∧ i = .int .i64 j ∧ v = .slice ax X.length cx ∧ Grows w wr ∧ Rd wr ax (bys X) ∧ (∀ x ∈ X, x < 256) ∧ X.length ≤ m + 6 * j)
  case atStart => exact ⟨0, B, b, cb, by omega, rfl, by rw [HB.out], Grows.refl _, Hrb.out, Hbb.out, by rw [HB.out]; omega⟩
  case round =>
    obtain ⟨j, X, ax, cx, hj, rfl, rfl, hg, hrx, hxb, hxl⟩ := hrel
    have HX := Lib.hid hrx
    have HXb := Lib.hid hxb
    clear hrx hxb
    by_cases hlt : j < n
    · obtain ⟨g, off, rfl, hgw, hc⟩ := Hra.out.at (by rw [prs_length, Hps.out]; omega)
      have hp := prs_at ps j (by rw [Hps.out]; exact hlt)
      have c0 := (hg.cell g (off + j * 2) hgw).trans ((hc (j * 2) (by rw [prs_length, Hps.out]; omega)).trans ((List.getElem?_eq_getElem _).symm.trans hp.1))
      have c1 := (hg.cell g (off + (j * 2 + 1)) hgw).trans ((hc (j * 2 + 1) (by rw [prs_length, Hps.out]; omega)).trans ((List.getElem?_eq_getElem _).symm.trans hp.2))
      clear hc hp
      rw [show off + (j * 2 + 1) = off + j * 2 + 1 by omega] at c1
      generalize (ps[j]'(by rw [Hps.out]; exact hlt)).1 = N at *
      generalize (ps[j]'(by rw [Hps.out]; exact hlt)).2 = W0 at *
      have hgr : g < wr.heap.size := Nat.lt_of_lt_of_le hgw hg.size
      have hlt' : (j : Int) < (n : Int) := by omega
      have hj0 : (0 : Int) ≤ (j : Int) := by omega
      generalize hxlen : X.length = xl at *
      have Hxl := Lib.hid hxlen
      clear hxlen
      cases hf : fitsB N W0 with
      | false =>
        go_wp2_with fail
        go_region_held3 (fun W => W.cell? ⟨g, off + j * 2, none⟩ = some (.int .i64 N) ∧ W.cell? ⟨g, off + j * 2 + 1, none⟩ = some (.int .i64 W0)) (first | go_keep) ((go_at_call 7; refine (put_no N W0 ax xl cx _ hf).mono ?_; rintro e w2 ⟨rfl, rfl⟩))
        go_wp2_with fail
        go_region_held3 (fun W => W.cell? ⟨g, off + j * 2, none⟩ = some (.int .i64 N) ∧ W.cell? ⟨g, off + j * 2 + 1, none⟩ = some (.int .i64 W0)) (first | go_keep) ((go_at_call 12; refine (fits_any _ _ _).mono ?_; rintro e w2 ⟨rfl, rfl⟩))
        go_wp2_with fail
        go_roundg (gk - 1)
        case measure => omega
        case rel => exact ⟨j + 1, X, ax, cx, by omega, by go_num, by rw [Hxl.out], hg.drew.drew, HX.out.grows ((Grows.refl _).drew.drew), HXb.out, by rw [Hxl.out]; omega⟩
      | true =>
        obtain ⟨hw1, hw6, hN0, _⟩ := (fitsB_iff _ _).1 hf
        obtain ⟨NN, rfl⟩ := Int.eq_ofNat_of_zero_le hN0
        obtain ⟨WW, rfl⟩ := Int.eq_ofNat_of_zero_le (by omega : 0 ≤ W0)
        have Hf := Lib.hid hf
        have HG := Lib.hid (get_back X NN WW hf)
        have HLE : Hid ((X ++ digits NN WW).length = xl + WW) := by show _ = _; rw [List.length_append, Hxl.out, digits_length]
        go_wp2_with fail
        go_region_held3 (fun W => W.cell? ⟨g, off + j * 2, none⟩ = some (.int .i64 (NN : Int)) ∧ W.cell? ⟨g, off + j * 2 + 1, none⟩ = some (.int .i64 (WW : Int))) (first | go_keep | (go_split_ands; exact ⟨(hg2.cell _ _ hgr).trans c0, (hg2.cell _ _ hgr).trans c1⟩)) ((go_at_call 7; refine (put_yes X xl Hxl.out NN WW ax cx _ (HX.out.grows (Grows.refl _).drew) Hf.out (by omega)).mono ?_; rintro e w2 ⟨v2, rfl, a2, c2, hv2, hn2, hg2⟩; rw [HLE.out] at hv2 hn2; subst hv2))
        have d0 := (hg2.cell g (off + j * 2) hgr).trans c0
        have d1 := (hg2.cell g (off + j * 2 + 1) hgr).trans c1
        have Hn2 := Lib.hid hn2
        have Hr2 := Lib.hid (Rd.own hn2)
        have hc2 := (own_cap hn2).1
        have G2 := hg.drew.trans hg2
        clear hn2 c0 c1
        go_wp2_with fail
        go_region_held3 (fun W => W.cell? ⟨g, off + j * 2, none⟩ = some (.int .i64 (NN : Int)) ∧ W.cell? ⟨g, off + j * 2 + 1, none⟩ = some (.int .i64 (WW : Int))) (first | go_keep) ((go_at_call 12; refine (fits_any _ _ _).mono ?_; rintro e w3 ⟨rfl, rfl⟩))
        go_wp2_with fail
        refine (get_num (X ++ digits NN WW) (xl + WW) HLE.out a2 c2 xl WW _ ?_ (Hr2.out.grows (Grows.refl _).drew) (by omega) (by omega) (by omega) (by omega)).mono ?_
        · intro x hx
          rcases List.mem_append.1 hx with h | h
          · exact HXb.out x h
          · exact digits_lt _ _ x h
        rintro e w3 ⟨rfl, rfl⟩
        rw [← Hxl.out, HG.out, Hxl.out]
        go_wp2_with fail
        refine (bytes_same X xl Hxl.out a2 ax c2 cx _ ?_ (HX.out.grows ((Grows.refl _).drew.trans hg2).drew)).mono ?_
        · have h := rd_take (Hr2.out.grows (Grows.refl _).drew) xl
          rw [bys_append, List.take_left' (by rw [bys_length, Hxl.out])] at h
          exact h
        rintro e w3 ⟨rfl, rfl⟩
        go_wp2_with fail
        go_roundg (gk - 1)
        case measure => omega
        case rel =>
          refine ⟨j + 1, X ++ digits NN WW, a2, c2, by omega, by go_num, by rw [HLE.out], G2.drew, Hr2.out.grows (Grows.refl _).drew, ?_, by rw [HLE.out]; omega⟩
          intro x hx
          rcases List.mem_append.1 hx with h | h
          · exact HXb.out x h
          · exact digits_lt _ _ x h
    · have hge : ¬ (j : Int) < (n : Int) := by omega
      go_wp2_with fail
      refine (values_any V k HV.out c cc _ (Hrc.out.grows hg) (by omega)).mono ?_
      rintro e w1 ⟨g1, c1, rfl, hn1⟩
      have hc1 := (own_cap hn1.1).1
      have G1 := hg.trans hn1.2
      go_wp2_with fail
      refine (readValues_yes V k HV.out _ c1 _ (Rd.own hn1.1) hc1 (by omega)).mono ?_
      rintro e w2 ⟨g2, rfl, hn2⟩
      have G2 := G1.trans hn2.2
      clear hn1
      go_wp2_with fail
      refine (values_same V k HV.out _ c k cc _ (Rd.own hn2.1) (Hrc.out.grows G2) (by omega)).mono ?_
      rintro e w3 ⟨rfl, hg3⟩
      have G3 := G2.trans hg3
      clear hn2 hg3
      by_cases h8 : m % 8 = 0
      · obtain ⟨q, rfl⟩ : ∃ q, m = q * 8 := ⟨m / 8, by omega⟩
        have hq8 : ((q : Int) * 8 % 8 != 0) = false := by simp
        go_wp2_with fail
        refine (readValues_yes B q HB.out b cb _ (Hrb.out.grows G3) hcb (by omega)).mono ?_
        rintro e w4 ⟨g4, rfl, hn4⟩
        have G4 := G3.trans hn4.2
        go_wp2_with fail
        refine (values_any B q HB.out _ q _ (Rd.own hn4.1) (by omega)).mono ?_
        rintro e w5 ⟨g5, c5, rfl, hn5⟩
        have G5 := G4.trans hn5.2
        go_wp2_with fail
        refine (bytes_same B (q * 8) HB.out _ b c5 cb _ (Rd.own hn5.1) (Hrb.out.grows G5)).mono ?_
        rintro e w6 ⟨rfl, rfl⟩
        go_wp2_with fail
        refine (wakes_any _).mono ?_
        rintro e w7 ⟨rfl, hg7⟩
        go_wp2_with fail
        go_ret
        exact ⟨rfl, G5.trans hg7⟩
      · have hq8 : ((m : Int) % 8 != 0) = true := by simp; omega
        have hm0 : (0 : Int) ≤ (m : Int) := by omega
        go_wp2_with fail
        refine (readValues_no b m cb _ h8).mono ?_
        rintro e w4 ⟨rfl, rfl⟩
        go_wp2_with fail
        refine (wakes_any _).mono ?_
        rintro e w7 ⟨rfl, hg7⟩
        go_wp2_with fail
        go_ret
        exact ⟨rfl, G3.trans hg7⟩

theorem lawBack (ps : List (Int × Int)) (n : Nat) (hps : ps.length = n) (B : List Nat) (m : Nat) (hB : B.length = m) (V : List Nat) (k : Nat) (hV : V.length = k * 8) (a b c : Option Addr) (ca cb cc : Nat) (w : World)
    (hra : Rd w a (prs ps)) (hrb : Rd w b (bys B)) (hbb : ∀ x ∈ B, x < 256) (hcb : m ≤ cb) (hrc : Rd w c (bys V)) :
    Calls Try.prog 5 #[.slice a n ca, .slice b m cb, .slice c k cc] w fun e w' => e = .returned (.bool true) ∧ Grows w w' := by
  by_cases h : 100 < (n : Int) ∨ 8000 < (m : Int) ∨ 1000 < (k : Int)
  · exact lawBack_long a b c n ca m cb k cc w h
  · exact lawBack_any ps n hps B m hB V k hV a b c ca cb cc w hra hrb hbb hcb hrc (by omega) (by omega) (by omega)

end Go.Proofs.Ytddignaaggdliaa
