/-
  HomeTorn: the walk.
-/
import Derived.Test.YtmcofmidpedkiaaHmH
import Derived.Test.YtmcofmidpedkiaaHmP
import Derived.BigRegion
namespace Go.Proofs.Ytmcofmidpedkiaa
open Go.RowKit Go.Maps

def z8 : Array Value := #[.int .u8 0, .int .u8 0, .int .u8 0, .int .u8 0, .int .u8 0, .int .u8 0, .int .u8 0, .int .u8 0]
theorem zval (W : World) : (zeroValue 35).run Try.prog W = .ok (.agg #[.int .u8 0, .int .u8 0, .int .u8 0, .int .u8 0, .int .u8 0, .int .u8 0, .int .u8 0, .int .u8 0]) W := by kernel_rfl
theorem flat8 : flatQ Try.prog 2 35 = some (List.replicate 8 (some .u8)) := by kernel_rfl
theorem kinds_bys : ∀ (l : List Nat), OfKinds (List.replicate l.length (some .u8)) (bys l)
  | [] => trivial
  | _ :: xs => ⟨⟨_, rfl⟩, kinds_bys xs⟩
theorem eqz8 (W : World) : (Op.equalIn 10000 35 (.agg #[.int .u8 0, .int .u8 0, .int .u8 0, .int .u8 0, .int .u8 0, .int .u8 0, .int .u8 0, .int .u8 0]) (.agg #[.int .u8 0, .int .u8 0, .int .u8 0, .int .u8 0, .int .u8 0, .int .u8 0, .int .u8 0, .int .u8 0])).run Try.prog W = .ok true W := by
  have := eq_flat_agg (P := Try.prog) W 2 35 _ flat8 (by omega) (fun _ => rfl) _ _ (kinds_bys [0, 0, 0, 0, 0, 0, 0, 0]) (kinds_bys [0, 0, 0, 0, 0, 0, 0, 0])
  exact this.trans rfl
theorem bys_set (L : List Nat) (q v : Nat) : bys (L.set q v) = (bys L).set q (.int .u8 (v : Int)) := by
  simp [bys, List.map_set]
theorem tmod_in (a p : Int) (hp : 0 < p) : -p < a.tmod p ∧ a.tmod p < p := by
  have h1 := Int.tmod_lt_of_pos a hp
  have h2 := Int.tmod_lt_of_pos (-a) hp
  rw [Int.neg_tmod] at h2
  omega
theorem wrapAt (a : Int) : ∃ q : Nat, (wrap64 (a.tmod 64 + 64)).tmod 64 = (q : Int) ∧ q < 64 := by
  have h2 := tmod_in a 64 (by omega)
  generalize a.tmod 64 = r at *
  rw [IntWalk.wrap64_in _ ⟨by omega, by omega⟩, Int.tmod_eq_emod_of_nonneg (by omega)]
  exact ⟨((r + 64) % 64).toNat, by omega, by omega⟩
theorem vc_zero (k : Nat) (hk : k < 4) : vc (List.replicate 32 0) k = [0, 0, 0, 0, 0, 0, 0, 0] := by
  have : k = 0 ∨ k = 1 ∨ k = 2 ∨ k = 3 := by omega
  rcases this with rfl | rfl | rfl | rfl <;> rfl

theorem pad_full {l : List Nat} (h : l.length = 64) : pad l = l := by simp [pad, h]
set_option maxRecDepth 100000 in
set_option maxHeartbeats 1000000 in
theorem torn_walk (st : Int) (L : List Nat) (n : Nat) (hL : L.length = n * 8) (hb : ∀ x ∈ L, x < 256) (a : Option Addr) (c : Nat) (hc : n ≤ c) (at_ : Int) (y : Nat) (hy : y < 256) (w : World) (hr : Rd w a (bys L)) :
    Calls Try.prog 3 #[.int .i64 st, .slice a n c, .int .i64 at_, .int .u8 (y : Int)] w fun e w' => e = .returned (.bool true) ∧ Grows w w' := by
  have HR := Lib.hid hr
  have HB := Lib.hid hb
  have HL := Lib.hid hL
  clear hr hb hL
  go_enter Try.func3, Try.ntmps3
  go_wp2_with fail
  refine (new_any _).mono ?_
  rintro e w1 ⟨rfl, hD1, hG1⟩
  obtain ⟨g, hgg⟩ : ∃ g, w.heap.size + 1 = g := ⟨_, rfl⟩
  obtain ⟨O1, hO1⟩ : ∃ O1, (fun i => i = w.heap.size ∨ i = w.heap.size + 1) = O1 := ⟨_, rfl⟩
  rw [hO1] at hD1
  rw [hgg] at hD1 ⊢
  clear hgg hO1
  have HD1 := Lib.hid hD1
  have HG1 := Lib.hid hG1
  clear hD1 hG1
  go_wp2_with fail
  by_cases hok : 0 ≤ st ∧ st < 8 ∧ n = 4
  · obtain ⟨h0, h8, rfl⟩ := hok
    obtain ⟨s, rfl⟩ : ∃ s : Nat, st = (s : Int) := ⟨st.toNat, by omega⟩
    have hs8 : s < 8 := by omega
    obtain ⟨b, off, rfl, _, _⟩ := HR.out.at (by rw [bys_length, HL.out]; omega)
    refine (put_ok HD1.out s hs8 L HL.out b off c hc (HR.out.grows HG1.out) HB.out (by simp [noC])).mono ?_
    rintro e w2 ⟨rfl, O2, hD2, hT2⟩
    have HG2 := Lib.hid (hT2.low HG1.out (fun i hi => HD1.out.ge hi))
    have HD2 := Lib.hid hD2
    clear hD2 hT2 HD1 HG1 h0 h8
    by_cases hy0 : y = 0
    · subst hy0
      go_wp2_with fail
      refine (wakes_any _).mono ?_
      rintro e w3 ⟨rfl, hG3⟩
      go_wp2_with fail
      go_ret
      exact ⟨rfl, HG2.out.trans hG3⟩
    · have hyb : ((y : Int) == 0) = false := by simp; omega
      have HY := Lib.hid hy0
      clear hy0
      obtain ⟨q, hqe, hq⟩ := wrapAt at_
      go_wp2_with fail
      have HRD : Hid (Calls Try.prog 10 #[.pointer (some ⟨g, 0, none⟩), .int .i64 (26 + (s : Int))] w2 (ReadPost w2 (pad (sealBy L)))) := by
        have := read_ok HD2.out (26 + s) (by omega) (by rw [upC_same]; simp [noC])
        rw [rdS_upx, show (((26 + s : Nat)) : Int) = 26 + (s : Int) by omega] at this
        exact this
      have HT := Lib.hid (fun q hq => torn_not L HL.out HB.out q y hq hy HY.out)
      have HSb := Lib.hid (padl_lt _ (seal_lt L HB.out))
      generalize pad (sealBy L) = S at *
      refine HRD.out.mono ?_
      rintro e w3 ⟨v, rfl, hN, hS⟩
      obtain ⟨g3, c3, rfl, hge, _⟩ := own_form hN.1 (by omega)
      have hcell := hN.1.cellAt q (by omega)
      have hfr := hN.1.frozenAt q
      rw [List.getElem?_eq_getElem (by rw [bys_length]; omega), bys_at S _ (by omega)] at hcell
      have hx : S[q] < 256 := HSb.out _ (List.getElem_mem _)
      have HTq := Lib.hid (HT.out q (by omega))
      have hxor := u8_xor_nat _ _ hx hy
      generalize S[q] = x at *
      have HO3 := Lib.hid hN.1
      have HG3 := Lib.hid hN.2
      have HS := Lib.hid hS
      have HGE := Lib.hid hge
      clear hN hS HRD HT hge
      go_wp2_with fail
      have hst := (HO3.out.stored q (.int .u8 ((x ^^^ y : Nat) : Int))).1
      rw [← bys_set] at hst
      have HG4 := Lib.hid (HG3.out.setCell (p := ⟨g3, q, none⟩) HGE.out (.int .u8 ((x ^^^ y : Nat) : Int)))
      have HD4 := Lib.hid (HD2.out.grows HG4.out)
      have hSl : (S.set q (x ^^^ y)).length = 64 := by rw [List.length_set, HS.out]
      have HSb' := Lib.hid (set_lt8 HSb.out q (x ^^^ y) (xor_lt8 hx hy))
      have HW := Lib.hid (write_ok HD4.out (26 + s) (by omega) (S.set q (x ^^^ y)) (by omega) (some ⟨g3, 0, none⟩) c3 (Rd.own hst) (by rw [upC_same]; simp [noC]))
      rw [hSl, show (((26 + s : Nat)) : Int) = 26 + (s : Int) by omega, pad_full hSl] at HW
      have HG4' := Lib.hid (HG2.out.trans HG4.out)
      have HGe4 : Hid (∀ i, O2 i → w.heap.size ≤ i) := Lib.hid (fun i hi => HD4.out.ge hi)
      generalize S.set q (x ^^^ y) = S' at *
      generalize w3.setCell ⟨g3, q, none⟩ (.int .u8 ((x ^^^ y : Nat) : Int)) = w4 at *
      clear hcell hfr hxor hst HG4 HD4 HO3 HG3 HSb HGE HS hSl
      refine HW.out.mono ?_
      rintro e w5 ⟨rfl, O5, hD5, hT5⟩
      have HG5 := Lib.hid (hT5.low HG4'.out HGe4.out)
      have HGT := Lib.hid (get_ok hD5 s hs8 (by rw [upC_same, upC_same]; simp [noC]) (by rw [rdS_upx]; exact HSb'.out))
      rw [rdS_upx] at HGT
      clear hD5 hT5 HG4' HGe4 HW HSb'
      go_wp2_with fail
      refine HGT.out.mono ?_
      rintro e w6 (⟨_, b6, c6, rfl, hr6, hG6⟩ | ⟨_, hse, _⟩ | ⟨_, _, rfl, hG6⟩)
      · have HG6 := Lib.hid (HG5.out.trans hG6)
        have HR6 := Lib.hid hr6
        have hz := zval
        have he := eqz8
        clear hr6 hG6 HGT HG5 HD2 HG2
        go_wp2_with fail
        go_loopg [69] 4 (fun gh i wr => ∃ (k : Nat), k + gh = 4 ∧ i = .int .i64 (k : Int) ∧ wr = w6)
        case atStart => exact ⟨0, by omega, rfl, rfl⟩
        case round =>
          obtain ⟨k, hk, rfl, rfl⟩ := hrel
          by_cases hlt : k < 4
          · have hlt' : (k : Int) < 4 := by omega
            have hk0 : (0 : Int) ≤ (k : Int) := by omega
            obtain ⟨hbl, hc⟩ := vc_cells HR6.out k (vc_zero k hlt)
            have c0 := (hc 0 _ rfl).trans (show _ = some (.int .u8 0) from rfl)
            have c1 := (hc 1 _ rfl).trans (show _ = some (.int .u8 0) from rfl)
            have c2 := (hc 2 _ rfl).trans (show _ = some (.int .u8 0) from rfl)
            have c3 := (hc 3 _ rfl).trans (show _ = some (.int .u8 0) from rfl)
            have c4 := (hc 4 _ rfl).trans (show _ = some (.int .u8 0) from rfl)
            have c5 := (hc 5 _ rfl).trans (show _ = some (.int .u8 0) from rfl)
            have c6 := (hc 6 _ rfl).trans (show _ = some (.int .u8 0) from rfl)
            have c7 := (hc 7 _ rfl).trans (show _ = some (.int .u8 0) from rfl)
            rw [Nat.add_zero] at c0
            simp only [Nat.zero_add] at c0 c1 c2 c3 c4 c5 c6 c7
            clear hc
            go_wp2_with fail
            go_roundg (gk - 1)
            case measure => omega
            case rel => exact ⟨k + 1, by omega, by go_num, rfl⟩
          · obtain rfl : k = 4 := by omega
            go_wp2_with fail
            refine (wakes_any _).mono ?_
            rintro e w7 ⟨rfl, hG7⟩
            go_wp2_with fail
            go_ret
            exact ⟨rfl, HG6.out.trans hG7⟩
      · rw [HTq.out] at hse
        cases hse
      · have HG6 := Lib.hid (HG5.out.trans hG6)
        clear hG6 HGT HG5 HD2 HG2
        go_wp2_with fail
        go_loopg [69] 0 (fun gh i wr => gh = 0 ∧ i = .int .i64 0 ∧ wr = w6)
        case atStart => exact ⟨rfl, rfl, rfl⟩
        case round =>
          obtain ⟨_, rfl, rfl⟩ := hrel
          go_wp2_with fail
          refine (wakes_any _).mono ?_
          rintro e w7 ⟨rfl, hG7⟩
          go_wp2_with fail
          go_ret
          exact ⟨rfl, HG6.out.trans hG7⟩
  · refine (put_bad st a n c hok).mono ?_
    rintro e w2 ⟨rfl, rfl⟩
    clear hok
    go_wp2_with fail
    refine (wakes_any _).mono ?_
    rintro e w3 ⟨rfl, hG3⟩
    go_wp2_with fail
    go_ret
    exact ⟨rfl, HG1.out.trans hG3⟩
end Go.Proofs.Ytmcofmidpedkiaa
