/-
  The law OrderGrows: its walk.
-/
import Derived.Test.YtcailhkaeledbaaOrM
import Derived.Test.YtcailhkaeledbaaOrN
namespace Go.Proofs.Ytcailhkaeledbaa
open Go.RowKit Go.Maps

theorem cells3 {w : World} {a : Option Addr} {l : List Nm} (h : Rd w a (rowsOf Nm.cs l)) {k : Nat} (hk : k < l.length) :
    ∃ (g off : Nat), a = some ⟨g, off, none⟩ ∧ g < w.heap.size ∧ w.cell? ⟨g, off + k * 3, none⟩ = some (.int .i64 l[k].s) ∧ w.cell? ⟨g, off + k * 3 + 1, none⟩ = some (.int .i64 l[k].i) ∧ w.cell? ⟨g, off + k * 3 + 2, none⟩ = some (.int .i64 l[k].t) := by
  obtain ⟨g, off, e, hg, hc⟩ := rows_cell Nm.cs_len (by omega) h hk
  exact ⟨g, off, e, hg, hc 0 _ rfl, hc 1 _ rfl, hc 2 _ rfl⟩
theorem decL_len (l : List Sn) : (decL l).length ≤ l.length := by
  unfold decL
  rw [List.length_map]
  exact List.length_filter_le _ _
set_option maxRecDepth 100000 in
set_option maxHeartbeats 4000000 in
theorem grows_walk (L : List Sn) (n : Nat) (hn : L.length = n) (a : Option Addr) (cap : Nat) (hc : n ≤ cap) (hnil : a = none → n = 0 ∧ cap = 0) (hok : ∀ x ∈ L, x.n.ok) (z : Int) (w : World) (hr : Rd w a (rowsOf Sn.cs L)) :
    Calls Try.prog 3 #[.slice a n cap, .int .i64 z] w fun e w' => e = .returned (.bool true) ∧ Grows w w' := by
  have HG0 := Lib.hid (Grows.refl w)
  by_cases hbig : 200 < n
  · have hb : (200 : Int) < (n : Int) := by omega
    clear hn hc hnil hok hr hbig
    go_enter Try.func3, Try.ntmps3
    go_wp2_with fail
    refine (wakes_any _).mono ?_
    rintro e wz ⟨rfl, hgz⟩
    go_wp2_with fail
    go_ret
    exact ⟨rfl, (HG0.out).trans hgz⟩
  have hb : ¬ (200 : Int) < (n : Int) := by omega
  have HN := Lib.hid hn
  have HM := Lib.hid (may_any L n hn (by omega) hok a cap w hr)
  have HR := Lib.hid hr
  have HU := Lib.hid (fun W (hg : Grows w W) => until_any L n hn (by omega) a cap hc hnil z W (hr.grows hg))
  have HO := Lib.hid (fun W (hg : Grows w W) => order_p L n hn (by omega) hok a cap W (hr.grows hg))
  have HOK := Lib.hid hok
  have HB := Lib.hid hbig
  clear hn hc hnil hok hr hbig
  cases hm : mayB L
  · rw [hm] at HM
    clear hm
    go_enter Try.func3, Try.ntmps3
    go_wp2_with fail
    refine HM.out.mono ?_
    rintro e w1 ⟨rfl, hg⟩
    have HG1 := Lib.hid hg
    clear hg
    go_wp2_with fail
    refine (wakes_any _).mono ?_
    rintro e wz ⟨rfl, hgz⟩
    go_wp2_with fail
    go_ret
    exact ⟨rfl, (HG1.out).trans hgz⟩
  · rw [hm] at HM
    have HMY := Lib.hid hm
    clear hm
    go_enter Try.func3, Try.ntmps3
    go_wp2_with fail
    refine HM.out.mono ?_
    rintro e w1 ⟨rfl, hg⟩
    have HG1 := Lib.hid hg
    clear hg HM
    go_wp2_with fail
    refine (HU.out _ HG1.out).mono ?_
    rintro e w2 ⟨aU, cU, rfl, hrU, hcU, hg⟩
    have HRU := Lib.hid hrU
    have HG2 := Lib.hid (HG1.out.trans hg)
    clear hrU hcU hg HG1
    obtain ⟨c, hcc⟩ : ∃ c, cutN z n = c := ⟨_, rfl⟩
    have HCC : Hid (c ≤ n) := Lib.hid (by rw [← hcc]; exact cutN_le z n)
    rw [hcc] at HRU ⊢
    clear hcc
    have HO1 := Lib.hid (order_yes (L.take c) c (by rw [List.length_take]; have := HCC.out; have := HN.out; omega) (by have := HCC.out; have := HB.out; omega) (fun x hx => HOK.out x (List.mem_of_mem_take hx)) aU cU w2 HRU.out (mayB_take HMY.out c))
    have HSUB := Lib.hid (decL_take L c)
    have HLA : Hid ((decL (L.take c)).length ≤ 200) := Lib.hid (by have h1 := decL_len (L.take c); rw [List.length_take] at h1; have := HCC.out; have := HB.out; omega)
    have HLD : Hid ((decL L).length ≤ 200) := Lib.hid (by have h1 := decL_len L; have := HN.out; have := HB.out; omega)
    generalize decL (L.take c) = A at *
    go_wp2_with fail
    refine HO1.out.mono ?_
    rintro e w3 ⟨aA, cA, rfl, hrA, hcA, hg⟩
    have HRA := Lib.hid hrA
    have HG3 := Lib.hid (HG2.out.trans hg)
    clear hrA hg HO1 HG2 HRU
    have HO2 := HO.out w3 HG3.out
    clear HO HU
    unfold OrdP at HO2
    rw [HMY.out] at HO2
    have HO2 := Lib.hid HO2
    generalize decL L = D at *
    go_wp2_with fail
    refine HO2.out.mono ?_
    rintro e w4 ⟨hg, ⟨h, _⟩ | ⟨_, aD, cD, rfl, hrD, hcD⟩⟩
    · cases h
    have HRD := Lib.hid hrD
    have HRA4 := Lib.hid (HRA.out.grows hg)
    have HG4 := Lib.hid (HG3.out.trans hg)
    clear hrD hg HO2 HG3 HRA
    go_wp2_with fail
    go_loopg [10, 43] D.length (fun gh v10 v43 wr => ∃ i : Nat, gh + i = D.length ∧ v43 = .int .i64 (i : Int) ∧ v10 = .int .i64 ((mat A (D.take i) 0 : Nat) : Int) ∧ Grows w4 wr)
    case atStart => exact ⟨0, by omega, rfl, rfl, Grows.refl _⟩
    case round =>
      obtain ⟨i, hgi, rfl, rfl, hg⟩ := hrel
      have HG := Lib.hid hg
      clear hg
      obtain ⟨q, hq⟩ : ∃ q, mat A (D.take i) 0 = q := ⟨_, rfl⟩
      have hqa : q ≤ A.length := by rw [← hq]; exact mat_le A _ 0 (Nat.zero_le _)
      rw [hq]
      have HQ := Lib.hid hq
      have HQA := Lib.hid hqa
      clear hq hqa
      have hla := HLA.out
      have hld := HLD.out
      by_cases hlt : i < D.length
      · obtain ⟨gD, oD, rfl, hgD, d0, d1, d2⟩ := cells3 (HRD.out.grows HG.out) hlt
        have HX := Lib.hid (List.getElem?_eq_getElem hlt)
        have HSN : Hid (mat A (D.take (i + 1)) 0 = if A[q]? = some D[i] then q + 1 else q) := Lib.hid (by
          rw [List.take_add_one, List.getElem?_eq_getElem hlt]
          show mat A (D.take i ++ [D[i]]) 0 = _
          rw [mat_snoc, HQ.out])
        generalize D[i] = x at *
        have he := eqn_any
        by_cases hqlt : q < A.length
        · obtain ⟨gA, oA, rfl, hgA, a0, a1, a2⟩ := cells3 (HRA4.out.grows HG.out) hqlt
          have HY := Lib.hid (List.getElem?_eq_getElem hqlt)
          generalize A[q] = y at *
          by_cases hxy : y = x
          · have hd : decide (y = x) = true := by simp [hxy]
            have HE : Hid (mat A (D.take (i + 1)) 0 = q + 1) := Lib.hid (by rw [HSN.out, HY.out, hxy, if_pos rfl])
            clear hxy
            go_wp2_with fail
            go_quiet (fail)
            go_wp2_with fail
            go_roundg (gk - 1)
            case measure => omega
            case rel => exact ⟨i + 1, by omega, by go_num, by rw [HE.out]; go_num, (HG.out.alloc _).drewN _⟩
          · have hd : decide (y = x) = false := by simp [hxy]
            have HE : Hid (mat A (D.take (i + 1)) 0 = q) := Lib.hid (by rw [HSN.out, HY.out, if_neg (fun h => hxy (by injection h))])
            clear hxy
            go_wp2_with fail
            go_quiet (fail)
            go_wp2_with fail
            go_roundg (gk - 1)
            case measure => omega
            case rel => exact ⟨i + 1, by omega, by go_num, by rw [HE.out], (HG.out.alloc _).drewN _⟩
        · have hqd : decide (q < A.length) = false := by simp; omega
          have HE : Hid (mat A (D.take (i + 1)) 0 = q) := Lib.hid (by rw [HSN.out, List.getElem?_eq_none (by omega), if_neg (fun h => by cases h)])
          clear hqlt
          go_wp2_with fail
          go_quiet (fail)
          go_wp2_with fail
          go_roundg (gk - 1)
          case measure => omega
          case rel => exact ⟨i + 1, by omega, by go_num, by rw [HE.out], (HG.out.alloc _).drewN _⟩
      · have hq : q = A.length := by
          rw [← HQ.out, List.take_of_length_le (by omega)]
          exact mat_full A D 0 (Nat.zero_le _) HSUB.out
        subst hq
        have HGE := Lib.hid (HG4.out.trans HG.out)
        go_wp2_with fail
        refine (wakes_any _).mono ?_
        rintro e wz ⟨rfl, hgz⟩
        go_wp2_with fail
        go_ret
        exact ⟨rfl, (HGE.out).trans hgz⟩
end Go.Proofs.Ytcailhkaeledbaa
