/-
  home.read of a superblock.
-/
import Derived.Test.YtmcofmidpedkiaaHmL
namespace Go.Proofs.Ytmcofmidpedkiaa
open Go.RowKit Go.Maps

set_option maxRecDepth 100000 in
set_option maxHeartbeats 4000000 in
theorem read_yes (n t u i b o0 o1 o2 o3 o4 o5 o6 o7 : Nat) (hm : mayB n t u i b (cst [o0, o1, o2, o3, o4, o5, o6, o7]) = true) (g1 c1 : Nat) (w : World) (hc : 64 ≤ c1) (hr : Rd w (some ⟨g1, 0, none⟩) (bys (pad (sealBy (bodyOf (fldN n t u i b [o0, o1, o2, o3, o4, o5, o6, o7])))))) :
    Calls Try.prog 30 #[.slice (some ⟨g1, 0, none⟩) 64 c1, .int .i64 ((n : Int) % 2)] w (RdPost w (some ([(n : Int), t, u, i, b] ++ cst [o0, o1, o2, o3, o4, o5, o6, o7]))) := by
  have hfit := fld_fit n t u i b [o0, o1, o2, o3, o4, o5, o6, o7] hm
  have h27 := body27 n t u i b [o0, o1, o2, o3, o4, o5, o6, o7] rfl
  have hbl := body_lt (fldN n t u i b [o0, o1, o2, o3, o4, o5, o6, o7])
  have hlen : (pad (sealBy (bodyOf (fldN n t u i b [o0, o1, o2, o3, o4, o5, o6, o7])))).length = 64 := pad_length _ (by rw [seal_len, h27]; omega)
  have HOP : Hid (∀ W, Grows w W → Calls Try.prog 27 #[.slice (some ⟨g1, 0, none⟩) 64 c1, .int .i64 31] W fun e w' => OpenYes W (bodyOf (fldN n t u i b [o0, o1, o2, o3, o4, o5, o6, o7])) e w') := fun W hW => by
    have h1 := hopen_any _ hlen 31 (by omega) (by omega) g1 c1 hc W (hr.grows hW) (padseal_lt _ hbl)
    rw [sealed_pad _ 31 (by rw [h27]) (by omega)] at h1
    exact h1.mono fun e w' h => by
      rw [if_pos rfl] at h
      have := take_pad (bodyOf (fldN n t u i b [o0, o1, o2, o3, o4, o5, o6, o7]))
      rw [h27] at this
      simp only [Nat.reduceSub] at h
      rwa [this] at h
  have N0 : num (((bodyOf (fldN n t u i b [o0, o1, o2, o3, o4, o5, o6, o7])).drop 0).take 6) = n := num_at [] n 6 _ (fits_lt (hfit (n, 6) (by simp [fldN])))
  have N1 : num (((bodyOf (fldN n t u i b [o0, o1, o2, o3, o4, o5, o6, o7])).drop 6).take 6) = t := num_at [(n, 6)] t 6 _ (fits_lt (hfit (t, 6) (by simp [fldN])))
  have N2 : num (((bodyOf (fldN n t u i b [o0, o1, o2, o3, o4, o5, o6, o7])).drop 12).take 1) = u := num_at [(n, 6), (t, 6)] u 1 _ (fits_lt (hfit (u, 1) (by simp [fldN])))
  have N3 : num (((bodyOf (fldN n t u i b [o0, o1, o2, o3, o4, o5, o6, o7])).drop 13).take 3) = i := num_at [(n, 6), (t, 6), (u, 1)] i 3 _ (fits_lt (hfit (i, 3) (by simp [fldN])))
  have N4 : num (((bodyOf (fldN n t u i b [o0, o1, o2, o3, o4, o5, o6, o7])).drop 16).take 3) = b := num_at [(n, 6), (t, 6), (u, 1), (i, 3)] b 3 _ (fits_lt (hfit (b, 3) (by simp [fldN])))
  have N5 : ∀ k, k < 8 → num (((bodyOf (fldN n t u i b [o0, o1, o2, o3, o4, o5, o6, o7])).drop (19 + k)).take 1) = [o0, o1, o2, o3, o4, o5, o6, o7].getD k 0 := fun k hk => num_m n t u i b [o0, o1, o2, o3, o4, o5, o6, o7] k hk hfit
  have HM := Lib.hid (fun W => may_any n t u i b o0 o1 o2 o3 o4 o5 o6 o7 _ rfl W)
  have hm' : mayB n t u i b [(o0 : Int), (o1 : Int), (o2 : Int), (o3 : Int), (o4 : Int), (o5 : Int), (o6 : Int), (o7 : Int)] = true := hm
  rw [hm'] at HM
  have HDl := Lib.hid h27
  have HDb := Lib.hid hbl
  have H0 := Lib.hid N0
  have H1 := Lib.hid N1
  have H2 := Lib.hid N2
  have H3 := Lib.hid N3
  have H4 := Lib.hid N4
  have H5 := Lib.hid N5
  have hz := zsup
  unfold supv at hz HM
  have HA0 := Lib.hid (At.new w 39 #[.int .i64 0, .int .i64 0, .int .i64 0, .int .i64 0, .int .i64 0, .int .i64 0, .int .i64 0, .int .i64 0, .int .i64 0, .int .i64 0, .int .i64 0, .int .i64 0, .int .i64 0])
  clear hfit h27 hbl hlen N0 N1 N2 N3 N4 N5 hm hm' hr
  generalize bodyOf (fldN n t u i b [o0, o1, o2, o3, o4, o5, o6, o7]) = D at *
  go_enter Try.func30, Try.ntmps30
  go_wp2_with fail
  refine (HOP.out _ ((Grows.refl _).alloc _)).mono ?_
  rintro e w2 ⟨a2, c2, rfl, hN⟩
  rw [HDl.out] at hN ⊢
  have HG2 := Lib.hid (((Grows.refl w).alloc _).trans hN.2)
  have HA2 := Lib.hid (HA0.out.grows hN.2)
  have HRD := Lib.hid (New.rd hN)
  clear hN HA0 HOP
  have HS : Hid (RS w2 w2.heap.size (w2.heap.size + 1) (w2.heap.size + 1 + 1) a2 c2 0 (List.replicate 13 0) (((w2.alloc (.cells #[.slice a2 27 c2] 28)).alloc (.cells #[.int .i64 0] 3)).alloc (.cells #[.int .i64 0, .int .i64 0, .int .i64 0, .int .i64 0, .int .i64 0, .int .i64 0, .int .i64 0, .int .i64 0, .int .i64 0, .int .i64 0, .int .i64 0, .int .i64 0, .int .i64 0] 39))) := by
    refine ⟨by omega, by omega, by omega, by omega, by omega, by omega, (((Grows.refl w2).alloc _).alloc _).alloc _, ((At.new w2 28 #[.slice a2 27 c2]).alloc _).alloc _, ?_, ?_⟩
    · have := (At.new (w2.alloc (.cells #[.slice a2 27 c2] 28)) 3 #[.int .i64 0]).alloc (.cells #[.int .i64 0, .int .i64 0, .int .i64 0, .int .i64 0, .int .i64 0, .int .i64 0, .int .i64 0, .int .i64 0, .int .i64 0, .int .i64 0, .int .i64 0, .int .i64 0, .int .i64 0] 39)
      rw [World.size_alloc] at this
      exact this
    · have := At.new ((w2.alloc (.cells #[.slice a2 27 c2] 28)).alloc (.cells #[.int .i64 0] 3)) 39 #[.int .i64 0, .int .i64 0, .int .i64 0, .int .i64 0, .int .i64 0, .int .i64 0, .int .i64 0, .int .i64 0, .int .i64 0, .int .i64 0, .int .i64 0, .int .i64 0, .int .i64 0]
      rw [World.size_alloc, World.size_alloc] at this
      exact this
  go_wp2_with fail
  generalize hgs : w2.heap.size + 1 + 1 = gs at *
  generalize hga : w2.heap.size + 1 = ga at *
  have HGS : Hid (w2.heap.size ≤ gs) := by show _ ≤ _; omega
  clear hgs hga
  generalize hgb : w2.heap.size = gb at *
  have HSZ := Lib.hid hgb
  clear hgb
  refine (take_any D HDl.out HDb.out a2 c2 0 6 n (by omega) (by omega) (by omega) H0.out _ gb ga HS.out.ab HS.out.aa (HRD.out.grows HS.out.gr)).mono ?_
  rintro e w3 ⟨rfl, hw⟩
  have HT3 : Hid (RS w2 gb ga gs a2 c2 6 (List.replicate 13 0) w3) := hw ▸ HS.out.take 6
  have cc := HT3.out.cell 0 0 rfl
  have ff := HT3.out.ac.frozen 0
  have lt := HT3.out.ac.lt
  have HS3 : Hid (RS w2 gb ga gs a2 c2 6 [(n : Int), 0, 0, 0, 0, 0, 0, 0, 0, 0, 0, 0, 0] (w3.setCell ⟨gs, 0, none⟩ (.int .i64 n))) := HT3.out.put 0 n
  clear hw HS HT3
  go_wp2_with fail
  clear cc ff lt
  refine (take_any D HDl.out HDb.out a2 c2 6 6 t (by omega) (by omega) (by omega) H1.out _ gb ga HS3.out.ab HS3.out.aa (HRD.out.grows HS3.out.gr)).mono ?_
  rintro e w4 ⟨rfl, hw⟩
  have HT4 : Hid (RS w2 gb ga gs a2 c2 12 [(n : Int), 0, 0, 0, 0, 0, 0, 0, 0, 0, 0, 0, 0] w4) := hw ▸ HS3.out.take 6
  have cc := HT4.out.cell 1 0 rfl
  have ff := HT4.out.ac.frozen 1
  have lt := HT4.out.ac.lt
  have HS4 : Hid (RS w2 gb ga gs a2 c2 12 [(n : Int), (t : Int), 0, 0, 0, 0, 0, 0, 0, 0, 0, 0, 0] (w4.setCell ⟨gs, 1, none⟩ (.int .i64 t))) := HT4.out.put 1 t
  clear hw HS3 HT4
  go_wp2_with fail
  clear cc ff lt
  refine (take_any D HDl.out HDb.out a2 c2 12 1 u (by omega) (by omega) (by omega) H2.out _ gb ga HS4.out.ab HS4.out.aa (HRD.out.grows HS4.out.gr)).mono ?_
  rintro e w5 ⟨rfl, hw⟩
  have HT5 : Hid (RS w2 gb ga gs a2 c2 13 [(n : Int), (t : Int), 0, 0, 0, 0, 0, 0, 0, 0, 0, 0, 0] w5) := hw ▸ HS4.out.take 1
  have cc := HT5.out.cell 2 0 rfl
  have ff := HT5.out.ac.frozen 2
  have lt := HT5.out.ac.lt
  have HS5 : Hid (RS w2 gb ga gs a2 c2 13 [(n : Int), (t : Int), (u : Int), 0, 0, 0, 0, 0, 0, 0, 0, 0, 0] (w5.setCell ⟨gs, 2, none⟩ (.int .i64 u))) := HT5.out.put 2 u
  clear hw HS4 HT5
  go_wp2_with fail
  clear cc ff lt
  refine (take_any D HDl.out HDb.out a2 c2 13 3 i (by omega) (by omega) (by omega) H3.out _ gb ga HS5.out.ab HS5.out.aa (HRD.out.grows HS5.out.gr)).mono ?_
  rintro e w6 ⟨rfl, hw⟩
  have HT6 : Hid (RS w2 gb ga gs a2 c2 16 [(n : Int), (t : Int), (u : Int), 0, 0, 0, 0, 0, 0, 0, 0, 0, 0] w6) := hw ▸ HS5.out.take 3
  have cc := HT6.out.cell 3 0 rfl
  have ff := HT6.out.ac.frozen 3
  have lt := HT6.out.ac.lt
  have HS6 : Hid (RS w2 gb ga gs a2 c2 16 [(n : Int), (t : Int), (u : Int), (i : Int), 0, 0, 0, 0, 0, 0, 0, 0, 0] (w6.setCell ⟨gs, 3, none⟩ (.int .i64 i))) := HT6.out.put 3 i
  clear hw HS5 HT6
  go_wp2_with fail
  clear cc ff lt
  refine (take_any D HDl.out HDb.out a2 c2 16 3 b (by omega) (by omega) (by omega) H4.out _ gb ga HS6.out.ab HS6.out.aa (HRD.out.grows HS6.out.gr)).mono ?_
  rintro e w7 ⟨rfl, hw⟩
  have HT7 : Hid (RS w2 gb ga gs a2 c2 19 [(n : Int), (t : Int), (u : Int), (i : Int), 0, 0, 0, 0, 0, 0, 0, 0, 0] w7) := hw ▸ HS6.out.take 3
  have cc := HT7.out.cell 4 0 rfl
  have ff := HT7.out.ac.frozen 4
  have lt := HT7.out.ac.lt
  have HS7 : Hid (RS w2 gb ga gs a2 c2 19 [(n : Int), (t : Int), (u : Int), (i : Int), (b : Int), 0, 0, 0, 0, 0, 0, 0, 0] (w7.setCell ⟨gs, 4, none⟩ (.int .i64 b))) := HT7.out.put 4 b
  clear hw HS6 HT7
  go_wp2_with fail
  clear cc ff lt
  go_loopg [36] 8 (fun gh j wr => ∃ (k : Nat), k + gh = 8 ∧ j = .int .i64 (k : Int) ∧ RS w2 gb ga gs a2 c2 (19 + k) (sofM n t u i b [o0, o1, o2, o3, o4, o5, o6, o7] k) wr)
  case atStart => exact ⟨0, by omega, rfl, HS7.out⟩
  case round =>
    obtain ⟨k, hk, rfl, hrs⟩ := hrel
    have HS := Lib.hid hrs
    clear hrs HS7
    by_cases hlt : k < 8
    · have hlt' : (k : Int) < 8 := by omega
      have hk0 : (0 : Int) ≤ (k : Int) := by omega
      have HSM := Lib.hid (sofM_set n t u i b [o0, o1, o2, o3, o4, o5, o6, o7] k rfl hlt)
      have HSA := Lib.hid (sofM_at n t u i b [o0, o1, o2, o3, o4, o5, o6, o7] k rfl hlt)
      have H5k := Lib.hid (H5.out k hlt)
      generalize [o0, o1, o2, o3, o4, o5, o6, o7].getD k 0 = z at *
      go_wp2_with fail
      refine (take_any D HDl.out HDb.out a2 c2 (19 + k) 1 z (by omega) (by omega) (by omega) H5k.out _ gb ga HS.out.ab HS.out.aa (HRD.out.grows HS.out.gr)).mono ?_
      rintro e w8 ⟨rfl, hw⟩
      have HT8 : Hid (RS w2 gb ga gs a2 c2 (19 + k + 1) (sofM n t u i b [o0, o1, o2, o3, o4, o5, o6, o7] k) w8) := hw ▸ HS.out.take 1
      have cc := HT8.out.cell (5 + k) 0 HSA.out
      have ff := HT8.out.ac.frozen (5 + k)
      have lt := HT8.out.ac.lt
      have HS8 : Hid (RS w2 gb ga gs a2 c2 (19 + k + 1) _ (w8.setCell ⟨gs, 5 + k, none⟩ (.int .i64 z))) := HT8.out.put (5 + k) z
      rw [HSM.out] at HS8
      clear hw HS HT8
      go_wp2_with fail
      go_roundg (gk - 1)
      case measure => omega
      case rel => exact ⟨k + 1, by omega, by go_num, HS8.out⟩
    · obtain rfl : k = 8 := by omega
      have HS8 : Hid (RS w2 gb ga gs a2 c2 27 [(n : Int), (t : Int), (u : Int), (i : Int), (b : Int), (o0 : Int), (o1 : Int), (o2 : Int), (o3 : Int), (o4 : Int), (o5 : Int), (o6 : Int), (o7 : Int)] wr) := by
        have := HS.out
        rw [sofM_all _ _ _ _ _ _ rfl] at this
        exact this
      have HAC : Hid (At wr gs 39 #[.int .i64 (n : Int), .int .i64 (t : Int), .int .i64 (u : Int), .int .i64 (i : Int), .int .i64 (b : Int), .int .i64 (o0 : Int), .int .i64 (o1 : Int), .int .i64 (o2 : Int), .int .i64 (o3 : Int), .int .i64 (o4 : Int), .int .i64 (o5 : Int), .int .i64 (o6 : Int), .int .i64 (o7 : Int)]) := HS8.out.ac
      have HGR := Lib.hid HS8.out.gr
      have HA8 := Lib.hid (HA2.out.grows HGR.out)
      have HG8 := Lib.hid (HG2.out.trans HGR.out)
      clear HS HS8 HDl HDb H5 H4 H3 H2 H1 H0 HRD
      have ca := HAC.out.cell
      go_wp2_with fail
      refine (HM.out _).mono ?_
      rintro e w9 ⟨rfl, hG9⟩
      have cb := (HAC.out.grows hG9).cell
      have HA9 := Lib.hid (HA8.out.grows hG9)
      have HG9 := Lib.hid (HG8.out.trans hG9)
      clear ca HA8 HG8 HAC hG9
      go_wp2_with (with_reducible refine wpList_store_mid (op := ⟨none, .store 39 (.tmp 4) (.tmp 56), _, _, _, none⟩) rfl 39 (.tmp 4) (.tmp 56) rfl (w.heap.size) (0) #[.int .i64 (n : Int), .int .i64 (t : Int), .int .i64 (u : Int), .int .i64 (i : Int), .int .i64 (b : Int), .int .i64 (o0 : Int), .int .i64 (o1 : Int), .int .i64 (o2 : Int), .int .i64 (o3 : Int), .int .i64 (o4 : Int), .int .i64 (o5 : Int), .int .i64 (o6 : Int), .int .i64 (o7 : Int)] ?s1a ?s1b ?s1c ?s1d ?s1e ?_)
      case s1a => rfl
      case s1b => rfl
      case s1c => exact HA9.out.there 0 13 (by simp)
      case s1d => kernel_rfl
      case s1e => exact one13 _ _ _ _ _ _ _ _ _ _ _ _ _
      exact bodyPost_ret (results_row_tmp Try.results30 _ _ w.heap.size 39 _ _ rfl (At.all (vs := ints [(n : Int), (t : Int), (u : Int), (i : Int), (b : Int), (o0 : Int), (o1 : Int), (o2 : Int), (o3 : Int), (o4 : Int), (o5 : Int), (o6 : Int), (o7 : Int)]) (cs := ints [0, 0, 0, 0, 0, 0, 0, 0, 0, 0, 0, 0, 0]) HA9.out rfl) Try.underlying39 rfl (by kernel_rfl)) rfl ⟨n, t, u, i, b, o0, o1, o2, o3, o4, o5, o6, o7, true, rfl, Grows.setCells (Nat.le_refl _) _ _ HG9.out, rfl, fun L h => by injection h⟩
end Go.Proofs.Ytmcofmidpedkiaa
