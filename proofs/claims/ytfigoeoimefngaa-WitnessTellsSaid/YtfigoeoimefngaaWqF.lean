/-
  The reference's Count.
-/
import Derived.Test.YtfigoeoimefngaaWqE
import Derived.Test.YtfigoeoimefngaaWmC
namespace Go.Proofs.Ytfigoeoimefngaa
open Go.RowKit Go.Maps Go.Shelf

theorem results_ttct {P : Program} {fn : Func} {p q r t : Tmp} {ty : TypeId} (h : fn.results = #[.tmp p, .tmp q, .cell r ty, .tmp t]) (tmps : Array Value) (w : World) (g : Nat) (T : TypeId) (cs : Array Value) (d : TypeDesc)
    (hp : tmps.getD r undef = .pointer (some ⟨g, 0, none⟩)) (hg : At w g T cs)
    (hu : P.underlying ty = some d) (hd : (match d with | .struct _ | .array _ _ => true | _ => false) = true) (hi : (P.info? ty).map (·.size) = some cs.size) :
    (results fn tmps).run P w = .ok (.tuple #[tmps.getD p undef, tmps.getD q undef, .agg cs, tmps.getD t undef]) w := by
  have hp' : tmps[r]?.getD undef = .pointer (some ⟨g, 0, none⟩) := by simpa using hp
  simp [results, h, hp', asAddr, run_loadVar_row w g T ty cs (0, 0) d hg hu hd hi]
theorem kindF_range (D : List Nm) (f : Ft) : 0 ≤ kindF D f ∧ kindF D f ≤ 4 := by
  unfold kindF
  by_cases h1 : f.was = Nm.zero
  · rw [if_pos h1]
    by_cases h2 : f.got = [0, 0, 0, 0, 0, 0, 0, 0]
    · rw [if_pos h2]; omega
    · rw [if_neg h2]; omega
  · rw [if_neg h1]
    by_cases h2 : f.was = f.n
    · rw [if_pos h2]; omega
    · rw [if_neg h2]
      by_cases h3 : rk D f.was = 0
      · rw [if_pos h3]; omega
      · rw [if_neg h3]
        by_cases h4 : rk D f.was < rk D f.n
        · rw [if_pos h4]; omega
        · rw [if_neg h4]; omega
theorem kc_snoc (F : List Ft) (f : Ft) (j : Int) : kc (F ++ [f]) j = if f.k = j then kc F j + 1 else kc F j := by
  unfold kc
  rw [List.filter_append, List.length_append]
  by_cases hj : f.k = j <;> simp [hj]
theorem kcs_at (F : List Ft) (q : Nat) (hq : q < 5) : (civ (kcs F)).toArray[q]? = some (.int .i64 (kc F (q : Int))) := by
  obtain rfl | rfl | rfl | rfl | rfl : q = 0 ∨ q = 1 ∨ q = 2 ∨ q = 3 ∨ q = 4 := by omega
  all_goals rfl
theorem kcs_set (F : List Ft) (f : Ft) (q : Nat) (hq : q < 5) (hk : f.k = (q : Int)) : (civ (kcs F)).toArray.setIfInBounds q (.int .i64 (kc F (q : Int) + 1)) = (civ (kcs (F ++ [f]))).toArray := by
  unfold kcs
  rw [kc_snoc, kc_snoc, kc_snoc, kc_snoc, kc_snoc, hk]
  obtain rfl | rfl | rfl | rfl | rfl : q = 0 ∨ q = 1 ∨ q = 2 ∨ q = 3 ∨ q = 4 := by omega
  all_goals rfl
theorem kc_len (F : List Ft) (j : Int) : 0 ≤ kc F j ∧ kc F j ≤ (F.length : Int) := by
  have := kc_le F F.length j
  rwa [List.take_length] at this
set_option maxRecDepth 100000 in
set_option maxHeartbeats 8000000 in
theorem refcount_any (L : List Sn) (n : Nat) (hn : L.length = n) (hL : n ≤ 1048576) (hok : ∀ x ∈ L, x.n.ok ∧ x.wk.ok) (a : Option Addr) (cap : Nat) (w : World) (hr : Rd w a (rowsOf Sn.cs L)) :
    Calls Try.prog 24 #[.slice a n cap] w (CountP L w) := by
  obtain ⟨wA, hwA⟩ : ∃ wA, (w.alloc (.cells #[.int .i64 0, .int .i64 0, .int .i64 0, .int .i64 0, .int .i64 0] 54)).alloc (.cells #[.int .i64 0, .int .i64 0, .int .i64 0, .int .i64 0, .int .i64 0] 54) = wA := ⟨_, rfl⟩
  have hgA : Grows w wA := by rw [← hwA]; exact ((Grows.refl _).alloc _).alloc _
  have HGA := Lib.hid hgA
  have HSA : Hid (wA.heap.size = w.heap.size + 2) := Lib.hid (by rw [← hwA, World.size_alloc, World.size_alloc])
  have HRA : Hid (At wA w.heap.size 54 #[.int .i64 0, .int .i64 0, .int .i64 0, .int .i64 0, .int .i64 0]) := Lib.hid (by rw [← hwA]; exact (At.new w _ _).alloc _)
  have HKA : Hid (At wA (w.heap.size + 1) 54 #[.int .i64 0, .int .i64 0, .int .i64 0, .int .i64 0, .int .i64 0]) := Lib.hid (by rw [← hwA]; have := At.new (w.alloc (.cells #[.int .i64 0, .int .i64 0, .int .i64 0, .int .i64 0, .int .i64 0] 54)) 54 #[.int .i64 0, .int .i64 0, .int .i64 0, .int .i64 0, .int .i64 0]; rwa [World.size_alloc] at this)
  have HRT := Lib.hid (reads32_any L n hn hL hok a cap wA (hr.grows hgA))
  have HN := Lib.hid hn
  have HNL := Lib.hid hL
  have HOK := Lib.hid hok
  clear hr hn hL hok hgA
  go_enter Try.func24, Try.ntmps24
  go_wp2_with fail
  refine HRT.out.mono ?_
  clear HRT hwA
  rintro e w2 ⟨hg2, ⟨hm, rfl⟩ | ⟨hm, v, rfl, ho⟩⟩
  · have HR2 := Lib.hid (HRA.out.grows hg2)
    have HK2 := Lib.hid (HKA.out.grows hg2)
    have HG2 := Lib.hid (HGA.out.trans hg2)
    have HM := Lib.hid hm
    have cR := HR2.out.cell
    have cK := HK2.out.cell
    have fR := HR2.out.frozen
    clear hg2 hm
    go_wp2_with fail
    go_region
    go_wp2_with fail
    have HAF := (At.all (cs := [(.int .i64 0), (.int .i64 0), (.int .i64 0), (.int .i64 0), (.int .i64 0)]) (vs := [(.int .i64 0), (.int .i64 0), (.int .i64 0), (.int .i64 0), (.int .i64 0)]) HR2.out rfl).grows ((Grows.refl _).drew)
    exact bodyPost_ret (results_ttct Try.results24 _ _ w.heap.size 54 #[.int .i64 0, .int .i64 0, .int .i64 0, .int .i64 0, .int .i64 0] _ rfl HAF Try.underlying54 rfl info_k5) rfl ⟨(Grows.setCells (Nat.le_refl _) [(.int .i64 0), (.int .i64 0), (.int .i64 0), (.int .i64 0), (.int .i64 0)] 0 HG2.out).drew, .inl ⟨HM.out, rfl⟩⟩
  · have HG2 := Lib.hid (HGA.out.trans hg2)
    have HM := Lib.hid hm
    obtain ⟨rs, hrs⟩ : ∃ rs, (readsF L).map (kdF L) = rs := ⟨_, rfl⟩
    rw [hrs] at ho
    have HRS := Lib.hid hrs
    have HLN : Hid (rs.length ≤ 1099511627776) := Lib.hid (by rw [← hrs, List.length_map]; exact readsF_len (by have := HN.out; have := HNL.out; omega))
    have HFK : Hid (∀ f ∈ rs, f.ok ∧ 0 ≤ f.k ∧ f.k ≤ 4) := Lib.hid (fun f hf => by
      rw [← hrs] at hf
      obtain ⟨f0, h0, rfl⟩ := List.mem_map.1 hf
      have := (readsF_ok hm HOK.out h0).ok
      exact ⟨⟨this.want, this.got⟩, kindF_range _ _⟩)
    obtain ⟨av, cv, rfl, _, _, _⟩ := own_slice ho
    have HAV : Hid (∀ g off, av = some ⟨g, off, none⟩ → w.heap.size + 2 ≤ g) := Lib.hid (fun g off e => by
      subst e
      rcases ho.2 with h2 | ⟨g2, _, _, h1, h2, _⟩
      · cases h2.1
      · injection h1 with h1
        injection h1 with h1
        injection h1 with h1
        have := HSA.out
        omega)
    have HRD := Lib.hid (Rd.own ho)
    have HR2 := Lib.hid (HRA.out.grows hg2)
    have HK2 := Lib.hid (HKA.out.grows hg2)
    have HS2 : Hid (w.heap.size + 2 ≤ w2.heap.size) := Lib.hid (by have := hg2.size; have := HSA.out; omega)
    clear hm hrs ho hg2
    go_wp2_with fail
    go_loopg [9, 10] rs.length (fun gk v9 v10 wr => ∃ k : Nat, gk + k = rs.length ∧ v10 = .int .i64 (k : Int) ∧ v9 = .int .i64 (((rs.take k).filter badF).length : Int) ∧ Turns (fun i => i = w.heap.size + 1) w2 wr (fun i => i = w.heap.size + 1) ∧ At wr (w.heap.size + 1) 54 (civ (kcs ((rs.take k).filter badF))).toArray)
    case atStart => exact ⟨0, by omega, rfl, rfl, Turns.refl _ _, HK2.out⟩
    case round =>
      obtain ⟨k, hk, rfl, rfl, hT, hA⟩ := hrel
      have HT := Lib.hid hT
      have HAK := Lib.hid hA
      clear hT hA
      have HFL : Hid (((rs.take k).filter badF).length ≤ 1099511627776) := Lib.hid (by have h1 := List.length_filter_le badF (rs.take k); have h2 : (rs.take k).length ≤ rs.length := (by rw [List.length_take]; omega); have := HLN.out; omega)
      by_cases hlt : k < rs.length
      · have hfk : rs[k]? = some rs[k] := List.getElem?_eq_getElem hlt
        have HFO := Lib.hid (HFK.out _ (List.mem_of_getElem? hfk))
        obtain ⟨g, off, rfl, hgw, hA⟩ := ld_fault (HT.out.rd HRD.out (fun b off e (hb : b = w.heap.size + 1) => by have := HAV.out b off e; omega)) (fun f hf => (HFK.out f hf).1) hfk
        generalize rs[k] = f at *
        have HFI := Lib.hid hfk
        obtain ⟨FSQ, hFS⟩ : ∃ FSQ, (rs.take k).filter badF = FSQ := ⟨_, rfl⟩
        have HFS := Lib.hid hFS
        rw [hFS] at HAK HFL ⊢
        have HA : Hid (wr.rangeAt g (off + k * 28) f.cs) := Lib.hid hA
        have HGB := Lib.hid hgw
        have HW5 : Hid (∀ W, Grows wr W → (loadVar 31 ⟨g, off + k * 28 + 5, none⟩).run Try.prog W = .ok (.agg (ivs f.want).toArray) W) := Lib.hid (ld_range (range_want HFO.out.1 hA) hgw Try.underlying31 rfl (by rw [ivs_len, HFO.out.1.want]; exact info_val8))
        have HW13 : Hid (∀ W, Grows wr W → (loadVar 31 ⟨g, off + k * 28 + 13, none⟩).run Try.prog W = .ok (.agg (ivs f.got).toArray) W) := Lib.hid (ld_range (range_got HFO.out.1 hA) hgw Try.underlying31 rfl (by rw [ivs_len, HFO.out.1.got]; exact info_val8))
        have he : ∀ W, (Op.equalIn 10000 31 (.agg (ivs f.want).toArray) (.agg (ivs f.got).toArray)).run Try.prog W = .ok (decide (f.want = f.got)) W := fun W => eq8_any W f.want f.got HFO.out.1.want HFO.out.1.got
        have hlt' : (k : Int) < (rs.length : Int) := by omega
        have hk0 : (0 : Int) ≤ (k : Int) := by omega
        have hwr : IntKind.i64.wrap ((k : Int) + 1) = (k : Int) + 1 := IntWalk.i64_in _ (by have := HLN.out; omega)
        have hwn : IntKind.i64.wrap ((FSQ.length : Int) + 1) = (FSQ.length : Int) + 1 := IntWalk.i64_in _ (by have := HFL.out; omega)
        clear hA hfk hgw hFS
        by_cases hwg : f.want = f.got
        · have hd : decide (f.want = f.got) = true := by simp [hwg]
          have HBF : Hid (badF f = false) := Lib.hid (by unfold badF; simp [hwg])
          rw [hd] at he
          clear hwg hd
          go_upto_region 9 with (fail)
          refine wp_region_class wr (by kernel_rfl) (by kernel_rfl) (Grows.refl _) ?_
          repeat (first
            | go_big_quiet_skip
            | (go_big_quiet_want; first
                | ((with_reducible refine quiet_load (b := g) (off := off + k * 28 + 5) ?_ HW5.out ?_); rfl; (simp only [Act.put, List.setIfInBounds_toArray, List.set_cons_zero, List.set_cons_succ]); go_big_quiet_on)
                | ((with_reducible refine quiet_load (b := g) (off := off + k * 28 + 13) ?_ HW13.out ?_); rfl; (simp only [Act.put, List.setIfInBounds_toArray, List.set_cons_zero, List.set_cons_succ]); go_big_quiet_on)
                | (go_big_quiet_op; (first
                    | go_big_quiet_on
                    | (refine ⟨_, fun _ _ => rfl, ?_⟩; go_big_quiet_on)))))
          refine wpQuiet_nil ?_
          intro w6 hC6
          have HT6 := Lib.hid (HT.out.grows hC6)
          have HA6 := Lib.hid (HAK.out.grows hC6)
          clear hC6
          go_wp2_with fail
          go_roundg (gk - 1)
          case measure => omega
          refine ⟨k + 1, by omega, rfl, ?_, HT6.out, ?_⟩
          · rw [filt_more HFI.out, HBF.out, HFS.out]; simp
          · rw [filt_more HFI.out, HBF.out, HFS.out]; simpa using HA6.out
        · have hd : decide (f.want = f.got) = false := by simp [hwg]
          have HBF : Hid (badF f = true) := Lib.hid (by unfold badF; simp [hwg])
          rw [hd] at he
          clear hwg hd
          obtain ⟨q, hq⟩ : ∃ q : Nat, f.k = (q : Int) := ⟨f.k.toNat, by have := HFO.out; omega⟩
          have hq5 : q < 5 := by have := HFO.out; omega
          have HQ := Lib.hid hq
          go_upto_region 9 with (fail)
          refine wp_region_class wr (by kernel_rfl) (by kernel_rfl) (Grows.refl _) ?_
          repeat (first
            | go_big_quiet_skip
            | (go_big_quiet_want; first
                | ((with_reducible refine quiet_load (b := g) (off := off + k * 28 + 5) ?_ HW5.out ?_); rfl; (simp only [Act.put, List.setIfInBounds_toArray, List.set_cons_zero, List.set_cons_succ]); go_big_quiet_on)
                | ((with_reducible refine quiet_load (b := g) (off := off + k * 28 + 13) ?_ HW13.out ?_); rfl; (simp only [Act.put, List.setIfInBounds_toArray, List.set_cons_zero, List.set_cons_succ]); go_big_quiet_on)
                | (go_big_quiet_op; (first
                    | go_big_quiet_on
                    | (refine ⟨_, fun _ _ => rfl, ?_⟩; go_big_quiet_on)))))
          refine wpQuiet_nil ?_
          intro w6 hC6
          have HT6 := HT.out.grows hC6
          have HA6 := HAK.out.grows hC6
          have cX : w6.cell? ⟨g, off + k * 28 + 27, none⟩ = some (.int .i8 (q : Int)) := (hC6.cell g _ HGB.out).trans (by
            have h1 := Ft.cs_k HFO.out.1
            rw [hq] at h1
            exact HA.out 27 _ (by simpa using h1))
          have hkl := kc_len FSQ (q : Int)
          obtain ⟨c, hc⟩ : ∃ c, kc FSQ (q : Int) = c := ⟨_, rfl⟩
          have HC := Lib.hid hc
          have cK : w6.cell? ⟨w.heap.size + 1, q, none⟩ = some (.int .i64 c) := by rw [HA6.cell, kcs_at FSQ q hq5, hc]
          have fK : w6.frozen? ⟨w.heap.size + 1, q, none⟩ = false := HA6.frozen _
          rw [hc] at hkl
          have hwc : IntKind.i64.wrap (c + 1) = c + 1 := IntWalk.i64_in _ (by have := HFL.out; omega)
          have hq0 : (0 : Int) ≤ (q : Int) := by omega
          have hq1 : (q : Int) < 5 := by omega
          obtain ⟨w7, hw7⟩ : ∃ w7, w6.setCell ⟨w.heap.size + 1, q, none⟩ (.int .i64 (c + 1)) = w7 := ⟨_, rfl⟩
          have HT7 : Hid (Turns (fun i => i = w.heap.size + 1) w2 w7 (fun i => i = w.heap.size + 1)) := Lib.hid (by rw [← hw7]; exact HT6.set (g := w.heap.size + 1) (.inl rfl) q _)
          have HA7 : Hid (At w7 (w.heap.size + 1) 54 (civ (kcs (FSQ ++ [f]))).toArray) := Lib.hid (by
            rw [← hw7, ← kcs_set FSQ f q hq5 hq, hc]
            exact HA6.set q _)
          clear hC6 HT6 HA6 hc hkl hq
          go_wp2_with fail
          go_roundg (gk - 1)
          case measure => omega
          refine ⟨k + 1, by omega, rfl, ?_, HT7.out, ?_⟩
          · rw [filt_more HFI.out, HBF.out, HFS.out, if_pos rfl, List.length_append]; rfl
          · rw [filt_more HFI.out, HBF.out, HFS.out, if_pos rfl]; exact HA7.out
      · have : rs.take k = rs := List.take_of_length_le (by omega)
        have e9 : (rs.take k).filter badF = wrongF L := by rw [this, ← HRS.out, wrongF_reads]
        rw [e9] at HAK HFL ⊢
        have h1 : ¬ (k : Int) < (rs.length : Int) := by omega
        have HL := Lib.hid (show rs.length = (readsF L).length by rw [← HRS.out, List.length_map])
        obtain ⟨c0, hc0⟩ : ∃ c, kc (wrongF L) 0 = c := ⟨_, rfl⟩
        obtain ⟨c1, hc1⟩ : ∃ c, kc (wrongF L) 1 = c := ⟨_, rfl⟩
        obtain ⟨c2, hc2⟩ : ∃ c, kc (wrongF L) 2 = c := ⟨_, rfl⟩
        obtain ⟨c3, hc3⟩ : ∃ c, kc (wrongF L) 3 = c := ⟨_, rfl⟩
        obtain ⟨c4, hc4⟩ : ∃ c, kc (wrongF L) 4 = c := ⟨_, rfl⟩
        have hke : (civ (kcs (wrongF L))).toArray = #[.int .i64 c0, .int .i64 c1, .int .i64 c2, .int .i64 c3, .int .i64 c4] := by unfold kcs; rw [hc0, hc1, hc2, hc3, hc4]; rfl
        have hAK := HAK.out
        rw [hke] at hAK
        have HKE := Lib.hid hke
        have HRX := Lib.hid (HT.out.at HR2.out (show ¬ w.heap.size = w.heap.size + 1 by omega))
        have HGX := Lib.hid (HT.out.low HG2.out (fun i hi => by omega))
        have cR := HRX.out.cell
        have fR := HRX.out.frozen
        have cK := hAK.cell
        clear this hlt hAK hke e9 hc0 hc1 hc2 hc3 hc4
        go_wp2_with fail
        go_region
        go_wp2_with fail
        have HAF := (At.all (cs := [(.int .i64 0), (.int .i64 0), (.int .i64 0), (.int .i64 0), (.int .i64 0)]) (vs := [(.int .i64 c0), (.int .i64 c1), (.int .i64 c2), (.int .i64 c3), (.int .i64 c4)]) HRX.out rfl).grows ((Grows.refl _).drew)
        refine bodyPost_ret (results_ttct Try.results24 _ _ w.heap.size 54 #[.int .i64 c0, .int .i64 c1, .int .i64 c2, .int .i64 c3, .int .i64 c4] _ rfl HAF Try.underlying54 rfl info_k5) rfl ⟨(Grows.setCells (Nat.le_refl _) [(.int .i64 c0), (.int .i64 c1), (.int .i64 c2), (.int .i64 c3), (.int .i64 c4)] 0 HGX.out).drew, .inr ⟨HM.out, ?_⟩⟩
        rw [HKE.out, ← HL.out]
        rfl
end Go.Proofs.Ytfigoeoimefngaa
